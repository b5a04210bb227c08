/- Contracts: Newer, Settled, of both; the reference's Missing. -/
import Derived.Test.YthahcpanekdbaaaRolF
namespace Go.Proofs.Ythahcpanekdbaaa
open Go.RowKit
set_option linter.unusedSimpArgs false
set_option linter.unusedVariables false
set_option maxHeartbeats 4000000
attribute [local go_sem] Cf.agg Cf.cells

noncomputable def newerV (o x : Cf) : Bool := x.right && ((o.ch == x.ch) && decide (o.ep < x.ep))
def newF (FN : Prop) : Prop := FN


theorem newer_any (o x : Cf) (B : Nat) (w : World) (hx : CfIn w B x) (hB : B ≤ w.heap.size) :
    Calls Try.prog 18 #[o.agg, x.agg] w fun e w' => e = .returned (.bool (newerV o x)) ∧ Below w.heap.size w w' := by
  
  have HX := Lib.hid hx
  clear hx
  have hv : Hid (newerV o x = (x.right && ((o.ch == x.ch) && decide (o.ep < x.ep)))) := Lib.hid rfl
  cases h1 : (o.ch == x.ch)
  all_goals by_cases h2 : o.ep < x.ep
  all_goals cases hR : x.right
  all_goals
    have h1' : (x.ch == o.ch) = (o.ch == x.ch) := by rw [Bool.eq_iff_iff, beq_iff_eq, beq_iff_eq]; exact ⟨Eq.symm, Eq.symm⟩
    rw [h1] at h1'
    rw [hv.out, hR, h1]
    simp only [h2, decide_true, decide_false, Bool.and_true, Bool.and_false]
    clear hv
    go_enter Try.func18, Try.ntmps18
    go_wp2_with (fail)
    refine (right_any x B _ ((HX.out.alloc hB _).alloc (by simp; omega) _) (by simp; omega)).mono ?_
    rintro e w1 ⟨rfl, h⟩
    have H1 := Lib.hid (box2_below h)
    obtain ⟨c0, c1, c2, c3, c4⟩ := cf_cells (x := o) (((Blk.new w 25 o.cells).alloc (.cells x.cells 25)).below h (by simp <;> omega))
    obtain ⟨d0, d1, d2, d3, d4⟩ := cf_cells (x := x) ((blk_new_at (w.alloc (.cells o.cells 25)) 25 x.cells (w.heap.size + 1) (by simp)).below h (by simp))
    clear h
    go_wp2
    go_ret
    exact ⟨rfl, H1.out⟩
theorem refNewer_any (o x : Cf) (B : Nat) (w : World) (hx : CfIn w B x) (hB : B ≤ w.heap.size) :
    Calls Try.prog 19 #[o.agg, x.agg] w fun e w' => e = .returned (.bool (newerV o x)) ∧ Below w.heap.size w w' := by
  
  have HX := Lib.hid hx
  clear hx
  have hv : Hid (newerV o x = (x.right && ((o.ch == x.ch) && decide (o.ep < x.ep)))) := Lib.hid rfl
  cases h1 : (o.ch == x.ch)
  all_goals by_cases h2 : o.ep < x.ep
  all_goals cases hR : x.right
  all_goals
    have h1' : (x.ch == o.ch) = (o.ch == x.ch) := by rw [Bool.eq_iff_iff, beq_iff_eq, beq_iff_eq]; exact ⟨Eq.symm, Eq.symm⟩
    rw [h1] at h1'
    rw [hv.out, hR, h1]
    simp only [h2, decide_true, decide_false, Bool.and_true, Bool.and_false]
    clear hv
    go_enter Try.func19, Try.ntmps19
    go_wp2_with (fail)
    refine (refRight_any x B _ ((HX.out.alloc hB _).alloc (by simp; omega) _) (by simp; omega)).mono ?_
    rintro e w1 ⟨rfl, h⟩
    have H1 := Lib.hid (box2_below h)
    obtain ⟨c0, c1, c2, c3, c4⟩ := cf_cells (x := o) (((Blk.new w 25 o.cells).alloc (.cells x.cells 25)).below h (by simp <;> omega))
    obtain ⟨d0, d1, d2, d3, d4⟩ := cf_cells (x := x) ((blk_new_at (w.alloc (.cells o.cells 25)) 25 x.cells (w.heap.size + 1) (by simp)).below h (by simp))
    clear h
    go_wp2
    go_ret
    exact ⟨rfl, H1.out⟩

/-- how many are settled -/
noncomputable def Cf.setN (x : Cf) : Nat := if x.right then (if x.fr then x.len - 1 else x.len) else 0
noncomputable def Cf.setL (x : Cf) : List Int := x.zs.take x.setN
theorem refSettled_any (x : Cf) (B : Nat) (w : World) (hx : CfIn w B x) (hB : B ≤ w.heap.size) :
    Calls Try.prog 31 #[x.agg] w fun e w' => ∃ A c, e = .returned (.slice A x.setN c) ∧ x.setN ≤ c ∧ c ≤ maxLen ∧ Reads w' B 1 A x.setN (x.setL.map (Value.int .i64)) ∧ Below w.heap.size w w' := by
  have HX := Lib.hid hx
  clear hx
  cases hR : x.right
  · have hs : Hid (x.setN = 0) := Lib.hid (by rw [Cf.setN, hR]; rfl)
    have hl : Hid (x.setL = []) := Lib.hid (by rw [Cf.setL, hs.out]; rfl)
    rw [hs.out, hl.out]
    go_enter Try.func31, Try.ntmps31
    go_wp2_with (fail)
    refine (refRight_any x B _ (HX.out.alloc hB _) (by simp; omega)).mono ?_
    rintro e w1 ⟨rfl, h⟩
    have H1 := Lib.hid (box_below h)
    clear h
    go_wp2
    go_ret
    exact ⟨none, 0, rfl, Nat.le_refl _, Nat.zero_le _, Reads.none_, H1.out⟩
  · have hf := (Cf.right_fine hR).1
    have h5 := hf.2.2.1
    have h2 := hf.2.2.2
    cases hF : x.fr
    · have hs : Hid (x.setN = x.len) := Lib.hid (by rw [Cf.setN, hR, hF]; rfl)
      have hl : Hid (x.setL = x.zs) := Lib.hid (by rw [Cf.setL, hs.out, List.take_of_length_le (by rw [HX.out.len_eq]; exact Nat.le_refl _)])
      rw [hs.out, hl.out]
      have HF := Lib.hid hF
      clear hf h2 hF
      have hc : (x.len : Int) ≤ x.cap := by have := HX.out.hc; omega
      go_enter Try.func31, Try.ntmps31
      go_wp2_with (fail)
      refine (refRight_any x B _ (HX.out.alloc hB _) (by simp; omega)).mono ?_
      rintro e w1 ⟨rfl, h⟩
      have H1 := Lib.hid (box_below h)
      obtain ⟨c0, c1, c2, c3, c4⟩ := cf_cells (x := x) ((Blk.new w 25 x.cells).below h (by simp))
      rw [HF.out] at c3
      clear h
      go_wp2
      go_ret
      exact ⟨x.A, x.cap, rfl, HX.out.hc, HX.out.hm, HX.out.rd.below (H1.out.mono hB), H1.out⟩
    · have hm2 : 2 ≤ x.len := (h2 hF).1
      have hs : Hid (x.setN = x.len - 1) := Lib.hid (by rw [Cf.setN, hR, hF]; rfl)
      have hl : Hid (x.setL = x.zs.take (x.len - 1)) := Lib.hid (by rw [Cf.setL, hs.out])
      rw [hs.out, hl.out]
      have HF := Lib.hid hF
      obtain ⟨m, hm⟩ : ∃ m, x.len = m + 1 := ⟨x.len - 1, by omega⟩
      have HM := Lib.hid hm
      have hcm : (m : Int) ≤ x.cap := by have := HX.out.hc; omega
      have hm5 : (m : Int) ≤ 4 := by omega
      clear hf h2 hF hm2 h5 hm
      rw [HM.out, Nat.add_sub_cancel]
      go_enter Try.func31, Try.ntmps31
      go_wp2_with (fail)
      refine (refRight_any x B _ (HX.out.alloc hB _) (by simp; omega)).mono ?_
      rintro e w1 ⟨rfl, h⟩
      have H1 := Lib.hid (box_below h)
      obtain ⟨c0, c1, c2, c3, c4⟩ := cf_cells (x := x) ((Blk.new w 25 x.cells).below h (by simp))
      rw [HF.out] at c3
      rw [HM.out] at c2
      clear h
      go_wp2
      go_ret
      refine ⟨x.A, x.cap, rfl, by have := HX.out.hc; have := HM.out; omega, HX.out.hm, ?_, H1.out⟩
      have := (HX.out.rd.below (H1.out.mono hB)).take (k := m) (by rw [HM.out]; omega)
      rwa [← List.map_take] at this
end Go.Proofs.Ythahcpanekdbaaa
