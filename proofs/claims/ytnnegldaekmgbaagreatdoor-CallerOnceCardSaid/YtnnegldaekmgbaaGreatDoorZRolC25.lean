/- Contracts: Tail, Head, Reader, of both. -/
import Derived.Test.YtnnegldaekmgbaaGreatDoorZGR
namespace Go.Proofs.YtnnegldaekmgbaaGreatDoor
open Go.RowKit
set_option linter.unusedSimpArgs false
set_option linter.unusedVariables false
set_option maxHeartbeats 1000000
attribute [local go_sem] Cf.agg Cf.cells

theorem Cf.right_fine {x : Cf} (h : x.right = true) : x.fine ∧ Unl x.stands := by
  unfold Cf.right at h
  rw [Bool.and_eq_true, decide_eq_true_eq, unlikeB_iff] at h
  exact h
theorem cf_at {w : World} {B : Nat} {x : Cf} (h : CfIn w B x) {k : Nat} (hk : k < x.len) : ∃ ad, x.A = some ad ∧ ad.block < B ∧ w.cell? (ad.add k) = some (.int .i64 (x.zs.getD k 0)) := by
  obtain ⟨ad, z, hA, hb, hz, hc⟩ := reads_int h.rd hk
  exact ⟨ad, hA, hb, by rw [hc, List.getD_eq_getElem?_getD, hz]; rfl⟩
def Cf.last (x : Cf) : Int := x.zs.getD (x.len - 1) 0
noncomputable def Cf.tailV (x : Cf) : Int := if x.right then x.last else 0
noncomputable def Cf.headV (x : Cf) : Int := if x.right then x.zs.getD 0 0 else 0
noncomputable def Cf.readV (x : Cf) (p : Int) : Int := if x.right then x.zs.getD (p.toNat % x.len) 0 else 0
theorem box_below {w w1 : World} {o : Obj} (h : Below (w.alloc o).heap.size (w.alloc o) w1) : Below w.heap.size w w1 := ((Below.refl _ _).alloc (Nat.le_refl _) _).trans (h.mono (by simp))




theorem head_any (x : Cf) (B : Nat) (w : World) (hx : CfIn w B x) (hB : B ≤ w.heap.size) :
    Calls Tryz.prog 164 #[x.agg] w fun e w' => e = .returned (.int .i64 x.headV) ∧ Below w.heap.size w w' := by
  
  have HX := Lib.hid hx
  clear hx
  cases hR : x.right
  · go_enter Tryz.func164, Tryz.ntmps164
    go_wp2_with (fail)
    refine (right_any x B _ (HX.out.alloc hB _) (by simp; omega)).mono ?_
    rintro e w1 ⟨rfl, h⟩
    have hT : Hid (0 = x.headV) := Lib.hid (by rw [Cf.headV, hR]; rfl)
    have H1 := Lib.hid (box_below h)
    clear h
    go_wp2
    go_ret
    exact ⟨ret_int hT.out, H1.out⟩
  · obtain ⟨m, hm⟩ : ∃ m, x.len = m + 1 := ⟨x.len - 1, by have := (Cf.right_fine hR).1.2.2.1; omega⟩
    have hm0 : (0 : Int) < (m : Int) + 1 := by omega
    have hT : Hid (x.zs.getD 0 0 = x.headV) := Lib.hid (by rw [Cf.headV, hR, if_pos rfl])
    have HM := Lib.hid hm
    clear hm
    go_enter Tryz.func164, Tryz.ntmps164
    go_wp2_with (fail)
    refine (right_any x B _ (HX.out.alloc hB _) (by simp; omega)).mono ?_
    rintro e w1 ⟨rfl, h⟩
    have hb1 := box_below h; obtain ⟨c0, c1, c2, c3, c4⟩ := cf_cells (x := x) ((Blk.new w 44 x.cells).below h (by simp)); have H1 := Lib.hid hb1; have HX1 := Lib.hid (HX.out.below (hb1.mono hB)); clear h hb1
    obtain ⟨ad, hA, _, hcell⟩ := cf_at HX1.out (k := 0) (by rw [HM.out]; omega)
    rw [show ad.add 0 = ad by simp [Addr.add]] at hcell
    rw [hA, HM.out] at c2
    clear hA
    go_wp2
    go_ret
    exact ⟨ret_int hT.out, H1.out⟩

theorem refHead_any (x : Cf) (B : Nat) (w : World) (hx : CfIn w B x) (hB : B ≤ w.heap.size) :
    Calls Tryz.prog 123 #[x.agg] w fun e w' => e = .returned (.int .i64 x.headV) ∧ Below w.heap.size w w' := by
  
  have HX := Lib.hid hx
  clear hx
  cases hR : x.right
  · go_enter Tryz.func123, Tryz.ntmps123
    go_wp2_with (fail)
    refine (refRight_any x B _ (HX.out.alloc hB _) (by simp; omega)).mono ?_
    rintro e w1 ⟨rfl, h⟩
    have hT : Hid (0 = x.headV) := Lib.hid (by rw [Cf.headV, hR]; rfl)
    have H1 := Lib.hid (box_below h)
    clear h
    go_wp2
    go_ret
    exact ⟨ret_int hT.out, H1.out⟩
  · obtain ⟨m, hm⟩ : ∃ m, x.len = m + 1 := ⟨x.len - 1, by have := (Cf.right_fine hR).1.2.2.1; omega⟩
    have hm0 : (0 : Int) < (m : Int) + 1 := by omega
    have hT : Hid (x.zs.getD 0 0 = x.headV) := Lib.hid (by rw [Cf.headV, hR, if_pos rfl])
    have HM := Lib.hid hm
    clear hm
    go_enter Tryz.func123, Tryz.ntmps123
    go_wp2_with (fail)
    refine (refRight_any x B _ (HX.out.alloc hB _) (by simp; omega)).mono ?_
    rintro e w1 ⟨rfl, h⟩
    have hb1 := box_below h; obtain ⟨c0, c1, c2, c3, c4⟩ := cf_cells (x := x) ((Blk.new w 44 x.cells).below h (by simp)); have H1 := Lib.hid hb1; have HX1 := Lib.hid (HX.out.below (hb1.mono hB)); clear h hb1
    obtain ⟨ad, hA, _, hcell⟩ := cf_at HX1.out (k := 0) (by rw [HM.out]; omega)
    rw [show ad.add 0 = ad by simp [Addr.add]] at hcell
    rw [hA, HM.out] at c2
    clear hA
    go_wp2
    go_ret
    exact ⟨ret_int hT.out, H1.out⟩

theorem reader_any (x : Cf) (p : Int) (hp : p ≤ 9223372036854775807) (B : Nat) (w : World) (hx : CfIn w B x) (hB : B ≤ w.heap.size) :
    Calls Tryz.prog 163 #[x.agg, .int .i64 p] w fun e w' => e = .returned (.int .i64 (x.readV p)) ∧ Below w.heap.size w w' := by
  
  have HX := Lib.hid hx
  clear hx
  cases hR : x.right
  · go_enter Tryz.func163, Tryz.ntmps163
    go_wp2_with (fail)
    refine (right_any x B _ (HX.out.alloc hB _) (by simp; omega)).mono ?_
    rintro e w1 ⟨rfl, h⟩
    have hT : Hid (0 = x.readV p) := Lib.hid (by rw [Cf.readV, hR]; rfl)
    have H1 := Lib.hid (box_below h)
    clear h
    go_wp2
    go_ret
    exact ⟨ret_int hT.out, H1.out⟩
  · obtain ⟨m, hm⟩ : ∃ m, x.len = m + 1 := ⟨x.len - 1, by have := (Cf.right_fine hR).1.2.2.1; omega⟩
    have hc63 : (m : Int) + 1 ≤ 9223372036854775807 := by have h1 := HX.out.hc; have h2 := HX.out.hm; unfold maxLen at h2; omega
    have hT : Hid (x.zs.getD (p.toNat % (m + 1)) 0 = x.readV p) := Lib.hid (by rw [Cf.readV, hR, if_pos rfl, hm])
    by_cases h0 : 0 ≤ p
    · obtain ⟨q, rfl⟩ := Int.eq_ofNat_of_zero_le h0
      have et : ((q : Nat) : Int).tmod ((m : Int) + 1) = ((q % (m + 1) : Nat) : Int) := by rw [Int.tmod_eq_emod_of_nonneg (by omega)]; rfl
      have hr : q % (m + 1) < m + 1 := Nat.mod_lt _ (by omega)
      rw [Int.toNat_natCast] at hT
      generalize q % (m + 1) = r at *
      have HM := Lib.hid hm
      clear hm
      go_enter Tryz.func163, Tryz.ntmps163
      go_wp2_with (fail)
      refine (right_any x B _ (HX.out.alloc hB _) (by simp; omega)).mono ?_
      rintro e w1 ⟨rfl, h⟩
      have hb1 := box_below h; obtain ⟨c0, c1, c2, c3, c4⟩ := cf_cells (x := x) ((Blk.new w 44 x.cells).below h (by simp)); have H1 := Lib.hid hb1; have HX1 := Lib.hid (HX.out.below (hb1.mono hB)); clear h hb1
      obtain ⟨ad, hA, _, hcell⟩ := cf_at HX1.out (k := r) (by rw [HM.out]; omega)
      rw [hA, HM.out] at c2
      clear hA
      go_wp2_with (fail)
      go_quiet (fail)
      go_wp2
      go_ret
      exact ⟨ret_int hT.out, below_drewN H1.out _⟩
    · have h0' : ¬ 0 ≤ p := h0
      have e0 : p.toNat % (m + 1) = 0 := by rw [show p.toNat = 0 by omega]; exact Nat.zero_mod _
      rw [e0] at hT
      have et0 : (0 : Int).tmod ((m : Int) + 1) = 0 := Int.zero_tmod _
      clear e0
      have HM := Lib.hid hm
      clear hm
      go_enter Tryz.func163, Tryz.ntmps163
      go_wp2_with (fail)
      refine (right_any x B _ (HX.out.alloc hB _) (by simp; omega)).mono ?_
      rintro e w1 ⟨rfl, h⟩
      have hb1 := box_below h; obtain ⟨c0, c1, c2, c3, c4⟩ := cf_cells (x := x) ((Blk.new w 44 x.cells).below h (by simp)); have H1 := Lib.hid hb1; have HX1 := Lib.hid (HX.out.below (hb1.mono hB)); clear h hb1
      obtain ⟨ad, hA, _, hcell⟩ := cf_at HX1.out (k := 0) (by rw [HM.out]; omega)
      rw [show ad.add 0 = ad by simp [Addr.add]] at hcell
      rw [hA, HM.out] at c2
      clear hA
      go_wp2_with (fail)
      go_quiet (fail)
      go_wp2
      go_ret
      exact ⟨ret_int hT.out, below_drewN H1.out _⟩

theorem refReader_any (x : Cf) (p : Int) (hp : p ≤ 9223372036854775807) (B : Nat) (w : World) (hx : CfIn w B x) (hB : B ≤ w.heap.size) :
    Calls Tryz.prog 122 #[x.agg, .int .i64 p] w fun e w' => e = .returned (.int .i64 (x.readV p)) ∧ Below w.heap.size w w' := by
  
  have HX := Lib.hid hx
  clear hx
  cases hR : x.right
  · go_enter Tryz.func122, Tryz.ntmps122
    go_wp2_with (fail)
    refine (refRight_any x B _ (HX.out.alloc hB _) (by simp; omega)).mono ?_
    rintro e w1 ⟨rfl, h⟩
    have hT : Hid (0 = x.readV p) := Lib.hid (by rw [Cf.readV, hR]; rfl)
    have H1 := Lib.hid (box_below h)
    clear h
    go_wp2
    go_ret
    exact ⟨ret_int hT.out, H1.out⟩
  · obtain ⟨m, hm⟩ : ∃ m, x.len = m + 1 := ⟨x.len - 1, by have := (Cf.right_fine hR).1.2.2.1; omega⟩
    have hc63 : (m : Int) + 1 ≤ 9223372036854775807 := by have h1 := HX.out.hc; have h2 := HX.out.hm; unfold maxLen at h2; omega
    have hT : Hid (x.zs.getD (p.toNat % (m + 1)) 0 = x.readV p) := Lib.hid (by rw [Cf.readV, hR, if_pos rfl, hm])
    by_cases h0 : 0 ≤ p
    · obtain ⟨q, rfl⟩ := Int.eq_ofNat_of_zero_le h0
      have et : ((q : Nat) : Int).tmod ((m : Int) + 1) = ((q % (m + 1) : Nat) : Int) := by rw [Int.tmod_eq_emod_of_nonneg (by omega)]; rfl
      have hr : q % (m + 1) < m + 1 := Nat.mod_lt _ (by omega)
      rw [Int.toNat_natCast] at hT
      generalize q % (m + 1) = r at *
      have hq : ((q : Int) < 0) = False := by simp
      have HM := Lib.hid hm
      clear hm
      go_enter Tryz.func122, Tryz.ntmps122
      go_wp2_with (fail)
      refine (refRight_any x B _ (HX.out.alloc hB _) (by simp; omega)).mono ?_
      rintro e w1 ⟨rfl, h⟩
      have hb1 := box_below h; obtain ⟨c0, c1, c2, c3, c4⟩ := cf_cells (x := x) ((Blk.new w 44 x.cells).below h (by simp)); have H1 := Lib.hid hb1; have HX1 := Lib.hid (HX.out.below (hb1.mono hB)); clear h hb1
      obtain ⟨ad, hA, _, hcell⟩ := cf_at HX1.out (k := r) (by rw [HM.out]; omega)
      rw [hA, HM.out] at c2
      clear hA
      go_wp2_with (fail)
      go_quiet (fail)
      go_wp2
      go_ret
      exact ⟨ret_int hT.out, below_drewN H1.out _⟩
    · have h0' : p < 0 := by omega
      have e0 : p.toNat % (m + 1) = 0 := by rw [show p.toNat = 0 by omega]; exact Nat.zero_mod _
      rw [e0] at hT
      have et0 : (0 : Int).tmod ((m : Int) + 1) = 0 := Int.zero_tmod _
      clear e0
      have HM := Lib.hid hm
      clear hm
      go_enter Tryz.func122, Tryz.ntmps122
      go_wp2_with (fail)
      refine (refRight_any x B _ (HX.out.alloc hB _) (by simp; omega)).mono ?_
      rintro e w1 ⟨rfl, h⟩
      have hb1 := box_below h; obtain ⟨c0, c1, c2, c3, c4⟩ := cf_cells (x := x) ((Blk.new w 44 x.cells).below h (by simp)); have H1 := Lib.hid hb1; have HX1 := Lib.hid (HX.out.below (hb1.mono hB)); clear h hb1
      obtain ⟨ad, hA, _, hcell⟩ := cf_at HX1.out (k := 0) (by rw [HM.out]; omega)
      rw [show ad.add 0 = ad by simp [Addr.add]] at hcell
      rw [hA, HM.out] at c2
      clear hA
      go_wp2_with (fail)
      go_ret
      exact ⟨ret_int hT.out, H1.out⟩
end Go.Proofs.YtnnegldaekmgbaaGreatDoor
