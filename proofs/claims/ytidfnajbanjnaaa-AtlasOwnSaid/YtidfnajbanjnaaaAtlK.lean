/- Newer of both; Same. -/
import Derived.Test.YtidfnajbanjnaaaAtlJ
namespace Go.Proofs.Ytidfnajbanjnaaa
open Go.RowKit
set_option linter.unusedSimpArgs false
set_option linter.unusedVariables false
set_option maxHeartbeats 8000000
set_option maxRecDepth 100000
attribute [local go_sem] Cf.agg Cf.cells

theorem blk_new_at (w : World) (t : TypeId) (cs : Array Value) (g : Nat) (h : g = w.heap.size) : Blk (w.alloc (.cells cs t)) g t cs := by subst h; exact Blk.new w t cs
theorem box2_below {w w1 : World} {o p : Obj} (h : Below ((w.alloc o).alloc p).heap.size ((w.alloc o).alloc p) w1) : Below w.heap.size w w1 := (((Below.refl _ _).alloc (Nat.le_refl _) _).alloc (by simp) _).trans (h.mono (by simp <;> omega))
noncomputable def newerV (o x : Cf) : Bool := x.right && ((o.ch == x.ch) && decide (o.ep < x.ep))
def newF (FN : Prop) : Prop := FN


theorem newer_any (o x : Cf) (B : Nat) (w : World) (hx : CfIn w B x) (hB : B ≤ w.heap.size) :
    Calls Try.prog 36 #[o.agg, x.agg] w fun e w' => e = .returned (.bool (newerV o x)) ∧ Below w.heap.size w w' := by
  
  have HX := Lib.hid hx
  clear hx
  have hv : Hid (newerV o x = (x.right && ((o.ch == x.ch) && decide (o.ep < x.ep)))) := Lib.hid rfl
  cases h1 : (o.ch == x.ch)
  all_goals by_cases h2 : o.ep < x.ep
  all_goals cases hR : x.right
  all_goals
    have h1' : (x.ch == o.ch) = (o.ch == x.ch) := by rw [Bool.eq_iff_iff, beq_iff_eq, beq_iff_eq]; exact ⟨Eq.symm, Eq.symm⟩
    rw [h1] at h1'
    rw [hv.out, hR, h1]
    simp only [h2, decide_true, decide_false, Bool.and_true, Bool.and_false]
    clear hv
    go_enter Try.func36, Try.ntmps36
    go_wp2_with (fail)
    refine (right_any x B _ ((HX.out.alloc hB _).alloc (by simp; omega) _) (by simp; omega)).mono ?_
    rintro e w1 ⟨rfl, h⟩
    have H1 := Lib.hid (box2_below h)
    obtain ⟨c0, c1, c2, c3, c4⟩ := cf_cells (x := o) (((Blk.new w 35 o.cells).alloc (.cells x.cells 35)).below h (by simp <;> omega))
    obtain ⟨d0, d1, d2, d3, d4⟩ := cf_cells (x := x) ((blk_new_at (w.alloc (.cells o.cells 35)) 35 x.cells (w.heap.size + 1) (by simp)).below h (by simp))
    clear h
    go_wp2
    go_ret
    exact ⟨rfl, H1.out⟩
theorem refNewer_any (o x : Cf) (B : Nat) (w : World) (hx : CfIn w B x) (hB : B ≤ w.heap.size) :
    Calls Try.prog 35 #[o.agg, x.agg] w fun e w' => e = .returned (.bool (newerV o x)) ∧ Below w.heap.size w w' := by
  
  have HX := Lib.hid hx
  clear hx
  have hv : Hid (newerV o x = (x.right && ((o.ch == x.ch) && decide (o.ep < x.ep)))) := Lib.hid rfl
  cases h1 : (o.ch == x.ch)
  all_goals by_cases h2 : o.ep < x.ep
  all_goals cases hR : x.right
  all_goals
    have h1' : (x.ch == o.ch) = (o.ch == x.ch) := by rw [Bool.eq_iff_iff, beq_iff_eq, beq_iff_eq]; exact ⟨Eq.symm, Eq.symm⟩
    rw [h1] at h1'
    rw [hv.out, hR, h1]
    simp only [h2, decide_true, decide_false, Bool.and_true, Bool.and_false]
    clear hv
    go_enter Try.func35, Try.ntmps35
    go_wp2_with (fail)
    refine (refRight_any x B _ ((HX.out.alloc hB _).alloc (by simp; omega) _) (by simp; omega)).mono ?_
    rintro e w1 ⟨rfl, h⟩
    have H1 := Lib.hid (box2_below h)
    obtain ⟨c0, c1, c2, c3, c4⟩ := cf_cells (x := o) (((Blk.new w 35 o.cells).alloc (.cells x.cells 35)).below h (by simp <;> omega))
    obtain ⟨d0, d1, d2, d3, d4⟩ := cf_cells (x := x) ((blk_new_at (w.alloc (.cells o.cells 35)) 35 x.cells (w.heap.size + 1) (by simp)).below h (by simp))
    clear h
    go_wp2
    go_ret
    exact ⟨rfl, H1.out⟩


theorem same04_any (A B : Option Addr) (n c d : Nat) (zs : List Int) (b1 b2 : Nat) (w : World) (hn : n ≤ 9223372036854775807) (h1 : Reads w b1 1 A n (zs.map (Value.int .i64))) (h2 : Reads w b2 1 B n (zs.map (Value.int .i64))) :
    Calls Try.prog 26 #[.slice A n c, .slice B n d] w fun e w' => e = .returned (.bool true) ∧ ∃ m, w' = w.drewN m := by
  have H1 := Lib.hid h1
  have H2 := Lib.hid h2
  clear h1 h2
  go_enter Try.func26, Try.ntmps26
  go_wp2
  go_loopw [5] (fun i wr => ∃ k m : Nat, k ≤ n ∧ i = .int .i64 k ∧ wr = w.drewN m) (fun i _ => n - (intOf i).toNat)
  case atStart => exact ⟨0, 0, by omega, rfl, rfl⟩
  case round =>
    obtain ⟨k, m, hk, rfl, rfl⟩ := hrel
    by_cases hlt : k < n
    · obtain ⟨a1, z1, rfl, _, x1, y1⟩ := reads_int H1.out hlt
      obtain ⟨a2, z2, rfl, _, x2, y2⟩ := reads_int H2.out hlt
      obtain rfl : z1 = z2 := Option.some.inj (x1.symm.trans x2)
      have hlt' : (k : Int) < n := by omega
      clear x1 x2
      go_wp2
      go_quiet (fail)
      go_wp2
      go_roundw
      case rel => exact ⟨k + 1, _, by omega, by go_num, rfl⟩
      case measure => simp [intOf]; omega
    · obtain rfl : k = n := by omega
      go_wp2
      go_ret
      exact ⟨rfl, _, rfl⟩


theorem val_eq {x y : Cf} (h : x.val = y.val) (hx : x.zs.length = x.len) (hy : y.zs.length = y.len) : ∃ A c, y = ⟨x.ch, x.ep, A, x.len, c, x.fr, x.jn, x.zs⟩ := by
  obtain ⟨a1, a2, a3, a4, a5, a6, a7, a8⟩ := x
  obtain ⟨b1, b2, b3, b4, b5, b6, b7, b8⟩ := y
  unfold Cf.val at h
  simp only [Prod.mk.injEq] at h hx hy
  obtain ⟨h1, h2, h3, h4, h5⟩ := h
  have h2' : a2 = b2 := by omega
  subst h1 h2' h3 h4 h5
  subst hx hy
  exact ⟨b3, b5, rfl⟩
theorem same_any (x y : Cf) (B C : Nat) (w : World) (hx : CfIn w B x) (hB : B ≤ w.heap.size) (hy : CfIn w C y) (hC : C ≤ w.heap.size) (hv : x.val = y.val) :
    Calls Try.prog 16 #[x.agg, y.agg] w fun e w' => e = .returned (.bool true) ∧ Below w.heap.size w w' := by
  obtain ⟨A2, c2, rfl⟩ := val_eq hv hx.len_eq hy.len_eq
  have HX := Lib.hid hx
  have HY := Lib.hid hy
  have hl : x.len ≤ 9223372036854775807 := by have h1 := hx.hc; have h2 := hx.hm; unfold maxLen at h2; omega
  clear hx hy hv
  go_enter Try.func16, Try.ntmps16
  go_wp2_with (fail)
  refine (same04_any x.A A2 x.len x.cap c2 x.zs B C _ hl ((HX.out.rd.alloc hB _).alloc (by simp; omega) _) ((HY.out.rd.alloc hC _).alloc (by simp; omega) _)).mono ?_
  rintro e w1 ⟨rfl, m, rfl⟩
  go_wp2
  go_ret
  exact ⟨rfl, below_drewN (((Below.refl _ _).alloc (Nat.le_refl _) _).alloc (by simp) _) _⟩
end Go.Proofs.Ytidfnajbanjnaaa
