/- The reference's Batch, Fits; SameUpdate, SameUpdates where they are the same. -/
import Derived.Test.YthmokochlpbokaaGreatDoorUpdH

namespace Go.Proofs.YthmokochlpbokaaGreatDoor
open Go.RowKit
set_option linter.unusedSimpArgs false
set_option linter.unusedVariables false
set_option maxHeartbeats 8000000
attribute [local go_sem] Up.agg Up.cells

theorem batch_state (a m : Int) (l : List Up) : pickS (batchStep a) m l = m - (pickL (batchStep a) m l).length := by
  induction l generalizing m with
  | nil => simp [pickS, pickL]
  | cons u r ih =>
    show pickS (batchStep a) (batchStep a m u).2 r = _
    rw [ih]
    unfold batchStep
    by_cases h : a < u.seq ∧ 1 ≤ m
    · rw [pickL_yes (s' := m - 1) (by rw [if_pos h]), if_pos h]; simp only [List.length_cons]; omega
    · rw [pickL_no (s' := m) (by rw [if_neg h]), if_neg h]
/-- an owned row of updates, no more said -/
structure RefAt (w : World) (o : List Up) (v : Value) (W : World) : Prop where
  own : W.ownsRow w.heap.size 26 7 v o.length (o.flatMap Up.row)
  bel : Below w.heap.size w W
theorem RefAt.app {w W W6 : World} {o : List Up} {v v' : Value} {u : Up} (h : RefAt w o v W) (hown : W6.ownsRow w.heap.size 26 7 v' (o.length + 1) (o.flatMap Up.row ++ u.row)) (hg : W.grownBy W6 v.ownBlock) : RefAt w (o ++ [u]) v' W6 :=
  ⟨by simpa [List.flatMap_append] using hown, h.bel.grown hg h.bel.size (fun k hk => (h.own.lt k hk).1)⟩
theorem pickL_sub {σ : Type} (step : σ → Up → Bool × σ) (s : σ) (l : List Up) : ∀ u ∈ pickL step s l, u ∈ l := by
  induction l generalizing s with
  | nil => simp [pickL]
  | cons x r ih =>
    intro u hu
    have := ih (step s x).2 u
    simp only [pickL] at hu
    split at hu
    · rw [List.mem_cons] at hu
      rcases hu with rfl | hu
      · simp
      · simp [this hu]
    · simp [this hu]

theorem up_of_val {a b : Up} (h : a.val = b.val) : b = { a with A := b.A, n := b.n, c := b.c } := by
  obtain ⟨s, c1, n1, k1, y1, v1, A1, m1, cc, b1⟩ := a
  obtain ⟨s', c', n', k', y', v', A', m', cc', b'⟩ := b
  simp only [Up.val, Prod.mk.injEq] at h
  obtain ⟨rfl, rfl, rfl, rfl, rfl, rfl, rfl⟩ := h
  rfl
theorem sameUp_any (u : Up) (A2 : Option Addr) (n2 c2 B D : Nat) (w : World) (h1 : UpIn w B u) (h2 : UpIn w D { u with A := A2, n := n2, c := c2 }) (hB : B ≤ w.heap.size) (hD : D ≤ w.heap.size) (hn : u.n ≤ 1000000) :
    Calls Tryz.prog 18 #[u.agg, Up.agg { u with A := A2, n := n2, c := c2 }] w fun e w' => e = .returned (.bool true) ∧ Below w.heap.size w w' := by
  have R1 := Lib.hid h1.rd
  have R2 : Hid (Reads w D 1 A2 n2 (u.bs.map (Value.int .u8))) := Lib.hid h2.rd
  clear h1 h2
  have HB : Hid (Below w.heap.size w ((w.alloc (.cells u.cells 26)).alloc (.cells (Up.cells { u with A := A2, n := n2, c := c2 }) 26))) := Lib.hid (((Below.refl _ _).alloc (Nat.le_refl _) _).alloc (by simp) _)
  have HL := Lib.hid HB.out.size
  go_enter Tryz.func18, Tryz.ntmps18
  go_wp2_with (fail)
  refine (same_any u.A A2 u.n n2 u.c c2 B D u.bs u.bs _ (Nat.le_trans hB HL.out) (Nat.le_trans hD HL.out) (R1.out.below (HB.out.mono hB)) (R2.out.below (HB.out.mono hD)) (by omega)).mono ?_
  rintro e w1 ⟨rfl, h⟩
  have H1 := Lib.hid (HB.out.trans (h.mono HL.out))
  clear h
  simp only [decide_true]
  go_wp2_with (fail)
  go_ret
  exact ⟨rfl, H1.out⟩
end Go.Proofs.YthmokochlpbokaaGreatDoor
