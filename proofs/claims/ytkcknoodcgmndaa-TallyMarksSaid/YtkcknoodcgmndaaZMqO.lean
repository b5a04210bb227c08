/- TallyMarks's argument, opened. -/
import Derived.Test.YtkcknoodcgmndaaZTcO
import Derived.Test.YtkcknoodcgmndaaZTbA
namespace Go.Proofs.Ytkcknoodcgmndaa
open Go.ChangeShapes Go.WideShapes Go.RowKit Go.Deep
set_option linter.unusedSimpArgs false
set_option linter.unusedVariables false
set_option maxHeartbeats 8000000
set_option maxRecDepth 100000
theorem open_marks {H : Type} {enc : TypeId × Value → H} {W : World} {base : Nat} {v : Value} {d : DataW H} {p : List MemPlace}
    (hv : Value.okWide Try.prog W .any base 56 v) (h : DataW.Trod enc Try.prog W 0 (fun _ => true) true 56 v d p) :
    ∃ (A : Option Addr) (len cap : Nat) (k n : Nat → Int) (sb so : Nat), v = .slice A len cap ∧ len ≤ cap ∧ cap ≤ maxLen ∧ PlIn W A len k n sb so := by
  obtain ⟨a0, len0, cap0, rfl⟩ := okWide_slice Try.underlying56 hv
  obtain ⟨fuel, hf⟩ := h
  rcases open_slice_fields Try.underlying56 Try.underlying58 (by kernel_rfl) (by kernel_rfl) hf with ⟨hcs, _⟩ | ⟨a, len, cap, m, D, Pl, hcs, hb, hl, hm, hmm, hx, hi⟩
  · simp [Value.cells] at hcs
    obtain ⟨rfl, rfl, rfl⟩ := hcs
    exact ⟨none, 0, 0, fun _ => 0, fun _ => 0, 0, 0, rfl, Nat.le_refl _, by decide, ⟨fun h => absurd h (by omega), fun h => absurd h (by omega), fun j h => absurd h (by omega), fun j h => absurd h (by omega)⟩⟩
  · simp [Value.cells] at hcs
    obtain ⟨rfl, rfl, rfl⟩ := hcs
    simp only [if_true] at hmm
    subst hmm
    have key : ∀ q, q < len0 → ∃ z : Int × Int, W.cell? (a.add (q * 2)) = some (.int .i64 z.1) ∧ W.cell? (a.add (q * 2 + 1)) = some (.int .i64 z.2) := by
      intro q hq
      obtain ⟨ys, n, _, _, hyl, hfld⟩ := hi q (by omega)
      obtain ⟨v0, y0, c0, _, t0⟩ := hfld 0 _ rfl
      obtain ⟨v1, y1, c1, _, t1⟩ := hfld 1 _ rfl
      obtain ⟨z0, e0, _, w0⟩ := DataW.trod_int Try.underlying3 t0
      obtain ⟨z1, e1, _, w1⟩ := DataW.trod_int Try.underlying3 t1
      simp at e0 e1
      subst e0 e1
      exact ⟨(z0, z1), c0, c1⟩
    by_cases hz : 0 < len0
    · have sp := World.cell?_spot (key 0 hz).choose_spec.1
      obtain ⟨b, off, spot⟩ := a
      have sp : spot = none := by simpa [Addr.add] using sp
      subst sp
      refine ⟨some ⟨b, off, none⟩, len0, _, fun q => if h : q < len0 then (key q h).choose.1 else 0, fun q => if h : q < len0 then (key q h).choose.2 else 0, b, off, rfl, hl, hm, ⟨fun _ => ?_, fun _ => rfl, fun j hj => ?_, fun j hj => ?_⟩⟩
      · have := World.block_lt_of_cell? W _ ((key 0 hz).choose_spec.1)
        simpa [Addr.add] using this
      · rw [dif_pos hj]
        exact (congrArg W.cell? (add_none b off (j * 2))).symm.trans (key j hj).choose_spec.1
      · rw [dif_pos hj]
        exact (congrArg W.cell? (add_none b off (j * 2 + 1))).symm.trans (key j hj).choose_spec.2
    · obtain rfl : len0 = 0 := by omega
      exact ⟨_, 0, _, fun _ => 0, fun _ => 0, 0, 0, rfl, hl, hm, ⟨fun h => absurd h (by omega), fun h => absurd h (by omega), fun j h => absurd h (by omega), fun j h => absurd h (by omega)⟩⟩
end Go.Proofs.Ytkcknoodcgmndaa
