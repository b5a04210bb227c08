/- TallySweeps' numbers, opened. -/
import Derived.Test.YtkcknoodcgmndaaZTnO
namespace Go.Proofs.Ytkcknoodcgmndaa
open Go.ChangeShapes Go.WideShapes Go.RowKit Go.Deep
set_option linter.unusedSimpArgs false
set_option linter.unusedVariables false
set_option maxHeartbeats 8000000
set_option maxRecDepth 100000
theorem open_firsts {H : Type} {enc : TypeId × Value → H} {W : World} {base : Nat} {v : Value} {d : DataW H} {p : List MemPlace}
    (hv : Value.okWide Try.prog W .any base 33 v) (h : DataW.Trod enc Try.prog W 0 (fun _ => true) true 33 v d p) (hw : ∀ y ∈ d.weights Try.prog 33, y ≤ reachBytes) :
    ∃ (fl : List Int) (fA : Option Addr) (fb fo fcap : Nat), v = .slice fA fl.length fcap ∧ fl.length ≤ 17592186044416 ∧ (fl ≠ [] → fb < W.heap.size ∧ fA = some ⟨fb, fo, none⟩) ∧ ∀ q z, fl[q]? = some z → W.cell? ⟨fb, fo + q, none⟩ = some (.int .i64 z) := by
  obtain ⟨a0, len0, cap0, rfl⟩ := okWide_slice Try.underlying33 hv
  obtain ⟨fuel, hf⟩ := h
  obtain ⟨L, pA, pd, po, pc, e, h1, h2, h3⟩ := open_ints9 hf hw
  simp [Value.cells] at e
  obtain ⟨rfl, rfl, rfl⟩ := e
  exact ⟨L, _, pd, po, _, rfl, h1, h2, h3⟩
end Go.Proofs.Ytkcknoodcgmndaa
