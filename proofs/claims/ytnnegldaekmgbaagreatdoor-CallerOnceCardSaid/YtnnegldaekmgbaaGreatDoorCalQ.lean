/- An array of two bytes that comes in by value, opened. -/
import Derived.Test.YtnnegldaekmgbaaGreatDoorCalO
namespace Go.Proofs.YtnnegldaekmgbaaGreatDoor
open Go.Joins Go.ChangeShapes Go.WideShapes Go.RowKit Go.Deep
set_option linter.unusedSimpArgs false
set_option linter.unusedVariables false
set_option maxHeartbeats 4000000
set_option maxRecDepth 100000
theorem c2u8 : Tryz.prog.cellsOf 27 = 2 := by kernel_rfl
theorem c1u8 : Tryz.prog.cellsOf 5 = 1 := by kernel_rfl
theorem open_two {H : Type} {enc : TypeId × Value → H} {W : World} {base : Nat} {v : Value} {d : DataW H} {p : List MemPlace}
    (hv : Value.okWide Tryz.prog W .any base 27 v) (h : DataW.Trod enc Tryz.prog W 0 (fun _ => true) true 27 v d p) : ∃ a b : Int, v = .agg #[.int .u8 a, .int .u8 b] ∧ (0 ≤ a ∧ a ≤ 255) ∧ (0 ≤ b ∧ b ≤ 255) := by
  have hcs : ∃ cs, v = .agg cs ∧ cs.size = Tryz.prog.cellsOf 27 := by
    simp only [Value.okWide, Tryz.underlying27] at hv
    obtain ⟨cs, h1, h2, _⟩ := hv
    exact ⟨cs, h1, h2⟩
  obtain ⟨cs, rfl, hsz⟩ := hcs
  obtain ⟨l⟩ := cs
  rw [c2u8] at hsz
  have hl : l.length = 2 := hsz
  obtain ⟨fuel, hf⟩ := h
  match l, hl with
  | [a0, a1], _ =>
    obtain ⟨xs, m, _, hx, hcl, hlen, hg⟩ := DataW.trod_array Tryz.underlying27 hf
    have g0 := hg 0 (by omega)
    have g1 := hg 1 (by omega)
    rw [c1u8] at g0 g1
    have t0 : DataW.trod enc Tryz.prog W 0 (fun _ => true) true m 5 [a0] = xs[0]? := g0
    have t1 : DataW.trod enc Tryz.prog W 0 (fun _ => true) true m 5 [a1] = xs[1]? := g1
    rw [List.getElem?_eq_getElem (by omega)] at t0 t1
    obtain ⟨z0, e0, _, w0⟩ := DataW.trod_int Tryz.underlying5 t0
    obtain ⟨z1, e1, _, w1⟩ := DataW.trod_int Tryz.underlying5 t1
    simp at e0 e1
    subst e0 e1
    exact ⟨z0, z1, rfl, bounds_u8 w0, bounds_u8 w1⟩
end Go.Proofs.YtnnegldaekmgbaaGreatDoor
