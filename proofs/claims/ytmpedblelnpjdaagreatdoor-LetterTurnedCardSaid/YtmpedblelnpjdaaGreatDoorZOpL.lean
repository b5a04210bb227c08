/- A letter that comes in by value, opened. -/
import Derived.Test.YtmpedblelnpjdaaGreatDoorZNtO
import Derived.Test.YtmpedblelnpjdaaGreatDoorZGC
import Derived.Test.YtmpedblelnpjdaaGreatDoorZGA
namespace Go.Proofs.YtmpedblelnpjdaaGreatDoor
open Go.Joins Go.ChangeShapes Go.WideShapes Go.RowKit Go.Deep
set_option linter.unusedSimpArgs false
set_option linter.unusedVariables false
set_option maxHeartbeats 4000000
set_option maxRecDepth 100000

theorem open_lt {H : Type} {enc : TypeId × Value → H} {W : World} {base : Nat} {v : Value} {d : DataW H} {p : List MemPlace}
    (hv : Value.okWide Tryz.prog W .any base 37 v) (h : DataW.Trod enc Tryz.prog W 0 (fun _ => true) true 37 v d p) : ∃ x : LV, v = .agg x.l.cells ∧ LIn W W.heap.size x := by
  obtain ⟨cs, rfl, hsz⟩ := okWide_struct Tryz.underlying37 hv
  obtain ⟨l⟩ := cs
  obtain ⟨fuel, hf⟩ := h
  have hl : l.length = 25 := by rw [cLt] at hsz; exact hsz
  obtain ⟨c0, c1, c2, c3, c4, c5, c6, c7, c8, c9, c10, c11, c12, c13, c14, c15, c16, c17, c18, c19, c20, c21, c22, c23, c24, rfl⟩ := list25 hl
  obtain ⟨u, hu, hrow⟩ := lt_of_cells (y := (d, p)) hf
  refine ⟨u, ?_, hu⟩
  rw [hrow]
  rfl
end Go.Proofs.YtmpedblelnpjdaaGreatDoor
