/- A slice of letters that comes in, opened. -/
import Derived.Test.YtnnegldaekmgbaaGreatDoorNcB
import Derived.Test.YtnnegldaekmgbaaGreatDoorZNtO
import Derived.Test.YtnnegldaekmgbaaGreatDoorZLaidN
namespace Go.Proofs.YtnnegldaekmgbaaGreatDoor
open Go.Joins Go.ChangeShapes Go.WideShapes Go.RowKit Go.Deep
set_option linter.unusedSimpArgs false
set_option linter.unusedVariables false
set_option maxHeartbeats 2000000
set_option maxRecDepth 100000
theorem open_ls {H : Type} {enc : TypeId × Value → H} {W : World} {base : Nat} {v : Value} {d : DataW H} {p : List MemPlace}
    (hv : Value.okWide Tryz.prog W .any base 36 v) (h : DataW.Trod enc Tryz.prog W 0 (fun _ => true) true 36 v d p) : ∃ (A : Option Addr) (len cap : Nat) (l : List LV), v = .slice A len cap ∧ len ≤ cap ∧ cap ≤ maxLen ∧ LsI0 W W.heap.size A len l := by
  obtain ⟨a0, len0, cap0, rfl⟩ := okWide_slice Tryz.underlying36 hv
  obtain ⟨fuel, hf⟩ := h
  simp only [Value.cells] at hf
  exact ls_of_cell hf
end Go.Proofs.YtnnegldaekmgbaaGreatDoor
