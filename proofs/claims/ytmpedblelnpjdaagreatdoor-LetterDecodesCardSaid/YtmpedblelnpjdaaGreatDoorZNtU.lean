/- Send. -/
import Derived.Test.YtmpedblelnpjdaaGreatDoorZNtT
import Derived.Test.YtmpedblelnpjdaaGreatDoorZGE
namespace Go.Proofs.YtmpedblelnpjdaaGreatDoor
open Go.RowKit
set_option linter.unusedSimpArgs false
set_option linter.unusedVariables false
set_option maxHeartbeats 8000000
set_option maxRecDepth 100000
theorem Nv.ok.mono {n : Nv} {M M' : Int} (h : n.ok M) (hM : M ≤ M') : n.ok M' := by
 obtain ⟨a0, a1, a2, a3, a4, a5⟩ := h
 exact ⟨by omega, by omega, by omega, by omega, by omega, by omega⟩
end Go.Proofs.YtmpedblelnpjdaaGreatDoor
