/- Outcome; the closures; pick. -/
import Derived.Test.YtfcjkkjgedcgpaaGreatDoorUpdC
namespace Go.Proofs.YtfcjkkjgedcgpaaGreatDoor
open Go.RowKit
set_option linter.unusedSimpArgs false
set_option linter.unusedVariables false
set_option maxHeartbeats 2000000
attribute [local go_sem] Up.agg Up.cells

def outc (u : Up) (ver : Int) (room : Bool) : Int × Int × Bool :=
  if writesB u.kd = false then (1, ver, false) else if u.kd = 3 ∧ u.ver ≠ ver then (11, ver, false) else if (ver = 0 ∧ room = false) ∨ ver = 18446744073709551615 then (9, ver, false) else (0, ver + 1, true)
end Go.Proofs.YtfcjkkjgedcgpaaGreatDoor
