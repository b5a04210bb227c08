/- SameUpdates where they are the same. -/
import Derived.Test.YthmokochlpbokaaGreatDoorUpdI

namespace Go.Proofs.YthmokochlpbokaaGreatDoor
open Go.RowKit
set_option linter.unusedSimpArgs false
set_option linter.unusedVariables false
set_option maxHeartbeats 8000000
attribute [local go_sem] Up.agg Up.cells

end Go.Proofs.YthmokochlpbokaaGreatDoor
