/- TallyClock's arguments, opened. -/
import Derived.Test.YtkcknoodcgmndaaZTcH
import Derived.WalkKit
import Derived.WideShapes
import Derived.Deep.Slices
import Derived.Deep.Fields
namespace Go.Proofs.Ytkcknoodcgmndaa
open Go.ChangeShapes Go.WideShapes Go.RowKit Go.Deep
set_option linter.unusedSimpArgs false
set_option linter.unusedVariables false
set_option maxHeartbeats 8000000
set_option maxRecDepth 100000
section
variable {H : Type} {enc : TypeId × Value → H} {P : Program} {w : World} {base : Nat} {spare : Nat → Bool} {held : Bool}
end
theorem add_none (b o n : Nat) : (⟨b, o, none⟩ : Addr).add n = ⟨b, o + n, none⟩ := by unfold Addr.add; split <;> simp_all
end Go.Proofs.Ytkcknoodcgmndaa
