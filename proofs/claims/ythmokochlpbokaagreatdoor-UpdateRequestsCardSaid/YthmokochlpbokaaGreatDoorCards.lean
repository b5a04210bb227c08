/-
  DERIVED. GIVEN WITH THE SEED: THE CARDS: each row of YthmokochlpbokaaGreatDoorRows.lean that lists a variable, with what it lists TIED to the program's text (the seventh form; the later family's looks); each row that meets fmt, with fmt's text TOLD by the authors' own Lean function (tested against real Go, not proved from fmt's source: count such statements apart). THE CARD IS WHAT COUNTS. Prove the row's statement (the work); the ties are given (YthmokochlpbokaaGreatDoorTie.lean); close each card by the builder's one call (the guide's Derived/Test/ToyasCard.lean, 'card_holds'). Laid BY PROGRAM, IN A SANDBOX (cutbox-door.mjs). By AI agents, Wed Nov 11 2026. No macro, syntax, notation, axiom, sorry.
-/
import Derived.Test.YthmokochlpbokaaGreatDoorRows
import GoSem.ClaimSeven
namespace Go.Proofs.YthmokochlpbokaaGreatDoor
namespace Rows

/-- THE TIED CARD OF 'catenarylaw17.UpdateChecks'. -/
def updateChecksCard : Claim7 := { stood := { row := updateChecksRow, standIns := [], harness := (true, "493fe38d0365e4ae73421c281344244ba103a53c67243f006bd4051e08ac0fd4"), looks := false }, kinds := [], alts := [], laidByText := true, laidKinds := [.data], laidTests := true, laidLooks := .later }
def UpdateChecksCardSaid : Prop := Claim7.holds Tryz.pinned (.plain (OpenSpec.ofChange updateChecksSpec)) updateChecksCard

/-- THE TIED CARD OF 'catenarylaw17.UpdateRequests'. -/
def updateRequestsCard : Claim7 := { stood := { row := updateRequestsRow, standIns := [], harness := (true, "493fe38d0365e4ae73421c281344244ba103a53c67243f006bd4051e08ac0fd4"), looks := false }, kinds := [], alts := [], laidByText := true, laidKinds := [.data], laidTests := true, laidLooks := .later }
def UpdateRequestsCardSaid : Prop := Claim7.holds Tryz.pinned (.plain (OpenSpec.ofChange updateRequestsSpec)) updateRequestsCard

/-- THE SECOND FORM's CARD OF 'catenarylaw17.UpdateChecks'. -/
def updateChecksUptoCard : Claim7 := { stood := { row := updateChecksUptoRow, standIns := [], harness := (true, "493fe38d0365e4ae73421c281344244ba103a53c67243f006bd4051e08ac0fd4"), looks := false }, kinds := [], alts := [], laidByText := true, laidKinds := [.data], laidTests := true, laidLooks := .later }
def UpdateChecksUptoCardSaid : Prop := Claim7.holds Tryz.pinned (.plain (OpenSpec.upto updateChecksSpec)) updateChecksUptoCard

/-- THE SECOND FORM's CARD OF 'catenarylaw17.UpdateRequests'. -/
def updateRequestsUptoCard : Claim7 := { stood := { row := updateRequestsUptoRow, standIns := [], harness := (true, "493fe38d0365e4ae73421c281344244ba103a53c67243f006bd4051e08ac0fd4"), looks := false }, kinds := [], alts := [], laidByText := true, laidKinds := [.data], laidTests := true, laidLooks := .later }
def UpdateRequestsUptoCardSaid : Prop := Claim7.holds Tryz.pinned (.plain (OpenSpec.upto updateRequestsSpec)) updateRequestsUptoCard
end Rows
end Go.Proofs.YthmokochlpbokaaGreatDoor
