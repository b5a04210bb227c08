/-
  DERIVED. GIVEN WITH THE SEED: THE CARDS: each row of YtdpgpaobofdigaaGreatDoorRows.lean that lists a variable, with what it lists TIED to the program's text (the seventh form; the later family's looks); each row that meets fmt, with fmt's text TOLD by the authors' own Lean function (tested against real Go, not proved from fmt's source: count such statements apart). THE CARD IS WHAT COUNTS. Prove the row's statement (the work); the ties are given (YtdpgpaobofdigaaGreatDoorTie.lean); close each card by the builder's one call (the guide's Derived/Test/ToyasCard.lean, 'card_holds'). Laid BY PROGRAM, IN A SANDBOX (cutbox-door.mjs). By AI agents, Wed Nov 11 2026. No macro, syntax, notation, axiom, sorry.
-/
import Derived.Test.YtdpgpaobofdigaaGreatDoorRows
import GoSem.ClaimSeven
namespace Go.Proofs.YtdpgpaobofdigaaGreatDoor
namespace Rows

/-- THE TIED CARD OF 'catenarylaw10.LetterDecodes'. -/
def letterDecodesCard : Claim7 := { stood := { row := letterDecodesRow, standIns := [], harness := (true, "1b8a04c0997c6e6af1c6d51642144fbfcf7221bb29fd35fc989a95eff2353f29"), looks := false }, kinds := [], alts := [], laidByText := true, laidKinds := [.data], laidTests := true, laidLooks := .later }
def LetterDecodesCardSaid : Prop := Claim7.holds Tryz.pinned (.plain (OpenSpec.ofChange letterDecodesSpec)) letterDecodesCard

/-- THE TIED CARD OF 'catenarylaw10.LetterTurned'. -/
def letterTurnedCard : Claim7 := { stood := { row := letterTurnedRow, standIns := [], harness := (true, "1b8a04c0997c6e6af1c6d51642144fbfcf7221bb29fd35fc989a95eff2353f29"), looks := false }, kinds := [], alts := [], laidByText := true, laidKinds := [.data], laidTests := true, laidLooks := .later }
def LetterTurnedCardSaid : Prop := Claim7.holds Tryz.pinned (.plain (OpenSpec.ofChange letterTurnedSpec)) letterTurnedCard

/-- THE TIED CARD OF 'catenarylaw10.LetterUpdates'. -/
def letterUpdatesCard : Claim7 := { stood := { row := letterUpdatesRow, standIns := [], harness := (true, "1b8a04c0997c6e6af1c6d51642144fbfcf7221bb29fd35fc989a95eff2353f29"), looks := false }, kinds := [], alts := [], laidByText := true, laidKinds := [.data], laidTests := true, laidLooks := .later }
def LetterUpdatesCardSaid : Prop := Claim7.holds Tryz.pinned (.plain (OpenSpec.ofChange letterUpdatesSpec)) letterUpdatesCard

/-- THE SECOND FORM's CARD OF 'catenarylaw10.LetterDecodes'. -/
def letterDecodesUptoCard : Claim7 := { stood := { row := letterDecodesUptoRow, standIns := [], harness := (true, "1b8a04c0997c6e6af1c6d51642144fbfcf7221bb29fd35fc989a95eff2353f29"), looks := false }, kinds := [], alts := [], laidByText := true, laidKinds := [.data], laidTests := true, laidLooks := .later }
def LetterDecodesUptoCardSaid : Prop := Claim7.holds Tryz.pinned (.plain (OpenSpec.upto letterDecodesSpec)) letterDecodesUptoCard

/-- THE SECOND FORM's CARD OF 'catenarylaw10.LetterTurned'. -/
def letterTurnedUptoCard : Claim7 := { stood := { row := letterTurnedUptoRow, standIns := [], harness := (true, "1b8a04c0997c6e6af1c6d51642144fbfcf7221bb29fd35fc989a95eff2353f29"), looks := false }, kinds := [], alts := [], laidByText := true, laidKinds := [.data], laidTests := true, laidLooks := .later }
def LetterTurnedUptoCardSaid : Prop := Claim7.holds Tryz.pinned (.plain (OpenSpec.upto letterTurnedSpec)) letterTurnedUptoCard

/-- THE SECOND FORM's CARD OF 'catenarylaw10.LetterUpdates'. -/
def letterUpdatesUptoCard : Claim7 := { stood := { row := letterUpdatesUptoRow, standIns := [], harness := (true, "1b8a04c0997c6e6af1c6d51642144fbfcf7221bb29fd35fc989a95eff2353f29"), looks := false }, kinds := [], alts := [], laidByText := true, laidKinds := [.data], laidTests := true, laidLooks := .later }
def LetterUpdatesUptoCardSaid : Prop := Claim7.holds Tryz.pinned (.plain (OpenSpec.upto letterUpdatesSpec)) letterUpdatesUptoCard
end Rows
end Go.Proofs.YtdpgpaobofdigaaGreatDoor
