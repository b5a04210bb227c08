/-
  DERIVED. GIVEN WITH THE SEED: THE CARDS: each row of YtmpedblelnpjdaaGreatDoorRows.lean that lists a variable, with what it lists TIED to the program's text (the seventh form; the later family's looks); each row that meets fmt, with fmt's text TOLD by the authors' own Lean function (tested against real Go, not proved from fmt's source: count such statements apart). THE CARD IS WHAT COUNTS. Prove the row's statement (the work); the ties are given (YtmpedblelnpjdaaGreatDoorTie.lean); close each card by the builder's one call (the guide's Derived/Test/ToyasCard.lean, 'card_holds'). Laid BY PROGRAM, IN A SANDBOX (cutbox-door.mjs). By AI agents, Wed Nov 11 2026. No macro, syntax, notation, axiom, sorry.
-/
import Derived.Test.YtmpedblelnpjdaaGreatDoorRows
import GoSem.ClaimSeven
namespace Go.Proofs.YtmpedblelnpjdaaGreatDoor
namespace Rows

/-- THE TIED CARD OF 'catenarylaw10.LetterDecodes'. -/
def letterDecodesCard : Claim7 := { stood := { row := letterDecodesRow, standIns := [], harness := (true, "31becd2a110f47be173f223a399c4cfa862ce1d20ec78ef641fa519c418f7b05"), looks := false }, kinds := [], alts := [], laidByText := true, laidKinds := [.data], laidTests := true, laidLooks := .later }
def LetterDecodesCardSaid : Prop := Claim7.holds Tryz.pinned (.plain (OpenSpec.ofChange letterDecodesSpec)) letterDecodesCard

/-- THE TIED CARD OF 'catenarylaw10.LetterTurned'. -/
def letterTurnedCard : Claim7 := { stood := { row := letterTurnedRow, standIns := [], harness := (true, "31becd2a110f47be173f223a399c4cfa862ce1d20ec78ef641fa519c418f7b05"), looks := false }, kinds := [], alts := [], laidByText := true, laidKinds := [.data], laidTests := true, laidLooks := .later }
def LetterTurnedCardSaid : Prop := Claim7.holds Tryz.pinned (.plain (OpenSpec.ofChange letterTurnedSpec)) letterTurnedCard

/-- THE TIED CARD OF 'catenarylaw26.CallerPlays'. -/
def callerPlaysCard : Claim7 := { stood := { row := callerPlaysRow, standIns := [], harness := (true, "31becd2a110f47be173f223a399c4cfa862ce1d20ec78ef641fa519c418f7b05"), looks := false }, kinds := [], alts := [], laidByText := true, laidKinds := [.data], laidTests := true, laidLooks := .later }
def CallerPlaysCardSaid : Prop := Claim7.holds Tryz.pinned (.plain (OpenSpec.ofChange callerPlaysSpec)) callerPlaysCard

/-- THE TIED CARD OF 'catenarylaw34.NetPlays'. -/
def netPlaysCard : Claim7 := { stood := { row := netPlaysRow, standIns := [], harness := (true, "31becd2a110f47be173f223a399c4cfa862ce1d20ec78ef641fa519c418f7b05"), looks := false }, kinds := [], alts := [], laidByText := true, laidKinds := [.data], laidTests := true, laidLooks := .later }
def NetPlaysCardSaid : Prop := Claim7.holds Tryz.pinned (.plain (OpenSpec.ofChange netPlaysSpec)) netPlaysCard

/-- THE SECOND FORM's CARD OF 'catenarylaw10.LetterDecodes'. -/
def letterDecodesUptoCard : Claim7 := { stood := { row := letterDecodesUptoRow, standIns := [], harness := (true, "31becd2a110f47be173f223a399c4cfa862ce1d20ec78ef641fa519c418f7b05"), looks := false }, kinds := [], alts := [], laidByText := true, laidKinds := [.data], laidTests := true, laidLooks := .later }
def LetterDecodesUptoCardSaid : Prop := Claim7.holds Tryz.pinned (.plain (OpenSpec.upto letterDecodesSpec)) letterDecodesUptoCard

/-- THE SECOND FORM's CARD OF 'catenarylaw10.LetterTurned'. -/
def letterTurnedUptoCard : Claim7 := { stood := { row := letterTurnedUptoRow, standIns := [], harness := (true, "31becd2a110f47be173f223a399c4cfa862ce1d20ec78ef641fa519c418f7b05"), looks := false }, kinds := [], alts := [], laidByText := true, laidKinds := [.data], laidTests := true, laidLooks := .later }
def LetterTurnedUptoCardSaid : Prop := Claim7.holds Tryz.pinned (.plain (OpenSpec.upto letterTurnedSpec)) letterTurnedUptoCard

/-- THE SECOND FORM's CARD OF 'catenarylaw26.CallerPlays'. -/
def callerPlaysUptoCard : Claim7 := { stood := { row := callerPlaysUptoRow, standIns := [], harness := (true, "31becd2a110f47be173f223a399c4cfa862ce1d20ec78ef641fa519c418f7b05"), looks := false }, kinds := [], alts := [], laidByText := true, laidKinds := [.data], laidTests := true, laidLooks := .later }
def CallerPlaysUptoCardSaid : Prop := Claim7.holds Tryz.pinned (.plain (OpenSpec.upto callerPlaysSpec)) callerPlaysUptoCard

/-- THE SECOND FORM's CARD OF 'catenarylaw34.NetPlays'. -/
def netPlaysUptoCard : Claim7 := { stood := { row := netPlaysUptoRow, standIns := [], harness := (true, "31becd2a110f47be173f223a399c4cfa862ce1d20ec78ef641fa519c418f7b05"), looks := false }, kinds := [], alts := [], laidByText := true, laidKinds := [.data], laidTests := true, laidLooks := .later }
def NetPlaysUptoCardSaid : Prop := Claim7.holds Tryz.pinned (.plain (OpenSpec.upto netPlaysSpec)) netPlaysUptoCard
end Rows
end Go.Proofs.YtmpedblelnpjdaaGreatDoor
