/-
  DERIVED. GIVEN WITH THE SEED: THE CARDS: each row of YtnnegldaekmgbaaGreatDoorRows.lean that lists a variable, with what it lists TIED to the program's text (the seventh form; the later family's looks); each row that meets fmt, with fmt's text TOLD by the authors' own Lean function (tested against real Go, not proved from fmt's source: count such statements apart). THE CARD IS WHAT COUNTS. Prove the row's statement (the work); the ties are given (YtnnegldaekmgbaaGreatDoorTie.lean); close each card by the builder's one call (the guide's Derived/Test/ToyasCard.lean, 'card_holds'). Laid BY PROGRAM, IN A SANDBOX (cutbox-door.mjs). By AI agents, Wed Nov 11 2026. No macro, syntax, notation, axiom, sorry.
-/
import Derived.Test.YtnnegldaekmgbaaGreatDoorRows
import GoSem.ClaimSeven
namespace Go.Proofs.YtnnegldaekmgbaaGreatDoor
namespace Rows

/-- THE TIED CARD OF 'catenarylaw26.CallerOnce'. -/
def callerOnceCard : Claim7 := { stood := { row := callerOnceRow, standIns := [], harness := (true, "6a919b4a979c49e5877cd490c6b1f9169e4c45c3e82f860c28ff133dcd29a07b"), looks := false }, kinds := [], alts := [], laidByText := true, laidKinds := [.data], laidTests := true, laidLooks := .later }
def CallerOnceCardSaid : Prop := Claim7.holds Tryz.pinned (.plain (OpenSpec.ofChange callerOnceSpec)) callerOnceCard

/-- THE TIED CARD OF 'catenarylaw26.CallerPlays'. -/
def callerPlaysCard : Claim7 := { stood := { row := callerPlaysRow, standIns := [], harness := (true, "6a919b4a979c49e5877cd490c6b1f9169e4c45c3e82f860c28ff133dcd29a07b"), looks := false }, kinds := [], alts := [], laidByText := true, laidKinds := [.data], laidTests := true, laidLooks := .later }
def CallerPlaysCardSaid : Prop := Claim7.holds Tryz.pinned (.plain (OpenSpec.ofChange callerPlaysSpec)) callerPlaysCard

/-- THE TIED CARD OF 'catenarylaw26.CallerNil'. -/
def callerNilCard : Claim7 := { stood := { row := callerNilRow, standIns := [], harness := (true, "6a919b4a979c49e5877cd490c6b1f9169e4c45c3e82f860c28ff133dcd29a07b"), looks := false }, kinds := [], alts := [], laidByText := true, laidKinds := [.data], laidTests := true, laidLooks := .later }
def CallerNilCardSaid : Prop := Claim7.holds Tryz.pinned (.plain (OpenSpec.ofChange callerNilSpec)) callerNilCard

/-- THE TIED CARD OF 'catenarylaw34.NetComes'. -/
def netComesCard : Claim7 := { stood := { row := netComesRow, standIns := [], harness := (true, "6a919b4a979c49e5877cd490c6b1f9169e4c45c3e82f860c28ff133dcd29a07b"), looks := false }, kinds := [], alts := [], laidByText := true, laidKinds := [.data], laidTests := true, laidLooks := .later }
def NetComesCardSaid : Prop := Claim7.holds Tryz.pinned (.plain (OpenSpec.ofChange netComesSpec)) netComesCard

/-- THE TIED CARD OF 'catenarylaw34.NetPlays'. -/
def netPlaysCard : Claim7 := { stood := { row := netPlaysRow, standIns := [], harness := (true, "6a919b4a979c49e5877cd490c6b1f9169e4c45c3e82f860c28ff133dcd29a07b"), looks := false }, kinds := [], alts := [], laidByText := true, laidKinds := [.data], laidTests := true, laidLooks := .later }
def NetPlaysCardSaid : Prop := Claim7.holds Tryz.pinned (.plain (OpenSpec.ofChange netPlaysSpec)) netPlaysCard

/-- THE TIED CARD OF 'catenarylaw34.NetNil'. -/
def netNilCard : Claim7 := { stood := { row := netNilRow, standIns := [], harness := (true, "6a919b4a979c49e5877cd490c6b1f9169e4c45c3e82f860c28ff133dcd29a07b"), looks := false }, kinds := [], alts := [], laidByText := true, laidKinds := [.data], laidTests := true, laidLooks := .later }
def NetNilCardSaid : Prop := Claim7.holds Tryz.pinned (.plain (OpenSpec.ofChange netNilSpec)) netNilCard

/-- THE SECOND FORM's CARD OF 'catenarylaw26.CallerOnce'. -/
def callerOnceUptoCard : Claim7 := { stood := { row := callerOnceUptoRow, standIns := [], harness := (true, "6a919b4a979c49e5877cd490c6b1f9169e4c45c3e82f860c28ff133dcd29a07b"), looks := false }, kinds := [], alts := [], laidByText := true, laidKinds := [.data], laidTests := true, laidLooks := .later }
def CallerOnceUptoCardSaid : Prop := Claim7.holds Tryz.pinned (.plain (OpenSpec.upto callerOnceSpec)) callerOnceUptoCard

/-- THE SECOND FORM's CARD OF 'catenarylaw26.CallerPlays'. -/
def callerPlaysUptoCard : Claim7 := { stood := { row := callerPlaysUptoRow, standIns := [], harness := (true, "6a919b4a979c49e5877cd490c6b1f9169e4c45c3e82f860c28ff133dcd29a07b"), looks := false }, kinds := [], alts := [], laidByText := true, laidKinds := [.data], laidTests := true, laidLooks := .later }
def CallerPlaysUptoCardSaid : Prop := Claim7.holds Tryz.pinned (.plain (OpenSpec.upto callerPlaysSpec)) callerPlaysUptoCard

/-- THE SECOND FORM's CARD OF 'catenarylaw26.CallerNil'. -/
def callerNilUptoCard : Claim7 := { stood := { row := callerNilUptoRow, standIns := [], harness := (true, "6a919b4a979c49e5877cd490c6b1f9169e4c45c3e82f860c28ff133dcd29a07b"), looks := false }, kinds := [], alts := [], laidByText := true, laidKinds := [.data], laidTests := true, laidLooks := .later }
def CallerNilUptoCardSaid : Prop := Claim7.holds Tryz.pinned (.plain (OpenSpec.upto callerNilSpec)) callerNilUptoCard

/-- THE SECOND FORM's CARD OF 'catenarylaw34.NetComes'. -/
def netComesUptoCard : Claim7 := { stood := { row := netComesUptoRow, standIns := [], harness := (true, "6a919b4a979c49e5877cd490c6b1f9169e4c45c3e82f860c28ff133dcd29a07b"), looks := false }, kinds := [], alts := [], laidByText := true, laidKinds := [.data], laidTests := true, laidLooks := .later }
def NetComesUptoCardSaid : Prop := Claim7.holds Tryz.pinned (.plain (OpenSpec.upto netComesSpec)) netComesUptoCard

/-- THE SECOND FORM's CARD OF 'catenarylaw34.NetPlays'. -/
def netPlaysUptoCard : Claim7 := { stood := { row := netPlaysUptoRow, standIns := [], harness := (true, "6a919b4a979c49e5877cd490c6b1f9169e4c45c3e82f860c28ff133dcd29a07b"), looks := false }, kinds := [], alts := [], laidByText := true, laidKinds := [.data], laidTests := true, laidLooks := .later }
def NetPlaysUptoCardSaid : Prop := Claim7.holds Tryz.pinned (.plain (OpenSpec.upto netPlaysSpec)) netPlaysUptoCard

/-- THE SECOND FORM's CARD OF 'catenarylaw34.NetNil'. -/
def netNilUptoCard : Claim7 := { stood := { row := netNilUptoRow, standIns := [], harness := (true, "6a919b4a979c49e5877cd490c6b1f9169e4c45c3e82f860c28ff133dcd29a07b"), looks := false }, kinds := [], alts := [], laidByText := true, laidKinds := [.data], laidTests := true, laidLooks := .later }
def NetNilUptoCardSaid : Prop := Claim7.holds Tryz.pinned (.plain (OpenSpec.upto netNilSpec)) netNilUptoCard
end Rows
end Go.Proofs.YtnnegldaekmgbaaGreatDoor
