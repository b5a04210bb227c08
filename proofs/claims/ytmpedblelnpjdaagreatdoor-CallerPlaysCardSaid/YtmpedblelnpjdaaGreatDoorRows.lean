/-
  NARROWER THAN 'FOR EVERY INPUT', by the rows' own cells (each row's printed sentence says how): LetterDecodes: laid · LetterTurned: laid · CallerPlays: laid · NetPlays: laid.
  DERIVED. THE GIVEN ROWS OF THIS SEAT. 4 by the template 'for every input the law returns true; each argument reads behind the call as it read before'; 0 by the template 'total and deterministic' (their statements: YtmpedblelnpjdaaGreatDoorTotals.lean).
  GIVEN WITH THE SEED: the statements are not yours to turn. If you find one false, say at which input.
  Laid BY PROGRAM, IN A SANDBOX (cutbox-rows.mjs): the forced cells as the released guide's own fill.sh prints them over the translation 22a997bd9598fac3… (all of the seat's roots in one cut). By AI agents, Wed Nov 11 2026. No macro, syntax, notation, axiom, sorry.
-/
import Derived.Test.YtmpedblelnpjdaaGreatDoorChecked
import GoSem.Claim
import GoSem.ClaimJoined
import GoSem.ClaimMapViews
import Derived.JoinedTies
import Derived.KernelRfl
namespace Go.Proofs.YtmpedblelnpjdaaGreatDoor
/- THE CELL 'sum', in the pinned program and in every row, IS THE sha256 OF THE DUMP (.gsa) THAT YtmpedblelnpjdaaGreatDoorProg.lean LOADS. Nothing in Lean hashes anything: it is a label: what it is worth is what the hold of that sum in a sandbox is worth. -/
noncomputable def Tryz.pinned : Pinned := { name := "ytmpedblelnpjdaagreatdoor", sum := "22a997bd9598fac30e2d3726b6dc8c57a9485d20e05a70e34ffed353657cdb23", checked := Tryz.checked }
namespace Rows
def none {H : Type} : Left H := { results := [], args := [] }

/- WHAT THE LISTED PACKAGE-LEVEL VARIABLES READ AS WHEN THE CALL BEGINS. Each datum BY PROGRAM (the guide's laid-datum.mjs) off the statement by which the dump's own 'gosem.cut.vars' lays the variable. In a bare row this is a premise. The card (YtmpedblelnpjdaaGreatDoorCards.lean) ties it to the program's text. -/
def laid_catenary_letter_kinds {H : Type} : DataW H := .agg [.agg [.lit (.string []), .agg [.lit (.int .i64 0), .lit (.int .i64 0), .lit (.int .i64 0), .lit (.int .i64 0), .lit (.int .i64 0), .lit (.int .i64 0)]], .agg [.lit (.string [112, 114, 101, 112, 97, 114, 101]), .agg [.lit (.int .i64 4), .lit (.int .i64 32), .lit (.int .i64 0), .lit (.int .i64 0), .lit (.int .i64 0), .lit (.int .i64 0)]], .agg [.lit (.string [112, 114, 111, 109, 105, 115, 101]), .agg [.lit (.int .i64 4), .lit (.int .i64 32), .lit (.int .i64 4096), .lit (.int .i64 0), .lit (.int .i64 0), .lit (.int .i64 0)]], .agg [.lit (.string [97, 99, 99, 101, 112, 116]), .agg [.lit (.int .i64 4), .lit (.int .i64 32), .lit (.int .i64 1024), .lit (.int .i64 0), .lit (.int .i64 0), .lit (.int .i64 0)]], .agg [.lit (.string [97, 99, 99, 101, 112, 116, 101, 100]), .agg [.lit (.int .i64 4), .lit (.int .i64 32), .lit (.int .i64 0), .lit (.int .i64 0), .lit (.int .i64 0), .lit (.int .i64 0)]], .agg [.lit (.string [99, 104, 111, 115, 101, 110]), .agg [.lit (.int .i64 32), .lit (.int .i64 1024), .lit (.int .i64 0), .lit (.int .i64 0), .lit (.int .i64 0), .lit (.int .i64 0)]], .agg [.lit (.string [98, 101, 97, 116]), .agg [.lit (.int .i64 4), .lit (.int .i64 32), .lit (.int .i64 0), .lit (.int .i64 0), .lit (.int .i64 0), .lit (.int .i64 0)]], .agg [.lit (.string [119, 97, 110, 116]), .agg [.lit (.int .i64 32), .lit (.int .i64 0), .lit (.int .i64 0), .lit (.int .i64 0), .lit (.int .i64 0), .lit (.int .i64 0)]], .agg [.lit (.string [114, 101, 102, 117, 115, 101]), .agg [.lit (.int .i64 4), .lit (.int .i64 0), .lit (.int .i64 0), .lit (.int .i64 0), .lit (.int .i64 0), .lit (.int .i64 0)]], .agg [.lit (.string [114, 101, 112, 111, 114, 116]), .agg [.lit (.int .i64 1024), .lit (.int .i64 0), .lit (.int .i64 0), .lit (.int .i64 0), .lit (.int .i64 0), .lit (.int .i64 0)]], .agg [.lit (.string [108, 111, 99, 97, 116, 101]), .agg [.lit (.int .i64 1), .lit (.int .i64 0), .lit (.int .i64 0), .lit (.int .i64 0), .lit (.int .i64 0), .lit (.int .i64 0)]], .agg [.lit (.string [99, 111, 110, 102, 105, 103]), .agg [.lit (.int .i64 2048), .lit (.int .i64 0), .lit (.int .i64 0), .lit (.int .i64 0), .lit (.int .i64 0), .lit (.int .i64 0)]], .agg [.lit (.string [112, 117, 115, 104]), .agg [.lit (.int .i64 1), .lit (.int .i64 2), .lit (.int .i64 8), .lit (.int .i64 16), .lit (.int .i64 8192), .lit (.int .i64 0)]], .agg [.lit (.string [97, 99, 107]), .agg [.lit (.int .i64 1), .lit (.int .i64 2), .lit (.int .i64 8), .lit (.int .i64 16), .lit (.int .i64 64), .lit (.int .i64 32)]], .agg [.lit (.string [112, 97, 114, 116]), .agg [.lit (.int .i64 1), .lit (.int .i64 2), .lit (.int .i64 8), .lit (.int .i64 32), .lit (.int .i64 64), .lit (.int .i64 16384)]], .agg [.lit (.string [113, 117, 101, 114, 121]), .agg [.lit (.int .i64 1), .lit (.int .i64 2), .lit (.int .i64 64), .lit (.int .i64 256), .lit (.int .i64 0), .lit (.int .i64 0)]], .agg [.lit (.string [116, 111, 108, 100]), .agg [.lit (.int .i64 1), .lit (.int .i64 2), .lit (.int .i64 64), .lit (.int .i64 256), .lit (.int .i64 512), .lit (.int .i64 0)]], .agg [.lit (.string [119, 114, 105, 116, 101]), .agg [.lit (.int .i64 1), .lit (.int .i64 2), .lit (.int .i64 8192), .lit (.int .i64 0), .lit (.int .i64 0), .lit (.int .i64 0)]], .agg [.lit (.string [119, 114, 111, 116, 101]), .agg [.lit (.int .i64 64), .lit (.int .i64 128), .lit (.int .i64 512), .lit (.int .i64 0), .lit (.int .i64 0), .lit (.int .i64 0)]], .agg [.lit (.string [114, 101, 97, 100]), .agg [.lit (.int .i64 1), .lit (.int .i64 2), .lit (.int .i64 64), .lit (.int .i64 256), .lit (.int .i64 0), .lit (.int .i64 0)]], .agg [.lit (.string [103, 111, 116]), .agg [.lit (.int .i64 64), .lit (.int .i64 256), .lit (.int .i64 512), .lit (.int .i64 16384), .lit (.int .i64 0), .lit (.int .i64 0)]]]

/-- 'catenarylaw10.LetterDecodes': WHATEVER THE INPUT: true; the input reads as it did. -/
def letterDecodesSpec : ChangeSpec := { name := "letterDecodes", fn := fun _ => fun
  | [d] => { results := [.lit (.bool true)], args := [d] }
  | _ => none }
def letterDecodesRow : OpenClaim := { program := "ytmpedblelnpjdaagreatdoor", sum := "22a997bd9598fac30e2d3726b6dc8c57a9485d20e05a70e34ffed353657cdb23", func := "catenary/catenarylaw10.LetterDecodes", spec := "letterDecodes", inPlace := ["sync/atomic.AddInt32", "sync/atomic.LoadUint32", "(*internal/sync.Mutex).Lock", "internal/race.Disable", "sync/atomic.CompareAndSwapInt32", "internal/race.Enable", "internal/race.Acquire", "(*internal/sync.Mutex).lockSlow", "internal/sync.runtime_canSpin", "internal/sync.runtime_doSpin", "internal/sync.throw", "internal/sync.runtime_nanotime", "internal/sync.runtime_SemacquireMutex", "(*internal/sync.Mutex).Unlock", "internal/race.ReleaseMerge", "(*internal/sync.Mutex).unlockSlow", "internal/sync.fatal", "internal/sync.runtime_Semrelease", "sync/atomic.StoreUint32", "sync/atomic.AddUint64"], unfollowed := true, recurses := true, named := ["catenary/letter.kinds"], apart := false, laid := [("catenary/letter.kinds", laid_catenary_letter_kinds)] }
def LetterDecodesSaid : Prop := letterDecodesRow.holds Tryz.pinned (OpenSpec.ofChange letterDecodesSpec)

/-- ITS FALSE NEIGHBOUR: 'it returns false'. Refute it at one input. -/
def letterDecodesWrong : ChangeSpec := { name := "letterDecodes", fn := fun _ => fun
  | [d] => { results := [.lit (.bool false)], args := [d] }
  | _ => none }
def LetterDecodesWrongFalsely : Prop := letterDecodesRow.holds Tryz.pinned (OpenSpec.ofChange letterDecodesWrong)

/-- 'catenarylaw10.LetterTurned': WHATEVER THE INPUT: true; the input reads as it did. -/
def letterTurnedSpec : ChangeSpec := { name := "letterTurned", fn := fun _ => fun
  | [d1, d2, d3] => { results := [.lit (.bool true)], args := [d1, d2, d3] }
  | _ => none }
def letterTurnedRow : OpenClaim := { program := "ytmpedblelnpjdaagreatdoor", sum := "22a997bd9598fac30e2d3726b6dc8c57a9485d20e05a70e34ffed353657cdb23", func := "catenary/catenarylaw10.LetterTurned", spec := "letterTurned", inPlace := ["sync/atomic.AddInt32", "sync/atomic.LoadUint32", "(*internal/sync.Mutex).Lock", "internal/race.Disable", "sync/atomic.CompareAndSwapInt32", "internal/race.Enable", "internal/race.Acquire", "(*internal/sync.Mutex).lockSlow", "internal/sync.runtime_canSpin", "internal/sync.runtime_doSpin", "internal/sync.throw", "internal/sync.runtime_nanotime", "internal/sync.runtime_SemacquireMutex", "(*internal/sync.Mutex).Unlock", "internal/race.ReleaseMerge", "(*internal/sync.Mutex).unlockSlow", "internal/sync.fatal", "internal/sync.runtime_Semrelease", "sync/atomic.StoreUint32", "sync/atomic.AddUint64"], unfollowed := true, recurses := true, named := ["catenary/letter.kinds"], apart := false, laid := [("catenary/letter.kinds", laid_catenary_letter_kinds)] }
def LetterTurnedSaid : Prop := letterTurnedRow.holds Tryz.pinned (OpenSpec.ofChange letterTurnedSpec)

/-- ITS FALSE NEIGHBOUR: 'it returns false'. Refute it at one input. -/
def letterTurnedWrong : ChangeSpec := { name := "letterTurned", fn := fun _ => fun
  | [d1, d2, d3] => { results := [.lit (.bool false)], args := [d1, d2, d3] }
  | _ => none }
def LetterTurnedWrongFalsely : Prop := letterTurnedRow.holds Tryz.pinned (OpenSpec.ofChange letterTurnedWrong)

/-- 'catenarylaw26.CallerPlays': WHATEVER THE INPUT: true; the input reads as it did. -/
def callerPlaysSpec : ChangeSpec := { name := "callerPlays", fn := fun _ => fun
  | [d1, d2, d3] => { results := [.lit (.bool true)], args := [d1, d2, d3] }
  | _ => none }
def callerPlaysRow : OpenClaim := { program := "ytmpedblelnpjdaagreatdoor", sum := "22a997bd9598fac30e2d3726b6dc8c57a9485d20e05a70e34ffed353657cdb23", func := "catenary/catenarylaw26.CallerPlays", spec := "callerPlays", inPlace := ["sync/atomic.LoadUint32", "sync/atomic.StoreUint32", "(*internal/sync.Mutex).Lock", "internal/race.Disable", "sync/atomic.CompareAndSwapInt32", "internal/race.Enable", "internal/race.Acquire", "(*internal/sync.Mutex).lockSlow", "internal/sync.runtime_canSpin", "internal/sync.runtime_doSpin", "internal/sync.throw", "internal/sync.runtime_nanotime", "internal/sync.runtime_SemacquireMutex", "sync/atomic.AddInt32", "(*internal/sync.Mutex).Unlock", "internal/race.ReleaseMerge", "(*internal/sync.Mutex).unlockSlow", "internal/sync.fatal", "internal/sync.runtime_Semrelease"], unfollowed := true, recurses := true, named := ["catenary/letter.kinds"], apart := false, laid := [("catenary/letter.kinds", laid_catenary_letter_kinds)] }
def CallerPlaysSaid : Prop := callerPlaysRow.holds Tryz.pinned (OpenSpec.ofChange callerPlaysSpec)

/-- ITS FALSE NEIGHBOUR: 'it returns false'. Refute it at one input. -/
def callerPlaysWrong : ChangeSpec := { name := "callerPlays", fn := fun _ => fun
  | [d1, d2, d3] => { results := [.lit (.bool false)], args := [d1, d2, d3] }
  | _ => none }
def CallerPlaysWrongFalsely : Prop := callerPlaysRow.holds Tryz.pinned (OpenSpec.ofChange callerPlaysWrong)

/-- 'catenarylaw34.NetPlays': WHATEVER THE INPUT: true; the input reads as it did. -/
def netPlaysSpec : ChangeSpec := { name := "netPlays", fn := fun _ => fun
  | [d1, d2] => { results := [.lit (.bool true)], args := [d1, d2] }
  | _ => none }
def netPlaysRow : OpenClaim := { program := "ytmpedblelnpjdaagreatdoor", sum := "22a997bd9598fac30e2d3726b6dc8c57a9485d20e05a70e34ffed353657cdb23", func := "catenary/catenarylaw34.NetPlays", spec := "netPlays", inPlace := ["sync/atomic.AddInt32", "sync/atomic.LoadUint32", "(*internal/sync.Mutex).Lock", "internal/race.Disable", "sync/atomic.CompareAndSwapInt32", "internal/race.Enable", "internal/race.Acquire", "(*internal/sync.Mutex).lockSlow", "internal/sync.runtime_canSpin", "internal/sync.runtime_doSpin", "internal/sync.throw", "internal/sync.runtime_nanotime", "internal/sync.runtime_SemacquireMutex", "(*internal/sync.Mutex).Unlock", "internal/race.ReleaseMerge", "(*internal/sync.Mutex).unlockSlow", "internal/sync.fatal", "internal/sync.runtime_Semrelease", "sync/atomic.StoreUint32", "sync/atomic.AddInt64", "sync/atomic.AddUint64", "sync/atomic.LoadInt64"], unfollowed := true, recurses := true, named := ["catenary/letter.kinds"], apart := false, laid := [("catenary/letter.kinds", laid_catenary_letter_kinds)] }
def NetPlaysSaid : Prop := netPlaysRow.holds Tryz.pinned (OpenSpec.ofChange netPlaysSpec)

/-- ITS FALSE NEIGHBOUR: 'it returns false'. Refute it at one input. -/
def netPlaysWrong : ChangeSpec := { name := "netPlays", fn := fun _ => fun
  | [d1, d2] => { results := [.lit (.bool false)], args := [d1, d2] }
  | _ => none }
def NetPlaysWrongFalsely : Prop := netPlaysRow.holds Tryz.pinned (OpenSpec.ofChange netPlaysWrong)

/- THE SECOND FORM. 'bulk': how many values and letters a reading holds, each counted each time it is reached (what is shared counts as often as it is met; a slice's spare places count too). A statement '..UptoSaid' is the law's where the arguments, and the package variables that the reading takes, are together of bulk at most 1048576: NARROWER than '..Said'. Prove '..Said' where nothing that the law and all that it calls make is longer than what came in: it says more and counts as full. Else prove '..UptoSaid'. A law counts once. -/
mutual
def uptoBulk {H : Type} : DataW H → Nat
  | .lit (.string bytes) => bytes.length + 1
  | .lit _ => 1
  | .nil => 1
  | .ptr d => uptoBulk d + 1
  | .slice elems spare => uptoBulkAll elems + uptoBulkAll spare + 1
  | .agg parts => uptoBulkAll parts + 1
  | .iface _ d => uptoBulk d + 1
  | .map entries => uptoBulkEntries entries + 1
  | .held _ => 1
def uptoBulkAll {H : Type} : List (DataW H) → Nat
  | [] => 0
  | d :: r => uptoBulk d + uptoBulkAll r
def uptoBulkEntries {H : Type} : List (Lit × DataW H) → Nat
  | [] => 0
  | x :: r => uptoBulkEntry x + uptoBulkEntries r
def uptoBulkEntry {H : Type} : Lit × DataW H → Nat
  | (.string bytes, d) => bytes.length + uptoBulk d + 1
  | (_, d) => uptoBulk d + 1
 end
def uptoSmall : (H : Type) → List (DataW H) → Bool := fun _ ds => decide (uptoBulkAll ds ≤ 1048576)
def OpenSpec.upto (s : _root_.Go.ChangeSpec) : _root_.Go.OpenSpec := { _root_.Go.OpenSpec.ofChange s with cond := some uptoSmall }

/-- 'catenarylaw10.LetterDecodes', WHERE WHAT IT READS IS OF BULK AT MOST 1048576: true; the input reads as it did. -/
def letterDecodesUptoRow : OpenClaim := { program := "ytmpedblelnpjdaagreatdoor", sum := "22a997bd9598fac30e2d3726b6dc8c57a9485d20e05a70e34ffed353657cdb23", func := "catenary/catenarylaw10.LetterDecodes", spec := "letterDecodes", inPlace := ["sync/atomic.AddInt32", "sync/atomic.LoadUint32", "(*internal/sync.Mutex).Lock", "internal/race.Disable", "sync/atomic.CompareAndSwapInt32", "internal/race.Enable", "internal/race.Acquire", "(*internal/sync.Mutex).lockSlow", "internal/sync.runtime_canSpin", "internal/sync.runtime_doSpin", "internal/sync.throw", "internal/sync.runtime_nanotime", "internal/sync.runtime_SemacquireMutex", "(*internal/sync.Mutex).Unlock", "internal/race.ReleaseMerge", "(*internal/sync.Mutex).unlockSlow", "internal/sync.fatal", "internal/sync.runtime_Semrelease", "sync/atomic.StoreUint32", "sync/atomic.AddUint64"], unfollowed := true, recurses := true, named := ["catenary/letter.kinds"], apart := false, laid := [("catenary/letter.kinds", laid_catenary_letter_kinds)], narrowed := true }
def LetterDecodesUptoSaid : Prop := letterDecodesUptoRow.holds Tryz.pinned (OpenSpec.upto letterDecodesSpec)

/-- 'catenarylaw10.LetterTurned', WHERE WHAT IT READS IS OF BULK AT MOST 1048576: true; the input reads as it did. -/
def letterTurnedUptoRow : OpenClaim := { program := "ytmpedblelnpjdaagreatdoor", sum := "22a997bd9598fac30e2d3726b6dc8c57a9485d20e05a70e34ffed353657cdb23", func := "catenary/catenarylaw10.LetterTurned", spec := "letterTurned", inPlace := ["sync/atomic.AddInt32", "sync/atomic.LoadUint32", "(*internal/sync.Mutex).Lock", "internal/race.Disable", "sync/atomic.CompareAndSwapInt32", "internal/race.Enable", "internal/race.Acquire", "(*internal/sync.Mutex).lockSlow", "internal/sync.runtime_canSpin", "internal/sync.runtime_doSpin", "internal/sync.throw", "internal/sync.runtime_nanotime", "internal/sync.runtime_SemacquireMutex", "(*internal/sync.Mutex).Unlock", "internal/race.ReleaseMerge", "(*internal/sync.Mutex).unlockSlow", "internal/sync.fatal", "internal/sync.runtime_Semrelease", "sync/atomic.StoreUint32", "sync/atomic.AddUint64"], unfollowed := true, recurses := true, named := ["catenary/letter.kinds"], apart := false, laid := [("catenary/letter.kinds", laid_catenary_letter_kinds)], narrowed := true }
def LetterTurnedUptoSaid : Prop := letterTurnedUptoRow.holds Tryz.pinned (OpenSpec.upto letterTurnedSpec)

/-- 'catenarylaw26.CallerPlays', WHERE WHAT IT READS IS OF BULK AT MOST 1048576: true; the input reads as it did. -/
def callerPlaysUptoRow : OpenClaim := { program := "ytmpedblelnpjdaagreatdoor", sum := "22a997bd9598fac30e2d3726b6dc8c57a9485d20e05a70e34ffed353657cdb23", func := "catenary/catenarylaw26.CallerPlays", spec := "callerPlays", inPlace := ["sync/atomic.LoadUint32", "sync/atomic.StoreUint32", "(*internal/sync.Mutex).Lock", "internal/race.Disable", "sync/atomic.CompareAndSwapInt32", "internal/race.Enable", "internal/race.Acquire", "(*internal/sync.Mutex).lockSlow", "internal/sync.runtime_canSpin", "internal/sync.runtime_doSpin", "internal/sync.throw", "internal/sync.runtime_nanotime", "internal/sync.runtime_SemacquireMutex", "sync/atomic.AddInt32", "(*internal/sync.Mutex).Unlock", "internal/race.ReleaseMerge", "(*internal/sync.Mutex).unlockSlow", "internal/sync.fatal", "internal/sync.runtime_Semrelease"], unfollowed := true, recurses := true, named := ["catenary/letter.kinds"], apart := false, laid := [("catenary/letter.kinds", laid_catenary_letter_kinds)], narrowed := true }
def CallerPlaysUptoSaid : Prop := callerPlaysUptoRow.holds Tryz.pinned (OpenSpec.upto callerPlaysSpec)

/-- 'catenarylaw34.NetPlays', WHERE WHAT IT READS IS OF BULK AT MOST 1048576: true; the input reads as it did. -/
def netPlaysUptoRow : OpenClaim := { program := "ytmpedblelnpjdaagreatdoor", sum := "22a997bd9598fac30e2d3726b6dc8c57a9485d20e05a70e34ffed353657cdb23", func := "catenary/catenarylaw34.NetPlays", spec := "netPlays", inPlace := ["sync/atomic.AddInt32", "sync/atomic.LoadUint32", "(*internal/sync.Mutex).Lock", "internal/race.Disable", "sync/atomic.CompareAndSwapInt32", "internal/race.Enable", "internal/race.Acquire", "(*internal/sync.Mutex).lockSlow", "internal/sync.runtime_canSpin", "internal/sync.runtime_doSpin", "internal/sync.throw", "internal/sync.runtime_nanotime", "internal/sync.runtime_SemacquireMutex", "(*internal/sync.Mutex).Unlock", "internal/race.ReleaseMerge", "(*internal/sync.Mutex).unlockSlow", "internal/sync.fatal", "internal/sync.runtime_Semrelease", "sync/atomic.StoreUint32", "sync/atomic.AddInt64", "sync/atomic.AddUint64", "sync/atomic.LoadInt64"], unfollowed := true, recurses := true, named := ["catenary/letter.kinds"], apart := false, laid := [("catenary/letter.kinds", laid_catenary_letter_kinds)], narrowed := true }
def NetPlaysUptoSaid : Prop := netPlaysUptoRow.holds Tryz.pinned (OpenSpec.upto netPlaysSpec)

end Rows
end Go.Proofs.YtmpedblelnpjdaaGreatDoor
