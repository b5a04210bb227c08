/-
  No cell of these rows narrows 'for every input' (looked for: loops, veiled, ifaces, maps, wideKeys, modest, calm, conditions, laid).
  DERIVED. THE GIVEN ROWS OF THIS SEAT. 4 by the template 'for every input the law returns true; each argument reads behind the call as it read before'; 0 by the template 'total and deterministic' (their statements: YtpkmbnmlepmceaaTotals.lean).
  GIVEN WITH THE SEED: the statements are not yours to turn. If you find one false, say at which input.
  Laid BY PROGRAM, IN A SANDBOX (cutbox-rows.mjs): the forced cells as the released guide's own fill.sh prints them over the translation cef479cea8fa47c8… (all of the seat's roots in one cut). By AI agents, Wed Nov 11 2026. No macro, syntax, notation, axiom, sorry.
-/
import Derived.Test.YtpkmbnmlepmceaaChecked
import GoSem.Claim
import GoSem.ClaimJoined
import GoSem.ClaimMapViews
import Derived.JoinedTies
import Derived.KernelRfl
namespace Go.Proofs.Ytpkmbnmlepmceaa
/- THE CELL 'sum', in the pinned program and in every row, IS THE sha256 OF THE DUMP (.gsa) THAT YtpkmbnmlepmceaaProg.lean LOADS. Nothing in Lean hashes anything: it is a label: what it is worth is what the hold of that sum in a sandbox is worth. -/
noncomputable def Try.pinned : Pinned := { name := "ytpkmbnmlepmceaa", sum := "cef479cea8fa47c8256cdea1578fa079ce1867823dec3d8f118a5a2227ed8d58", checked := Try.checked }
namespace Rows
def none {H : Type} : Left H := { results := [], args := [] }

/-- 'catenarylaw06.BagGoes': WHATEVER THE INPUT: true; the input reads as it did. -/
def bagGoesSpec : ChangeSpec := { name := "bagGoes", fn := fun _ => fun
  | [d1, d2] => { results := [.lit (.bool true)], args := [d1, d2] }
  | _ => none }
def bagGoesRow : OpenClaim := { program := "ytpkmbnmlepmceaa", sum := "cef479cea8fa47c8256cdea1578fa079ce1867823dec3d8f118a5a2227ed8d58", func := "catenary/catenarylaw06.BagGoes", spec := "bagGoes", unfollowed := true, recurses := true, apart := false }
def BagGoesSaid : Prop := bagGoesRow.holds Try.pinned (OpenSpec.ofChange bagGoesSpec)

/-- ITS FALSE NEIGHBOUR: 'it returns false'. Refute it at one input. -/
def bagGoesWrong : ChangeSpec := { name := "bagGoes", fn := fun _ => fun
  | [d1, d2] => { results := [.lit (.bool false)], args := [d1, d2] }
  | _ => none }
def BagGoesWrongFalsely : Prop := bagGoesRow.holds Try.pinned (OpenSpec.ofChange bagGoesWrong)

/-- 'catenarylaw06.BagRises': WHATEVER THE INPUT: true; the input reads as it did. -/
def bagRisesSpec : ChangeSpec := { name := "bagRises", fn := fun _ => fun
  | [d] => { results := [.lit (.bool true)], args := [d] }
  | _ => none }
def bagRisesRow : OpenClaim := { program := "ytpkmbnmlepmceaa", sum := "cef479cea8fa47c8256cdea1578fa079ce1867823dec3d8f118a5a2227ed8d58", func := "catenary/catenarylaw06.BagRises", spec := "bagRises", unfollowed := true, recurses := true, apart := false }
def BagRisesSaid : Prop := bagRisesRow.holds Try.pinned (OpenSpec.ofChange bagRisesSpec)

/-- ITS FALSE NEIGHBOUR: 'it returns false'. Refute it at one input. -/
def bagRisesWrong : ChangeSpec := { name := "bagRises", fn := fun _ => fun
  | [d] => { results := [.lit (.bool false)], args := [d] }
  | _ => none }
def BagRisesWrongFalsely : Prop := bagRisesRow.holds Try.pinned (OpenSpec.ofChange bagRisesWrong)

/-- 'catenarylaw06.BagPlays': WHATEVER THE INPUT: true; the input reads as it did. -/
def bagPlaysSpec : ChangeSpec := { name := "bagPlays", fn := fun _ => fun
  | [d1, d2] => { results := [.lit (.bool true)], args := [d1, d2] }
  | _ => none }
def bagPlaysRow : OpenClaim := { program := "ytpkmbnmlepmceaa", sum := "cef479cea8fa47c8256cdea1578fa079ce1867823dec3d8f118a5a2227ed8d58", func := "catenary/catenarylaw06.BagPlays", spec := "bagPlays", unfollowed := true, recurses := true, apart := false }
def BagPlaysSaid : Prop := bagPlaysRow.holds Try.pinned (OpenSpec.ofChange bagPlaysSpec)

/-- ITS FALSE NEIGHBOUR: 'it returns false'. Refute it at one input. -/
def bagPlaysWrong : ChangeSpec := { name := "bagPlays", fn := fun _ => fun
  | [d1, d2] => { results := [.lit (.bool false)], args := [d1, d2] }
  | _ => none }
def BagPlaysWrongFalsely : Prop := bagPlaysRow.holds Try.pinned (OpenSpec.ofChange bagPlaysWrong)

/-- 'catenarylaw06.BagNil': WHATEVER THE INPUT: true; the input reads as it did. -/
def bagNilSpec : ChangeSpec := { name := "bagNil", fn := fun _ => fun
  | [d1, d2] => { results := [.lit (.bool true)], args := [d1, d2] }
  | _ => none }
def bagNilRow : OpenClaim := { program := "ytpkmbnmlepmceaa", sum := "cef479cea8fa47c8256cdea1578fa079ce1867823dec3d8f118a5a2227ed8d58", func := "catenary/catenarylaw06.BagNil", spec := "bagNil", unfollowed := true, recurses := true, apart := false }
def BagNilSaid : Prop := bagNilRow.holds Try.pinned (OpenSpec.ofChange bagNilSpec)

/-- ITS FALSE NEIGHBOUR: 'it returns false'. Refute it at one input. -/
def bagNilWrong : ChangeSpec := { name := "bagNil", fn := fun _ => fun
  | [d1, d2] => { results := [.lit (.bool false)], args := [d1, d2] }
  | _ => none }
def BagNilWrongFalsely : Prop := bagNilRow.holds Try.pinned (OpenSpec.ofChange bagNilWrong)

/- THE SECOND FORM. 'bulk': how many values and letters a reading holds, each counted each time it is reached (what is shared counts as often as it is met; a slice's spare places count too). A statement '..UptoSaid' is the law's where the arguments, and the package variables that the reading takes, are together of bulk at most 1048576: NARROWER than '..Said'. Prove '..Said' where nothing that the law and all that it calls make is longer than what came in: it says more and counts as full. Else prove '..UptoSaid'. A law counts once. -/
mutual
def uptoBulk {H : Type} : DataW H → Nat
  | .lit (.string bytes) => bytes.length + 1
  | .lit _ => 1
  | .nil => 1
  | .ptr d => uptoBulk d + 1
  | .slice elems spare => uptoBulkAll elems + uptoBulkAll spare + 1
  | .agg parts => uptoBulkAll parts + 1
  | .iface _ d => uptoBulk d + 1
  | .map entries => uptoBulkEntries entries + 1
  | .held _ => 1
def uptoBulkAll {H : Type} : List (DataW H) → Nat
  | [] => 0
  | d :: r => uptoBulk d + uptoBulkAll r
def uptoBulkEntries {H : Type} : List (Lit × DataW H) → Nat
  | [] => 0
  | x :: r => uptoBulkEntry x + uptoBulkEntries r
def uptoBulkEntry {H : Type} : Lit × DataW H → Nat
  | (.string bytes, d) => bytes.length + uptoBulk d + 1
  | (_, d) => uptoBulk d + 1
 end
def uptoSmall : (H : Type) → List (DataW H) → Bool := fun _ ds => decide (uptoBulkAll ds ≤ 1048576)
def OpenSpec.upto (s : _root_.Go.ChangeSpec) : _root_.Go.OpenSpec := { _root_.Go.OpenSpec.ofChange s with cond := some uptoSmall }

/-- 'catenarylaw06.BagGoes', WHERE WHAT IT READS IS OF BULK AT MOST 1048576: true; the input reads as it did. -/
def bagGoesUptoRow : OpenClaim := { program := "ytpkmbnmlepmceaa", sum := "cef479cea8fa47c8256cdea1578fa079ce1867823dec3d8f118a5a2227ed8d58", func := "catenary/catenarylaw06.BagGoes", spec := "bagGoes", unfollowed := true, recurses := true, apart := false, narrowed := true }
def BagGoesUptoSaid : Prop := bagGoesUptoRow.holds Try.pinned (OpenSpec.upto bagGoesSpec)

/-- 'catenarylaw06.BagRises', WHERE WHAT IT READS IS OF BULK AT MOST 1048576: true; the input reads as it did. -/
def bagRisesUptoRow : OpenClaim := { program := "ytpkmbnmlepmceaa", sum := "cef479cea8fa47c8256cdea1578fa079ce1867823dec3d8f118a5a2227ed8d58", func := "catenary/catenarylaw06.BagRises", spec := "bagRises", unfollowed := true, recurses := true, apart := false, narrowed := true }
def BagRisesUptoSaid : Prop := bagRisesUptoRow.holds Try.pinned (OpenSpec.upto bagRisesSpec)

/-- 'catenarylaw06.BagPlays', WHERE WHAT IT READS IS OF BULK AT MOST 1048576: true; the input reads as it did. -/
def bagPlaysUptoRow : OpenClaim := { program := "ytpkmbnmlepmceaa", sum := "cef479cea8fa47c8256cdea1578fa079ce1867823dec3d8f118a5a2227ed8d58", func := "catenary/catenarylaw06.BagPlays", spec := "bagPlays", unfollowed := true, recurses := true, apart := false, narrowed := true }
def BagPlaysUptoSaid : Prop := bagPlaysUptoRow.holds Try.pinned (OpenSpec.upto bagPlaysSpec)

/-- 'catenarylaw06.BagNil', WHERE WHAT IT READS IS OF BULK AT MOST 1048576: true; the input reads as it did. -/
def bagNilUptoRow : OpenClaim := { program := "ytpkmbnmlepmceaa", sum := "cef479cea8fa47c8256cdea1578fa079ce1867823dec3d8f118a5a2227ed8d58", func := "catenary/catenarylaw06.BagNil", spec := "bagNil", unfollowed := true, recurses := true, apart := false, narrowed := true }
def BagNilUptoSaid : Prop := bagNilUptoRow.holds Try.pinned (OpenSpec.upto bagNilSpec)

end Rows
end Go.Proofs.Ytpkmbnmlepmceaa
