/-
  No cell of these rows narrows 'for every input' (looked for: loops, veiled, ifaces, maps, wideKeys, modest, calm, conditions, laid).
  DERIVED. THE GIVEN ROWS OF THIS SEAT. 5 by the template 'for every input the law returns true; each argument reads behind the call as it read before'; 0 by the template 'total and deterministic' (their statements: YtejjifbjmibapaaTotals.lean).
  GIVEN WITH THE SEED: the statements are not yours to turn. If you find one false, say at which input.
  Laid BY PROGRAM, IN A SANDBOX (cutbox-rows.mjs): the forced cells as the released guide's own fill.sh prints them over the translation 3135dbcf5c665491… (all of the seat's roots in one cut). By AI agents, Wed Nov 11 2026. No macro, syntax, notation, axiom, sorry.
-/
import Derived.Test.YtejjifbjmibapaaChecked
import GoSem.Claim
import GoSem.ClaimJoined
import GoSem.ClaimMapViews
import Derived.JoinedTies
import Derived.KernelRfl
namespace Go.Proofs.Ytejjifbjmibapaa
/- THE CELL 'sum', in the pinned program and in every row, IS THE sha256 OF THE DUMP (.gsa) THAT YtejjifbjmibapaaProg.lean LOADS. Nothing in Lean hashes anything: it is a label: what it is worth is what the hold of that sum in a sandbox is worth. -/
noncomputable def Try.pinned : Pinned := { name := "ytejjifbjmibapaa", sum := "3135dbcf5c665491bc2574845f3da3cec37f050f1c228af3b4f3262667a3d28d", checked := Try.checked }
namespace Rows
def none {H : Type} : Left H := { results := [], args := [] }

/-- 'catenarylaw01.FixPuts': WHATEVER THE INPUT: true; the input reads as it did. -/
def fixPutsSpec : ChangeSpec := { name := "fixPuts", fn := fun _ => fun
  | [d1, d2] => { results := [.lit (.bool true)], args := [d1, d2] }
  | _ => none }
def fixPutsRow : OpenClaim := { program := "ytejjifbjmibapaa", sum := "3135dbcf5c665491bc2574845f3da3cec37f050f1c228af3b4f3262667a3d28d", func := "catenary/catenarylaw01.FixPuts", spec := "fixPuts", apart := false }
def FixPutsSaid : Prop := fixPutsRow.holds Try.pinned (OpenSpec.ofChange fixPutsSpec)

/-- ITS FALSE NEIGHBOUR: 'it returns false'. Refute it at one input. -/
def fixPutsWrong : ChangeSpec := { name := "fixPuts", fn := fun _ => fun
  | [d1, d2] => { results := [.lit (.bool false)], args := [d1, d2] }
  | _ => none }
def FixPutsWrongFalsely : Prop := fixPutsRow.holds Try.pinned (OpenSpec.ofChange fixPutsWrong)

/-- 'catenarylaw01.FixOnce': WHATEVER THE INPUT: true; the input reads as it did. -/
def fixOnceSpec : ChangeSpec := { name := "fixOnce", fn := fun _ => fun
  | [d1, d2] => { results := [.lit (.bool true)], args := [d1, d2] }
  | _ => none }
def fixOnceRow : OpenClaim := { program := "ytejjifbjmibapaa", sum := "3135dbcf5c665491bc2574845f3da3cec37f050f1c228af3b4f3262667a3d28d", func := "catenary/catenarylaw01.FixOnce", spec := "fixOnce", apart := false }
def FixOnceSaid : Prop := fixOnceRow.holds Try.pinned (OpenSpec.ofChange fixOnceSpec)

/-- ITS FALSE NEIGHBOUR: 'it returns false'. Refute it at one input. -/
def fixOnceWrong : ChangeSpec := { name := "fixOnce", fn := fun _ => fun
  | [d1, d2] => { results := [.lit (.bool false)], args := [d1, d2] }
  | _ => none }
def FixOnceWrongFalsely : Prop := fixOnceRow.holds Try.pinned (OpenSpec.ofChange fixOnceWrong)

/-- 'catenarylaw01.FixBack': WHATEVER THE INPUT: true; the input reads as it did. -/
def fixBackSpec : ChangeSpec := { name := "fixBack", fn := fun _ => fun
  | [d] => { results := [.lit (.bool true)], args := [d] }
  | _ => none }
def fixBackRow : OpenClaim := { program := "ytejjifbjmibapaa", sum := "3135dbcf5c665491bc2574845f3da3cec37f050f1c228af3b4f3262667a3d28d", func := "catenary/catenarylaw01.FixBack", spec := "fixBack", apart := false }
def FixBackSaid : Prop := fixBackRow.holds Try.pinned (OpenSpec.ofChange fixBackSpec)

/-- ITS FALSE NEIGHBOUR: 'it returns false'. Refute it at one input. -/
def fixBackWrong : ChangeSpec := { name := "fixBack", fn := fun _ => fun
  | [d] => { results := [.lit (.bool false)], args := [d] }
  | _ => none }
def FixBackWrongFalsely : Prop := fixBackRow.holds Try.pinned (OpenSpec.ofChange fixBackWrong)

/-- 'catenarylaw01.FixReads': WHATEVER THE INPUT: true; the input reads as it did. -/
def fixReadsSpec : ChangeSpec := { name := "fixReads", fn := fun _ => fun
  | [d1, d2] => { results := [.lit (.bool true)], args := [d1, d2] }
  | _ => none }
def fixReadsRow : OpenClaim := { program := "ytejjifbjmibapaa", sum := "3135dbcf5c665491bc2574845f3da3cec37f050f1c228af3b4f3262667a3d28d", func := "catenary/catenarylaw01.FixReads", spec := "fixReads", apart := false }
def FixReadsSaid : Prop := fixReadsRow.holds Try.pinned (OpenSpec.ofChange fixReadsSpec)

/-- ITS FALSE NEIGHBOUR: 'it returns false'. Refute it at one input. -/
def fixReadsWrong : ChangeSpec := { name := "fixReads", fn := fun _ => fun
  | [d1, d2] => { results := [.lit (.bool false)], args := [d1, d2] }
  | _ => none }
def FixReadsWrongFalsely : Prop := fixReadsRow.holds Try.pinned (OpenSpec.ofChange fixReadsWrong)

/-- 'catenarylaw01.FixNil': WHATEVER THE INPUT: true; the input reads as it did. -/
def fixNilSpec : ChangeSpec := { name := "fixNil", fn := fun _ => fun
  | [d1, d2] => { results := [.lit (.bool true)], args := [d1, d2] }
  | _ => none }
def fixNilRow : OpenClaim := { program := "ytejjifbjmibapaa", sum := "3135dbcf5c665491bc2574845f3da3cec37f050f1c228af3b4f3262667a3d28d", func := "catenary/catenarylaw01.FixNil", spec := "fixNil", apart := false }
def FixNilSaid : Prop := fixNilRow.holds Try.pinned (OpenSpec.ofChange fixNilSpec)

/-- ITS FALSE NEIGHBOUR: 'it returns false'. Refute it at one input. -/
def fixNilWrong : ChangeSpec := { name := "fixNil", fn := fun _ => fun
  | [d1, d2] => { results := [.lit (.bool false)], args := [d1, d2] }
  | _ => none }
def FixNilWrongFalsely : Prop := fixNilRow.holds Try.pinned (OpenSpec.ofChange fixNilWrong)

/- THE SECOND FORM. 'bulk': how many values and letters a reading holds, each counted each time it is reached (what is shared counts as often as it is met; a slice's spare places count too). A statement '..UptoSaid' is the law's where the arguments, and the package variables that the reading takes, are together of bulk at most 1048576: NARROWER than '..Said'. Prove '..Said' where nothing that the law and all that it calls make is longer than what came in: it says more and counts as full. Else prove '..UptoSaid'. A law counts once. -/
mutual
def uptoBulk {H : Type} : DataW H → Nat
  | .lit (.string bytes) => bytes.length + 1
  | .lit _ => 1
  | .nil => 1
  | .ptr d => uptoBulk d + 1
  | .slice elems spare => uptoBulkAll elems + uptoBulkAll spare + 1
  | .agg parts => uptoBulkAll parts + 1
  | .iface _ d => uptoBulk d + 1
  | .map entries => uptoBulkEntries entries + 1
  | .held _ => 1
def uptoBulkAll {H : Type} : List (DataW H) → Nat
  | [] => 0
  | d :: r => uptoBulk d + uptoBulkAll r
def uptoBulkEntries {H : Type} : List (Lit × DataW H) → Nat
  | [] => 0
  | x :: r => uptoBulkEntry x + uptoBulkEntries r
def uptoBulkEntry {H : Type} : Lit × DataW H → Nat
  | (.string bytes, d) => bytes.length + uptoBulk d + 1
  | (_, d) => uptoBulk d + 1
 end
def uptoSmall : (H : Type) → List (DataW H) → Bool := fun _ ds => decide (uptoBulkAll ds ≤ 1048576)
def OpenSpec.upto (s : _root_.Go.ChangeSpec) : _root_.Go.OpenSpec := { _root_.Go.OpenSpec.ofChange s with cond := some uptoSmall }

/-- 'catenarylaw01.FixPuts', WHERE WHAT IT READS IS OF BULK AT MOST 1048576: true; the input reads as it did. -/
def fixPutsUptoRow : OpenClaim := { program := "ytejjifbjmibapaa", sum := "3135dbcf5c665491bc2574845f3da3cec37f050f1c228af3b4f3262667a3d28d", func := "catenary/catenarylaw01.FixPuts", spec := "fixPuts", apart := false, narrowed := true }
def FixPutsUptoSaid : Prop := fixPutsUptoRow.holds Try.pinned (OpenSpec.upto fixPutsSpec)

/-- 'catenarylaw01.FixOnce', WHERE WHAT IT READS IS OF BULK AT MOST 1048576: true; the input reads as it did. -/
def fixOnceUptoRow : OpenClaim := { program := "ytejjifbjmibapaa", sum := "3135dbcf5c665491bc2574845f3da3cec37f050f1c228af3b4f3262667a3d28d", func := "catenary/catenarylaw01.FixOnce", spec := "fixOnce", apart := false, narrowed := true }
def FixOnceUptoSaid : Prop := fixOnceUptoRow.holds Try.pinned (OpenSpec.upto fixOnceSpec)

/-- 'catenarylaw01.FixBack', WHERE WHAT IT READS IS OF BULK AT MOST 1048576: true; the input reads as it did. -/
def fixBackUptoRow : OpenClaim := { program := "ytejjifbjmibapaa", sum := "3135dbcf5c665491bc2574845f3da3cec37f050f1c228af3b4f3262667a3d28d", func := "catenary/catenarylaw01.FixBack", spec := "fixBack", apart := false, narrowed := true }
def FixBackUptoSaid : Prop := fixBackUptoRow.holds Try.pinned (OpenSpec.upto fixBackSpec)

/-- 'catenarylaw01.FixReads', WHERE WHAT IT READS IS OF BULK AT MOST 1048576: true; the input reads as it did. -/
def fixReadsUptoRow : OpenClaim := { program := "ytejjifbjmibapaa", sum := "3135dbcf5c665491bc2574845f3da3cec37f050f1c228af3b4f3262667a3d28d", func := "catenary/catenarylaw01.FixReads", spec := "fixReads", apart := false, narrowed := true }
def FixReadsUptoSaid : Prop := fixReadsUptoRow.holds Try.pinned (OpenSpec.upto fixReadsSpec)

/-- 'catenarylaw01.FixNil', WHERE WHAT IT READS IS OF BULK AT MOST 1048576: true; the input reads as it did. -/
def fixNilUptoRow : OpenClaim := { program := "ytejjifbjmibapaa", sum := "3135dbcf5c665491bc2574845f3da3cec37f050f1c228af3b4f3262667a3d28d", func := "catenary/catenarylaw01.FixNil", spec := "fixNil", apart := false, narrowed := true }
def FixNilUptoSaid : Prop := fixNilUptoRow.holds Try.pinned (OpenSpec.upto fixNilSpec)

end Rows
end Go.Proofs.Ytejjifbjmibapaa
