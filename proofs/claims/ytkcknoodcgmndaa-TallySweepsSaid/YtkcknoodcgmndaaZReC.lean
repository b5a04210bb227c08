/- The document's lists of numbers: Without. -/
import Derived.Test.YtkcknoodcgmndaaZReA
import Derived.Test.YtkcknoodcgmndaaZOcB
import Derived.Conc.WgWords
namespace Go.Proofs.Ytkcknoodcgmndaa
open Go.Conc Go.RowKit
set_option linter.unusedVariables false
set_option linter.unusedSimpArgs false
set_option maxRecDepth 100000
set_option maxHeartbeats 4000000














theorem below_grown {n : Nat} {w W W' : World} (h : Below n w W) {r : Option Nat} (g : W.grownBy W' r) (hr : ∀ k, r = some k → n ≤ k) (hn : n ≤ W.heap.size) : Below n w W' :=
  ⟨g.os.trans h.os, g.tape.trans h.tape, g.output.trans h.output, Nat.le_trans h.size g.size, fun k hk => (g.block k (by omega) fun e => by have := hr k e.symm; omega).trans (h.block k hk)⟩
theorem SlI.below {w W : World} {A : Option Addr} {g : Nat} {xs : List Int} (h : SlI w A g xs) {n : Nat} (hb : Below n w W) (hg : 0 < xs.length → g < n) : SlI W A g xs :=
  ⟨h.at_, fun q x hx => (cell_same (hb.block g (hg (by have := (List.getElem?_eq_some_iff.1 hx).1; omega))) q).trans (h.cell q x hx)⟩
section
variable {Shun : Loc → Prop}
end
end Go.Proofs.Ytkcknoodcgmndaa
