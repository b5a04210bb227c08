/- Small lemmas on worlds that have grown: what is below is as it was. -/
import Derived.Test.YtcmaekkfeilclaaMem
set_option linter.unusedVariables false
namespace Go.Proofs.Ytcmaekkfeilclaa
open Go.RowKit

theorem key_of {wr W1 w2 : World} {g : Nat} (hg : W1.grownBy w2 (some g)) (hb : Below wr.heap.size wr W1) (p : Addr) (hp : p.block < wr.heap.size) (hne : p.block ≠ g) : w2.cell? p = wr.cell? p :=
  (World.cell?_of_block (hg.block p.block (Nat.lt_of_lt_of_le hp hb.size) (fun e => hne (by injection e)))).trans (hb.cell hp)
theorem below_of {B g : Nat} {w wr W1 w2 : World} (h1 : Below B w wr) (hB : B ≤ wr.heap.size) (hg : W1.grownBy w2 (some g)) (hgB : B ≤ g) (hb : Below wr.heap.size wr W1) : Below B w w2 :=
  (h1.trans (hb.mono hB)).grown hg (Nat.le_trans hB hb.size) (fun k hk => by injection hk with hk; omega)
theorem below_step {B : Nat} {w wr w2 : World} (h1 : Below B w wr) (hB : B ≤ wr.heap.size) (hb : Below wr.heap.size wr w2) : Below B w w2 := h1.trans (hb.mono hB)

end Go.Proofs.Ytcmaekkfeilclaa
