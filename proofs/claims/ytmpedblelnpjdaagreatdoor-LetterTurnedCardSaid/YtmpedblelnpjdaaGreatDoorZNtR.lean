/- Come; Twice. -/
import Derived.Test.YtmpedblelnpjdaaGreatDoorZNtT
namespace Go.Proofs.YtmpedblelnpjdaaGreatDoor
open Go.RowKit
set_option linter.unusedSimpArgs false
set_option linter.unusedVariables false
set_option maxHeartbeats 8000000
set_option maxRecDepth 100000

theorem NetAt.far {W W' : World} {lo g cd gt bg bd b : Nat} {v : Value} {s : NBg} {n : Nv} {m : Int} {cs : Array Value} (h : NetAt W lo g cd gt bg bd v s n m) (hb : Blk W b 37 cs) (hc : Chg W W' (fun k => k = b)) : NetAt W' lo g cd gt bg bd v s n m := by
  obtain ⟨d, x, y, hcd, hx, hy⟩ := h.cod
  obtain ⟨cs2, htb⟩ := tb_blk hcd.2
  exact ⟨hc.blk h.box (fun e => Blk.ne_ h.box hb (by decide) e), ⟨d, x, y, ⟨hc.blk hcd.1 (fun e => Blk.ne_ hcd.1 hb (by decide) e), TabC.chg hcd.2 hc (fun e => Blk.ne_ htb hb (by decide) e)⟩, hx, hy⟩,
    ⟨hc.blk h.bag.1 (fun e => Blk.ne_ h.bag.1 hb (by decide) e), hc.own h.bag.2 (fun j hj e => own_blk_ne h.bag.2 hb (by decide) (by rw [hj, e]))⟩, hc.blk h.brd (fun e => Blk.ne_ h.brd hb (by decide) e), h.most, h.last, h.no,
    fun k p q h1 h2 => ⟨hc.own (h.byt k p q h1 h2).1 (fun j hj e => own_blk_ne (h.byt k p q h1 h2).1 hb (by decide) (by rw [hj, e])), (h.byt k p q h1 h2).2⟩, h.low⟩
def Nv.came (n : Nv) (k : Nat) (e : Int) : Nv := { n with l := n.l.eraseIdx k, b := n.b.add (if e = 0 then 1 else 3) 1 }
end Go.Proofs.YtmpedblelnpjdaaGreatDoor
