/- GJ: LtuE LtuF LtuG LtuH -/
import Derived.Test.YtmpedblelnpjdaaGreatDoorZGC
import Derived.Test.YtmpedblelnpjdaaGreatDoorZGF
import Derived.Laws.BytesArg
import Derived.Shelf.Bytes.SlSmallAll
/- The reference's GetUpdate. -/
namespace Go.Proofs.YtmpedblelnpjdaaGreatDoor
open Go.RowKit
set_option linter.unusedSimpArgs false
set_option linter.unusedVariables false
set_option maxHeartbeats 4000000
set_option maxRecDepth 100000
attribute [local go_sem] Up.agg Up.cells RI.agg RI.cells RI.nil
structure RgM (w W : World) (B : Nat) (y : RI) : Prop where
 b0 : Blk W w.heap.size 130 y.cells
 b1 : Blk W (w.heap.size + 1) 130 (RI.nil 0).cells
 b2 : Blk W (w.heap.size + 1 + 1) 145 Up.zero.cells
 rin : RIn W B y
 bel : Below w.heap.size w W
 lt : B ≤ w.heap.size
theorem RgM.le {w W : World} {B : Nat} {y : RI} (h : RgM w W B y) : B ≤ W.heap.size := Nat.le_trans h.lt h.bel.size
theorem set2_chg (W : World) (g : Nat) (a0 a1 : Value) : Chg W ((W.setCell ⟨g, 0, none⟩ a0).setCell ⟨g, 1, none⟩ a1) (isG g) :=
 (chg_set0 W g a0 0).trans (chg_set0 _ g a1 1) (fun _ _ x => x)
theorem RgM.step {w W W1 : World} {B : Nat} {y z : RI} (h : RgM w W B y) (hb : Below W.heap.size W W1) (hz : RIn W1 B z) :
  RgM w ((W1.setCell ⟨w.heap.size, 0, none⟩ (.slice z.A z.s.l.length z.cap)).setCell ⟨w.heap.size, 1, none⟩ (.int .i64 z.s.e)) B z := by
 have HC := set2_chg W1 w.heap.size (.slice z.A z.s.l.length z.cap) (.int .i64 z.s.e)
 have h0 := h.b0.below hb h.b0.lt
 have n1 : ¬ isG w.heap.size (w.heap.size + 1) := by unfold isG; omega
 have n2 : ¬ isG w.heap.size (w.heap.size + 1 + 1) := by unfold isG; omega
 have hw1 := h.bel.trans (hb.mono h.bel.size)
 refine ⟨(h0.set_ 0 _).set_ 1 _, HC.blk (h.b1.below hb h.b1.lt) n1, HC.blk (h.b2.below hb h.b2.lt) n2, hz.set2 h.lt _ _, hw1.trans (HC.below hw1.size (fun k hk e => by simp only [isG] at e; omega)), h.lt⟩
theorem RgM.fin {w W : World} {B : Nat} {y : RI} (h : RgM w W B y) (u : Up) {W' : World}
  (hW : W' = ((((((((((W.setCell ⟨w.heap.size + 1, 0, none⟩ (.slice y.A y.s.l.length y.cap)).setCell ⟨w.heap.size + 1, 1, none⟩ (.int .i64 y.s.e)).setCell ⟨w.heap.size + 1 + 1, 0, none⟩ (.int .u64 u.seq)).setCell ⟨w.heap.size + 1 + 1, 1, none⟩ (.int .i64 u.cl)).setCell ⟨w.heap.size + 1 + 1, 2, none⟩ (.int .u64 u.num)).setCell ⟨w.heap.size + 1 + 1, 3, none⟩ (.int .i64 u.kd)).setCell ⟨w.heap.size + 1 + 1, 4, none⟩ (.int .u32 u.key)).setCell ⟨w.heap.size + 1 + 1, 5, none⟩ (.int .u64 u.ver)).setCell ⟨w.heap.size + 1 + 1, 6, none⟩ (.slice u.A u.n u.c)))) :
  Blk W' (w.heap.size + 1) 130 y.cells ∧ Blk W' (w.heap.size + 1 + 1) 145 u.cells ∧ Below w.heap.size w W' ∧ Below w.heap.size W W' := by
 subst hW
 have C1 := set2_chg W (w.heap.size + 1) (.slice y.A y.s.l.length y.cap) (.int .i64 y.s.e)
 have C2 := set7_chg ((W.setCell ⟨w.heap.size + 1, 0, none⟩ (.slice y.A y.s.l.length y.cap)).setCell ⟨w.heap.size + 1, 1, none⟩ (.int .i64 y.s.e)) (w.heap.size + 1 + 1) (.int .u64 u.seq) (.int .i64 u.cl) (.int .u64 u.num) (.int .i64 u.kd) (.int .u32 u.key) (.int .u64 u.ver) (.slice u.A u.n u.c)
 have n1 : ¬ isG (w.heap.size + 1 + 1) (w.heap.size + 1) := by unfold isG; omega
 have n2 : ¬ isG (w.heap.size + 1) (w.heap.size + 1 + 1) := by unfold isG; omega
 have b1 := (h.b1.set_ 0 (.slice y.A y.s.l.length y.cap)).set_ 1 (.int .i64 y.s.e)
 have b2 := C1.blk h.b2 n2
 have hw := h.bel.size
 have z1 : w.heap.size ≤ ((W.setCell ⟨w.heap.size + 1, 0, none⟩ (.slice y.A y.s.l.length y.cap)).setCell ⟨w.heap.size + 1, 1, none⟩ (.int .i64 y.s.e)).heap.size := Nat.le_trans hw C1.size
 have B12 := (C1.below hw (fun k hk e => by simp only [isG] at e; omega)).trans (C2.below z1 (fun k hk e => by simp only [isG] at e; omega))
 exact ⟨C2.blk b1 n1, set7_blk b2 _ _ _ _ _ _ _, h.bel.trans B12, B12⟩
end Go.Proofs.YtmpedblelnpjdaaGreatDoor
/- The reference's Update (an update's bytes); SameUpdate of both. -/
namespace Go.Proofs.YtmpedblelnpjdaaGreatDoor
open Go.RowKit
set_option linter.unusedSimpArgs false
set_option linter.unusedVariables false
set_option maxHeartbeats 4000000
set_option maxRecDepth 100000
attribute [local go_sem] Up.agg Up.cells
structure UbM (w W : World) (B : Nat) (u : Up) (A : Option Addr) (c n : Nat) (l : List Int) : Prop where
 box : Blk W w.heap.size 145 u.cells
 own : W.ownsRow (w.heap.size + 1) 5 1 (.slice A n c) n (l.map (Value.int .u8))
 bel : Below w.heap.size w W
theorem UbM.app {w W W2 W3 : World} {B c n m c3 : Nat} {u : Up} {A A3 : Option Addr} {l l2 : List Int} (h : UbM w W B u A c n l) (h2 : Below W.heap.size W W2)
  (ho : W3.ownsRow (w.heap.size + 1) 5 1 (.slice A3 (n + m) c3) (n + m) (l.map (Value.int .u8) ++ l2.map (Value.int .u8))) (hg : W2.grownBy W3 (Value.slice A n c).ownBlock) : UbM w W3 B u A3 c3 (n + m) (l ++ l2) := by
 have hb := h.box.below h2 h.box.lt
 have hne : ∀ k, (Value.slice A n c).ownBlock = some k → w.heap.size < k := fun k hk => (h.own.lt k hk).1
 refine ⟨(hg.block _ hb.lt (fun e => by have := hne _ e.symm; omega)).trans hb, by rw [List.map_append]; exact ho, (h.bel.trans (h2.mono h.bel.size)).grown hg (Nat.le_trans h.bel.size h2.size) (fun k hk => Nat.le_of_lt (hne k hk))⟩
end Go.Proofs.YtmpedblelnpjdaaGreatDoor
/- SameUpdate of both where the values are the same; the law's far. -/
namespace Go.Proofs.YtmpedblelnpjdaaGreatDoor
open Go.RowKit
set_option linter.unusedSimpArgs false
set_option linter.unusedVariables false
set_option maxHeartbeats 4000000
set_option maxRecDepth 100000
attribute [local go_sem] Up.agg Up.cells Lt.agg Lt.cells Lt.zero
end Go.Proofs.YtmpedblelnpjdaaGreatDoor
/- The walk of LetterUpdates, given its awake. -/
namespace Go.Proofs.YtmpedblelnpjdaaGreatDoor
open Go.RowKit
set_option linter.unusedSimpArgs false
set_option linter.unusedVariables false
set_option maxHeartbeats 8000000
set_option maxRecDepth 100000
attribute [local go_sem] Up.agg Up.cells RI.agg RI.cells RI.nil
structure KNAt (w : World) : Prop where
 k : KindsAt w
 n : w.cell? ⟨0, 70, none⟩ = some (.string ⟨#[108, 111, 99, 97, 116, 101]⟩)
theorem KNAt.below {w w' : World} (h : KNAt w) (hb : Below w.heap.size w w') : KNAt w' := ⟨h.k.below hb, (hb.cell (p := ⟨0, 70, none⟩) h.k.lt).trans h.n⟩
def AwakeP : Prop := ∀ W, KNAt W → Calls Tryz.prog 7 #[] W fun e w' => e = .returned (.bool true) ∧ Below W.heap.size W w'
def bytesOf (l : List Up) (k : Nat) : List Int := (l.take k).flatMap upB
structure U7 (w : World) (b o : Nat) (u : Up) : Prop where
 c : w.cell? ⟨b, o, none⟩ = some (.int .u64 u.seq) ∧ w.cell? ⟨b, o + 1, none⟩ = some (.int .i64 u.cl) ∧ w.cell? ⟨b, o + 2, none⟩ = some (.int .u64 u.num) ∧ w.cell? ⟨b, o + 3, none⟩ = some (.int .i64 u.kd) ∧ w.cell? ⟨b, o + 4, none⟩ = some (.int .u32 u.key) ∧ w.cell? ⟨b, o + 5, none⟩ = some (.int .u64 u.ver) ∧ w.cell? ⟨b, o + 6, none⟩ = some (.slice u.A u.n u.c)
theorem U7.below {w w' : World} {b o : Nat} {u : Up} (h : U7 w b o u) (hb : b < w.heap.size) (h2 : Below w.heap.size w w') : w'.cell? ⟨b, o, none⟩ = some (.int .u64 u.seq) ∧ w'.cell? ⟨b, o + 1, none⟩ = some (.int .i64 u.cl) ∧ w'.cell? ⟨b, o + 2, none⟩ = some (.int .u64 u.num) ∧ w'.cell? ⟨b, o + 3, none⟩ = some (.int .i64 u.kd) ∧ w'.cell? ⟨b, o + 4, none⟩ = some (.int .u32 u.key) ∧ w'.cell? ⟨b, o + 5, none⟩ = some (.int .u64 u.ver) ∧ w'.cell? ⟨b, o + 6, none⟩ = some (.slice u.A u.n u.c) := by
 obtain ⟨c0, c1, c2, c3, c4, c5, c6⟩ := h.c
 exact ⟨(h2.cell hb).trans c0, (h2.cell hb).trans c1, (h2.cell hb).trans c2, (h2.cell hb).trans c3, (h2.cell hb).trans c4, (h2.cell hb).trans c5, (h2.cell hb).trans c6⟩
structure LpRel (w : World) (v u : Value) (bs : List Int) (k : Nat) (wr : World) : Prop where
 out : OutAt wr w.heap.size v ⟨bs, 20000, 0⟩
 all : wr.ownsRow (w.heap.size + 1) 5 1 u bs.length (bs.map (Value.int .u8))
 dis : ∀ j, u.ownBlock = some j → v.ownBlock ≠ some j
 bel : Below w.heap.size w wr
 len : bs.length ≤ k * 2080
theorem LpRel.put {w wr w' : World} {k : Nat} {v v' u : Value} {bs cs : List Int} (h : LpRel w v u bs k wr) (ho : OutAt w' w.heap.size v' ⟨cs, 20000, 0⟩) (hs : OutStep wr w' w.heap.size v v') :
  OutAt w' w.heap.size v' ⟨cs, 20000, 0⟩ ∧ w'.ownsRow (w.heap.size + 1) 5 1 u bs.length (bs.map (Value.int .u8)) ∧ (∀ j, u.ownBlock = some j → v'.ownBlock ≠ some j) ∧ Below w.heap.size w w' := by
 refine ⟨ho, hs.2.own h.all (fun j hj hx => ?_), fun j hj => ?_, h.bel.trans (hs.2.below h.bel.size (fun j hj hx => ?_))⟩
 ·rcases hx with hx | hx
  ·have := (h.all.lt j hj).1; omega
  ·exact h.dis j hj hx
 ·rcases hs.1 with e | e
  ·rw [e]; exact h.dis j hj
  ·intro hx; have := e j hx; have := (h.all.lt j hj).2; omega
 ·rcases hx with hx | hx
  ·omega
  ·have := (h.out.2.1.lt j hx).1; omega
theorem LpRel.below {w wr w' : World} {k : Nat} {v u : Value} {bs cs : List Int} (h : OutAt wr w.heap.size v ⟨cs, 20000, 0⟩ ∧ wr.ownsRow (w.heap.size + 1) 5 1 u bs.length (bs.map (Value.int .u8)) ∧ (∀ j, u.ownBlock = some j → v.ownBlock ≠ some j) ∧ Below w.heap.size w wr) (hb : Below wr.heap.size wr w') :
  OutAt w' w.heap.size v ⟨cs, 20000, 0⟩ ∧ w'.ownsRow (w.heap.size + 1) 5 1 u bs.length (bs.map (Value.int .u8)) ∧ (∀ j, u.ownBlock = some j → v.ownBlock ≠ some j) ∧ Below w.heap.size w w' :=
 ⟨h.1.below hb, own_block_same h.2.1 (fun k hk => hb.block k (h.2.1.lt k hk).2), h.2.2.1, h.2.2.2.trans (hb.mono h.2.2.2.size)⟩
theorem getUi_short (s : FI) : (getUi s).l.length ≤ s.l.length := Nat.le_trans (FI.text_short _ _) (gs_short s)
end Go.Proofs.YtmpedblelnpjdaaGreatDoor
