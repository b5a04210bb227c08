/- The law's step: plain, memory. -/
import Derived.Test.YtpkmbnmlepmceaaBagQ

namespace Go.Proofs.Ytpkmbnmlepmceaa
open Go.RowKit
set_option linter.unusedSimpArgs false
set_option linter.unusedVariables false
set_option maxHeartbeats 4000000
set_option maxRecDepth 100000

def Bg.step (s : Bg) (k i z : Int) : Bg := if k = 0 then s.put z else if k = 1 then s.twice i else if k = 2 then s.take i else if k = 3 then s.set i z else if k = 4 then s.keep else s
/-- the document's bag, apart from the program's -/
structure RBg (w : World) (g : Nat) (v : Value) (x : RB) : Prop where
  rb : RBn w x
  ap : ∀ ad, 0 < x.l.length → x.A = some ad → ad.block ≠ g ∧ v.ownBlock ≠ some ad.block
theorem RBn.blt {w : World} {x : RB} (h : RBn w x) {ad : Addr} (h0 : 0 < x.l.length) (hA : x.A = some ad) : ad.block < w.heap.size := by
  obtain ⟨ad', e, hb, _⟩ := h.rd.2 h0
  rw [hA] at e; injection e with e; rw [e]; exact hb
theorem RBg.below {w w' : World} {g : Nat} {v : Value} {x : RB} (h : RBg w g v x) (hb : Below w.heap.size w w') : RBg w' g v x := ⟨h.rb.below hb, h.ap⟩
theorem RBg.new {w w' : World} {g : Nat} {v : Value} {x y : RB} {s : Bg} (h : RBg w g v x) (ha : BagAt w g v s) (hy : RBn w' y) (hn : NewA x w y) : RBg w' g v y := by
  refine ⟨hy, fun ad h0 hA => ?_⟩
  rcases hn with e | e
  · subst e; exact h.ap ad h0 hA
  · have h1 := e ad hA
    have h2 := ha.1.lt
    exact ⟨by omega, fun e2 => by have := (ha.2.lt _ e2).2; omega⟩
theorem RBg.bstep {w w' : World} {g : Nat} {v v' : Value} {x : RB} {s : Bg} (h : RBg w g v x) (ha : BagAt w g v s) (hs : BStep w w' g v v') : RBg w' g v' x := by
  have hr : Reads w' w.heap.size 2 x.A x.l.length (x.l.flatMap itc) := hs.chg.reads h.rb.rd (Nat.le_refl _) (fun ad h0 hA e => by
    have := h.ap ad h0 hA
    rcases e with e | e
    · exact this.1 e
    · exact this.2 e)
  refine ⟨⟨hr.more hs.chg.size, h.rb.hc, h.rb.hm⟩, fun ad h0 hA => ⟨(h.ap ad h0 hA).1, fun e => ?_⟩⟩
  rcases hs.row _ e with e2 | e2
  · exact (h.ap ad h0 hA).2 e2
  · have := h.rb.blt h0 hA; omega
theorem BagAt.farC {w : World} {g : Nat} {v : Value} {s : Bg} {b : Nat} {t : TypeId} {cs : Array Value} (h : BagAt w g v s) (hb : Blk w b t cs) (h1 : t ≠ 52) (h2 : 54 ≠ t) (o : Nat) (u : Value) : BagAt (w.setCell ⟨b, o, none⟩ u) g v s :=
  ⟨h.1.far (p := ⟨b, o, none⟩) (fun e => Blk.ne_ hb h.1 h1 e.symm) _, own_block_same h.2 (fun k hk => Below.heap_setCell _ _ _ k (fun e => own_blk_ne h.2 hb h2 (by rw [hk, e])))⟩
theorem RBn.far0 {w : World} {x : RB} (h : RBn w x) {p : Addr} (hp : ∀ ad, 0 < x.l.length → x.A = some ad → ad.block ≠ p.block) (u : Value) : RBn (w.setCell p u) x := by
  refine ⟨⟨h.rd.1, fun hn => ?_⟩, h.hc, h.hm⟩
  obtain ⟨ad, hA, hb, hc⟩ := h.rd.2 hn
  exact ⟨ad, hA, by simpa using hb, fun j v hv => (World.cell?_setCell_other w p _ u (fun e => hp ad hn hA (by have := congrArg Addr.block e; rw [block_of_add] at this; first | exact this | exact this.symm))).trans (hc j v hv)⟩
/-- the memory of step -/
structure SP (w : World) (g : Nat) (v0 : Value) (x : RB) (k i z : Int) (W : World) (v : Value) (s : Bg) : Prop where
  p1 : Blk W w.heap.size 45 x.cells
  p2 : Blk W (w.heap.size + 1) 38 #[.int .i64 k, .int .i64 i, .int .i64 z]
  p3 : Blk W (w.heap.size + 2) 45 #[.int .i64 0, .int .i64 0, .slice none 0 0]
  ba : BagAt W g v s
  st : BStep w W g v0 v
section
variable {w W W' : World} {g : Nat} {v0 v v' : Value} {x y : RB} {k i z : Int} {s s' : Bg}
theorem SP.below (h : SP w g v0 x k i z W v s) (hb : Below W.heap.size W W') : SP w g v0 x k i z W' v s :=
  ⟨h.p1.below hb h.p1.lt, h.p2.below hb h.p2.lt, h.p3.below hb h.p3.lt, h.ba.below hb, h.st.trans (BStep.of_below hb _ _)⟩
theorem SP.step (h : SP w g v0 x k i z W v s) (hs : BStep W W' g v v') (ha : BagAt W' g v' s') : SP w g v0 x k i z W' v' s' :=
  ⟨hs.blk h.ba h.p1 (by decide) (by decide), hs.blk h.ba h.p2 (by decide) (by decide), hs.blk h.ba h.p3 (by decide) (by decide), ha, h.st.trans hs⟩
/-- what step leaves -/
def StepPost (w : World) (g : Nat) (v : Value) (x : RB) (s : Bg) (e : Ending) (w' : World) : Prop :=
  ∃ y v', e = .returned (.tuple #[y.agg, .bool true]) ∧ y.bg = s ∧ BagAt w' g v' s ∧ RBg w' g v' y ∧ BStep w w' g v v' ∧ NewA x w y
theorem BStep.set {b : Nat} {t : TypeId} {cs : Array Value} (h : BStep w W g v0 v) (hb : w.heap.size ≤ b) (o : Nat) (u : Value) : BStep w (W.setCell ⟨b, o, none⟩ u) g v0 v :=
  ⟨⟨h.chg.os, h.chg.tape, h.chg.output, by simpa using h.chg.size, fun q hq hn => (Below.heap_setCell W ⟨b, o, none⟩ u q (by show q ≠ b; omega)).trans (h.chg.block q hq hn)⟩, h.row⟩
theorem SP.fin (h : SP w g v0 x k i z W v s) (hy : RBg W g v y) (hf2 : (∀ ad, 0 < y.l.length → y.A = some ad → ad.block ≠ w.heap.size + 2) ∧ NewA x w y) (hb : y.bg = s) (a b c : Value) :
    StepPost w g v0 x s (.returned (.tuple #[y.agg, .bool true])) (((W.setCell ⟨w.heap.size + 2, 0, none⟩ a).setCell ⟨w.heap.size + 2, 1, none⟩ b).setCell ⟨w.heap.size + 2, 2, none⟩ c) := by
  obtain ⟨hf, hn⟩ := hf2
  have q1 := h.p3.set_ 0 a
  have q2 := q1.set_ 1 b
  refine ⟨y, v, rfl, hb, ((h.ba.farC h.p3 (by decide) (by decide) 0 a).farC q1 (by decide) (by decide) 1 b).farC q2 (by decide) (by decide) 2 c, ⟨((hy.rb.far0 (p := ⟨w.heap.size + 2, 0, none⟩) hf a).far0 (p := ⟨w.heap.size + 2, 1, none⟩) hf b).far0 (p := ⟨w.heap.size + 2, 2, none⟩) hf c, hy.ap⟩, ?_, hn⟩
  exact ((h.st.set (t := 0) (cs := #[]) (by omega) 0 a).set (t := 0) (cs := #[]) (by omega) 1 b).set (t := 0) (cs := #[]) (by omega) 2 c
end
end Go.Proofs.Ytpkmbnmlepmceaa
