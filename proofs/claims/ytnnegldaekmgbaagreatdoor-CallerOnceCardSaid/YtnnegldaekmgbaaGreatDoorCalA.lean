/- A caller in memory. -/
import Derived.Test.YtnnegldaekmgbaaGreatDoorZRqA
import Derived.Test.YtnnegldaekmgbaaGreatDoorZLatR
import Derived.Test.YtnnegldaekmgbaaGreatDoorZAtlH
namespace Go.Proofs.YtnnegldaekmgbaaGreatDoor
open Go.RowKit
set_option linter.unusedSimpArgs false
set_option linter.unusedVariables false
set_option maxHeartbeats 8000000
set_option maxRecDepth 100000

/-- a caller: client, masters, its number, the ticks, its operation, its latch's block and how it stands (0 none, 1 not set, 2 set), its reply, the last number, the last reply -/
structure Cl where
  cl : Nat
  ms : Nat
  num : Nat
  tk : Int
  op : Opn
  st : Nat
  rp : Rp
  rb : List Int
  last : Nat
  ly : Rp
  lb : List Int
def Cl.ptr (c : Cl) (h : Nat) : Option Addr := if c.st = 0 then none else some ⟨h, 0, none⟩
def Cl.cells (c : Cl) (G h : Nat) : Array Value := #[.int .i64 c.cl, .int .i64 c.ms, .int .u64 c.num, .int .i64 c.tk, .pointer (some ⟨G, 0, none⟩), .int .i64 c.op.kd, .int .u32 c.op.key, .int .u64 c.op.ver, .slice c.op.A c.op.n c.op.c, .int .i64 c.op.pick, .pointer (c.ptr h), .int .u64 c.last, .int .i64 c.ly.cd, .int .u64 c.ly.vr, .slice c.ly.A c.ly.n c.ly.c]
def OwnB (W : World) (lo : Nat) (A : Option Addr) (n c : Nat) (bs : List Int) : Prop := W.ownsRow lo 5 1 (.slice A n c) n (bs.map (Value.int .u8)) ∧ ∀ z ∈ bs, 0 ≤ z ∧ z ≤ 255
theorem OwnB.below {W W' : World} {lo : Nat} {A : Option Addr} {n c : Nat} {bs : List Int} (h : OwnB W lo A n c bs) (hb : Below W.heap.size W W') : OwnB W' lo A n c bs := ⟨(Chg.of_below hb (fun _ => False)).own h.1 (fun _ _ e => e), h.2⟩
theorem OwnB.chg {W W' : World} {S : Nat → Prop} {lo : Nat} {A : Option Addr} {n c : Nat} {bs : List Int} (h : OwnB W lo A n c bs) (hc : Chg W W' S) (hS : ∀ k, S k → ∃ t cs, Blk W k t cs ∧ t ≠ 5) : OwnB W' lo A n c bs :=
  ⟨hc.own h.1 (fun k hk e => by obtain ⟨t, cs, hb, hn⟩ := hS k e; exact own_blk_ne h.1 hb (Ne.symm hn) hk), h.2⟩
theorem OwnB.nil (W : World) (lo : Nat) : OwnB W lo none 0 0 [] := ⟨World.ownsRow_nil _ _ _ _, by simp⟩
theorem OwnB.reads {W : World} {lo : Nat} {A : Option Addr} {n c : Nat} {bs : List Int} (h : OwnB W lo A n c bs) : Reads W W.heap.size 1 A n (bs.map (Value.int .u8)) := Reads.of_own h.1
structure CalAt (W : World) (lo g G h : Nat) (vs : List (Int × Int × List Int × Bool × Int)) (c : Cl) : Prop where
  box : Blk W g 111 (c.cells G h)
  atl : At W lo G vs
  low : lo ≤ g
  op : OwnB W lo c.op.A c.op.n c.op.c c.op.bs
  ow : c.op.wf
  st : c.st ≤ 2
  lat : c.st ≠ 0 → lo ≤ h ∧ LatRp W h (c.st == 2) c.rp
  rp : OwnB W lo c.rp.A c.rp.n c.rp.c c.rb
  ly : OwnB W lo c.ly.A c.ly.n c.ly.c c.lb
  zr : c.st ≠ 2 → c.rp = Rp.zero
section
variable {W W' : World} {lo g G h : Nat} {vs : List (Int × Int × List Int × Bool × Int)} {c : Cl}
theorem CalAt.below (a : CalAt W lo g G h vs c) (hb : Below W.heap.size W W') : CalAt W' lo g G h vs c :=
  ⟨a.box.below hb a.box.lt, a.atl.below hb, a.low, a.op.below hb, a.ow, a.st, fun e => ⟨(a.lat e).1, Blk.below (a.lat e).2 hb (Blk.lt (a.lat e).2)⟩, a.rp.below hb, a.ly.below hb, a.zr⟩
theorem CalAt.opIn (a : CalAt W lo g G h vs c) : OpIn W W.heap.size c.op := by
  obtain ⟨A1, c1, e, hr, hc, hm⟩ := own_slice a.op.1
  injection e with e1 e2 e3
  subst e1 e3
  exact ⟨hr, hc, hm, a.ow⟩
/-- the atlas where other things change -/
theorem AtX.chg {S : Nat → Prop} {b0 q hh cB : Nat} {o : List Cf} (a : AtX W b0 G q hh cB o) (hc : Chg W W' S) (hS : ∀ k, S k → ∃ t cs, Blk W k t cs ∧ t ≠ 176 ∧ t ≠ 44 ∧ t ≠ 269 ∧ t ≠ 3) : AtX W' b0 G q hh cB o := by
  have hn : ∀ {k : Nat} {t : TypeId} {cs : Array Value}, Blk W k t cs → (t = 176 ∨ t = 44 ∨ t = 269 ∨ t = 3) → ¬ S k := by
    intro k t cs hb ht e
    obtain ⟨t', cs', hb', h1, h2, h3, h4⟩ := hS k e
    refine Blk.ne_ hb hb' ?_ rfl
    rcases ht with rfl | rfl | rfl | rfl
    · exact Ne.symm h1
    · exact Ne.symm h2
    · exact Ne.symm h3
    · exact Ne.symm h4
  refine ⟨hc.blk a.blk (hn a.blk (.inl rfl)), hc.blk a.conf (hn a.conf (.inr (.inl rfl))), fun x hx => hc.own (a.own x hx) (fun k hk e => ?_), hc.blk a.keys (hn a.keys (.inr (.inr (.inl rfl)))), hc.blk a.num (hn a.num (.inr (.inr (.inr rfl)))), a.few, a.b0, a.lt⟩
  obtain ⟨t', cs', hb', h1, h2, h3, h4⟩ := hS k e
  exact own_blk_ne (a.own x hx) hb' (Ne.symm h4) hk
theorem At.chg {S : Nat → Prop} {b0 : Nat} (a : At W b0 G vs) (hc : Chg W W' S) (hS : ∀ k, S k → ∃ t cs, Blk W k t cs ∧ t ≠ 176 ∧ t ≠ 44 ∧ t ≠ 269 ∧ t ≠ 3) : At W' b0 G vs := by
  obtain ⟨q, hh, cB, o, ha, hv⟩ := a
  exact ⟨q, hh, cB, o, ha.chg hc hS, hv⟩
end
end Go.Proofs.YtnnegldaekmgbaaGreatDoor
