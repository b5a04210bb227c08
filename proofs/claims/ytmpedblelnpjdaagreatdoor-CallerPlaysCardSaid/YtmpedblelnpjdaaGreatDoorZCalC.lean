import Derived.Test.YtmpedblelnpjdaaGreatDoorZRqA
import Derived.Test.YtmpedblelnpjdaaGreatDoorZTq
import Derived.Test.YtmpedblelnpjdaaGreatDoorZLatR
import Derived.Test.YtmpedblelnpjdaaGreatDoorZAtlH
import Derived.Test.YtmpedblelnpjdaaGreatDoorZTk
section
/- A caller in memory. -/
namespace Go.Proofs.YtmpedblelnpjdaaGreatDoor
open Go.RowKit
set_option linter.unusedSimpArgs false
set_option linter.unusedVariables false
set_option maxHeartbeats 8000000
set_option maxRecDepth 100000
structure Cl where
 cl : Nat
 ms : Nat
 num : Nat
 tk : Int
 op : Opn
 st : Nat
 rp : Rp
 rb : List Int
 last : Nat
 ly : Rp
 lb : List Int
def Cl.ptr (c : Cl) (h : Nat) : Option Addr := if c.st = 0 then none else some ⟨h, 0, none⟩
def Cl.cells (c : Cl) (G h : Nat) : Array Value := #[.int .i64 c.cl, .int .i64 c.ms, .int .u64 c.num, .int .i64 c.tk, .pointer (some ⟨G, 0, none⟩), .int .i64 c.op.kd, .int .u32 c.op.key, .int .u64 c.op.ver, .slice c.op.A c.op.n c.op.c, .int .i64 c.op.pick, .pointer (c.ptr h), .int .u64 c.last, .int .i64 c.ly.cd, .int .u64 c.ly.vr, .slice c.ly.A c.ly.n c.ly.c]
def OwnB (W : World) (lo : Nat) (A : Option Addr) (n c : Nat) (bs : List Int) : Prop := W.ownsRow lo 5 1 (.slice A n c) n (bs.map (Value.int .u8)) ∧ ∀ z ∈ bs, 0 ≤ z ∧ z ≤ 255
theorem OwnB.below {W W' : World} {lo : Nat} {A : Option Addr} {n c : Nat} {bs : List Int} (h : OwnB W lo A n c bs) (hb : Below W.heap.size W W') : OwnB W' lo A n c bs := ⟨(Chg.of_below hb (fun _ => False)).own h.1 (fun _ _ e => e), h.2⟩
theorem OwnB.chg {W W' : World} {S : Nat → Prop} {lo : Nat} {A : Option Addr} {n c : Nat} {bs : List Int} (h : OwnB W lo A n c bs) (hc : Chg W W' S) (hS : ∀ k, S k → ∃ t cs, Blk W k t cs ∧ t ≠ 5) : OwnB W' lo A n c bs :=
 ⟨hc.own h.1 (fun k hk e => by obtain ⟨t, cs, hb, hn⟩ := hS k e; exact own_blk_ne h.1 hb (Ne.symm hn) hk), h.2⟩
theorem OwnB.nil (W : World) (lo : Nat) : OwnB W lo none 0 0 [] := ⟨World.ownsRow_nil _ _ _ _, by simp⟩
theorem OwnB.reads {W : World} {lo : Nat} {A : Option Addr} {n c : Nat} {bs : List Int} (h : OwnB W lo A n c bs) : Reads W W.heap.size 1 A n (bs.map (Value.int .u8)) := Reads.of_own h.1
structure CalAt (W : World) (lo g G h : Nat) (vs : List (Int × Int × List Int × Bool × Int)) (c : Cl) : Prop where
 box : Blk W g 156 (c.cells G h)
 atl : At W lo G vs
 low : lo ≤ g
 op : OwnB W lo c.op.A c.op.n c.op.c c.op.bs
 ow : c.op.wf
 st : c.st ≤ 2
 lat : c.st ≠ 0 → lo ≤ h ∧ LatRp W h (c.st == 2) c.rp
 rp : OwnB W lo c.rp.A c.rp.n c.rp.c c.rb
 ly : OwnB W lo c.ly.A c.ly.n c.ly.c c.lb
 zr : c.st ≠ 2 → c.rp = Rp.zero
section
variable {W W' : World} {lo g G h : Nat} {vs : List (Int × Int × List Int × Bool × Int)} {c : Cl}
theorem CalAt.below (a : CalAt W lo g G h vs c) (hb : Below W.heap.size W W') : CalAt W' lo g G h vs c :=
 ⟨a.box.below hb a.box.lt, a.atl.below hb, a.low, a.op.below hb, a.ow, a.st, fun e => ⟨(a.lat e).1, Blk.below (a.lat e).2 hb (Blk.lt (a.lat e).2)⟩, a.rp.below hb, a.ly.below hb, a.zr⟩
theorem CalAt.opIn (a : CalAt W lo g G h vs c) : OpIn W W.heap.size c.op := by
 obtain ⟨A1, c1, e, hr, hc, hm⟩ := own_slice a.op.1
 injection e with e1 e2 e3
 subst e1 e3
 exact ⟨hr, hc, hm, a.ow⟩
theorem AtX.chg {S : Nat → Prop} {b0 q hh cB : Nat} {o : List Cf} (a : AtX W b0 G q hh cB o) (hc : Chg W W' S) (hS : ∀ k, S k → ∃ t cs, Blk W k t cs ∧ t ≠ 258 ∧ t ≠ 33 ∧ t ≠ 312 ∧ t ≠ 3) : AtX W' b0 G q hh cB o := by
 have hn : ∀ {k : Nat} {t : TypeId} {cs : Array Value}, Blk W k t cs → (t = 258 ∨ t = 33 ∨ t = 312 ∨ t = 3) → ¬ S k := by
  intro k t cs hb ht e
  obtain ⟨t', cs', hb', h1, h2, h3, h4⟩ := hS k e
  refine Blk.ne_ hb hb' ?_ rfl
  rcases ht with rfl | rfl | rfl | rfl
  ·exact Ne.symm h1
  ·exact Ne.symm h2
  ·exact Ne.symm h3
  ·exact Ne.symm h4
 refine ⟨hc.blk a.blk (hn a.blk (.inl rfl)), hc.blk a.conf (hn a.conf (.inr (.inl rfl))), fun x hx => hc.own (a.own x hx) (fun k hk e => ?_), hc.blk a.keys (hn a.keys (.inr (.inr (.inl rfl)))), hc.blk a.num (hn a.num (.inr (.inr (.inr rfl)))), a.few, a.b0, a.lt⟩
 obtain ⟨t', cs', hb', h1, h2, h3, h4⟩ := hS k e
 exact own_blk_ne (a.own x hx) hb' (Ne.symm h4) hk
theorem At.chg {S : Nat → Prop} {b0 : Nat} (a : At W b0 G vs) (hc : Chg W W' S) (hS : ∀ k, S k → ∃ t cs, Blk W k t cs ∧ t ≠ 258 ∧ t ≠ 33 ∧ t ≠ 312 ∧ t ≠ 3) : At W' b0 G vs := by
 obtain ⟨q, hh, cB, o, ha, hv⟩ := a
 exact ⟨q, hh, cB, o, ha.chg hc hS, hv⟩
end
end Go.Proofs.YtmpedblelnpjdaaGreatDoor

end
section
/- A caller: New, Busy, Address, Num. -/
namespace Go.Proofs.YtmpedblelnpjdaaGreatDoor
open Go.RowKit
set_option linter.unusedSimpArgs false
set_option linter.unusedVariables false
set_option maxHeartbeats 8000000
set_option maxRecDepth 100000
def Opn.zero : Opn := ⟨0, 0, 0, none, 0, 0, 0, []⟩
def Cl.new (cl ms : Nat) : Cl := ⟨cl, ms, 0, 0, Opn.zero, 0, Rp.zero, [], 0, Rp.zero, []⟩
def CNewP (cl ms : Int) (l : List Cf) (w : World) (e : Ending) (w' : World) : Prop := Below w.heap.size w w' ∧
  ((¬ ((1 ≤ cl ∧ cl ≤ 6 ∧ 1 ≤ ms ∧ ms ≤ 5) ∧ allB l = true) ∧ e = .returned (.tuple #[.pointer none, .int .i64 1])) ∨
   ((1 ≤ cl ∧ cl ≤ 6 ∧ 1 ≤ ms ∧ ms ≤ 5) ∧ allB l = true ∧ ∃ g G, e = .returned (.tuple #[.pointer (some ⟨g, 0, none⟩), .int .i64 0]) ∧ CalAt w' w.heap.size g G 0 (l.map Cf.val) (Cl.new cl.toNat ms.toNat)))
theorem calNew_any (cl ms : Int) (A : Option Addr) (n c B : Nat) (l : List Cf) (w : World) (hl : CfsIn w B A n l) (hB : B ≤ w.heap.size) :
  Calls Tryz.prog 18 #[.int .i64 cl, .int .i64 ms, .slice A n c] w (CNewP cl ms l w) := by
 have AN := Lib.hid (atlNew_any A n c B l w hl hB)
 by_cases h : 1 ≤ cl ∧ cl ≤ 6 ∧ 1 ≤ ms ∧ ms ≤ 5
 ·obtain ⟨h1, h2, h3, h4⟩ := h
  obtain ⟨k, rfl⟩ := Int.eq_ofNat_of_zero_le (show 0 ≤ cl by omega)
  obtain ⟨m, rfl⟩ := Int.eq_ofNat_of_zero_le (show 0 ≤ ms by omega)
  have g1 : decide (k < 1) = false := decide_eq_false (by omega)
  have g2 : decide (6 < k) = false := decide_eq_false (by omega)
  have g3 : decide (m < 1) = false := decide_eq_false (by omega)
  have g4 : decide (5 < m) = false := decide_eq_false (by omega)
  go_enter Tryz.func18, Tryz.ntmps18
  go_wp2_with (fail)
  refine AN.out.mono ?_
  rintro e w1 ⟨hb, (⟨ha, rfl⟩ | ⟨ha, G, rfl, hat⟩)⟩
  ·have HB := Lib.hid hb
   have HA := Lib.hid ha
   clear hb ha AN
   go_wp2_with (fail)
   go_ret2
   exact ⟨HB.out, .inl ⟨fun e => (by rw [HA.out] at e; cases e.2), rfl⟩⟩
  ·have HB := Lib.hid hb
   have HA := Lib.hid ha
   have HT := Lib.hid hat
   clear hb ha AN hat
   have HN : Hid (CalAt (w1.alloc (.cells ((Cl.new k m).cells G 0) 156)) w.heap.size w1.heap.size G 0 (l.map Cf.val) (Cl.new k m)) := Lib.hid
    ⟨Blk.new _ _ _, HT.out.below ((Below.refl _ _).alloc (Nat.le_refl _) _), HB.out.size, OwnB.nil _ _, by constructor <;> simp [Cl.new, Opn.zero], by show (0 : Nat) ≤ 2; omega, fun e => absurd rfl e, OwnB.nil _ _, OwnB.nil _ _, fun _ => rfl⟩
   have HB2 : Hid (Below w.heap.size w (w1.alloc (.cells ((Cl.new k m).cells G 0) 156))) := Lib.hid (HB.out.alloc HB.out.size _)
   go_wp2_with (fail)
   go_ret2
   exact ⟨HB2.out, .inr ⟨⟨h1, h2, h3, h4⟩, HA.out, _, _, rfl, HN.out⟩⟩
 ·have HN := Lib.hid h
  have hd : (decide (cl < 1) || decide (6 < cl) || decide (ms < 1) || decide (5 < ms)) = true := by simp; omega
  by_cases d1 : cl < 1
  ·have g1 : decide (cl < 1) = true := decide_eq_true d1
   exact rp63
  have g1 : decide (cl < 1) = false := decide_eq_false d1
  by_cases d2 : 6 < cl
  ·have g2 : decide (6 < cl) = true := decide_eq_true d2
   exact rp63
  have g2 : decide (6 < cl) = false := decide_eq_false d2
  by_cases d3 : ms < 1
  ·have g3 : decide (ms < 1) = true := decide_eq_true d3
   exact rp63
  have g3 : decide (ms < 1) = false := decide_eq_false d3
  have g4 : decide (5 < ms) = true := decide_eq_true (by omega)
  exact rp63
theorem calBusy_any (lo g G h : Nat) (vs : List (Int × Int × List Int × Bool × Int)) (c : Cl) (w : World) (a : CalAt w lo g G h vs c) :
  Calls Tryz.prog 66 #[.pointer (some ⟨g, 0, none⟩)] w fun e w' => e = .returned (.bool (c.st == 1)) ∧ Below w.heap.size w w' := by
 have hb := a.box
 have hst := a.st
 rcases (show c.st = 0 ∨ c.st = 1 ∨ c.st = 2 by omega) with hs | hs | hs
 ·have c10 : w.cell? ⟨g, 10, none⟩ = some (.pointer none) := (hb.cell 10).trans (by unfold Cl.cells Cl.ptr; rw [hs]; rfl)
  rw [hs]
  clear hb hst hs a
  go_enter Tryz.func66, Tryz.ntmps66
  go_wp2_with (fail)
  go_ret
  exact ⟨rfl, Below.refl _ _⟩
 ·have c10 : w.cell? ⟨g, 10, none⟩ = some (.pointer (some ⟨h, 0, none⟩)) := (hb.cell 10).trans (by unfold Cl.cells Cl.ptr; rw [hs]; rfl)
  have hl := (a.lat (by omega)).2
  rw [hs] at hl ⊢
  have LG : Hid (Calls Tryz.prog 143 #[.pointer (some ⟨h, 0, none⟩)] w fun e w' => e = .returned (.tuple #[.agg #[.int .i64 0, .int .u64 0, .slice none 0 0], .bool false]) ∧ Below w.heap.size w w') := Lib.hid (getRp_any h false c.rp w hl)
  clear hb hst hs a hl
  go_enter Tryz.func66, Tryz.ntmps66
  go_wp2_with (fail)
  refine LG.out.mono ?_
  rintro e w1 ⟨rfl, hb1⟩
  have HB := Lib.hid hb1
  clear hb1 LG
  go_wp2_with (fail)
  go_ret
  exact ⟨rfl, HB.out.alloc HB.out.size _⟩
 ·have c10 : w.cell? ⟨g, 10, none⟩ = some (.pointer (some ⟨h, 0, none⟩)) := (hb.cell 10).trans (by unfold Cl.cells Cl.ptr; rw [hs]; rfl)
  have hl := (a.lat (by omega)).2
  rw [hs] at hl ⊢
  have LG : Hid (Calls Tryz.prog 143 #[.pointer (some ⟨h, 0, none⟩)] w fun e w' => e = .returned (.tuple #[.agg #[.int .i64 c.rp.cd, .int .u64 c.rp.vr, .slice c.rp.A c.rp.n c.rp.c], .bool true]) ∧ Below w.heap.size w w') := Lib.hid (getRp_any h true c.rp w hl)
  clear hb hst hs a hl
  go_enter Tryz.func66, Tryz.ntmps66
  go_wp2_with (fail)
  refine LG.out.mono ?_
  rintro e w1 ⟨rfl, hb1⟩
  have HB := Lib.hid hb1
  clear hb1 LG
  go_wp2_with (fail)
  go_ret
  exact ⟨rfl, HB.out.alloc HB.out.size _⟩
theorem calAddr_any (lo g G h : Nat) (vs : List (Int × Int × List Int × Bool × Int)) (c : Cl) (f : Nat) (w : World) (a : CalAt w lo g G h vs c) (hf : f = 200 + c.cl) (hc : c.cl ≤ 6) :
  Calls Tryz.prog 29 #[.pointer (some ⟨g, 0, none⟩)] w fun e w' => e = .returned (.int .i64 (f : Int)) ∧ w = w' := by
 have c0 : w.cell? ⟨g, 0, none⟩ = some (.int .i64 c.cl) := (a.box.cell 0).trans rfl
 have e1 : IntKind.i64.wrap (200 + (c.cl : Int)) = (f : Int) := by rw [IntKind.wrap_i64]; omega
 clear a hf
 go_enter Tryz.func29, Tryz.ntmps29
 go_wp2_with (fail)
 go_ret
 exact ⟨by first | rfl | (rw [← e1]; rfl) | simp [e1], rfl⟩
theorem calNum_any (lo g G h : Nat) (vs : List (Int × Int × List Int × Bool × Int)) (c : Cl) (w : World) (a : CalAt w lo g G h vs c) :
  Calls Tryz.prog 67 #[.pointer (some ⟨g, 0, none⟩)] w fun e w' => e = .returned (.int .u64 c.num) ∧ w = w' := by
 have c2 : w.cell? ⟨g, 2, none⟩ = some (.int .u64 c.num) := (a.box.cell 2).trans rfl
 clear a
 go_enter Tryz.func67, Tryz.ntmps67
 go_wp2_with (fail)
 go_ret
 exact ⟨rfl, rfl⟩
end Go.Proofs.YtmpedblelnpjdaaGreatDoor

end
section
/- A caller: check. -/
namespace Go.Proofs.YtmpedblelnpjdaaGreatDoor
open Go.RowKit
set_option linter.unusedSimpArgs false
set_option linter.unusedVariables false
set_option maxHeartbeats 8000000
set_option maxRecDepth 100000
attribute [local go_sem] Opn.agg Opn.cells
noncomputable def chkE (o : Opn) (cl num : Int) : Int := if o.kd = 1 then (if o.ver ≠ 0 ∨ 0 < o.n then 4 else 0) else if o.kd = 2 ∨ o.kd = 3 then reqE o cl num else 1
theorem opInfo : (Tryz.prog.info? 58).map (·.size) = some 5 := by kernel_rfl
theorem load_op (o : Opn) (g : Nat) (w : World) (h : Blk w g 58 o.cells) : (loadVar 58 ⟨g, 0, none⟩).run Tryz.prog w = .ok o.agg w := run_loadVar_row w g 58 58 o.cells (0, 0) _ h Tryz.underlying58 rfl opInfo
theorem upInfo7 : (Tryz.prog.info? 145).map (·.size) = some 7 := by kernel_rfl
theorem up_all (u : Up) : u.cells.all (·.oneCell') = true := by simp [Up.cells, Value.oneCell']
theorem op_cells {w : World} {g : Nat} {o : Opn} (h : Blk w g 58 o.cells) : w.cell? ⟨g, 0, none⟩ = some (.int .i64 o.kd) ∧ w.cell? ⟨g, 1, none⟩ = some (.int .u32 o.key) ∧ w.cell? ⟨g, 2, none⟩ = some (.int .u64 o.ver) ∧ w.cell? ⟨g, 3, none⟩ = some (.slice o.A o.n o.c) ∧ w.cell? ⟨g, 4, none⟩ = some (.int .i64 o.pick) :=
 ⟨h.cell 0, h.cell 1, h.cell 2, h.cell 3, h.cell 4⟩
theorem calCheck_any (lo g G h : Nat) (vs : List (Int × Int × List Int × Bool × Int)) (c : Cl) (o : Opn) (B : Nat) (w : World) (hK : KindsAt w) (a : CalAt w lo g G h vs c) (ho : OpIn w B o) (hB : B ≤ w.heap.size) (hn : o.n ≤ 1000000) (hcl : c.cl ≤ 6) (hnum : c.num ≤ 1000000) :
  Calls Tryz.prog 74 #[.pointer (some ⟨g, 0, none⟩), o.agg] w fun e w' => e = .returned (.int .i64 (chkE o c.cl ((c.num + 1 : Nat) : Int))) ∧ Below w.heap.size w w' := by
 obtain ⟨W5, hW5⟩ : ∃ W5, W5 = w.alloc (.cells o.cells 58) := ⟨_, rfl⟩
 have hb1 : Blk W5 w.heap.size 58 o.cells := by rw [hW5]; exact Blk.new _ _ _
 have HBW : Hid (Below w.heap.size w W5) := Lib.hid (by rw [hW5]; exact (Below.refl _ _).alloc (Nat.le_refl _) _)
 have HA : Hid (CalAt W5 lo g G h vs c) := Lib.hid (a.below HBW.out)
 have HO : Hid (OpIn W5 B o) := Lib.hid (ho.below (HBW.out.mono hB))
 have HK := Lib.hid (hK.below HBW.out)
 have HB5 := Nat.le_trans hB HBW.out.size
 have lg := a.box.lt
 have l1 := hb1.lt
 obtain ⟨x0, x1, x2, x3, x4⟩ := op_cells hb1
 have nw : g ≠ w.heap.size := by omega
 have y0 : W5.cell? ⟨g, 0, none⟩ = some (.int .i64 c.cl) := (HA.out.box.cell 0).trans rfl
 have y2 : W5.cell? ⟨g, 2, none⟩ = some (.int .u64 c.num) := (HA.out.box.cell 2).trans rfl
 have lg5 := HA.out.box.lt
 have HW5 := Lib.hid hW5
 have e1 : IntKind.u64.wrap ((c.num : Int) + 1) = ((c.num + 1 : Nat) : Int) := by rw [IntKind.wrap_u64]; omega
 have RQ := Lib.hid (fun W (h9 : Below W5.heap.size W5 W) => request_any o c.cl ((c.num + 1 : Nat) : Int) B W (HK.out.below (h9.mono (by omega))) (HO.out.below (h9.mono HB5)) (Nat.le_trans HB5 h9.size) hn (by omega) (by omega))
 clear hW5 a ho hK
 by_cases hk1 : o.kd = 1
 ·have q1 : (o.kd == 1) = true := by simp [hk1]
  by_cases hv : o.ver = 0
  ·have q2 : (o.ver != 0) = false := by simp [hv]
   by_cases h0 : 0 < o.n
   ·have q3 : decide (0 < o.n) = true := decide_eq_true h0
    have HE : Hid (chkE o c.cl ((c.num + 1 : Nat) : Int) = 4) := Lib.hid (by unfold chkE; rw [if_pos hk1, if_pos (.inr h0)])
    rw [HE.out]
    clear hk1 hv h0 HE
    exact rp40
   ·have q3 : decide (0 < o.n) = false := decide_eq_false h0
    have HE : Hid (chkE o c.cl ((c.num + 1 : Nat) : Int) = 0) := Lib.hid (by unfold chkE; rw [if_pos hk1, if_neg (by rintro (e | e); exact e hv; exact h0 e)])
    rw [HE.out]
    clear hk1 hv h0 HE
    exact rp40
  ·have q2 : (o.ver != 0) = true := by simp [hv]
   have HE : Hid (chkE o c.cl ((c.num + 1 : Nat) : Int) = 4) := Lib.hid (by unfold chkE; rw [if_pos hk1, if_pos (.inl hv)])
   rw [HE.out]
   clear hk1 hv HE
   exact rp40
 ·have q1 : (o.kd == 1) = false := by simp [hk1]
  by_cases hk2 : o.kd = 2 ∨ o.kd = 3
  ·have HE : Hid (chkE o c.cl ((c.num + 1 : Nat) : Int) = reqE o c.cl ((c.num + 1 : Nat) : Int)) := Lib.hid (by unfold chkE; rw [if_neg hk1, if_pos hk2])
   rw [HE.out]
   have q23 : ((o.kd == 2) = true) ∨ ((o.kd == 2) = false ∧ (o.kd == 3) = true) := by
    rcases hk2 with e | e
    ·exact .inl (by simp [e])
    ·exact .inr ⟨by simp [e], by simp [e]⟩
   clear hk1 hk2 HE
   have HBO : Hid (Blk W5 w.heap.size 58 o.cells) := Lib.hid hb1
   clear hb1
   rcases q23 with q2 | ⟨q2, q3⟩
   all_goals
    go_enter Tryz.func74, Tryz.ntmps74
    go_upto_region 9 with (fail)
    rw [show w.alloc (.cells #[.int .i64 o.kd, .int .u32 o.key, .int .u64 o.ver, .slice o.A o.n o.c, .int .i64 o.pick] 58) = W5 from HW5.out.symm]
    have HB : Hid (Below W5.heap.size W5 W5.drew) := Lib.hid (Below.refl _ _).drew
    have hBO := HBO.out
    clear x0 x1 x2 x3 x4
    refine wp_region_held_drew (S := fun wq => wq.cell? ⟨g, 0, none⟩ = some (.int .i64 c.cl) ∧ wq.cell? ⟨g, 2, none⟩ = some (.int .u64 c.num) ∧ Blk wq w.heap.size 58 o.cells) (by kernel_rfl) ⟨y0, y2, hBO⟩ (fun hHeld => ?_)
    refine tkT 0 rfl (v := o.agg) ?_ ?_
    ·exact fun wq hSw => exec_load_row rfl _ rfl (load_op o _ wq hSw.2.2)
    try simp only [Act.put, pS]
    refine tkT 1 rfl (v := ?_) ?_ ?_
    rotate_left 1
    ·(intro wq hSw; (try dsimp only at hSw); go_simp; (try with_reducible rfl))
    refine tkT 2 rfl (v := ?_) ?_ ?_
    rotate_left 1
    ·(intro wq hSw; (try dsimp only at hSw); go_simp; (try with_reducible rfl))
    refine tkT 3 rfl (v := ?_) ?_ ?_
    rotate_left 1
    ·(intro wq hSw; (try dsimp only at hSw); go_simp; (try with_reducible rfl))
    refine tkT 4 rfl (v := ?_) ?_ ?_
    rotate_left 1
    ·(intro wq hSw; (try dsimp only at hSw); go_simp; (try with_reducible rfl))
    refine tkT 5 rfl (v := ?_) ?_ ?_
    rotate_left 1
    ·(intro wq hSw; (try dsimp only at hSw); go_simp; (try with_reducible rfl))
    refine tkT 6 rfl (v := ?_) ?_ ?_
    rotate_left 1
    ·(intro wq hSw; (try dsimp only at hSw); go_simp; (try with_reducible rfl))
    refine tkT 7 rfl (v := ?_) ?_ ?_
    rotate_left 1
    ·(intro wq hSw; (try dsimp only at hSw); go_simp; (try with_reducible rfl))
    refine tkT 8 rfl (v := ?_) ?_ ?_
    rotate_left 1
    ·(intro wq hSw; (try dsimp only at hSw); go_simp; (try with_reducible rfl))
    refine tkT 9 rfl (v := ?_) ?_ ?_
    rotate_left 1
    ·(intro wq hSw; (try dsimp only at hSw); go_simp; (try with_reducible rfl))
    try simp only [Act.put, pS]
    refine wpAnyH_ready (rs := [10, 14]) (by kernel_rfl) (by simp) ?_
    refine (AllReadyH.cons rfl (fun K hK => ?_) (AllReadyH.cons rfl (fun K hK => ?_) AllReadyH.nil))
    ·go_simp
     refine (RQ.out _ HB.out).mono ?_
     rintro e x10 ⟨A9, c9, rfl, hu9, h9⟩
     replace HB := Lib.hid (HB.out.trans (h9.mono HB.out.size))
     (try replace GB := Lib.hid (GB.out.below h9 GB.out.lt))
     have HS : x10.cell? ⟨g, 0, none⟩ = some (.int .i64 c.cl) ∧ x10.cell? ⟨g, 2, none⟩ = some (.int .u64 c.num) ∧ Blk x10 w.heap.size 58 o.cells := ⟨(HA.out.below HB.out).box.cell 0, (HA.out.below HB.out).box.cell 2, HBO.out.below HB.out l1⟩
     clear h9 hu9
     generalize reqV (reqE o c.cl ((c.num + 1 : Nat) : Int)) (reqU o c.cl ((c.num + 1 : Nat) : Int) A9 c9) = u9 at *
     refine hK.out _ _ ?_ (fun hHeld => ?_)
     ·first | exact HS | go_keep
     clear hK K
     try simp only [Act.put, pS]
     refine tkT 11 rfl (v := ?_) ?_ ?_
     rotate_left 1
     ·(intro wq hSw; (try dsimp only at hSw); go_simp; (try with_reducible rfl))
     refine tkT 12 rfl (v := ?_) ?_ ?_
     rotate_left 1
     ·(intro wq hSw; (try dsimp only at hSw); go_simp; (try with_reducible rfl))
     refine tkT 13 rfl (v := ?_) ?_ ?_
     rotate_left 1
     ·(intro wq hSw; (try dsimp only at hSw); go_simp; (try with_reducible rfl))
     try simp only [Act.put, pS]
     refine wpAnyH_ready (rs := [14]) (by kernel_rfl) (by simp) ?_
     refine (AllReadyH.cons rfl (fun K hK => ?_) AllReadyH.nil)
     go_simp
     have lG : W5.heap.size ≤ x10.heap.size := HB.out.size
     have GB := Lib.hid (Blk.new x10 145 #[.int .u64 0, .int .i64 0, .int .u64 0, .int .i64 0, .int .u32 0, .int .u64 0, .slice none 0 0])
     replace HB := Lib.hid (HB.out.alloc HB.out.size (.cells #[.int .u64 0, .int .i64 0, .int .u64 0, .int .i64 0, .int .u32 0, .int .u64 0, .slice none 0 0] 145))
     have HS : (x10.alloc (.cells #[.int .u64 0, .int .i64 0, .int .u64 0, .int .i64 0, .int .u32 0, .int .u64 0, .slice none 0 0] 145)).cell? ⟨g, 0, none⟩ = some (.int .i64 c.cl) ∧ (x10.alloc (.cells #[.int .u64 0, .int .i64 0, .int .u64 0, .int .i64 0, .int .u32 0, .int .u64 0, .slice none 0 0] 145)).cell? ⟨g, 2, none⟩ = some (.int .u64 c.num) ∧ Blk (x10.alloc (.cells #[.int .u64 0, .int .i64 0, .int .u64 0, .int .i64 0, .int .u32 0, .int .u64 0, .slice none 0 0] 145)) w.heap.size 58 o.cells := ⟨(HA.out.below HB.out).box.cell 0, (HA.out.below HB.out).box.cell 2, HBO.out.below HB.out l1⟩
     refine hK.out _ _ ?_ (fun hHeld => ?_)
     ·first | exact HS | go_keep
     clear hK K
     try simp only [Act.put, pS]
     refine wpAnyH_ready (rs := [15]) (by kernel_rfl) (by simp) ?_
     refine (AllReadyH.cons rfl (fun K hK => ?_) AllReadyH.nil)
     replace HB : Hid (Below W5.heap.size W5 (World.setRow (x10.alloc (.cells #[.int .u64 0, .int .i64 0, .int .u64 0, .int .i64 0, .int .u32 0, .int .u64 0, .slice none 0 0] 145)) x10.heap.size u9.cells)) := Lib.hid (below_setRow HB.out lG _)
     have HS : (World.setRow (x10.alloc (.cells #[.int .u64 0, .int .i64 0, .int .u64 0, .int .i64 0, .int .u32 0, .int .u64 0, .slice none 0 0] 145)) x10.heap.size u9.cells).cell? ⟨g, 0, none⟩ = some (.int .i64 c.cl) ∧ (World.setRow (x10.alloc (.cells #[.int .u64 0, .int .i64 0, .int .u64 0, .int .i64 0, .int .u32 0, .int .u64 0, .slice none 0 0] 145)) x10.heap.size u9.cells).cell? ⟨g, 2, none⟩ = some (.int .u64 c.num) ∧ Blk (World.setRow (x10.alloc (.cells #[.int .u64 0, .int .i64 0, .int .u64 0, .int .i64 0, .int .u32 0, .int .u64 0, .slice none 0 0] 145)) x10.heap.size u9.cells) w.heap.size 58 o.cells := ⟨(HA.out.below HB.out).box.cell 0, (HA.out.below HB.out).box.cell 2, HBO.out.below HB.out l1⟩
     refine step_store_row rfl 145 (.tmp 5) (.tmp 35) rfl x10.heap.size u9.cells rfl rfl 145 #[.int .u64 0, .int .i64 0, .int .u64 0, .int .i64 0, .int .u32 0, .int .u64 0, .slice none 0 0] GB.out upInfo7 rfl (up_all _) ?_
     exact rp65
    ·go_simp
     have lG : W5.heap.size ≤ W5.drew.heap.size := HB.out.size
     have GB := Lib.hid (Blk.new W5.drew 145 #[.int .u64 0, .int .i64 0, .int .u64 0, .int .i64 0, .int .u32 0, .int .u64 0, .slice none 0 0])
     replace HB := Lib.hid (HB.out.alloc HB.out.size (.cells #[.int .u64 0, .int .i64 0, .int .u64 0, .int .i64 0, .int .u32 0, .int .u64 0, .slice none 0 0] 145))
     have HS : (W5.drew.alloc (.cells #[.int .u64 0, .int .i64 0, .int .u64 0, .int .i64 0, .int .u32 0, .int .u64 0, .slice none 0 0] 145)).cell? ⟨g, 0, none⟩ = some (.int .i64 c.cl) ∧ (W5.drew.alloc (.cells #[.int .u64 0, .int .i64 0, .int .u64 0, .int .i64 0, .int .u32 0, .int .u64 0, .slice none 0 0] 145)).cell? ⟨g, 2, none⟩ = some (.int .u64 c.num) ∧ Blk (W5.drew.alloc (.cells #[.int .u64 0, .int .i64 0, .int .u64 0, .int .i64 0, .int .u32 0, .int .u64 0, .slice none 0 0] 145)) w.heap.size 58 o.cells := ⟨(HA.out.below HB.out).box.cell 0, (HA.out.below HB.out).box.cell 2, HBO.out.below HB.out l1⟩
     refine hK.out _ _ ?_ (fun hHeld => ?_)
     ·first | exact HS | go_keep
     clear hK K
     try simp only [Act.put, pS]
     refine wpAnyH_ready (rs := [10]) (by kernel_rfl) (by simp) ?_
     refine (AllReadyH.cons rfl (fun K hK => ?_) AllReadyH.nil)
     go_simp
     refine (RQ.out _ HB.out).mono ?_
     rintro e x10 ⟨A9, c9, rfl, hu9, h9⟩
     replace HB := Lib.hid (HB.out.trans (h9.mono HB.out.size))
     (try replace GB := Lib.hid (GB.out.below h9 GB.out.lt))
     have HS : x10.cell? ⟨g, 0, none⟩ = some (.int .i64 c.cl) ∧ x10.cell? ⟨g, 2, none⟩ = some (.int .u64 c.num) ∧ Blk x10 w.heap.size 58 o.cells := ⟨(HA.out.below HB.out).box.cell 0, (HA.out.below HB.out).box.cell 2, HBO.out.below HB.out l1⟩
     clear h9 hu9
     generalize reqV (reqE o c.cl ((c.num + 1 : Nat) : Int)) (reqU o c.cl ((c.num + 1 : Nat) : Int) A9 c9) = u9 at *
     refine hK.out _ _ ?_ (fun hHeld => ?_)
     ·first | exact HS | go_keep
     clear hK K
     try simp only [Act.put, pS]
     refine tkT 11 rfl (v := ?_) ?_ ?_
     rotate_left 1
     ·(intro wq hSw; (try dsimp only at hSw); go_simp; (try with_reducible rfl))
     refine tkT 12 rfl (v := ?_) ?_ ?_
     rotate_left 1
     ·(intro wq hSw; (try dsimp only at hSw); go_simp; (try with_reducible rfl))
     refine tkT 13 rfl (v := ?_) ?_ ?_
     rotate_left 1
     ·(intro wq hSw; (try dsimp only at hSw); go_simp; (try with_reducible rfl))
     try simp only [Act.put, pS]
     refine wpAnyH_ready (rs := [15]) (by kernel_rfl) (by simp) ?_
     refine (AllReadyH.cons rfl (fun K hK => ?_) AllReadyH.nil)
     replace HB : Hid (Below W5.heap.size W5 (World.setRow x10 W5.drew.heap.size u9.cells)) := Lib.hid (below_setRow HB.out lG _)
     have HS : (World.setRow x10 W5.drew.heap.size u9.cells).cell? ⟨g, 0, none⟩ = some (.int .i64 c.cl) ∧ (World.setRow x10 W5.drew.heap.size u9.cells).cell? ⟨g, 2, none⟩ = some (.int .u64 c.num) ∧ Blk (World.setRow x10 W5.drew.heap.size u9.cells) w.heap.size 58 o.cells := ⟨(HA.out.below HB.out).box.cell 0, (HA.out.below HB.out).box.cell 2, HBO.out.below HB.out l1⟩
     refine step_store_row rfl 145 (.tmp 5) (.tmp 35) rfl W5.drew.heap.size u9.cells rfl rfl 145 #[.int .u64 0, .int .i64 0, .int .u64 0, .int .i64 0, .int .u32 0, .int .u64 0, .slice none 0 0] GB.out upInfo7 rfl (up_all _) ?_
     exact rp65
  ·have HE : Hid (chkE o c.cl ((c.num + 1 : Nat) : Int) = 1) := Lib.hid (by unfold chkE; rw [if_neg hk1, if_neg hk2])
   rw [HE.out]
   have q2 : (o.kd == 2) = false := by simp; omega
   have q3 : (o.kd == 3) = false := by simp; omega
   clear hk1 hk2 HE
   exact rp40
end Go.Proofs.YtmpedblelnpjdaaGreatDoor

end
