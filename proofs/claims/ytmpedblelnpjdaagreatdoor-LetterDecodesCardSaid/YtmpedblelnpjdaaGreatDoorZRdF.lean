/- The document's Get of a configuration. -/
import Derived.Test.YtmpedblelnpjdaaGreatDoorZRdE
import Derived.Test.YtmpedblelnpjdaaGreatDoorZTk
import Derived.Test.YtmpedblelnpjdaaGreatDoorZCeF
import Derived.Test.YtmpedblelnpjdaaGreatDoorZGR
import Derived.Test.YtmpedblelnpjdaaGreatDoorZHeld
namespace Go.Proofs.YtmpedblelnpjdaaGreatDoor
open Go.RowKit
set_option linter.unusedSimpArgs false
set_option linter.unusedVariables false
set_option maxHeartbeats 8000000
set_option maxRecDepth 100000
attribute [local go_sem] RI.agg
theorem cfInfo5r : (Tryz.prog.info? 33).map (·.size) = some 5 := by kernel_rfl
theorem cf_allr (y : Cf) : y.cells.all (·.oneCell') = true := by simp [Cf.cells, Value.oneCell']
theorem load_cf5 (q : Cf) (g : Nat) (w : World) (h : Blk w g 33 q.cells) : (loadVar 33 ⟨g, 0, none⟩).run Tryz.prog w = .ok (.agg q.cells) w :=
 run_loadVar_row w g 33 33 q.cells (0, 0) _ h Tryz.underlying33 rfl cfInfo5r
def Cf.zeroC : Cf := ⟨0, 0, none, 0, 0, false, 0, []⟩
def CnP (B : Nat) (s : FI) (w : World) (e : Ending) (w' : World) : Prop :=
 ∃ (y : RI) (z : Cf), e = .returned (.tuple #[.agg y.cells, .agg z.cells, .int .i64 (confGe s)]) ∧ y.s = (k6 s).1 ∧ z.ch = (confGv s).ch ∧ (z.ep : Int) = (confGv s).ep ∧ z.fr = (confGv s).fr ∧ z.jn = (confGv s).jn ∧ z.zs = (confGv s).ns ∧ w'.ownsRow w.heap.size 3 1 (.slice z.A z.len z.cap) z.len (z.zs.map (Value.int .i64)) ∧ RIn w' B y ∧ Below w.heap.size w w'
structure CnM (w W : World) (B : Nat) (y : RI) : Prop where
 bi : Blk W w.heap.size 130 y.cells
 bz : Blk W (w.heap.size + 1) 130 #[.slice none 0 0, .int .i64 0]
 bw : Blk W (w.heap.size + 2) 33 #[.int .i64 0, .int .u64 0, .slice none 0 0, .bool false, .int .i64 0]
 rin : RIn W B y
 bel : Below w.heap.size w W
 lt : B ≤ w.heap.size
theorem CnM.le {w W : World} {B : Nat} {y : RI} (h : CnM w W B y) : B ≤ W.heap.size := Nat.le_trans h.lt h.bel.size
theorem CnM.below {w W W1 : World} {B : Nat} {y : RI} (h : CnM w W B y) (hb : Below W.heap.size W W1) : CnM w W1 B y :=
 ⟨h.bi.below hb h.bi.lt, h.bz.below hb h.bz.lt, h.bw.below hb h.bw.lt, h.rin.below (hb.mono h.le), h.bel.trans (hb.mono h.bel.size), h.lt⟩
theorem CnM.step {w W W1 : World} {B : Nat} {y z : RI} (h : CnM w W B y) (hb : Below W.heap.size W W1) (hz : RIn W1 B z) :
  CnM w ((W1.setCell ⟨w.heap.size, 0, none⟩ (.slice z.A z.s.l.length z.cap)).setCell ⟨w.heap.size, 1, none⟩ (.int .i64 z.s.e)) B z := by
 have HC := set2_chg W1 w.heap.size (.slice z.A z.s.l.length z.cap) (.int .i64 z.s.e)
 have h1 := h.below hb
 have n1 : ¬ isG w.heap.size (w.heap.size + 1) := by unfold isG; omega
 have n2 : ¬ isG w.heap.size (w.heap.size + 2) := by unfold isG; omega
 exact ⟨(h1.bi.set_ 0 _).set_ 1 _, HC.blk h1.bz n1, HC.blk h1.bw n2, hz.set2 h.lt _ _, h1.bel.trans (HC.below h1.bel.size (fun k hk e => by simp only [isG] at e; omega)), h.lt⟩
theorem CnM.start (w : World) (B : Nat) (x : RI) (h : RIn w B x) (hB : B ≤ w.heap.size) : CnM w (((w.alloc (.cells x.cells 130)).alloc (.cells #[.slice none 0 0, .int .i64 0] 130)).alloc (.cells #[.int .i64 0, .int .u64 0, .slice none 0 0, .bool false, .int .i64 0] 33)) B x := by
 have hb : Below w.heap.size w (((w.alloc (.cells x.cells 130)).alloc (.cells #[.slice none 0 0, .int .i64 0] 130)).alloc (.cells #[.int .i64 0, .int .u64 0, .slice none 0 0, .bool false, .int .i64 0] 33)) := (((Below.refl _ _).alloc (Nat.le_refl _) _).alloc (by simp) _).alloc (by simp; omega) _
 refine ⟨((Blk.new w _ _).alloc _).alloc _, ?_, ?_, h.below (hb.mono hB), hb, hB⟩
 ·have := (Blk.new (w.alloc (.cells x.cells 130)) 130 #[.slice none 0 0, .int .i64 0]).alloc (.cells #[.int .i64 0, .int .u64 0, .slice none 0 0, .bool false, .int .i64 0] 33)
  simpa using this
 ·have := Blk.new ((w.alloc (.cells x.cells 130)).alloc (.cells #[.slice none 0 0, .int .i64 0] 130)) 33 #[.int .i64 0, .int .u64 0, .slice none 0 0, .bool false, .int .i64 0]
  simpa using this
structure CnR (w V V1 V2 : World) (y : RI) (q : Cf) (B : Nat) : Prop where
 z1 : Blk V1 (w.heap.size + 2) 33 #[.int .i64 0, .int .u64 0, .slice none 0 0, .bool false, .int .i64 0]
 s1 : Blk V1 w.heap.size 130 y.cells
 s2 : Blk V2 w.heap.size 130 y.cells
 y1 : Blk V2 (w.heap.size + 1) 130 y.cells
 y2 : Blk V2 (w.heap.size + 2) 33 q.cells
 c1 : Chg V V1 (fun k => k = w.heap.size + 1)
 c2 : Chg V1 V2 (fun k => k = w.heap.size + 2)
 bel : Below w.heap.size w V2
 rin : RIn V2 B y
theorem CnM.fin {w V V1 V2 : World} {y : RI} {B : Nat} (q : Cf) (h : CnM w V B y) (hV1 : V1 = V.setRow (w.heap.size + 1) y.cells) (hV2 : V2 = V1.setRow (w.heap.size + 2) q.cells) : CnR w V V1 V2 y q B := by
 have C1 : Chg V V1 (fun k => k = w.heap.size + 1) := by rw [hV1]; exact chg_row _ _ _
 have C2 : Chg V1 V2 (fun k => k = w.heap.size + 2) := by rw [hV2]; exact chg_row _ _ _
 have z1 := C1.blk h.bw (show ¬ (w.heap.size + 2 = w.heap.size + 1) by omega)
 have y1 : Blk V1 (w.heap.size + 1) 130 y.cells := by rw [hV1]; exact setRow_heap _ _ _ _ _ _ h.bz
 have s1 := C1.blk h.bi (show ¬ (w.heap.size = w.heap.size + 1) by omega)
 have hB := h.lt
 have b1 := C1.below (B := B) h.le (fun k hk e => by omega)
 have b2 := C2.below (B := B) (Nat.le_trans h.le C1.size) (fun k hk e => by omega)
 refine ⟨z1, s1, C2.blk s1 (by omega), C2.blk y1 (by omega), ?_, C1, C2, ?_, (h.rin.below b1).below b2⟩
 ·rw [hV2]; exact setRow_heap _ _ _ _ _ _ z1
 ·exact (h.bel.trans (C1.below h.bel.size (fun k hk e => by omega))).trans (C2.below (Nat.le_trans h.bel.size C1.size) (fun k hk e => by omega))
structure CnL (w : World) (B g : Nat) (y : RI) (ch ep jn : Int) (fr : Bool) (bs : List Int) (j : Nat) (A : Option Addr) (c : Nat) (W : World) : Prop where
 m : CnM w W B y
 blk : Blk W g 33 #[.int .i64 ch, .int .u64 ep, .slice A j c, .bool fr, .int .i64 jn]
 row : W.ownsRow (g + 1) 3 1 (.slice A j c) j ((bs.take j).map (Value.int .i64))
 lt : w.heap.size + 2 < g
theorem CnL.put {w W W1 w9 : World} {B g : Nat} {y : RI} {ch ep jn z : Int} {fr : Bool} {bs : List Int} {j : Nat} {A A9 : Option Addr} {c c9 : Nat} (h : CnL w B g y ch ep jn fr bs j A c W) (hz : bs[j]? = some z) (hb : Below W.heap.size W W1)
  (hown : w9.ownsRow (g + 1) 3 1 (.slice A9 (j + 1) c9) (j + 1) ((bs.take j).map (Value.int .i64) ++ [.int .i64 z])) (hg : W1.grownBy w9 (Value.slice A j c).ownBlock) :
  Blk w9 g 33 #[.int .i64 ch, .int .u64 ep, .slice A j c, .bool fr, .int .i64 jn] ∧ CnL w B g y ch ep jn fr bs (j + 1) A9 c9 (w9.setCell ⟨g, 2, none⟩ (.slice A9 (j + 1) c9)) := by
 have hlow : ∀ k, (Value.slice A j c).ownBlock = some k → g < k := fun k hk => by have := (h.row.lt k hk).1; omega
 have hc : Chg W1 w9 (fun k => g < k) := (Chg.of_grown hg).sub (fun k e => hlow k e.symm)
 have hlt := h.lt
 have hB := h.m.lt
 have m1 := h.m.below hb
 have b9 := hc.blk (h.blk.below hb h.blk.lt) (show ¬ (g < g) by omega)
 have hs := chg_set0 w9 g (.slice A9 (j + 1) c9) 2
 have hcs : Chg W1 (w9.setCell ⟨g, 2, none⟩ (.slice A9 (j + 1) c9)) (fun k => g ≤ k) := (hc.sub (fun k e => Nat.le_of_lt e)).trans (hs.sub (fun k e => by simp only [isG] at e; omega)) (fun _ _ e => e)
 refine ⟨b9, ⟨⟨hcs.blk m1.bi (by omega), hcs.blk m1.bz (by omega), hcs.blk m1.bw (by omega), m1.rin.below (hcs.below m1.le (fun k hk e => by omega)), m1.bel.trans (hcs.below m1.bel.size (fun k hk e => by omega)), hB⟩, b9.set_ 2 _, ?_, hlt⟩⟩
 rw [List.take_add_one, hz, List.map_append]
 exact hs.own hown (fun k hk e => by have := (hown.lt k hk).1; simp only [isG] at e; omega)
theorem conGet_any (x : RI) (B : Nat) (w : World) (h : RIn w B x) (hB : B ≤ w.heap.size) : Calls Tryz.prog 124 #[.agg x.cells] w (CnP B x.s w) := by
 obtain ⟨i0, hi, hz0, hz1, hz2⟩ := info_parts intInfoC
 obtain ⟨l1, l2, l4, l5⟩ := ks_lt x.s h.by_
 obtain ⟨bk1, bk2, bk3, bk4, bk5⟩ := ks_bytes x.s h.by_
 have HBY : Hid (bytesB (k6 x.s).2) := Lib.hid (raw_bytes2 (k5 x.s).1 _ bk5)
 have HLN := Lib.hid (k6_len x.s h.by_)
 have G1 := Lib.hid (fun W (y : RI) (hy : y.s = x.s) (i : RIn W B y) (hW : B ≤ W.heap.size) => (show Calls Tryz.prog 51 #[y.agg, .int .i64 1] W (UPost B W (k1 x.s)) from by have := refGet_any y 1 B W i hW; rw [hy] at this; exact this))
 have G2 := Lib.hid (fun W (y : RI) (hy : y.s = (k1 x.s).1) (i : RIn W B y) (hW : B ≤ W.heap.size) => (show Calls Tryz.prog 51 #[y.agg, .int .i64 8] W (UPost B W (k2 x.s)) from by have := refGet_any y 8 B W i hW; rw [hy] at this; exact this))
 have G3 := Lib.hid (fun W (y : RI) (hy : y.s = (k2 x.s).1) (i : RIn W B y) (hW : B ≤ W.heap.size) => (show Calls Tryz.prog 225 #[y.agg] W (BPost B W (k3 x.s).1 (decide ((k3 x.s).2 = 1))) from by have := refBool_any y B W i hW; rw [hy] at this; exact this))
 have G4 := Lib.hid (fun W (y : RI) (hy : y.s = (k3 x.s).1) (i : RIn W B y) (hW : B ≤ W.heap.size) => (show Calls Tryz.prog 51 #[y.agg, .int .i64 1] W (UPost B W (k4 x.s)) from by have := refGet_any y 1 B W i hW; rw [hy] at this; exact this))
 have G5 := Lib.hid (fun W (y : RI) (hy : y.s = (k4 x.s).1) (i : RIn W B y) (hW : B ≤ W.heap.size) => (show Calls Tryz.prog 51 #[y.agg, .int .i64 1] W (UPost B W (k5 x.s)) from by have := refGet_any y 1 B W i hW; rw [hy] at this; exact this))
 have G6 := Lib.hid (fun W (y : RI) (hy : y.s = (k5 x.s).1) (i : RIn W B y) (hW : B ≤ W.heap.size) => (show Calls Tryz.prog 224 #[y.agg, .int .i64 ((k5 x.s).2 : Int)] W (RPostC B W (k6 x.s)) from by have := refRawC_any y ((k5 x.s).2 : Int) B W i hW; rw [hy] at this; exact this))
 have VP : Hid (confP x.s = ⟨((k1 x.s).2 : Int), ((k2 x.s).2 : Int), decide ((k3 x.s).2 = 1), ((k4 x.s).2 : Int), (k6 x.s).2⟩) := Lib.hid rfl
 have VV : Hid (confGv x.s = if (k6 x.s).1.e ≠ 0 then Cn.zero else if (confP x.s).right = true then confP x.s else Cn.zero) := Lib.hid rfl
 have VE : Hid (confGe x.s = if (k6 x.s).1.e ≠ 0 then (k6 x.s).1.e else if (confP x.s).right = true then 0 else 4) := Lib.hid rfl
 have HP : Hid (∀ (y : RI) (W : World) (z : Cf) (ev : Int), y.s = (k6 x.s).1 → confGe x.s = ev → (z.ch = (confGv x.s).ch ∧ (z.ep : Int) = (confGv x.s).ep ∧ z.fr = (confGv x.s).fr ∧ z.jn = (confGv x.s).jn ∧ z.zs = (confGv x.s).ns) → W.ownsRow w.heap.size 3 1 (.slice z.A z.len z.cap) z.len (z.zs.map (Value.int .i64)) → RIn W B y → Below w.heap.size w W → CnP B x.s w (.returned (.tuple #[.agg y.cells, .agg z.cells, .int .i64 ev])) W) := Lib.hid (fun y W z ev h1 h2 h3 h4 h5 h6 => ⟨y, z, by rw [h2], h1, h3.1, h3.2.1, h3.2.2.1, h3.2.2.2.1, h3.2.2.2.2, h4, h5, h6⟩)
 have M0 := CnM.start w B x h hB
 generalize CnP B x.s w = post at *
 generalize confGv x.s = gv at *
 generalize confGe x.s = ge at *
 generalize confP x.s = cp at *
 generalize k1 x.s = p1 at *
 generalize k2 x.s = p2 at *
 generalize k3 x.s = p3 at *
 generalize k4 x.s = p4 at *
 generalize k5 x.s = p5 at *
 generalize k6 x.s = p6 at *
 obtain ⟨s1, n1⟩ := p1
 obtain ⟨s2, n2⟩ := p2
 obtain ⟨s3, n3⟩ := p3
 obtain ⟨s4, n4⟩ := p4
 obtain ⟨s5, n5⟩ := p5
 obtain ⟨s6, bs⟩ := p6
 simp only at G1 G2 G3 G4 G5 G6 VP VV VE HBY HLN HP l1 l2 l4 l5
 have c1 : IntKind.i64.wrap (n1 : Int) = n1 := by rw [IntKind.wrap_i64]; omega
 have c4 : IntKind.i64.wrap (n4 : Int) = n4 := by rw [IntKind.wrap_i64]; omega
 have c5 : IntKind.i64.wrap (n5 : Int) = n5 := by rw [IntKind.wrap_i64]; omega
 obtain ⟨fr, hfr⟩ : ∃ fr, fr = decide (n3 = 1) := ⟨_, rfl⟩
 rw [← hfr] at G3 VP
 obtain ⟨W0, hW0⟩ : ∃ W0, W0 = ((w.alloc (.cells x.cells 130)).alloc (.cells #[.slice none 0 0, .int .i64 0] 130)).alloc (.cells #[.int .i64 0, .int .u64 0, .slice none 0 0, .bool false, .int .i64 0] 33) := ⟨_, rfl⟩
 rw [← hW0] at M0
 have M := Lib.hid M0
 have HW0 := Lib.hid hW0
 have hzc : ∀ w : World, (Instr.build 33 #[]).run Tryz.prog w = .ok (.agg #[.int .i64 0, .int .u64 0, .slice none 0 0, .bool false, .int .i64 0]) w := fun w => by kernel_rfl
 clear h M0 hW0 hfr bk1 bk2 bk3 bk4 bk5
 obtain ⟨r0, r1⟩ := ri_cells M.out.bi
 have g0 := M.out.bi.lt
 go_enter Tryz.func124, Tryz.ntmps124
 go_upto_region 1 with (fail)
 rw [← HW0.out]
 clear HW0
 go_wp2_with (fail)
 clear r0 r1 g0
 refine (G1.out _ x rfl M.out.rin M.out.le).mono ?_
 rintro e w1 ⟨y1, rfl, hz, h1, h2⟩
 have HY1 := Lib.hid hz
 clear hz G1
 have hM := M.out.step h2 h1; have h0 := M.out.bi.below h2 M.out.bi.lt; obtain ⟨r0, r1⟩ := ri_cells h0; have f0 := h0.frozen 0; have f1 := h0.frozen 1; have g0 := h0.lt; have M := Lib.hid hM; clear hM h0 h1 h2; go_wp2_with (fail); clear r0 r1 f0 f1 g0
 refine (G2.out _ y1 HY1.out M.out.rin M.out.le).mono ?_
 rintro e w2 ⟨y2, rfl, hz, h1, h2⟩
 have HY2 := Lib.hid hz
 clear hz G2 HY1
 have hM := M.out.step h2 h1; have h0 := M.out.bi.below h2 M.out.bi.lt; obtain ⟨r0, r1⟩ := ri_cells h0; have f0 := h0.frozen 0; have f1 := h0.frozen 1; have g0 := h0.lt; have M := Lib.hid hM; clear hM h0 h1 h2; go_wp2_with (fail); clear r0 r1 f0 f1 g0
 refine (G3.out _ y2 HY2.out M.out.rin M.out.le).mono ?_
 rintro e w3 ⟨y3, rfl, hz, h1, h2⟩
 have HY3 := Lib.hid hz
 clear hz G3 HY2
 have hM := M.out.step h2 h1; have h0 := M.out.bi.below h2 M.out.bi.lt; obtain ⟨r0, r1⟩ := ri_cells h0; have f0 := h0.frozen 0; have f1 := h0.frozen 1; have g0 := h0.lt; have M := Lib.hid hM; clear hM h0 h1 h2; go_wp2_with (fail); clear r0 r1 f0 f1 g0
 refine (G4.out _ y3 HY3.out M.out.rin M.out.le).mono ?_
 rintro e w4 ⟨y4, rfl, hz, h1, h2⟩
 have HY4 := Lib.hid hz
 clear hz G4 HY3
 have hM := M.out.step h2 h1; have h0 := M.out.bi.below h2 M.out.bi.lt; obtain ⟨r0, r1⟩ := ri_cells h0; have f0 := h0.frozen 0; have f1 := h0.frozen 1; have g0 := h0.lt; have M := Lib.hid hM; clear hM h0 h1 h2; go_wp2_with (fail); clear r0 r1 f0 f1 g0
 refine (G5.out _ y4 HY4.out M.out.rin M.out.le).mono ?_
 rintro e w5 ⟨y5, rfl, hz, h1, h2⟩
 have HY5 := Lib.hid hz
 clear hz G5 HY4
 have hM := M.out.step h2 h1; have h0 := M.out.bi.below h2 M.out.bi.lt; obtain ⟨r0, r1⟩ := ri_cells h0; have f0 := h0.frozen 0; have f1 := h0.frozen 1; have g0 := h0.lt; have M := Lib.hid hM; clear hM h0 h1 h2; go_wp2_with (fail); clear r0 r1 f0 f1 g0
 refine (G6.out _ y5 HY5.out M.out.rin M.out.le).mono ?_
 rintro e w6 ⟨y6, A6, c6, rfl, hz, h1, hrd, hcp, h2⟩
 have HY6 : Hid (y6.s = s6) := Lib.hid hz
 have hM := M.out.step h2 h1
 have h0 := M.out.bi.below h2 M.out.bi.lt
 obtain ⟨r0, r1⟩ := ri_cells h0
 have f0 := h0.frozen 0
 have f1 := h0.frozen 1
 have g0 := h0.lt
 obtain ⟨W7, hW7⟩ : ∃ W7, W7 = (w6.setCell ⟨w.heap.size, 0, none⟩ (.slice y6.A y6.s.l.length y6.cap)).setCell ⟨w.heap.size, 1, none⟩ (.int .i64 y6.s.e) := ⟨_, rfl⟩
 have hR : Reads W7 B 1 A6 bs.length (bs.map (Value.int .u8)) := by
  rw [hW7]
  exact (hrd.setCell (p := ⟨_, 0, none⟩) hB _).setCell (p := ⟨_, 1, none⟩) hB _
 have M : Hid (CnM w W7 B y6) := Lib.hid (by rw [hW7]; exact hM)
 have HR := Lib.hid hR
 obtain ⟨hcp1, hcp2⟩ := hcp
 unfold maxLen at hcp2
 simp only at hcp1
 clear hM h0 h1 h2 hrd hR hz G6 HY5
 go_upto_region 7 with (fail)
 rw [← hW7]
 clear hW7 r0 r1 f0 f1 g0
 obtain ⟨r0, r1⟩ := ri_cells M.out.bi
 have g0 := M.out.bi.lt
 have g1 := M.out.bz.lt
 have g2 := M.out.bw.lt
 by_cases he : s6.e = 0
 rotate_left
 ·have heb : (y6.s.e != 0) = true := by rw [HY6.out]; simpa using he
  have G1 : Hid (gv = Cn.zero) := Lib.hid (by rw [VV.out, if_pos he])
  have G2 : Hid (ge = y6.s.e) := Lib.hid (by rw [VE.out, if_pos he, HY6.out])
  have MD := Lib.hid (M.out.below ((Below.refl _ _).drew))
  have m5 := M.out.bi
  clear he VV VE HR M
  go_upto_region 8 with (fail)
  refine wp_region_held_drew (S := fun wq => Blk wq w.heap.size 130 y6.cells ∧ wq.cell? ⟨w.heap.size, 1, none⟩ = some (.int .i64 y6.s.e)) (by kernel_rfl) ⟨m5, r1⟩ (fun hHeld => ?_)
  clear m5 r0 r1
  generalize W7.drew = V at *
  obtain ⟨V1, hV1⟩ : ∃ V1, V1 = V.setRow (w.heap.size + 1) y6.cells := ⟨_, rfl⟩
  obtain ⟨V2, hV2⟩ : ∃ V2, V2 = V1.setRow (w.heap.size + 2) Cf.zeroC.cells := ⟨_, rfl⟩
  have F := Lib.hid (MD.out.fin Cf.zeroC hV1 hV2)
  have HV1 := Lib.hid hV1
  have HV2 := Lib.hid hV2
  clear hV1 hV2
  refine tkT 0 rfl (v := (.agg y6.cells)) ?_ ?_
  ·exact fun wq hSw => exec_load_row rfl _ rfl (load_ri y6 _ wq hSw.1)
  try simp only [Act.put, pS]
  refine tkT 1 rfl (v := ?_) ?_ ?_
  rotate_left 1
  ·(intro wq hSw; (try dsimp only at hSw); go_simp; (try with_reducible rfl))
  try simp only [Act.put, pS]
  refine tkT 2 rfl (v := ?_) ?_ ?_
  rotate_left 1
  ·(intro wq hSw; (try dsimp only at hSw); go_simp; (try with_reducible rfl))
  try simp only [Act.put, pS]
  refine tkT 3 rfl (v := ?_) ?_ ?_
  rotate_left 1
  ·(intro wq hSw; (try dsimp only at hSw); go_simp; (try with_reducible rfl))
  try simp only [Act.put, pS]
  refine wpAnyH_ready (rs := [4]) (by kernel_rfl) (by simp) ?_
  refine (AllReadyH.cons rfl (fun K hK => ?_) AllReadyH.nil)
  have HS := And.intro F.out.s1 (ri_cells F.out.s1).2
  refine step_store_row rfl 130 (.tmp 2) (.tmp 48) rfl (w.heap.size + 1) y6.cells rfl rfl 130 #[.slice none 0 0, .int .i64 0] MD.out.bz riInfo rfl (ri_all _) ?_
  rw [← HV1.out]
  refine hK.out _ _ ?_ (fun hHeld => ?_)
  ·first | exact HS | go_keep
  clear hK K
  try simp only [Act.put, pS]
  refine wpAnyH_ready (rs := [5]) (by kernel_rfl) (by simp) ?_
  refine (AllReadyH.cons rfl (fun K hK => ?_) AllReadyH.nil)
  have HS := And.intro F.out.s2 (ri_cells F.out.s2).2
  refine step_store_row rfl 33 (.tmp 3) (.tmp 49) rfl (w.heap.size + 2) Cf.zeroC.cells rfl rfl 33 #[.int .i64 0, .int .u64 0, .slice none 0 0, .bool false, .int .i64 0] F.out.z1 cfInfo5r rfl (cf_allr _) ?_
  rw [← HV2.out]
  refine hK.out _ _ ?_ (fun hHeld => ?_)
  ·first | exact HS | go_keep
  clear hK K
  try simp only [Act.put, pS]
  refine tkT 6 rfl (v := ?_) ?_ ?_
  rotate_left 1
  ·(intro wq hSw; (try dsimp only at hSw); go_simp; (try with_reducible rfl))
  try simp only [Act.put, pS]
  refine wpAnyH_done (by kernel_rfl) ?_ _
  go_wp2_with (fail)
  refine bodyPost_ret_by (v := .tuple #[.agg y6.cells, .agg Cf.zeroC.cells, .int .i64 y6.s.e]) (results_three Tryz.results124 _ _ (w.heap.size + 1) (w.heap.size + 2) 130 33 y6.cells Cf.zeroC.cells (0, 0) (0, 0) _ _ _ rfl F.out.y1 rfl F.out.y2 rfl Tryz.underlying130 rfl riInfo Tryz.underlying33 rfl cfInfo5r) rfl ?_
  exact HP.out y6 V2 Cf.zeroC _ HY6.out G2.out (by rw [G1.out]; exact ⟨rfl, rfl, rfl, rfl, rfl⟩) (World.ownsRow_nil _ _ _ _) F.out.rin F.out.bel
 have heb : (y6.s.e != 0) = false := by rw [HY6.out]; simpa using he
 have VV2 : Hid (gv = if cp.right = true then cp else Cn.zero) := Lib.hid (by rw [VV.out, if_neg (fun h => h he)])
 have VE2 : Hid (ge = if cp.right = true then 0 else 4) := Lib.hid (by rw [VE.out, if_neg (fun h => h he)])
 clear he VV VE
 go_upto_region 10 with (fail)
 obtain ⟨W8, hW8⟩ : ∃ W8, W8 = W7.alloc (.cells #[.int .i64 (n1 : Int), .int .u64 (n2 : Int), .slice none 0 0, .bool fr, .int .i64 (n4 : Int)] 33) := ⟨_, rfl⟩
 have h78 : Below W7.heap.size W7 W8 := by rw [hW8]; exact (Below.refl _ _).alloc (Nat.le_refl _) _
 have E0 : Hid (CnL w B W7.heap.size y6 (n1 : Int) (n2 : Int) (n4 : Int) fr bs 0 none 0 W8) := Lib.hid ⟨M.out.below h78, by rw [hW8]; exact Blk.new _ _ _, World.ownsRow_nil _ _ _ _, by omega⟩
 have HR8 := Lib.hid (HR.out.below (h78.mono M.out.le))
 rw [← hW8]
 clear hW8 h78 M HR r0 r1 g0 g1 g2
 generalize W7.heap.size = g at *
 have hlen9 : bs.length ≤ 255 := HLN.out
 go_wp2_with (fail)
 go_loopw [12] (fun iv wr => ∃ (j c : Nat) (A : Option Addr), j ≤ bs.length ∧ iv = .int .i64 j ∧ Below B W8 wr ∧ Hid (CnL w B g y6 (n1 : Int) (n2 : Int) (n4 : Int) fr bs j A c wr)) (fun iv _ => bs.length - (intOf iv).toNat)
 case atStart => exact ⟨0, 0, none, Nat.zero_le _, rfl, Below.refl _ _, E0⟩
 case round =>
  clear E0
  obtain ⟨j, c, A, hj, rfl, hbw, HE⟩ := hrel
  have HBW := Lib.hid hbw
  clear hbw
  by_cases hlt : j < bs.length
  ·have hltZ : (j : Int) < bs.length := by omega
   have hd9 : decide (j < bs.length) = true := decide_eq_true hlt
   obtain ⟨ad, z, e1, hbk, hbz, c0⟩ := reads_int (HR8.out.below HBW.out) (k := j) hlt
   obtain ⟨hz1b, hz2b⟩ := HBY.out z (List.mem_of_getElem? hbz)
   have hcz : IntKind.i64.wrap z = z := by rw [IntKind.wrap_i64]; omega
   have d2 : wr.cell? ⟨g, 2, none⟩ = some (.slice A j c) := HE.out.blk.cell 2
   have lg := HE.out.blk.lt
   have HBZ := Lib.hid hbz
   have hle := HE.out.m.le
   clear hbz
   rw [e1]
   obtain ⟨ab, ao, ap⟩ := ad
   go_wp2_with (fail)
   refine wp_region_k 8 (S := fun w' => w'.cell? ⟨g, 2, none⟩ = some (.slice A j c) ∧ w'.cell? ((⟨ab, ao, ap⟩ : Addr).add j) = some (.int .u8 z)) (by kernel_rfl) ⟨d2, c0⟩ (fun hHeld => ?_)
   refine wpAnyK_take (n := 12) (i := 0) (oi := _) (v := ?_) rfl (by kernel_rfl) (by kernel_rfl) (by kernel_rfl) (by kernel_rfl) (by kernel_rfl) (by kernel_rfl) (fun _ _ _ h => h) (Or.inl ⟨by rfl, ?_⟩) (by assumption) ?_
   rotate_left 1
   ·(intro wq hSw; (try dsimp only at hSw); go_simp; (try with_reducible rfl))
   try simp only [Act.put, pS]
   refine wpAnyK_take (n := 12) (i := 1) (oi := _) (v := ?_) rfl (by kernel_rfl) (by kernel_rfl) (by kernel_rfl) (by kernel_rfl) (by kernel_rfl) (by kernel_rfl) (fun _ _ _ h => h) (Or.inl ⟨by rfl, ?_⟩) (by assumption) ?_
   rotate_left 1
   ·(intro wq hSw; (try dsimp only at hSw); go_simp; (try with_reducible rfl))
   try simp only [Act.put, pS]
   refine wpAnyK_take (n := 12) (i := 2) (oi := _) (v := ?_) rfl (by kernel_rfl) (by kernel_rfl) (by kernel_rfl) (by kernel_rfl) (by kernel_rfl) (by kernel_rfl) (fun _ _ _ h => h) (Or.inl ⟨by rfl, ?_⟩) (by assumption) ?_
   rotate_left 1
   ·(intro wq hSw; (try dsimp only at hSw); go_simp; (try with_reducible rfl))
   try simp only [Act.put, pS]
   refine wpAnyK_take (n := 12) (i := 3) (oi := _) (v := ?_) rfl (by kernel_rfl) (by kernel_rfl) (by kernel_rfl) (by kernel_rfl) (by kernel_rfl) (by kernel_rfl) (fun _ _ _ h => h) (Or.inl ⟨by rfl, ?_⟩) (by assumption) ?_
   rotate_left 1
   ·(intro wq hSw; (try dsimp only at hSw); go_simp; (try with_reducible rfl))
   try simp only [Act.put, pS]
   refine wpAnyK_take (n := 12) (i := 4) (oi := _) (v := ?_) rfl (by kernel_rfl) (by kernel_rfl) (by kernel_rfl) (by kernel_rfl) (by kernel_rfl) (by kernel_rfl) (fun _ _ _ h => h) (Or.inl ⟨by rfl, ?_⟩) (by assumption) ?_
   rotate_left 1
   ·(intro wq hSw; (try dsimp only at hSw); go_simp; (try with_reducible rfl))
   try simp only [Act.put, pS]
   refine wpAnyK_take (n := 12) (i := 5) (oi := _) (v := ?_) rfl (by kernel_rfl) (by kernel_rfl) (by kernel_rfl) (by kernel_rfl) (by kernel_rfl) (by kernel_rfl) (fun _ _ _ h => h) (Or.inl ⟨by rfl, ?_⟩) (by assumption) ?_
   rotate_left 1
   ·(intro wq hSw; (try dsimp only at hSw); go_simp; (try with_reducible rfl))
   try simp only [Act.put, pS]
   refine wpAnyK_take (n := 12) (i := 6) (oi := _) (v := ?_) rfl (by kernel_rfl) (by kernel_rfl) (by kernel_rfl) (by kernel_rfl) (by kernel_rfl) (by kernel_rfl) (fun _ _ _ h => h) (Or.inl ⟨by rfl, ?_⟩) (by assumption) ?_
   rotate_left 1
   ·(intro wq hSw; (try dsimp only at hSw); go_simp; (try with_reducible rfl))
   try simp only [Act.put, pS]
   refine wpAnyK_ready (rs := [7]) (by kernel_rfl) (by simp) ?_
   refine AllReadyK.cons (o := _) rfl (fun K hK => ?_) AllReadyK.nil
   go_simp
   (try go_simp)
   refine hK.out _ _ ?_ (fun hHeld => ?_)
   ·first | exact HS | go_keep
   clear hK K
   try simp only [Act.put, pS]
   obtain ⟨W9, hW9⟩ : ∃ W9, W9 = (wr.alloc (.cells #[.int .i64 z] 3)).drew := ⟨_, rfl⟩
   have h67 : Below wr.heap.size wr W9 := by rw [hW9]; exact ((Below.refl wr.heap.size wr).alloc (Nat.le_refl _) _).drew
   have hrd : Reads W9 W9.heap.size 1 (some ⟨wr.heap.size, 0, none⟩) 1 [.int .i64 z] := by rw [hW9]; exact (reads_one wr 3 #[.int .i64 z] 1 rfl).below ((Below.refl _ _).drew)
   have hs9 : W9.heap.size = wr.heap.size + 1 := by rw [hW9]; show (wr.alloc _).heap.size = _; simp
   have HO7 : W9.ownsRow (g + 1) 3 1 (.slice A j c) j ((bs.take j).map (Value.int .i64)) := own_block_same HE.out.row (fun k hk => h67.block k (HE.out.row.lt k hk).2)
   rw [← hW9] at hHeld ⊢
   clear hW9
   refine wpAnyK_ready (rs := [8]) (by kernel_rfl) (by simp) ?_
   refine AllReadyK.last (o := _) rfl (by kernel_rfl) (fun K hK => ?_) AllReadyK.nil
   refine step_append_any _ rfl (.tmp 66) (.tmp 72) _ rfl (g + 1) 3 i0 _ 1 8 Tryz.underlying31 hi hz0 hz1 hz2 rfl (by omega) (.slice A j c) j ((bs.take j).map (Value.int .i64)) rfl HO7 W9.heap.size (some ⟨wr.heap.size, 0, none⟩) 1 1 [.int .i64 z] rfl hrd (by intro u hu; simp at hu; subst hu; rfl) (by unfold maxLen; omega) (by omega) (by omega) ?_
   intro v9 w9 hown hg hat
   obtain ⟨A9, c9, rfl, _, _, _⟩ := own_slice hown
   obtain ⟨b9, l9⟩ := HE.out.put HBZ.out h67 hown hg
   have HL9 := Lib.hid l9
   have q2 : w9.cell? ⟨g, 2, none⟩ = some (.slice A j c) := b9.cell 2
   have e2 := b9.frozen 2
   have lg9 := b9.lt
   have HB9 : Hid (Below B W8 (w9.setCell ⟨g, 2, none⟩ (.slice A9 (j + 1) c9))) := Lib.hid (by
    have hl := HE.out.lt
    have hm := HE.out.m.lt
    have hrow := HE.out.row
    exact (HBW.out.trans ((h67.mono hle).trans ((Chg.of_grown hg).below (Nat.le_trans hle h67.size) (fun k hk e => by have := (hrow.lt k e.symm).1; omega)))).trans ((chg_set0 w9 g (.slice A9 (j + 1) c9) 2).below (by have := lg9; omega) (fun k hk e => by simp only [isG] at e; omega)))
   clear hown hg hat HO7 hrd h67 d2 c0 hs9 b9 l9
   (try go_simp)
   refine hK.out _ _ ?_
   clear hK K
   try simp only [Act.put, pS]
   refine wpAnyK_free' (i := 9) (oi := _) (v := ?_) rfl (by kernel_rfl) (by kernel_rfl) (by kernel_rfl) (by decide) (fun _ _ _ h => h) (Or.inl ⟨by rfl, ?_⟩) (fun h0 => by cases h0) ?_
   rotate_left 1
   ·(intro wq hSw; (try dsimp only at hSw); go_simp; (try with_reducible rfl))
   try simp only [Act.put, pS]
   refine wpAnyK_ready (rs := [10]) (by kernel_rfl) (by simp) ?_
   refine AllReadyK.last (o := _) rfl (by kernel_rfl) (fun K hK => ?_) AllReadyK.nil
   go_simp
   (try go_simp)
   refine hK.out _ _ ?_
   clear hK K
   try simp only [Act.put, pS]
   refine wpAnyK_done (by kernel_rfl) ?_ _
   go_wp2_with (fail)
   go_roundw
   case rel => exact ⟨j + 1, c9, A9, hlt, by go_num, HB9.out, HL9⟩
   case measure => simp [intOf]; omega
  ·obtain rfl : j = bs.length := by omega
   have hd9 : decide (bs.length < bs.length) = false := decide_eq_false (Nat.lt_irrefl _)
   have hrow := HE.out.row
   rw [List.take_of_length_le (Nat.le_refl _)] at hrow
   obtain ⟨z, hz⟩ : ∃ z : Cf, z = ⟨(n1 : Int), n2, A, bs.length, c, fr, (n4 : Int), bs⟩ := ⟨_, rfl⟩
   have HCI : Hid (CfIn wr wr.heap.size z) := Lib.hid (by rw [hz]; exact ⟨own_reads hrow, (own_caps hrow).1, (own_caps hrow).2⟩)
   have HOW : Hid (wr.ownsRow (g + 1) 3 1 (.slice z.A z.len z.cap) z.len (z.zs.map (Value.int .i64))) := Lib.hid (by rw [hz]; exact hrow)
   have HBK : Hid (Blk wr g 33 z.cells) := Lib.hid (by rw [hz]; exact HE.out.blk)
   have HRT : Hid (z.right = cp.right) := Lib.hid (by rw [VP.out, hz]; rfl)
   have HZV : Hid (cp.right = true → (z.ch = gv.ch ∧ (z.ep : Int) = gv.ep ∧ z.fr = gv.fr ∧ z.jn = gv.jn ∧ z.zs = gv.ns)) := Lib.hid (fun hr => by rw [VV2.out, if_pos hr, VP.out, hz]; exact ⟨rfl, rfl, rfl, rfl, rfl⟩)
   have RT := Lib.hid (refRight_any z wr.heap.size wr HCI.out (Nat.le_refl _))
   rw [HRT.out] at RT
   have MM := Lib.hid HE.out.m
   have hgl := HE.out.lt
   have HLIT : Hid (z.cells = #[.int .i64 (n1 : Int), .int .u64 (n2 : Int), .slice A bs.length c, .bool fr, .int .i64 (n4 : Int)]) := Lib.hid (by rw [hz]; rfl)
   clear hrow hz HE HRT VP
   obtain ⟨y0, y1, y2, y3, y4⟩ := cells5 (show Blk wr g 33 #[.int .i64 (n1 : Int), .int .u64 (n2 : Int), .slice A bs.length c, .bool fr, .int .i64 (n4 : Int)] by rw [← HLIT.out]; exact HBK.out)
   have lg := HBK.out.lt
   have RT2 : Hid (Calls Tryz.prog 138 #[.agg #[.int .i64 (n1 : Int), .int .u64 (n2 : Int), .slice A bs.length c, .bool fr, .int .i64 (n4 : Int)]] wr fun e w' => e = .returned (.bool cp.right) ∧ Below wr.heap.size wr w') := Lib.hid (by rw [← HLIT.out]; exact RT.out)
   clear RT
   go_wp2_with (fail)
   refine RT2.out.mono ?_
   rintro e w9 ⟨rfl, hb9⟩
   have M9 := Lib.hid (MM.out.below hb9)
   have B9 := Lib.hid (HBK.out.below hb9 lg)
   have O9 : Hid (w9.ownsRow (g + 1) 3 1 (.slice z.A z.len z.cap) z.len (z.zs.map (Value.int .i64))) := Lib.hid (own_block_same HOW.out (fun k hk => hb9.block k (HOW.out.lt k hk).2))
   have hs9 := hb9.size
   clear RT2 hb9 MM HBK HCI HOW y0 y1 y2 y3 y4 lg
   cases hrt : cp.right
   ·have G1 : Hid (gv = Cn.zero) := Lib.hid (by rw [VV2.out, hrt]; rfl)
    have G2 : Hid (ge = 4) := Lib.hid (by rw [VE2.out, hrt]; rfl)
    obtain ⟨V1, hV1⟩ : ∃ V1, V1 = w9.setRow (w.heap.size + 1) y6.cells := ⟨_, rfl⟩
    obtain ⟨V2, hV2⟩ : ∃ V2, V2 = V1.setRow (w.heap.size + 2) Cf.zeroC.cells := ⟨_, rfl⟩
    have F := Lib.hid (M9.out.fin Cf.zeroC hV1 hV2)
    clear VV2 VE2 HZV
    go_upto_region 15 with (fail)
    iterate 1 go_step
    refine wpList_load_row rfl 130 (.tmp 1) rfl w.heap.size rfl 130 y6.cells (0, 0) _ M9.out.bi Tryz.underlying130 rfl riInfo ?_
    iterate 3 go_step
    refine wpList_store_row rfl 130 (.tmp 2) (.tmp 78) rfl (w.heap.size + 1) y6.cells rfl rfl 130 #[.slice none 0 0, .int .i64 0] M9.out.bz riInfo rfl (ri_all _) ?_
    rw [← hV1]
    refine wpList_store_row rfl 33 (.tmp 3) (.tmp 79) rfl (w.heap.size + 2) Cf.zeroC.cells rfl rfl 33 #[.int .i64 0, .int .u64 0, .slice none 0 0, .bool false, .int .i64 0] F.out.z1 cfInfo5r rfl (cf_allr _) ?_
    rw [← hV2]
    clear hV1 hV2
    go_wp2_with (fail)
    refine bodyPost_ret_by (v := .tuple #[.agg y6.cells, .agg Cf.zeroC.cells, .int .i64 4]) (results_three Tryz.results124 _ _ (w.heap.size + 1) (w.heap.size + 2) 130 33 y6.cells Cf.zeroC.cells (0, 0) (0, 0) _ _ _ rfl F.out.y1 rfl F.out.y2 rfl Tryz.underlying130 rfl riInfo Tryz.underlying33 rfl cfInfo5r) rfl ?_
    exact HP.out y6 V2 Cf.zeroC _ HY6.out G2.out (by rw [G1.out]; exact ⟨rfl, rfl, rfl, rfl, rfl⟩) (World.ownsRow_nil _ _ _ _) F.out.rin F.out.bel
   ·have G2 : Hid (ge = 0) := Lib.hid (by rw [VE2.out, hrt]; rfl)
    have G3 := Lib.hid (HZV.out hrt)
    have MD := Lib.hid (M9.out.below ((Below.refl _ _).drew))
    have BD := Lib.hid (B9.out.below ((Below.refl _ _).drew) B9.out.lt)
    have OD : Hid (w9.drew.ownsRow (g + 1) 3 1 (.slice z.A z.len z.cap) z.len (z.zs.map (Value.int .i64))) := Lib.hid (own_block_same O9.out (fun k hk => (Below.refl w9.heap.size w9).drew.block k (O9.out.lt k hk).2))
    have m5 := M9.out.bi
    have m7 := B9.out
    clear VV2 VE2 HZV M9 B9 O9
    go_upto_region 16 with (fail)
    refine wp_region_held_drew (S := fun wq => Blk wq w.heap.size 130 y6.cells ∧ Blk wq g 33 z.cells) (by kernel_rfl) ⟨m5, m7⟩ (fun hHeld => ?_)
    clear m5 m7
    generalize w9.drew = V at *
    obtain ⟨V1, hV1⟩ : ∃ V1, V1 = V.setRow (w.heap.size + 1) y6.cells := ⟨_, rfl⟩
    obtain ⟨V2, hV2⟩ : ∃ V2, V2 = V1.setRow (w.heap.size + 2) z.cells := ⟨_, rfl⟩
    have F := Lib.hid (MD.out.fin z hV1 hV2)
    have S71 := Lib.hid (F.out.c1.blk BD.out (show ¬ (g = w.heap.size + 1) by omega))
    have S72 := Lib.hid (F.out.c2.blk S71.out (show ¬ (g = w.heap.size + 2) by omega))
    have o1 := F.out.c1.own OD.out (fun k hk e => by have := (OD.out.lt k hk).1; omega)
    have o2 := F.out.c2.own o1 (fun k hk e => by have := (OD.out.lt k hk).1; omega)
    have HCF : Hid (V2.ownsRow w.heap.size 3 1 (.slice z.A z.len z.cap) z.len (z.zs.map (Value.int .i64))) := Lib.hid (own_base o2 (by omega))
    clear o1 o2
    have HV1 := Lib.hid hV1
    have HV2 := Lib.hid hV2
    clear hV1 hV2
    refine tkT 0 rfl (v := (.agg y6.cells)) ?_ ?_
    ·exact fun wq hSw => exec_load_row rfl _ rfl (load_ri y6 _ wq hSw.1)
    try simp only [Act.put, pS]
    refine tkT 1 rfl (v := (.agg z.cells)) ?_ ?_
    ·exact fun wq hSw => exec_load_row rfl _ rfl (load_cf5 z _ wq hSw.2)
    try simp only [Act.put, pS]
    refine wpAnyH_ready (rs := [2]) (by kernel_rfl) (by simp) ?_
    refine (AllReadyH.cons rfl (fun K hK => ?_) AllReadyH.nil)
    have HS := And.intro F.out.s1 S71.out
    refine step_store_row rfl 130 (.tmp 2) (.tmp 80) rfl (w.heap.size + 1) y6.cells rfl rfl 130 #[.slice none 0 0, .int .i64 0] MD.out.bz riInfo rfl (ri_all _) ?_
    rw [← HV1.out]
    refine hK.out _ _ ?_ (fun hHeld => ?_)
    ·first | exact HS | go_keep
    clear hK K
    try simp only [Act.put, pS]
    refine wpAnyH_ready (rs := [3]) (by kernel_rfl) (by simp) ?_
    refine (AllReadyH.cons rfl (fun K hK => ?_) AllReadyH.nil)
    have HS := And.intro F.out.s2 S72.out
    refine step_store_row rfl 33 (.tmp 3) (.tmp 81) rfl (w.heap.size + 2) z.cells rfl rfl 33 #[.int .i64 0, .int .u64 0, .slice none 0 0, .bool false, .int .i64 0] F.out.z1 cfInfo5r rfl (cf_allr _) ?_
    rw [← HV2.out]
    refine hK.out _ _ ?_ (fun hHeld => ?_)
    ·first | exact HS | go_keep
    clear hK K
    try simp only [Act.put, pS]
    refine tkT 4 rfl (v := ?_) ?_ ?_
    rotate_left 1
    ·(intro wq hSw; (try dsimp only at hSw); go_simp; (try with_reducible rfl))
    try simp only [Act.put, pS]
    refine wpAnyH_done (by kernel_rfl) ?_ _
    go_wp2_with (fail)
    refine bodyPost_ret_by (v := .tuple #[.agg y6.cells, .agg z.cells, .int .i64 0]) (results_three Tryz.results124 _ _ (w.heap.size + 1) (w.heap.size + 2) 130 33 y6.cells z.cells (0, 0) (0, 0) _ _ _ rfl F.out.y1 rfl F.out.y2 rfl Tryz.underlying130 rfl riInfo Tryz.underlying33 rfl cfInfo5r) rfl ?_
    exact HP.out y6 V2 z _ HY6.out G2.out G3.out HCF.out F.out.rin F.out.bel
end Go.Proofs.YtmpedblelnpjdaaGreatDoor
