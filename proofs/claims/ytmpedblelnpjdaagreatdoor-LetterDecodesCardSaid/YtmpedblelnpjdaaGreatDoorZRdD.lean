/- The document's read of a part: the numbers (printed by rdgen2.py). -/
import Derived.Test.YtmpedblelnpjdaaGreatDoorZRdB
import Derived.Test.YtmpedblelnpjdaaGreatDoorZTq
import Derived.Test.YtmpedblelnpjdaaGreatDoorZTk
import Derived.Test.YtmpedblelnpjdaaGreatDoorZRdA
import Derived.Test.YtmpedblelnpjdaaGreatDoorZRckF
namespace Go.Proofs.YtmpedblelnpjdaaGreatDoor
open Go.RowKit
set_option linter.unusedSimpArgs false
set_option linter.unusedVariables false
set_option maxHeartbeats 8000000
set_option maxRecDepth 100000
attribute [local go_sem] RI.agg
theorem chg_row (W : World) (g : Nat) (cs : Array Value) : Chg W (W.setRow g cs) (fun k => k = g) := ⟨rfl, rfl, rfl, by simp [World.setRow], fun k hk hn => setRow_other W g k cs hn⟩
theorem riInfo : (Tryz.prog.info? 130).map (·.size) = some 2 := by kernel_rfl
theorem ri_all (y : RI) : y.cells.all (·.oneCell') = true := by simp [RI.cells, Value.oneCell']
theorem load_ri (y : RI) (g : Nat) (w : World) (h : Blk w g 130 y.cells) : (loadVar 130 ⟨g, 0, none⟩).run Tryz.prog w = .ok (.agg y.cells) w :=
 run_loadVar_row w g 130 130 y.cells (0, 0) _ h Tryz.underlying130 rfl riInfo
theorem results_two {P : Program} {fn : Func} {p u : Tmp} {ty ty2 : TypeId} (h : fn.results = #[.cell p ty, .cell u ty2]) (tmps : Array Value) (w : World) (g g2 : Nat) (t t2 : TypeId) (cs cs2 : Array Value) (fr fr2 : Nat × Nat) (d d2 : TypeDesc)
  (hp : tmps.getD p undef = .pointer (some ⟨g, 0, none⟩)) (hg : w.heap[g]? = some (.cells cs t fr)) (hq : tmps.getD u undef = .pointer (some ⟨g2, 0, none⟩)) (hg2 : w.heap[g2]? = some (.cells cs2 t2 fr2))
  (hu : P.underlying ty = some d) (hd : (match d with | .struct _ | .array _ _ => true | _ => false) = true) (hi : (P.info? ty).map (·.size) = some cs.size)
  (hu2 : P.underlying ty2 = some d2) (hd2 : (match d2 with | .struct _ | .array _ _ => true | _ => false) = true) (hi2 : (P.info? ty2).map (·.size) = some cs2.size) :
  (results fn tmps).run P w = .ok (.tuple #[.agg cs, .agg cs2]) w := by
 have hp' : tmps[p]?.getD undef = .pointer (some ⟨g, 0, none⟩) := by simpa using hp
 have hq' : tmps[u]?.getD undef = .pointer (some ⟨g2, 0, none⟩) := by simpa using hq
 simp [results, h, hp', hq', asAddr, run_loadVar_row w g t ty cs fr d hg hu hd hi, run_loadVar_row w g2 t2 ty2 cs2 fr2 d2 hg2 hu2 hd2 hi2]
structure RdM (w W : World) (y : RI) (l : Lt) : Prop where
 bi : Blk W w.heap.size 130 y.cells
 bl : Blk W (w.heap.size + 1) 37 l.cells
 bz : Blk W (w.heap.size + 2) 130 #[.slice none 0 0, .int .i64 0]
 bw : Blk W (w.heap.size + 3) 37 ZL
 bel : Below w.heap.size w W
theorem RdM.below {w W W1 : World} {y : RI} {l : Lt} (h : RdM w W y l) (hb : Below W.heap.size W W1) : RdM w W1 y l :=
 ⟨h.bi.below hb h.bi.lt, h.bl.below hb h.bl.lt, h.bz.below hb h.bz.lt, h.bw.below hb h.bw.lt, h.bel.trans (hb.mono h.bel.size)⟩
theorem RdM.seti {w W : World} {y z : RI} {l : Lt} (h : RdM w W y l) : RdM w ((W.setCell ⟨w.heap.size, 0, none⟩ (.slice z.A z.s.l.length z.cap)).setCell ⟨w.heap.size, 1, none⟩ (.int .i64 z.s.e)) z l := by
 have HC := set2_chg W w.heap.size (.slice z.A z.s.l.length z.cap) (.int .i64 z.s.e)
 have n1 : ¬ isG w.heap.size (w.heap.size + 1) := by unfold isG; omega
 have n2 : ¬ isG w.heap.size (w.heap.size + 2) := by unfold isG; omega
 have n3 : ¬ isG w.heap.size (w.heap.size + 3) := by unfold isG; omega
 exact ⟨(h.bi.set_ 0 _).set_ 1 _, HC.blk h.bl n1, HC.blk h.bz n2, HC.blk h.bw n3, h.bel.trans (HC.below h.bel.size (fun k hk e => by simp only [isG] at e; omega))⟩
theorem RdM.setl {w W : World} {y : RI} {l l' : Lt} (h : RdM w W y l) (o : Nat) (v : Value) (hl : Blk (W.setCell ⟨w.heap.size + 1, o, none⟩ v) (w.heap.size + 1) 37 l'.cells) : RdM w (W.setCell ⟨w.heap.size + 1, o, none⟩ v) y l' := by
 have HC := chg_set0 W (w.heap.size + 1) v o
 have n1 : ¬ isG (w.heap.size + 1) w.heap.size := by unfold isG; omega
 have n2 : ¬ isG (w.heap.size + 1) (w.heap.size + 2) := by unfold isG; omega
 have n3 : ¬ isG (w.heap.size + 1) (w.heap.size + 3) := by unfold isG; omega
 exact ⟨HC.blk h.bi n1, hl, HC.blk h.bz n2, HC.blk h.bw n3, h.bel.trans (HC.below h.bel.size (fun k hk e => by simp only [isG] at e; omega))⟩
theorem RdM.start (w : World) (y : RI) (l : Lt) : RdM w ((((w.alloc (.cells y.cells 130)).alloc (.cells l.cells 37)).alloc (.cells #[.slice none 0 0, .int .i64 0] 130)).alloc (.cells ZL 37)) y l := by
 refine ⟨(((Blk.new w _ _).alloc _).alloc _).alloc _, ?_, ?_, ?_, ((((Below.refl _ _).alloc (Nat.le_refl _) _).alloc (by simp) _).alloc (by simp; omega) _).alloc (by simp; omega) _⟩
 ·have := ((Blk.new (w.alloc (.cells y.cells 130)) 37 l.cells).alloc (.cells #[.slice none 0 0, .int .i64 0] 130)).alloc (.cells ZL 37)
  simpa using this
 ·have := (Blk.new ((w.alloc (.cells y.cells 130)).alloc (.cells l.cells 37)) 130 #[.slice none 0 0, .int .i64 0]).alloc (.cells ZL 37)
  simpa using this
 ·have := Blk.new (((w.alloc (.cells y.cells 130)).alloc (.cells l.cells 37)).alloc (.cells #[.slice none 0 0, .int .i64 0] 130)) 37 ZL
  simpa using this
structure RLet (W : World) (B lo : Nat) (x : LV) : Prop where
 nd : W.ownsRow lo 3 1 (.slice x.l.fA x.l.fn x.l.fp) x.l.fn (x.ns.map (Value.int .i64))
 vt : W.ownsRow lo 239 6 (.slice x.l.vA x.l.vn x.l.vp) x.l.vn (x.vs.flatMap Vt.row)
 up : W.ownsRow lo 145 7 (.slice x.l.uA x.l.un x.l.up) x.l.un (x.us.flatMap Up.row)
 ub : ∀ u ∈ x.us, UpIn W B u
 da : Reads W B 1 x.l.dA x.l.dn (x.ds.map (Value.int .u8))
 by_ : bytesB x.ds
 wf : LWf x.l
 vw : ∀ v ∈ x.vs, v.wf
 nw : ∀ z ∈ x.ns, -9223372036854775808 ≤ z ∧ z ≤ 9223372036854775807
 cd : x.l.dn ≤ x.l.dp ∧ x.l.dp ≤ maxLen
 nl : (x.vs = [] → x.l.vA = none) ∧ (x.us = [] → x.l.uA = none)
theorem RLet.below {W W' : World} {B lo : Nat} {x : LV} (h : RLet W B lo x) (hb : Below W.heap.size W W') (hB : B ≤ W.heap.size) : RLet W' B lo x := by
 have o : ∀ {e : TypeId} {sz n : Nat} {v : Value} {xs : List Value}, W.ownsRow lo e sz v n xs → W'.ownsRow lo e sz v n xs := fun ho => own_block_same ho (fun k hk => hb.block k (ho.lt k hk).2)
 exact ⟨o h.nd, o h.vt, o h.up, fun u hu => (h.ub u hu).below (hb.mono hB), h.da.below (hb.mono hB), h.by_, h.wf, h.vw, h.nw, h.cd, h.nl⟩
theorem RLet.lin {W : World} {B lo : Nat} {x : LV} (h : RLet W B lo x) (hB : B ≤ W.heap.size) : LIn W W.heap.size x :=
 ⟨own_reads h.nd, own_reads h.vt, ⟨own_reads h.up, fun u hu => (h.ub u hu).more hB⟩, h.da.more hB, h.by_, h.wf, h.vw, h.nw, own_caps h.nd, own_caps h.vt, own_caps h.up, h.cd⟩
def RdP (B lo : Nat) (i : Nat) (s : FI) (x : LV) (w : World) (e : Ending) (w' : World) : Prop :=
 ∃ (y : RI) (z : LV), e = .returned (.tuple #[.agg y.cells, .agg z.l.cells]) ∧ y.s = (rdX i s x.val).1 ∧ z.val = (rdX i s x.val).2 ∧ RIn w' B y ∧ RLet w' B lo z ∧ Below w.heap.size w w'
theorem rd_c (x : RI) (l : LV) (B lo : Nat) (w : World) (h : RIn w B x) (hB : B ≤ w.heap.size) (hl : RLet w B lo l) :
  Calls Tryz.prog 53 #[.agg x.cells, .agg l.l.cells, .int .u8 99] w (RdP B lo 0 x.s l w) := by
 have G := Lib.hid (fun W (i : RIn W B x) (hW : B ≤ W.heap.size) => refGet_any x 1 B W i hW)
 have hlt : (x.s.upto 1 18446744073709551615).2 < 256 := FI.upto_lt x.s 1 _ h.by_
 obtain ⟨lt, ns, vs, us, ds⟩ := l
 have HP : Hid (∀ (y : RI) (W : World), y.s = (x.s.upto 1 18446744073709551615).1 → RIn W B y → Below w.heap.size w W → RdP B lo 0 x.s ⟨lt, ns, vs, us, ds⟩ w (.returned (.tuple #[.agg y.cells, .agg (Lt.cells { lt with ch := ((x.s.upto 1 18446744073709551615).2 : Int) })])) W) := Lib.hid (fun y W hy hr hb => by
  have hL := hl.below hb hB
  have w0 := hL.wf
  refine ⟨y, ⟨{ lt with ch := ((x.s.upto 1 18446744073709551615).2 : Int) }, ns, vs, us, ds⟩, rfl, hy, rfl, hr, ?_, hb⟩
  exact ⟨hL.nd, hL.vt, hL.up, hL.ub, hL.da, hL.by_, by constructor <;> first | exact w0.kd | exact w0.fr | exact w0.tw | exact w0.ch | exact w0.ep | exact w0.bl | exact w0.nu | exact w0.sq | exact w0.dz | exact w0.vr | exact w0.sl | exact w0.ky | exact w0.cd | exact w0.qk | exact w0.qc | exact w0.qe | exact w0.qn | exact w0.fc | exact w0.fe | exact w0.fj | (simp only; omega), hL.vw, hL.nw, hL.cd, hL.nl⟩)
 simp only at HP ⊢
 obtain ⟨W0, hW0⟩ : ∃ W0, W0 = (((w.alloc (.cells x.cells 130)).alloc (.cells lt.cells 37)).alloc (.cells #[.slice none 0 0, .int .i64 0] 130)).alloc (.cells ZL 37) := ⟨_, rfl⟩
 have M : Hid (RdM w W0 x lt) := Lib.hid (by rw [hW0]; exact RdM.start w x lt)
 have R0 : Hid (RIn W0 B x) := Lib.hid (h.below (M.out.bel.mono hB))
 have HW0 := Lib.hid hW0
 have hB0 := Nat.le_trans hB M.out.bel.size
 clear h hl hW0
 generalize x.s.upto 1 18446744073709551615 = q at *
 obtain ⟨s', n⟩ := q
 simp only at hlt HP
 have cw : IntKind.i64.wrap (n : Int) = n := by rw [IntKind.wrap_i64]; omega
 obtain ⟨r, hr⟩ : ∃ r : Lt, r = { lt with ch := (n : Int) } := ⟨_, rfl⟩
 rw [← hr] at HP
 obtain ⟨c0, c1⟩ := ri_cells M.out.bi
 have f0 := M.out.bi.frozen 0
 have f1 := M.out.bi.frozen 1
 have g0 := M.out.bi.lt
 go_enter Tryz.func53, Tryz.ntmps53
 go_upto_region 1 with (fail)
 rw [← HW0.out]
 clear HW0
 go_wp2_with (fail)
 refine (G.out _ R0.out hB0).mono ?_
 rintro e w1 ⟨y, rfl, hy, h1, h2⟩
 have HYS := Lib.hid hy
 have M1 := Lib.hid (M.out.below h2)
 have R1 := Lib.hid h1
 clear c0 c1 f0 f1 g0 M G R0 hy h1 h2
 obtain ⟨c0, c1⟩ := ri_cells M1.out.bi
 have f0 := M1.out.bi.frozen 0
 have f1 := M1.out.bi.frozen 1
 have g0 := M1.out.bi.lt
 have d0 : w1.cell? ⟨w.heap.size + 1, 3, none⟩ = some (.int .i64 lt.ch) := M1.out.bl.cell 3
 have e0 := M1.out.bl.frozen 3
 have g1 := M1.out.bl.lt
 obtain ⟨W9, hW9⟩ : ∃ W9, W9 = ((w1.setCell ⟨w.heap.size, 0, none⟩ (.slice y.A y.s.l.length y.cap)).setCell ⟨w.heap.size, 1, none⟩ (.int .i64 y.s.e)).setCell ⟨w.heap.size + 1, 3, none⟩ (.int .i64 (n : Int)) := ⟨_, rfl⟩
 have HM : Hid (RdM w W9 y r) := Lib.hid (by rw [hW9, hr]; exact (M1.out.seti (z := y)).setl 3 _ (by exact (M1.out.seti (z := y)).bl.set_ 3 (.int .i64 (n : Int))))
 have hR9 : RIn W9 B y := by rw [hW9]; exact (R1.out.set2 hB _ _).setC (by simp; omega) _
 have HW9 := Lib.hid hW9
 have HFIN : Hid (∀ V, Chg W9 V (fun k => k = w.heap.size + 2 ∨ k = w.heap.size + 3) → RIn V B y → Below w.heap.size w V → RdP B lo 0 x.s ⟨lt, ns, vs, us, ds⟩ w (.returned (.tuple #[.agg y.cells, .agg (Lt.cells r)])) V) := Lib.hid (fun V hc h1 h2 => HP.out y V HYS.out h1 h2)
 exact rp0
theorem rd_e (x : RI) (l : LV) (B lo : Nat) (w : World) (h : RIn w B x) (hB : B ≤ w.heap.size) (hl : RLet w B lo l) :
  Calls Tryz.prog 53 #[.agg x.cells, .agg l.l.cells, .int .u8 101] w (RdP B lo 1 x.s l w) := by
 have G := Lib.hid (fun W (i : RIn W B x) (hW : B ≤ W.heap.size) => refGet_any x 8 B W i hW)
 have hlt : (x.s.upto 8 18446744073709551615).2 < 18446744073709551616 := FI.upto_lt x.s 8 _ h.by_
 obtain ⟨lt, ns, vs, us, ds⟩ := l
 have HP : Hid (∀ (y : RI) (W : World), y.s = (x.s.upto 8 18446744073709551615).1 → RIn W B y → Below w.heap.size w W → RdP B lo 1 x.s ⟨lt, ns, vs, us, ds⟩ w (.returned (.tuple #[.agg y.cells, .agg (Lt.cells { lt with ep := ((x.s.upto 8 18446744073709551615).2 : Int) })])) W) := Lib.hid (fun y W hy hr hb => by
  have hL := hl.below hb hB
  have w0 := hL.wf
  refine ⟨y, ⟨{ lt with ep := ((x.s.upto 8 18446744073709551615).2 : Int) }, ns, vs, us, ds⟩, rfl, hy, rfl, hr, ?_, hb⟩
  exact ⟨hL.nd, hL.vt, hL.up, hL.ub, hL.da, hL.by_, by constructor <;> first | exact w0.kd | exact w0.fr | exact w0.tw | exact w0.ch | exact w0.ep | exact w0.bl | exact w0.nu | exact w0.sq | exact w0.dz | exact w0.vr | exact w0.sl | exact w0.ky | exact w0.cd | exact w0.qk | exact w0.qc | exact w0.qe | exact w0.qn | exact w0.fc | exact w0.fe | exact w0.fj | (simp only; omega), hL.vw, hL.nw, hL.cd, hL.nl⟩)
 simp only at HP ⊢
 obtain ⟨W0, hW0⟩ : ∃ W0, W0 = (((w.alloc (.cells x.cells 130)).alloc (.cells lt.cells 37)).alloc (.cells #[.slice none 0 0, .int .i64 0] 130)).alloc (.cells ZL 37) := ⟨_, rfl⟩
 have M : Hid (RdM w W0 x lt) := Lib.hid (by rw [hW0]; exact RdM.start w x lt)
 have R0 : Hid (RIn W0 B x) := Lib.hid (h.below (M.out.bel.mono hB))
 have HW0 := Lib.hid hW0
 have hB0 := Nat.le_trans hB M.out.bel.size
 clear h hl hW0
 generalize x.s.upto 8 18446744073709551615 = q at *
 obtain ⟨s', n⟩ := q
 simp only at hlt HP
 obtain ⟨r, hr⟩ : ∃ r : Lt, r = { lt with ep := (n : Int) } := ⟨_, rfl⟩
 rw [← hr] at HP
 obtain ⟨c0, c1⟩ := ri_cells M.out.bi
 have f0 := M.out.bi.frozen 0
 have f1 := M.out.bi.frozen 1
 have g0 := M.out.bi.lt
 go_enter Tryz.func53, Tryz.ntmps53
 go_upto_region 1 with (fail)
 rw [← HW0.out]
 clear HW0
 go_wp2_with (fail)
 refine (G.out _ R0.out hB0).mono ?_
 rintro e w1 ⟨y, rfl, hy, h1, h2⟩
 have HYS := Lib.hid hy
 have M1 := Lib.hid (M.out.below h2)
 have R1 := Lib.hid h1
 clear c0 c1 f0 f1 g0 M G R0 hy h1 h2
 obtain ⟨c0, c1⟩ := ri_cells M1.out.bi
 have f0 := M1.out.bi.frozen 0
 have f1 := M1.out.bi.frozen 1
 have g0 := M1.out.bi.lt
 have d0 : w1.cell? ⟨w.heap.size + 1, 4, none⟩ = some (.int .u64 lt.ep) := M1.out.bl.cell 4
 have e0 := M1.out.bl.frozen 4
 have g1 := M1.out.bl.lt
 obtain ⟨W9, hW9⟩ : ∃ W9, W9 = ((w1.setCell ⟨w.heap.size, 0, none⟩ (.slice y.A y.s.l.length y.cap)).setCell ⟨w.heap.size, 1, none⟩ (.int .i64 y.s.e)).setCell ⟨w.heap.size + 1, 4, none⟩ (.int .u64 (n : Int)) := ⟨_, rfl⟩
 have HM : Hid (RdM w W9 y r) := Lib.hid (by rw [hW9, hr]; exact (M1.out.seti (z := y)).setl 4 _ (by exact (M1.out.seti (z := y)).bl.set_ 4 (.int .u64 (n : Int))))
 have hR9 : RIn W9 B y := by rw [hW9]; exact (R1.out.set2 hB _ _).setC (by simp; omega) _
 have HW9 := Lib.hid hW9
 have HFIN : Hid (∀ V, Chg W9 V (fun k => k = w.heap.size + 2 ∨ k = w.heap.size + 3) → RIn V B y → Below w.heap.size w V → RdP B lo 1 x.s ⟨lt, ns, vs, us, ds⟩ w (.returned (.tuple #[.agg y.cells, .agg (Lt.cells r)])) V) := Lib.hid (fun V hc h1 h2 => HP.out y V HYS.out h1 h2)
 exact rp0
theorem rd_b (x : RI) (l : LV) (B lo : Nat) (w : World) (h : RIn w B x) (hB : B ≤ w.heap.size) (hl : RLet w B lo l) :
  Calls Tryz.prog 53 #[.agg x.cells, .agg l.l.cells, .int .u8 98] w (RdP B lo 2 x.s l w) := by
 have G := Lib.hid (fun W (i : RIn W B x) (hW : B ≤ W.heap.size) => refGet_any x 8 B W i hW)
 have hlt : (x.s.upto 8 18446744073709551615).2 < 18446744073709551616 := FI.upto_lt x.s 8 _ h.by_
 obtain ⟨lt, ns, vs, us, ds⟩ := l
 have HP : Hid (∀ (y : RI) (W : World), y.s = (x.s.upto 8 18446744073709551615).1 → RIn W B y → Below w.heap.size w W → RdP B lo 2 x.s ⟨lt, ns, vs, us, ds⟩ w (.returned (.tuple #[.agg y.cells, .agg (Lt.cells { lt with bl := ((x.s.upto 8 18446744073709551615).2 : Int) })])) W) := Lib.hid (fun y W hy hr hb => by
  have hL := hl.below hb hB
  have w0 := hL.wf
  refine ⟨y, ⟨{ lt with bl := ((x.s.upto 8 18446744073709551615).2 : Int) }, ns, vs, us, ds⟩, rfl, hy, rfl, hr, ?_, hb⟩
  exact ⟨hL.nd, hL.vt, hL.up, hL.ub, hL.da, hL.by_, by constructor <;> first | exact w0.kd | exact w0.fr | exact w0.tw | exact w0.ch | exact w0.ep | exact w0.bl | exact w0.nu | exact w0.sq | exact w0.dz | exact w0.vr | exact w0.sl | exact w0.ky | exact w0.cd | exact w0.qk | exact w0.qc | exact w0.qe | exact w0.qn | exact w0.fc | exact w0.fe | exact w0.fj | (simp only; omega), hL.vw, hL.nw, hL.cd, hL.nl⟩)
 simp only at HP ⊢
 obtain ⟨W0, hW0⟩ : ∃ W0, W0 = (((w.alloc (.cells x.cells 130)).alloc (.cells lt.cells 37)).alloc (.cells #[.slice none 0 0, .int .i64 0] 130)).alloc (.cells ZL 37) := ⟨_, rfl⟩
 have M : Hid (RdM w W0 x lt) := Lib.hid (by rw [hW0]; exact RdM.start w x lt)
 have R0 : Hid (RIn W0 B x) := Lib.hid (h.below (M.out.bel.mono hB))
 have HW0 := Lib.hid hW0
 have hB0 := Nat.le_trans hB M.out.bel.size
 clear h hl hW0
 generalize x.s.upto 8 18446744073709551615 = q at *
 obtain ⟨s', n⟩ := q
 simp only at hlt HP
 obtain ⟨r, hr⟩ : ∃ r : Lt, r = { lt with bl := (n : Int) } := ⟨_, rfl⟩
 rw [← hr] at HP
 obtain ⟨c0, c1⟩ := ri_cells M.out.bi
 have f0 := M.out.bi.frozen 0
 have f1 := M.out.bi.frozen 1
 have g0 := M.out.bi.lt
 go_enter Tryz.func53, Tryz.ntmps53
 go_upto_region 1 with (fail)
 rw [← HW0.out]
 clear HW0
 go_wp2_with (fail)
 refine (G.out _ R0.out hB0).mono ?_
 rintro e w1 ⟨y, rfl, hy, h1, h2⟩
 have HYS := Lib.hid hy
 have M1 := Lib.hid (M.out.below h2)
 have R1 := Lib.hid h1
 clear c0 c1 f0 f1 g0 M G R0 hy h1 h2
 obtain ⟨c0, c1⟩ := ri_cells M1.out.bi
 have f0 := M1.out.bi.frozen 0
 have f1 := M1.out.bi.frozen 1
 have g0 := M1.out.bi.lt
 have d0 : w1.cell? ⟨w.heap.size + 1, 5, none⟩ = some (.int .u64 lt.bl) := M1.out.bl.cell 5
 have e0 := M1.out.bl.frozen 5
 have g1 := M1.out.bl.lt
 obtain ⟨W9, hW9⟩ : ∃ W9, W9 = ((w1.setCell ⟨w.heap.size, 0, none⟩ (.slice y.A y.s.l.length y.cap)).setCell ⟨w.heap.size, 1, none⟩ (.int .i64 y.s.e)).setCell ⟨w.heap.size + 1, 5, none⟩ (.int .u64 (n : Int)) := ⟨_, rfl⟩
 have HM : Hid (RdM w W9 y r) := Lib.hid (by rw [hW9, hr]; exact (M1.out.seti (z := y)).setl 5 _ (by exact (M1.out.seti (z := y)).bl.set_ 5 (.int .u64 (n : Int))))
 have hR9 : RIn W9 B y := by rw [hW9]; exact (R1.out.set2 hB _ _).setC (by simp; omega) _
 have HW9 := Lib.hid hW9
 have HFIN : Hid (∀ V, Chg W9 V (fun k => k = w.heap.size + 2 ∨ k = w.heap.size + 3) → RIn V B y → Below w.heap.size w V → RdP B lo 2 x.s ⟨lt, ns, vs, us, ds⟩ w (.returned (.tuple #[.agg y.cells, .agg (Lt.cells r)])) V) := Lib.hid (fun V hc h1 h2 => HP.out y V HYS.out h1 h2)
 exact rp0
theorem rd_s (x : RI) (l : LV) (B lo : Nat) (w : World) (h : RIn w B x) (hB : B ≤ w.heap.size) (hl : RLet w B lo l) :
  Calls Tryz.prog 53 #[.agg x.cells, .agg l.l.cells, .int .u8 115] w (RdP B lo 3 x.s l w) := by
 have G := Lib.hid (fun W (i : RIn W B x) (hW : B ≤ W.heap.size) => refGet_any x 8 B W i hW)
 have hlt : (x.s.upto 8 18446744073709551615).2 < 18446744073709551616 := FI.upto_lt x.s 8 _ h.by_
 obtain ⟨lt, ns, vs, us, ds⟩ := l
 have HP : Hid (∀ (y : RI) (W : World), y.s = (x.s.upto 8 18446744073709551615).1 → RIn W B y → Below w.heap.size w W → RdP B lo 3 x.s ⟨lt, ns, vs, us, ds⟩ w (.returned (.tuple #[.agg y.cells, .agg (Lt.cells { lt with sq := ((x.s.upto 8 18446744073709551615).2 : Int) })])) W) := Lib.hid (fun y W hy hr hb => by
  have hL := hl.below hb hB
  have w0 := hL.wf
  refine ⟨y, ⟨{ lt with sq := ((x.s.upto 8 18446744073709551615).2 : Int) }, ns, vs, us, ds⟩, rfl, hy, rfl, hr, ?_, hb⟩
  exact ⟨hL.nd, hL.vt, hL.up, hL.ub, hL.da, hL.by_, by constructor <;> first | exact w0.kd | exact w0.fr | exact w0.tw | exact w0.ch | exact w0.ep | exact w0.bl | exact w0.nu | exact w0.sq | exact w0.dz | exact w0.vr | exact w0.sl | exact w0.ky | exact w0.cd | exact w0.qk | exact w0.qc | exact w0.qe | exact w0.qn | exact w0.fc | exact w0.fe | exact w0.fj | (simp only; omega), hL.vw, hL.nw, hL.cd, hL.nl⟩)
 simp only at HP ⊢
 obtain ⟨W0, hW0⟩ : ∃ W0, W0 = (((w.alloc (.cells x.cells 130)).alloc (.cells lt.cells 37)).alloc (.cells #[.slice none 0 0, .int .i64 0] 130)).alloc (.cells ZL 37) := ⟨_, rfl⟩
 have M : Hid (RdM w W0 x lt) := Lib.hid (by rw [hW0]; exact RdM.start w x lt)
 have R0 : Hid (RIn W0 B x) := Lib.hid (h.below (M.out.bel.mono hB))
 have HW0 := Lib.hid hW0
 have hB0 := Nat.le_trans hB M.out.bel.size
 clear h hl hW0
 generalize x.s.upto 8 18446744073709551615 = q at *
 obtain ⟨s', n⟩ := q
 simp only at hlt HP
 obtain ⟨r, hr⟩ : ∃ r : Lt, r = { lt with sq := (n : Int) } := ⟨_, rfl⟩
 rw [← hr] at HP
 obtain ⟨c0, c1⟩ := ri_cells M.out.bi
 have f0 := M.out.bi.frozen 0
 have f1 := M.out.bi.frozen 1
 have g0 := M.out.bi.lt
 go_enter Tryz.func53, Tryz.ntmps53
 go_upto_region 1 with (fail)
 rw [← HW0.out]
 clear HW0
 go_wp2_with (fail)
 refine (G.out _ R0.out hB0).mono ?_
 rintro e w1 ⟨y, rfl, hy, h1, h2⟩
 have HYS := Lib.hid hy
 have M1 := Lib.hid (M.out.below h2)
 have R1 := Lib.hid h1
 clear c0 c1 f0 f1 g0 M G R0 hy h1 h2
 obtain ⟨c0, c1⟩ := ri_cells M1.out.bi
 have f0 := M1.out.bi.frozen 0
 have f1 := M1.out.bi.frozen 1
 have g0 := M1.out.bi.lt
 have d0 : w1.cell? ⟨w.heap.size + 1, 7, none⟩ = some (.int .u64 lt.sq) := M1.out.bl.cell 7
 have e0 := M1.out.bl.frozen 7
 have g1 := M1.out.bl.lt
 obtain ⟨W9, hW9⟩ : ∃ W9, W9 = ((w1.setCell ⟨w.heap.size, 0, none⟩ (.slice y.A y.s.l.length y.cap)).setCell ⟨w.heap.size, 1, none⟩ (.int .i64 y.s.e)).setCell ⟨w.heap.size + 1, 7, none⟩ (.int .u64 (n : Int)) := ⟨_, rfl⟩
 have HM : Hid (RdM w W9 y r) := Lib.hid (by rw [hW9, hr]; exact (M1.out.seti (z := y)).setl 7 _ (by exact (M1.out.seti (z := y)).bl.set_ 7 (.int .u64 (n : Int))))
 have hR9 : RIn W9 B y := by rw [hW9]; exact (R1.out.set2 hB _ _).setC (by simp; omega) _
 have HW9 := Lib.hid hW9
 have HFIN : Hid (∀ V, Chg W9 V (fun k => k = w.heap.size + 2 ∨ k = w.heap.size + 3) → RIn V B y → Below w.heap.size w V → RdP B lo 3 x.s ⟨lt, ns, vs, us, ds⟩ w (.returned (.tuple #[.agg y.cells, .agg (Lt.cells r)])) V) := Lib.hid (fun V hc h1 h2 => HP.out y V HYS.out h1 h2)
 exact rp0
theorem rd_d (x : RI) (l : LV) (B lo : Nat) (w : World) (h : RIn w B x) (hB : B ≤ w.heap.size) (hl : RLet w B lo l) :
  Calls Tryz.prog 53 #[.agg x.cells, .agg l.l.cells, .int .u8 100] w (RdP B lo 4 x.s l w) := by
 have G := Lib.hid (fun W (i : RIn W B x) (hW : B ≤ W.heap.size) => refGet_any x 8 B W i hW)
 have hlt : (x.s.upto 8 18446744073709551615).2 < 18446744073709551616 := FI.upto_lt x.s 8 _ h.by_
 obtain ⟨lt, ns, vs, us, ds⟩ := l
 have HP : Hid (∀ (y : RI) (W : World), y.s = (x.s.upto 8 18446744073709551615).1 → RIn W B y → Below w.heap.size w W → RdP B lo 4 x.s ⟨lt, ns, vs, us, ds⟩ w (.returned (.tuple #[.agg y.cells, .agg (Lt.cells { lt with dz := ((x.s.upto 8 18446744073709551615).2 : Int) })])) W) := Lib.hid (fun y W hy hr hb => by
  have hL := hl.below hb hB
  have w0 := hL.wf
  refine ⟨y, ⟨{ lt with dz := ((x.s.upto 8 18446744073709551615).2 : Int) }, ns, vs, us, ds⟩, rfl, hy, rfl, hr, ?_, hb⟩
  exact ⟨hL.nd, hL.vt, hL.up, hL.ub, hL.da, hL.by_, by constructor <;> first | exact w0.kd | exact w0.fr | exact w0.tw | exact w0.ch | exact w0.ep | exact w0.bl | exact w0.nu | exact w0.sq | exact w0.dz | exact w0.vr | exact w0.sl | exact w0.ky | exact w0.cd | exact w0.qk | exact w0.qc | exact w0.qe | exact w0.qn | exact w0.fc | exact w0.fe | exact w0.fj | (simp only; omega), hL.vw, hL.nw, hL.cd, hL.nl⟩)
 simp only at HP ⊢
 obtain ⟨W0, hW0⟩ : ∃ W0, W0 = (((w.alloc (.cells x.cells 130)).alloc (.cells lt.cells 37)).alloc (.cells #[.slice none 0 0, .int .i64 0] 130)).alloc (.cells ZL 37) := ⟨_, rfl⟩
 have M : Hid (RdM w W0 x lt) := Lib.hid (by rw [hW0]; exact RdM.start w x lt)
 have R0 : Hid (RIn W0 B x) := Lib.hid (h.below (M.out.bel.mono hB))
 have HW0 := Lib.hid hW0
 have hB0 := Nat.le_trans hB M.out.bel.size
 clear h hl hW0
 generalize x.s.upto 8 18446744073709551615 = q at *
 obtain ⟨s', n⟩ := q
 simp only at hlt HP
 obtain ⟨r, hr⟩ : ∃ r : Lt, r = { lt with dz := (n : Int) } := ⟨_, rfl⟩
 rw [← hr] at HP
 obtain ⟨c0, c1⟩ := ri_cells M.out.bi
 have f0 := M.out.bi.frozen 0
 have f1 := M.out.bi.frozen 1
 have g0 := M.out.bi.lt
 go_enter Tryz.func53, Tryz.ntmps53
 go_upto_region 1 with (fail)
 rw [← HW0.out]
 clear HW0
 go_wp2_with (fail)
 refine (G.out _ R0.out hB0).mono ?_
 rintro e w1 ⟨y, rfl, hy, h1, h2⟩
 have HYS := Lib.hid hy
 have M1 := Lib.hid (M.out.below h2)
 have R1 := Lib.hid h1
 clear c0 c1 f0 f1 g0 M G R0 hy h1 h2
 obtain ⟨c0, c1⟩ := ri_cells M1.out.bi
 have f0 := M1.out.bi.frozen 0
 have f1 := M1.out.bi.frozen 1
 have g0 := M1.out.bi.lt
 have d0 : w1.cell? ⟨w.heap.size + 1, 8, none⟩ = some (.int .u64 lt.dz) := M1.out.bl.cell 8
 have e0 := M1.out.bl.frozen 8
 have g1 := M1.out.bl.lt
 obtain ⟨W9, hW9⟩ : ∃ W9, W9 = ((w1.setCell ⟨w.heap.size, 0, none⟩ (.slice y.A y.s.l.length y.cap)).setCell ⟨w.heap.size, 1, none⟩ (.int .i64 y.s.e)).setCell ⟨w.heap.size + 1, 8, none⟩ (.int .u64 (n : Int)) := ⟨_, rfl⟩
 have HM : Hid (RdM w W9 y r) := Lib.hid (by rw [hW9, hr]; exact (M1.out.seti (z := y)).setl 8 _ (by exact (M1.out.seti (z := y)).bl.set_ 8 (.int .u64 (n : Int))))
 have hR9 : RIn W9 B y := by rw [hW9]; exact (R1.out.set2 hB _ _).setC (by simp; omega) _
 have HW9 := Lib.hid hW9
 have HFIN : Hid (∀ V, Chg W9 V (fun k => k = w.heap.size + 2 ∨ k = w.heap.size + 3) → RIn V B y → Below w.heap.size w V → RdP B lo 4 x.s ⟨lt, ns, vs, us, ds⟩ w (.returned (.tuple #[.agg y.cells, .agg (Lt.cells r)])) V) := Lib.hid (fun V hc h1 h2 => HP.out y V HYS.out h1 h2)
 exact rp0
theorem rd_l (x : RI) (l : LV) (B lo : Nat) (w : World) (h : RIn w B x) (hB : B ≤ w.heap.size) (hl : RLet w B lo l) :
  Calls Tryz.prog 53 #[.agg x.cells, .agg l.l.cells, .int .u8 108] w (RdP B lo 5 x.s l w) := by
 have G := Lib.hid (fun W (i : RIn W B x) (hW : B ≤ W.heap.size) => refGet_any x 2 B W i hW)
 have hlt : (x.s.upto 2 18446744073709551615).2 < 65536 := FI.upto_lt x.s 2 _ h.by_
 obtain ⟨lt, ns, vs, us, ds⟩ := l
 have HP : Hid (∀ (y : RI) (W : World), y.s = (x.s.upto 2 18446744073709551615).1 → RIn W B y → Below w.heap.size w W → RdP B lo 5 x.s ⟨lt, ns, vs, us, ds⟩ w (.returned (.tuple #[.agg y.cells, .agg (Lt.cells { lt with sl := ((x.s.upto 2 18446744073709551615).2 : Int) })])) W) := Lib.hid (fun y W hy hr hb => by
  have hL := hl.below hb hB
  have w0 := hL.wf
  refine ⟨y, ⟨{ lt with sl := ((x.s.upto 2 18446744073709551615).2 : Int) }, ns, vs, us, ds⟩, rfl, hy, rfl, hr, ?_, hb⟩
  exact ⟨hL.nd, hL.vt, hL.up, hL.ub, hL.da, hL.by_, by constructor <;> first | exact w0.kd | exact w0.fr | exact w0.tw | exact w0.ch | exact w0.ep | exact w0.bl | exact w0.nu | exact w0.sq | exact w0.dz | exact w0.vr | exact w0.sl | exact w0.ky | exact w0.cd | exact w0.qk | exact w0.qc | exact w0.qe | exact w0.qn | exact w0.fc | exact w0.fe | exact w0.fj | (simp only; omega), hL.vw, hL.nw, hL.cd, hL.nl⟩)
 simp only at HP ⊢
 obtain ⟨W0, hW0⟩ : ∃ W0, W0 = (((w.alloc (.cells x.cells 130)).alloc (.cells lt.cells 37)).alloc (.cells #[.slice none 0 0, .int .i64 0] 130)).alloc (.cells ZL 37) := ⟨_, rfl⟩
 have M : Hid (RdM w W0 x lt) := Lib.hid (by rw [hW0]; exact RdM.start w x lt)
 have R0 : Hid (RIn W0 B x) := Lib.hid (h.below (M.out.bel.mono hB))
 have HW0 := Lib.hid hW0
 have hB0 := Nat.le_trans hB M.out.bel.size
 clear h hl hW0
 generalize x.s.upto 2 18446744073709551615 = q at *
 obtain ⟨s', n⟩ := q
 simp only at hlt HP
 have cw : IntKind.i64.wrap (n : Int) = n := by rw [IntKind.wrap_i64]; omega
 obtain ⟨r, hr⟩ : ∃ r : Lt, r = { lt with sl := (n : Int) } := ⟨_, rfl⟩
 rw [← hr] at HP
 obtain ⟨c0, c1⟩ := ri_cells M.out.bi
 have f0 := M.out.bi.frozen 0
 have f1 := M.out.bi.frozen 1
 have g0 := M.out.bi.lt
 go_enter Tryz.func53, Tryz.ntmps53
 go_upto_region 1 with (fail)
 rw [← HW0.out]
 clear HW0
 go_wp2_with (fail)
 refine (G.out _ R0.out hB0).mono ?_
 rintro e w1 ⟨y, rfl, hy, h1, h2⟩
 have HYS := Lib.hid hy
 have M1 := Lib.hid (M.out.below h2)
 have R1 := Lib.hid h1
 clear c0 c1 f0 f1 g0 M G R0 hy h1 h2
 obtain ⟨c0, c1⟩ := ri_cells M1.out.bi
 have f0 := M1.out.bi.frozen 0
 have f1 := M1.out.bi.frozen 1
 have g0 := M1.out.bi.lt
 have d0 : w1.cell? ⟨w.heap.size + 1, 10, none⟩ = some (.int .i64 lt.sl) := M1.out.bl.cell 10
 have e0 := M1.out.bl.frozen 10
 have g1 := M1.out.bl.lt
 obtain ⟨W9, hW9⟩ : ∃ W9, W9 = ((w1.setCell ⟨w.heap.size, 0, none⟩ (.slice y.A y.s.l.length y.cap)).setCell ⟨w.heap.size, 1, none⟩ (.int .i64 y.s.e)).setCell ⟨w.heap.size + 1, 10, none⟩ (.int .i64 (n : Int)) := ⟨_, rfl⟩
 have HM : Hid (RdM w W9 y r) := Lib.hid (by rw [hW9, hr]; exact (M1.out.seti (z := y)).setl 10 _ (by exact (M1.out.seti (z := y)).bl.set_ 10 (.int .i64 (n : Int))))
 have hR9 : RIn W9 B y := by rw [hW9]; exact (R1.out.set2 hB _ _).setC (by simp; omega) _
 have HW9 := Lib.hid hW9
 have HFIN : Hid (∀ V, Chg W9 V (fun k => k = w.heap.size + 2 ∨ k = w.heap.size + 3) → RIn V B y → Below w.heap.size w V → RdP B lo 5 x.s ⟨lt, ns, vs, us, ds⟩ w (.returned (.tuple #[.agg y.cells, .agg (Lt.cells r)])) V) := Lib.hid (fun V hc h1 h2 => HP.out y V HYS.out h1 h2)
 exact rp0
theorem rd_n (x : RI) (l : LV) (B lo : Nat) (w : World) (h : RIn w B x) (hB : B ≤ w.heap.size) (hl : RLet w B lo l) :
  Calls Tryz.prog 53 #[.agg x.cells, .agg l.l.cells, .int .u8 110] w (RdP B lo 6 x.s l w) := by
 have G := Lib.hid (fun W (i : RIn W B x) (hW : B ≤ W.heap.size) => refGet_any x 8 B W i hW)
 have hlt : (x.s.upto 8 18446744073709551615).2 < 18446744073709551616 := FI.upto_lt x.s 8 _ h.by_
 obtain ⟨lt, ns, vs, us, ds⟩ := l
 have HP : Hid (∀ (y : RI) (W : World), y.s = (x.s.upto 8 18446744073709551615).1 → RIn W B y → Below w.heap.size w W → RdP B lo 6 x.s ⟨lt, ns, vs, us, ds⟩ w (.returned (.tuple #[.agg y.cells, .agg (Lt.cells { lt with nu := ((x.s.upto 8 18446744073709551615).2 : Int) })])) W) := Lib.hid (fun y W hy hr hb => by
  have hL := hl.below hb hB
  have w0 := hL.wf
  refine ⟨y, ⟨{ lt with nu := ((x.s.upto 8 18446744073709551615).2 : Int) }, ns, vs, us, ds⟩, rfl, hy, rfl, hr, ?_, hb⟩
  exact ⟨hL.nd, hL.vt, hL.up, hL.ub, hL.da, hL.by_, by constructor <;> first | exact w0.kd | exact w0.fr | exact w0.tw | exact w0.ch | exact w0.ep | exact w0.bl | exact w0.nu | exact w0.sq | exact w0.dz | exact w0.vr | exact w0.sl | exact w0.ky | exact w0.cd | exact w0.qk | exact w0.qc | exact w0.qe | exact w0.qn | exact w0.fc | exact w0.fe | exact w0.fj | (simp only; omega), hL.vw, hL.nw, hL.cd, hL.nl⟩)
 simp only at HP ⊢
 obtain ⟨W0, hW0⟩ : ∃ W0, W0 = (((w.alloc (.cells x.cells 130)).alloc (.cells lt.cells 37)).alloc (.cells #[.slice none 0 0, .int .i64 0] 130)).alloc (.cells ZL 37) := ⟨_, rfl⟩
 have M : Hid (RdM w W0 x lt) := Lib.hid (by rw [hW0]; exact RdM.start w x lt)
 have R0 : Hid (RIn W0 B x) := Lib.hid (h.below (M.out.bel.mono hB))
 have HW0 := Lib.hid hW0
 have hB0 := Nat.le_trans hB M.out.bel.size
 clear h hl hW0
 generalize x.s.upto 8 18446744073709551615 = q at *
 obtain ⟨s', n⟩ := q
 simp only at hlt HP
 obtain ⟨r, hr⟩ : ∃ r : Lt, r = { lt with nu := (n : Int) } := ⟨_, rfl⟩
 rw [← hr] at HP
 obtain ⟨c0, c1⟩ := ri_cells M.out.bi
 have f0 := M.out.bi.frozen 0
 have f1 := M.out.bi.frozen 1
 have g0 := M.out.bi.lt
 go_enter Tryz.func53, Tryz.ntmps53
 go_upto_region 1 with (fail)
 rw [← HW0.out]
 clear HW0
 go_wp2_with (fail)
 refine (G.out _ R0.out hB0).mono ?_
 rintro e w1 ⟨y, rfl, hy, h1, h2⟩
 have HYS := Lib.hid hy
 have M1 := Lib.hid (M.out.below h2)
 have R1 := Lib.hid h1
 clear c0 c1 f0 f1 g0 M G R0 hy h1 h2
 obtain ⟨c0, c1⟩ := ri_cells M1.out.bi
 have f0 := M1.out.bi.frozen 0
 have f1 := M1.out.bi.frozen 1
 have g0 := M1.out.bi.lt
 have d0 : w1.cell? ⟨w.heap.size + 1, 6, none⟩ = some (.int .u64 lt.nu) := M1.out.bl.cell 6
 have e0 := M1.out.bl.frozen 6
 have g1 := M1.out.bl.lt
 obtain ⟨W9, hW9⟩ : ∃ W9, W9 = ((w1.setCell ⟨w.heap.size, 0, none⟩ (.slice y.A y.s.l.length y.cap)).setCell ⟨w.heap.size, 1, none⟩ (.int .i64 y.s.e)).setCell ⟨w.heap.size + 1, 6, none⟩ (.int .u64 (n : Int)) := ⟨_, rfl⟩
 have HM : Hid (RdM w W9 y r) := Lib.hid (by rw [hW9, hr]; exact (M1.out.seti (z := y)).setl 6 _ (by exact (M1.out.seti (z := y)).bl.set_ 6 (.int .u64 (n : Int))))
 have hR9 : RIn W9 B y := by rw [hW9]; exact (R1.out.set2 hB _ _).setC (by simp; omega) _
 have HW9 := Lib.hid hW9
 have HFIN : Hid (∀ V, Chg W9 V (fun k => k = w.heap.size + 2 ∨ k = w.heap.size + 3) → RIn V B y → Below w.heap.size w V → RdP B lo 6 x.s ⟨lt, ns, vs, us, ds⟩ w (.returned (.tuple #[.agg y.cells, .agg (Lt.cells r)])) V) := Lib.hid (fun V hc h1 h2 => HP.out y V HYS.out h1 h2)
 exact rp0
theorem rd_o (x : RI) (l : LV) (B lo : Nat) (w : World) (h : RIn w B x) (hB : B ≤ w.heap.size) (hl : RLet w B lo l) :
  Calls Tryz.prog 53 #[.agg x.cells, .agg l.l.cells, .int .u8 111] w (RdP B lo 7 x.s l w) := by
 have G := Lib.hid (fun W (i : RIn W B x) (hW : B ≤ W.heap.size) => refGet_any x 1 B W i hW)
 have hlt : (x.s.upto 1 18446744073709551615).2 < 256 := FI.upto_lt x.s 1 _ h.by_
 obtain ⟨lt, ns, vs, us, ds⟩ := l
 have HP : Hid (∀ (y : RI) (W : World), y.s = (x.s.upto 1 18446744073709551615).1 → RIn W B y → Below w.heap.size w W → RdP B lo 7 x.s ⟨lt, ns, vs, us, ds⟩ w (.returned (.tuple #[.agg y.cells, .agg (Lt.cells { lt with cd := ((x.s.upto 1 18446744073709551615).2 : Int) })])) W) := Lib.hid (fun y W hy hr hb => by
  have hL := hl.below hb hB
  have w0 := hL.wf
  refine ⟨y, ⟨{ lt with cd := ((x.s.upto 1 18446744073709551615).2 : Int) }, ns, vs, us, ds⟩, rfl, hy, rfl, hr, ?_, hb⟩
  exact ⟨hL.nd, hL.vt, hL.up, hL.ub, hL.da, hL.by_, by constructor <;> first | exact w0.kd | exact w0.fr | exact w0.tw | exact w0.ch | exact w0.ep | exact w0.bl | exact w0.nu | exact w0.sq | exact w0.dz | exact w0.vr | exact w0.sl | exact w0.ky | exact w0.cd | exact w0.qk | exact w0.qc | exact w0.qe | exact w0.qn | exact w0.fc | exact w0.fe | exact w0.fj | (simp only; omega), hL.vw, hL.nw, hL.cd, hL.nl⟩)
 simp only at HP ⊢
 obtain ⟨W0, hW0⟩ : ∃ W0, W0 = (((w.alloc (.cells x.cells 130)).alloc (.cells lt.cells 37)).alloc (.cells #[.slice none 0 0, .int .i64 0] 130)).alloc (.cells ZL 37) := ⟨_, rfl⟩
 have M : Hid (RdM w W0 x lt) := Lib.hid (by rw [hW0]; exact RdM.start w x lt)
 have R0 : Hid (RIn W0 B x) := Lib.hid (h.below (M.out.bel.mono hB))
 have HW0 := Lib.hid hW0
 have hB0 := Nat.le_trans hB M.out.bel.size
 clear h hl hW0
 generalize x.s.upto 1 18446744073709551615 = q at *
 obtain ⟨s', n⟩ := q
 simp only at hlt HP
 have cw : IntKind.i64.wrap (n : Int) = n := by rw [IntKind.wrap_i64]; omega
 obtain ⟨r, hr⟩ : ∃ r : Lt, r = { lt with cd := (n : Int) } := ⟨_, rfl⟩
 rw [← hr] at HP
 obtain ⟨c0, c1⟩ := ri_cells M.out.bi
 have f0 := M.out.bi.frozen 0
 have f1 := M.out.bi.frozen 1
 have g0 := M.out.bi.lt
 go_enter Tryz.func53, Tryz.ntmps53
 go_upto_region 1 with (fail)
 rw [← HW0.out]
 clear HW0
 go_wp2_with (fail)
 refine (G.out _ R0.out hB0).mono ?_
 rintro e w1 ⟨y, rfl, hy, h1, h2⟩
 have HYS := Lib.hid hy
 have M1 := Lib.hid (M.out.below h2)
 have R1 := Lib.hid h1
 clear c0 c1 f0 f1 g0 M G R0 hy h1 h2
 obtain ⟨c0, c1⟩ := ri_cells M1.out.bi
 have f0 := M1.out.bi.frozen 0
 have f1 := M1.out.bi.frozen 1
 have g0 := M1.out.bi.lt
 have d0 : w1.cell? ⟨w.heap.size + 1, 12, none⟩ = some (.int .i64 lt.cd) := M1.out.bl.cell 12
 have e0 := M1.out.bl.frozen 12
 have g1 := M1.out.bl.lt
 obtain ⟨W9, hW9⟩ : ∃ W9, W9 = ((w1.setCell ⟨w.heap.size, 0, none⟩ (.slice y.A y.s.l.length y.cap)).setCell ⟨w.heap.size, 1, none⟩ (.int .i64 y.s.e)).setCell ⟨w.heap.size + 1, 12, none⟩ (.int .i64 (n : Int)) := ⟨_, rfl⟩
 have HM : Hid (RdM w W9 y r) := Lib.hid (by rw [hW9, hr]; exact (M1.out.seti (z := y)).setl 12 _ (by exact (M1.out.seti (z := y)).bl.set_ 12 (.int .i64 (n : Int))))
 have hR9 : RIn W9 B y := by rw [hW9]; exact (R1.out.set2 hB _ _).setC (by simp; omega) _
 have HW9 := Lib.hid hW9
 have HFIN : Hid (∀ V, Chg W9 V (fun k => k = w.heap.size + 2 ∨ k = w.heap.size + 3) → RIn V B y → Below w.heap.size w V → RdP B lo 7 x.s ⟨lt, ns, vs, us, ds⟩ w (.returned (.tuple #[.agg y.cells, .agg (Lt.cells r)])) V) := Lib.hid (fun V hc h1 h2 => HP.out y V HYS.out h1 h2)
 exact rp0
theorem rd_k (x : RI) (l : LV) (B lo : Nat) (w : World) (h : RIn w B x) (hB : B ≤ w.heap.size) (hl : RLet w B lo l) :
  Calls Tryz.prog 53 #[.agg x.cells, .agg l.l.cells, .int .u8 107] w (RdP B lo 8 x.s l w) := by
 have G := Lib.hid (fun W (i : RIn W B x) (hW : B ≤ W.heap.size) => refGet_any x 4 B W i hW)
 have hlt : (x.s.upto 4 18446744073709551615).2 < 4294967296 := FI.upto_lt x.s 4 _ h.by_
 obtain ⟨lt, ns, vs, us, ds⟩ := l
 have HP : Hid (∀ (y : RI) (W : World), y.s = (x.s.upto 4 18446744073709551615).1 → RIn W B y → Below w.heap.size w W → RdP B lo 8 x.s ⟨lt, ns, vs, us, ds⟩ w (.returned (.tuple #[.agg y.cells, .agg (Lt.cells { lt with ky := ((x.s.upto 4 18446744073709551615).2 : Int) })])) W) := Lib.hid (fun y W hy hr hb => by
  have hL := hl.below hb hB
  have w0 := hL.wf
  refine ⟨y, ⟨{ lt with ky := ((x.s.upto 4 18446744073709551615).2 : Int) }, ns, vs, us, ds⟩, rfl, hy, rfl, hr, ?_, hb⟩
  exact ⟨hL.nd, hL.vt, hL.up, hL.ub, hL.da, hL.by_, by constructor <;> first | exact w0.kd | exact w0.fr | exact w0.tw | exact w0.ch | exact w0.ep | exact w0.bl | exact w0.nu | exact w0.sq | exact w0.dz | exact w0.vr | exact w0.sl | exact w0.ky | exact w0.cd | exact w0.qk | exact w0.qc | exact w0.qe | exact w0.qn | exact w0.fc | exact w0.fe | exact w0.fj | (simp only; omega), hL.vw, hL.nw, hL.cd, hL.nl⟩)
 simp only at HP ⊢
 obtain ⟨W0, hW0⟩ : ∃ W0, W0 = (((w.alloc (.cells x.cells 130)).alloc (.cells lt.cells 37)).alloc (.cells #[.slice none 0 0, .int .i64 0] 130)).alloc (.cells ZL 37) := ⟨_, rfl⟩
 have M : Hid (RdM w W0 x lt) := Lib.hid (by rw [hW0]; exact RdM.start w x lt)
 have R0 : Hid (RIn W0 B x) := Lib.hid (h.below (M.out.bel.mono hB))
 have HW0 := Lib.hid hW0
 have hB0 := Nat.le_trans hB M.out.bel.size
 clear h hl hW0
 generalize x.s.upto 4 18446744073709551615 = q at *
 obtain ⟨s', n⟩ := q
 simp only at hlt HP
 have cw : IntKind.u32.wrap (n : Int) = n := by rw [IntKind.wrap_u32]; omega
 obtain ⟨r, hr⟩ : ∃ r : Lt, r = { lt with ky := (n : Int) } := ⟨_, rfl⟩
 rw [← hr] at HP
 obtain ⟨c0, c1⟩ := ri_cells M.out.bi
 have f0 := M.out.bi.frozen 0
 have f1 := M.out.bi.frozen 1
 have g0 := M.out.bi.lt
 go_enter Tryz.func53, Tryz.ntmps53
 go_upto_region 1 with (fail)
 rw [← HW0.out]
 clear HW0
 go_wp2_with (fail)
 refine (G.out _ R0.out hB0).mono ?_
 rintro e w1 ⟨y, rfl, hy, h1, h2⟩
 have HYS := Lib.hid hy
 have M1 := Lib.hid (M.out.below h2)
 have R1 := Lib.hid h1
 clear c0 c1 f0 f1 g0 M G R0 hy h1 h2
 obtain ⟨c0, c1⟩ := ri_cells M1.out.bi
 have f0 := M1.out.bi.frozen 0
 have f1 := M1.out.bi.frozen 1
 have g0 := M1.out.bi.lt
 have d0 : w1.cell? ⟨w.heap.size + 1, 11, none⟩ = some (.int .u32 lt.ky) := M1.out.bl.cell 11
 have e0 := M1.out.bl.frozen 11
 have g1 := M1.out.bl.lt
 obtain ⟨W9, hW9⟩ : ∃ W9, W9 = ((w1.setCell ⟨w.heap.size, 0, none⟩ (.slice y.A y.s.l.length y.cap)).setCell ⟨w.heap.size, 1, none⟩ (.int .i64 y.s.e)).setCell ⟨w.heap.size + 1, 11, none⟩ (.int .u32 (n : Int)) := ⟨_, rfl⟩
 have HM : Hid (RdM w W9 y r) := Lib.hid (by rw [hW9, hr]; exact (M1.out.seti (z := y)).setl 11 _ (by exact (M1.out.seti (z := y)).bl.set_ 11 (.int .u32 (n : Int))))
 have hR9 : RIn W9 B y := by rw [hW9]; exact (R1.out.set2 hB _ _).setC (by simp; omega) _
 have HW9 := Lib.hid hW9
 have HFIN : Hid (∀ V, Chg W9 V (fun k => k = w.heap.size + 2 ∨ k = w.heap.size + 3) → RIn V B y → Below w.heap.size w V → RdP B lo 8 x.s ⟨lt, ns, vs, us, ds⟩ w (.returned (.tuple #[.agg y.cells, .agg (Lt.cells r)])) V) := Lib.hid (fun V hc h1 h2 => HP.out y V HYS.out h1 h2)
 exact rp0
theorem rd_v (x : RI) (l : LV) (B lo : Nat) (w : World) (h : RIn w B x) (hB : B ≤ w.heap.size) (hl : RLet w B lo l) :
  Calls Tryz.prog 53 #[.agg x.cells, .agg l.l.cells, .int .u8 118] w (RdP B lo 9 x.s l w) := by
 have G := Lib.hid (fun W (i : RIn W B x) (hW : B ≤ W.heap.size) => refGet_any x 8 B W i hW)
 have hlt : (x.s.upto 8 18446744073709551615).2 < 18446744073709551616 := FI.upto_lt x.s 8 _ h.by_
 obtain ⟨lt, ns, vs, us, ds⟩ := l
 have HP : Hid (∀ (y : RI) (W : World), y.s = (x.s.upto 8 18446744073709551615).1 → RIn W B y → Below w.heap.size w W → RdP B lo 9 x.s ⟨lt, ns, vs, us, ds⟩ w (.returned (.tuple #[.agg y.cells, .agg (Lt.cells { lt with vr := ((x.s.upto 8 18446744073709551615).2 : Int) })])) W) := Lib.hid (fun y W hy hr hb => by
  have hL := hl.below hb hB
  have w0 := hL.wf
  refine ⟨y, ⟨{ lt with vr := ((x.s.upto 8 18446744073709551615).2 : Int) }, ns, vs, us, ds⟩, rfl, hy, rfl, hr, ?_, hb⟩
  exact ⟨hL.nd, hL.vt, hL.up, hL.ub, hL.da, hL.by_, by constructor <;> first | exact w0.kd | exact w0.fr | exact w0.tw | exact w0.ch | exact w0.ep | exact w0.bl | exact w0.nu | exact w0.sq | exact w0.dz | exact w0.vr | exact w0.sl | exact w0.ky | exact w0.cd | exact w0.qk | exact w0.qc | exact w0.qe | exact w0.qn | exact w0.fc | exact w0.fe | exact w0.fj | (simp only; omega), hL.vw, hL.nw, hL.cd, hL.nl⟩)
 simp only at HP ⊢
 obtain ⟨W0, hW0⟩ : ∃ W0, W0 = (((w.alloc (.cells x.cells 130)).alloc (.cells lt.cells 37)).alloc (.cells #[.slice none 0 0, .int .i64 0] 130)).alloc (.cells ZL 37) := ⟨_, rfl⟩
 have M : Hid (RdM w W0 x lt) := Lib.hid (by rw [hW0]; exact RdM.start w x lt)
 have R0 : Hid (RIn W0 B x) := Lib.hid (h.below (M.out.bel.mono hB))
 have HW0 := Lib.hid hW0
 have hB0 := Nat.le_trans hB M.out.bel.size
 clear h hl hW0
 generalize x.s.upto 8 18446744073709551615 = q at *
 obtain ⟨s', n⟩ := q
 simp only at hlt HP
 obtain ⟨r, hr⟩ : ∃ r : Lt, r = { lt with vr := (n : Int) } := ⟨_, rfl⟩
 rw [← hr] at HP
 obtain ⟨c0, c1⟩ := ri_cells M.out.bi
 have f0 := M.out.bi.frozen 0
 have f1 := M.out.bi.frozen 1
 have g0 := M.out.bi.lt
 go_enter Tryz.func53, Tryz.ntmps53
 go_upto_region 1 with (fail)
 rw [← HW0.out]
 clear HW0
 go_wp2_with (fail)
 refine (G.out _ R0.out hB0).mono ?_
 rintro e w1 ⟨y, rfl, hy, h1, h2⟩
 have HYS := Lib.hid hy
 have M1 := Lib.hid (M.out.below h2)
 have R1 := Lib.hid h1
 clear c0 c1 f0 f1 g0 M G R0 hy h1 h2
 obtain ⟨c0, c1⟩ := ri_cells M1.out.bi
 have f0 := M1.out.bi.frozen 0
 have f1 := M1.out.bi.frozen 1
 have g0 := M1.out.bi.lt
 have d0 : w1.cell? ⟨w.heap.size + 1, 9, none⟩ = some (.int .u64 lt.vr) := M1.out.bl.cell 9
 have e0 := M1.out.bl.frozen 9
 have g1 := M1.out.bl.lt
 obtain ⟨W9, hW9⟩ : ∃ W9, W9 = ((w1.setCell ⟨w.heap.size, 0, none⟩ (.slice y.A y.s.l.length y.cap)).setCell ⟨w.heap.size, 1, none⟩ (.int .i64 y.s.e)).setCell ⟨w.heap.size + 1, 9, none⟩ (.int .u64 (n : Int)) := ⟨_, rfl⟩
 have HM : Hid (RdM w W9 y r) := Lib.hid (by rw [hW9, hr]; exact (M1.out.seti (z := y)).setl 9 _ (by exact (M1.out.seti (z := y)).bl.set_ 9 (.int .u64 (n : Int))))
 have hR9 : RIn W9 B y := by rw [hW9]; exact (R1.out.set2 hB _ _).setC (by simp; omega) _
 have HW9 := Lib.hid hW9
 have HFIN : Hid (∀ V, Chg W9 V (fun k => k = w.heap.size + 2 ∨ k = w.heap.size + 3) → RIn V B y → Below w.heap.size w V → RdP B lo 9 x.s ⟨lt, ns, vs, us, ds⟩ w (.returned (.tuple #[.agg y.cells, .agg (Lt.cells r)])) V) := Lib.hid (fun V hc h1 h2 => HP.out y V HYS.out h1 h2)
 exact rp0
end Go.Proofs.YtmpedblelnpjdaaGreatDoor
