import Derived.Test.YtmpedblelnpjdaaGreatDoorZRdD
import Derived.Test.YtmpedblelnpjdaaGreatDoorZTq
import Derived.Test.YtmpedblelnpjdaaGreatDoorZTk
import Derived.Test.YtmpedblelnpjdaaGreatDoorZRdE
import Derived.Test.YtmpedblelnpjdaaGreatDoorZRdF
section
/- The document's read of a part: data, a command, a configuration (printed by rdgen2.py). -/
namespace Go.Proofs.YtmpedblelnpjdaaGreatDoor
open Go.RowKit
set_option linter.unusedSimpArgs false
set_option linter.unusedVariables false
set_option maxHeartbeats 8000000
set_option maxRecDepth 100000
attribute [local go_sem] RI.agg
theorem RdM.alloc {w W : World} {y : RI} {l : Lt} (h : RdM w W y l) (o : Obj) : RdM w (W.alloc o) y l := h.below ((Below.refl _ _).alloc (Nat.le_refl _) o)
theorem rd_a (x : RI) (l : LV) (B lo : Nat) (w : World) (h : RIn w B x) (hB : B ≤ w.heap.size) (hl : RLet w B lo l) :
  Calls Tryz.prog 53 #[.agg x.cells, .agg l.l.cells, .int .u8 97] w (RdP B lo 14 x.s l w) := by
 obtain ⟨lt, ns, vs, us, ds⟩ := l
 have G := Lib.hid (fun W (i : RIn W B x) (hW : B ≤ W.heap.size) => refReadC_any x (roomV lt.kd) B W i hW)
 have hby : bytesB (x.s.text (roomV lt.kd)).2 := FI.text_bytes x.s (roomV lt.kd) h.by_
 have HP : Hid (∀ (y : RI) (A2 : Option Addr) (c2 : Nat) (W : World), y.s = (x.s.text (roomV lt.kd)).1 → RIn W B y → Reads W B 1 A2 (x.s.text (roomV lt.kd)).2.length ((x.s.text (roomV lt.kd)).2.map (Value.int .u8)) → ((x.s.text (roomV lt.kd)).2.length ≤ c2 ∧ c2 ≤ maxLen) → Below w.heap.size w W → RdP B lo 14 x.s ⟨lt, ns, vs, us, ds⟩ w (.returned (.tuple #[.agg y.cells, .agg (Lt.cells { lt with dA := A2, dn := (x.s.text (roomV lt.kd)).2.length, dp := c2 })])) W) := Lib.hid (fun y A2 c2 W hy hr hd hc hb => by
  have hL := hl.below hb hB
  have w0 := hL.wf
  refine ⟨y, ⟨{ lt with dA := A2, dn := (x.s.text (roomV lt.kd)).2.length, dp := c2 }, ns, vs, us, (x.s.text (roomV lt.kd)).2⟩, rfl, hy, rfl, hr, ?_, hb⟩
  exact ⟨hL.nd, hL.vt, hL.up, hL.ub, hd, hby, ⟨w0.kd, w0.fr, w0.tw, w0.ch, w0.ep, w0.bl, w0.nu, w0.sq, w0.dz, w0.vr, w0.sl, w0.ky, w0.cd, w0.qk, w0.qc, w0.qe, w0.qn, w0.fc, w0.fe, w0.fj⟩, hL.vw, hL.nw, hc, hL.nl⟩)
 simp only at HP ⊢
 obtain ⟨W0, hW0⟩ : ∃ W0, W0 = (((w.alloc (.cells x.cells 130)).alloc (.cells lt.cells 37)).alloc (.cells #[.slice none 0 0, .int .i64 0] 130)).alloc (.cells ZL 37) := ⟨_, rfl⟩
 have M : Hid (RdM w W0 x lt) := Lib.hid (by rw [hW0]; exact RdM.start w x lt)
 have R0 : Hid (RIn W0 B x) := Lib.hid (h.below (M.out.bel.mono hB))
 have HW0 := Lib.hid hW0
 have hB0 := Nat.le_trans hB M.out.bel.size
 generalize RdP B lo 14 x.s ⟨lt, ns, vs, us, ds⟩ w = post at *
 clear h hl hW0 hby
 obtain ⟨rm, hrm⟩ : ∃ rm, rm = roomV lt.kd := ⟨_, rfl⟩
 rw [← hrm] at HP G
 generalize x.s.text rm = q at *
 obtain ⟨s', bs⟩ := q
 simp only at HP
 obtain ⟨c0, c1⟩ := ri_cells M.out.bi
 have f0 := M.out.bi.frozen 0
 have f1 := M.out.bi.frozen 1
 have g0 := M.out.bi.lt
 have k0 : W0.cell? ⟨w.heap.size + 1, 0, none⟩ = some (.int .i64 lt.kd) := M.out.bl.cell 0
 have gk := M.out.bl.lt
 by_cases hk : lt.kd = 14
 all_goals
  have hkb : (lt.kd == 14) = decide (lt.kd = 14) := by by_cases h9 : lt.kd = 14 <;> simp [h9]
  first | rw [decide_eq_true hk] at hkb | rw [decide_eq_false hk] at hkb
  have hrm' : rm = if lt.kd = 14 then 1024 else 2048 := hrm
  first | rw [if_pos hk] at hrm' | rw [if_neg hk] at hrm'
  subst hrm'
  clear hk hrm
  go_enter Tryz.func53, Tryz.ntmps53
  go_upto_region 1 with (fail)
  rw [← HW0.out]
  clear HW0
  go_wp2_with (fail)
  refine (G.out _ R0.out hB0).mono ?_
  rintro e w1 ⟨y, A2, c2, rfl, hy, h1, h3, h4, h2⟩
  have HYS := Lib.hid hy
  have M1 := Lib.hid (M.out.below h2)
  have R1 := Lib.hid h1
  have D1 := Lib.hid h3
  have HC2 := Lib.hid h4
  have hs1 := Nat.le_trans hB0 h2.size
  clear c0 c1 f0 f1 g0 M G R0 hy h1 h2 h3 h4 k0 gk
  obtain ⟨c0, c1⟩ := ri_cells M1.out.bi
  have f0 := M1.out.bi.frozen 0
  have f1 := M1.out.bi.frozen 1
  have g0 := M1.out.bi.lt
  have d0 : w1.cell? ⟨w.heap.size + 1, 24, none⟩ = some (.slice lt.dA lt.dn lt.dp) := M1.out.bl.cell 24
  have e0 := M1.out.bl.frozen 24
  have g1 := M1.out.bl.lt
  obtain ⟨r, hr⟩ : ∃ r : Lt, r = { lt with dA := A2, dn := bs.length, dp := c2 } := ⟨_, rfl⟩
  obtain ⟨W9, hW9⟩ : ∃ W9, W9 = (((w1.setCell ⟨w.heap.size, 0, none⟩ (.slice y.A y.s.l.length y.cap)).setCell ⟨w.heap.size, 1, none⟩ (.int .i64 y.s.e)).setCell ⟨w.heap.size + 1, 24, none⟩ (.slice A2 bs.length c2)).alloc (.cells #[.slice y.A y.s.l.length y.cap, .int .i64 y.s.e] 130) := ⟨_, rfl⟩
  have HM : Hid (RdM w W9 y r) := Lib.hid (by rw [hW9, hr]; exact ((M1.out.seti (z := y)).setl 24 _ (by exact (M1.out.seti (z := y)).bl.set_ 24 (.slice A2 bs.length c2))).alloc _)
  have hs9 : B ≤ ((w1.setCell ⟨w.heap.size, 0, none⟩ (.slice y.A y.s.l.length y.cap)).setCell ⟨w.heap.size, 1, none⟩ (.int .i64 y.s.e)).heap.size := by simp [World.setCell]; omega
  have hR9 : RIn W9 B y := by rw [hW9]; exact ((R1.out.set2 hB _ _).setC (by simp; omega) _).alloc (by simp [World.setCell]; omega) _
  have hD9 : Reads W9 B 1 A2 bs.length (bs.map (Value.int .u8)) := by rw [hW9]; exact (((D1.out.setCell (p := ⟨w.heap.size, 0, none⟩) hB _).setCell (p := ⟨w.heap.size, 1, none⟩) hB _).setCell (p := ⟨w.heap.size + 1, 24, none⟩) (by simp; omega) _).alloc (by simp [World.setCell]; omega) _
  have HW9 := Lib.hid hW9
  have hs99 : B ≤ W9.heap.size := Nat.le_trans hB HM.out.bel.size
  have HFIN : Hid (∀ V, Chg W9 V (fun k => k = w.heap.size + 2 ∨ k = w.heap.size + 3) → RIn V B y → Below w.heap.size w V → post (.returned (.tuple #[.agg y.cells, .agg (Lt.cells r)])) V) := Lib.hid (fun V hc h1 h2 => by
   rw [hr]
   exact HP.out y A2 c2 V HYS.out h1 (hD9.below (hc.below hs99 (fun k hk e => by omega))) HC2.out h2)
  clear hr hW9 M1 R1 D1 HC2 HP HYS hD9 hs9
  exact rp1
end Go.Proofs.YtmpedblelnpjdaaGreatDoor

end
section
/- The document's read of a part: a command, a configuration. -/
namespace Go.Proofs.YtmpedblelnpjdaaGreatDoor
open Go.RowKit
set_option linter.unusedSimpArgs false
set_option linter.unusedVariables false
set_option maxHeartbeats 8000000
set_option maxRecDepth 100000
attribute [local go_sem] RI.agg
theorem RdM.cmd {w W : World} {y : RI} {l : Lt} (h : RdM w W y l) (k c e n : Int) : RdM w ((((W.setCell ⟨w.heap.size + 1, 13, none⟩ (.int .i64 k)).setCell ⟨w.heap.size + 1, 14, none⟩ (.int .i64 c)).setCell ⟨w.heap.size + 1, 15, none⟩ (.int .u64 e)).setCell ⟨w.heap.size + 1, 16, none⟩ (.int .i64 n)) y { l with qk := k, qc := c, qe := e, qn := n } := by
 have m1 : RdM w _ y { l with qk := k } := h.setl 13 (.int .i64 k) (h.bl.set_ 13 (.int .i64 k))
 have m2 : RdM w _ y { l with qk := k, qc := c } := m1.setl 14 (.int .i64 c) (m1.bl.set_ 14 (.int .i64 c))
 have m3 : RdM w _ y { l with qk := k, qc := c, qe := e } := m2.setl 15 (.int .u64 e) (m2.bl.set_ 15 (.int .u64 e))
 exact m3.setl 16 (.int .i64 n) (m3.bl.set_ 16 (.int .i64 n))
theorem rd_m (x : RI) (l : LV) (B lo : Nat) (w : World) (h : RIn w B x) (hB : B ≤ w.heap.size) (hl : RLet w B lo l) :
  Calls Tryz.prog 53 #[.agg x.cells, .agg l.l.cells, .int .u8 109] w (RdP B lo 10 x.s l w) := by
 have G := Lib.hid (fun W (i : RIn W B x) (hW : B ≤ W.heap.size) => (show Calls Tryz.prog 122 #[.agg x.cells] W (fun e w' => ∃ y : RI, e = .returned (.tuple #[y.agg, (cmdGv x.s).agg, .int .i64 (cmdGe x.s)]) ∧ y.s = (x.s.raw 11).1 ∧ RIn w' B y ∧ Below W.heap.size W w') from crGet_any x B W i hW))
 have FL := Lib.hid (fun W (y : RI) (ev : Int) (hev : ev ≠ 0) (i : RIn W B y) (hW : B ≤ W.heap.size) => (show Calls Tryz.prog 123 #[.agg y.cells, .int .i64 ev] W _ from refFail_any y ev hev B W i hW))
 have hwf := cmdGv_wf x.s h.by_
 obtain ⟨lt, ns, vs, us, ds⟩ := l
 have HP : Hid (∀ (y : RI) (W : World), y.s = rcmdI x.s → RIn W B y → Below w.heap.size w W → RdP B lo 10 x.s ⟨lt, ns, vs, us, ds⟩ w (.returned (.tuple #[.agg y.cells, .agg (Lt.cells { lt with qk := (cmdGv x.s).k, qc := (cmdGv x.s).c, qe := (cmdGv x.s).e, qn := (cmdGv x.s).n })])) W) := Lib.hid (fun y W hy hr hb => by
  have hL := hl.below hb hB
  have w0 := hL.wf
  refine ⟨y, ⟨{ lt with qk := (cmdGv x.s).k, qc := (cmdGv x.s).c, qe := (cmdGv x.s).e, qn := (cmdGv x.s).n }, ns, vs, us, ds⟩, rfl, hy, rfl, hr, ?_, hb⟩
  exact ⟨hL.nd, hL.vt, hL.up, hL.ub, hL.da, hL.by_, ⟨w0.kd, w0.fr, w0.tw, w0.ch, w0.ep, w0.bl, w0.nu, w0.sq, w0.dz, w0.vr, w0.sl, w0.ky, w0.cd, hwf.k, hwf.c, hwf.e, hwf.n, w0.fc, w0.fe, w0.fj⟩, hL.vw, hL.nw, hL.cd, hL.nl⟩)
 have HRC : Hid (rcmdI x.s = if cmdGe x.s ≠ 0 then (x.s.raw 11).1.fail (cmdGe x.s) else (x.s.raw 11).1) := Lib.hid rfl
 simp only at HP ⊢
 obtain ⟨W0, hW0⟩ : ∃ W0, W0 = (((w.alloc (.cells x.cells 130)).alloc (.cells lt.cells 37)).alloc (.cells #[.slice none 0 0, .int .i64 0] 130)).alloc (.cells ZL 37) := ⟨_, rfl⟩
 have M : Hid (RdM w W0 x lt) := Lib.hid (by rw [hW0]; exact RdM.start w x lt)
 have R0 : Hid (RIn W0 B x) := Lib.hid (h.below (M.out.bel.mono hB))
 have HW0 := Lib.hid hW0
 have hB0 := Nat.le_trans hB M.out.bel.size
 clear h hl hW0
 generalize RdP B lo 10 x.s ⟨lt, ns, vs, us, ds⟩ w = post at *
 generalize rcmdI x.s = rs at *
 generalize cmdGv x.s = gv at *
 generalize cmdGe x.s = ge at *
 generalize x.s.raw 11 = q at *
 obtain ⟨k, cc, ee, nn⟩ := gv
 obtain ⟨s', bs⟩ := q
 unfold Cm.agg at G
 simp only at HP HRC G
 clear hwf
 obtain ⟨r, hr⟩ : ∃ r : Lt, r = { lt with qk := k, qc := cc, qe := ee, qn := nn } := ⟨_, rfl⟩
 rw [← hr] at HP
 obtain ⟨c0, c1⟩ := ri_cells M.out.bi
 have f0 := M.out.bi.frozen 0
 have f1 := M.out.bi.frozen 1
 have g0 := M.out.bi.lt
 by_cases hge : ge = 0
 ·have hgb : (ge != 0) = false := by simpa using hge
  have HRS : Hid (rs = s') := Lib.hid (by rw [HRC.out, if_neg (fun h => h hge)])
  clear HRC hge
  go_enter Tryz.func53, Tryz.ntmps53
  go_upto_region 1 with (fail)
  rw [← HW0.out]
  clear HW0
  go_wp2_with (fail)
  refine (G.out _ R0.out hB0).mono ?_
  rintro e w1 ⟨y, rfl, hy, h1, h2⟩
  have HYS := Lib.hid hy
  have M1 := Lib.hid (M.out.below h2)
  have R1 := Lib.hid h1
  have hs1 := Nat.le_trans hB0 h2.size
  clear c0 c1 f0 f1 g0 M G R0 hy h1 h2
  obtain ⟨c0, c1⟩ := ri_cells M1.out.bi
  have f0 := M1.out.bi.frozen 0
  have f1 := M1.out.bi.frozen 1
  have g0 := M1.out.bi.lt
  have d0 : w1.cell? ⟨w.heap.size + 1, 13, none⟩ = some (.int .i64 lt.qk) := M1.out.bl.cell 13
  have d1 : w1.cell? ⟨w.heap.size + 1, 14, none⟩ = some (.int .i64 lt.qc) := M1.out.bl.cell 14
  have d2 : w1.cell? ⟨w.heap.size + 1, 15, none⟩ = some (.int .u64 lt.qe) := M1.out.bl.cell 15
  have d3 : w1.cell? ⟨w.heap.size + 1, 16, none⟩ = some (.int .i64 lt.qn) := M1.out.bl.cell 16
  have e0 := M1.out.bl.frozen 13
  have e1 := M1.out.bl.frozen 14
  have e2 := M1.out.bl.frozen 15
  have e3 := M1.out.bl.frozen 16
  have g1 := M1.out.bl.lt
  obtain ⟨W9, hW9⟩ : ∃ W9, W9 = (((((((w1.setCell ⟨w.heap.size, 0, none⟩ (.slice y.A y.s.l.length y.cap)).setCell ⟨w.heap.size, 1, none⟩ (.int .i64 y.s.e)).setCell ⟨w.heap.size + 1, 13, none⟩ (.int .i64 k)).setCell ⟨w.heap.size + 1, 14, none⟩ (.int .i64 cc)).setCell ⟨w.heap.size + 1, 15, none⟩ (.int .u64 ee)).setCell ⟨w.heap.size + 1, 16, none⟩ (.int .i64 nn)).alloc (.cells #[.slice y.A y.s.l.length y.cap, .int .i64 y.s.e] 130)).alloc (.cells #[.int .i64 k, .int .i64 cc, .int .u64 ee, .int .i64 nn] 30) := ⟨_, rfl⟩
  have m0 := M1.out.seti (z := y)
  have HM : Hid (RdM w W9 y r) := Lib.hid (by rw [hW9, hr]; exact ((m0.cmd k cc ee nn).alloc _).alloc _)
  have hR9 : RIn W9 B y := by rw [hW9]; exact (((((((R1.out.set2 hB _ _).setC (by simp; omega) _).setC (by simp; omega) _).setC (by simp; omega) _).setC (by simp; omega) _).alloc (by simp [World.setCell]; omega) _).alloc (by simp [World.setCell]; omega) _)
  have HW9 := Lib.hid hW9
  have HFIN : Hid (∀ V, Chg W9 V (fun k => k = w.heap.size + 2 ∨ k = w.heap.size + 3) → RIn V B y → Below w.heap.size w V → post (.returned (.tuple #[.agg y.cells, .agg (Lt.cells r)])) V) := Lib.hid (fun V hc h1 h2 => HP.out y V (by rw [HYS.out, HRS.out]) h1 h2)
  clear hr hW9 M1 R1 HP HYS HRS m0
  exact rp1
 ·have hgb : (ge != 0) = true := by simpa using hge
  have HRS : Hid (rs = s'.fail ge) := Lib.hid (by rw [HRC.out, if_pos hge])
  clear HRC
  go_enter Tryz.func53, Tryz.ntmps53
  go_upto_region 1 with (fail)
  rw [← HW0.out]
  clear HW0
  go_wp2_with (fail)
  refine (G.out _ R0.out hB0).mono ?_
  rintro e w1 ⟨u, rfl, hy, h1, h2⟩
  have HYS := Lib.hid hy
  have M1 := Lib.hid (M.out.below h2)
  have R1 := Lib.hid h1
  have hs1 := Nat.le_trans hB0 h2.size
  clear c0 c1 f0 f1 g0 M G R0 hy h1 h2
  obtain ⟨c0, c1⟩ := ri_cells M1.out.bi
  have f0 := M1.out.bi.frozen 0
  have f1 := M1.out.bi.frozen 1
  have g0 := M1.out.bi.lt
  have d0 : w1.cell? ⟨w.heap.size + 1, 13, none⟩ = some (.int .i64 lt.qk) := M1.out.bl.cell 13
  have d1 : w1.cell? ⟨w.heap.size + 1, 14, none⟩ = some (.int .i64 lt.qc) := M1.out.bl.cell 14
  have d2 : w1.cell? ⟨w.heap.size + 1, 15, none⟩ = some (.int .u64 lt.qe) := M1.out.bl.cell 15
  have d3 : w1.cell? ⟨w.heap.size + 1, 16, none⟩ = some (.int .i64 lt.qn) := M1.out.bl.cell 16
  have e0 := M1.out.bl.frozen 13
  have e1 := M1.out.bl.frozen 14
  have e2 := M1.out.bl.frozen 15
  have e3 := M1.out.bl.frozen 16
  have g1 := M1.out.bl.lt
  have hsz := M1.out.bw.lt
  have nq : w1.heap.size + 1 ≠ w.heap.size := by omega
  have nq' : w.heap.size ≠ w1.heap.size + 1 := by omega
  have nr : w1.heap.size + 1 ≠ w.heap.size + 1 := by omega
  have nr' : w.heap.size + 1 ≠ w1.heap.size + 1 := by omega
  obtain ⟨Wf, hWf⟩ : ∃ Wf, Wf = (((w1.setCell ⟨w.heap.size, 0, none⟩ (.slice u.A u.s.l.length u.cap)).setCell ⟨w.heap.size, 1, none⟩ (.int .i64 u.s.e)).alloc (.cells #[.slice u.A u.s.l.length u.cap, .int .i64 u.s.e] 130)).alloc (.cells #[.int .i64 k, .int .i64 cc, .int .u64 ee, .int .i64 nn] 30) := ⟨_, rfl⟩
  have MF : Hid (RdM w Wf u lt) := Lib.hid (by rw [hWf]; exact ((M1.out.seti (z := u)).alloc _).alloc _)
  have RF : Hid (RIn Wf B u) := Lib.hid (by rw [hWf]; exact ((R1.out.set2 hB _ _).alloc (by simp [World.setCell]; omega) _).alloc (by simp [World.setCell]; omega) _)
  have QF : Hid (Blk Wf (w1.heap.size + 1) 30 #[.int .i64 k, .int .i64 cc, .int .u64 ee, .int .i64 nn]) := Lib.hid (by rw [hWf]; exact blk_at _ _ _ _ (by simp [World.setCell]))
  have hsf : B ≤ Wf.heap.size := Nat.le_trans hB MF.out.bel.size
  have HWf := Lib.hid hWf
  clear hWf M1 R1
  go_wp2_with (fail)
  rw [← HWf.out]
  clear HWf c0 c1 f0 f1 g0 d0 d1 d2 d3 e0 e1 e2 e3 g1
  refine (FL.out _ u ge hge RF.out hsf).mono ?_
  rintro e w2 ⟨y, rfl, hz, h3, h4⟩
  have HZ := Lib.hid hz
  have M1 := Lib.hid (MF.out.below h4)
  have R1 := Lib.hid h3
  have q1 := QF.out.below h4 QF.out.lt
  have hs2 := Nat.le_trans hsf h4.size
  clear hz h3 h4 MF RF QF FL
  have gq := q1.lt
  have q0 : w2.cell? ⟨w1.heap.size + 1, 0, none⟩ = some (.int .i64 k) := q1.cell 0
  have q2 : w2.cell? ⟨w1.heap.size + 1, 1, none⟩ = some (.int .i64 cc) := q1.cell 1
  have q3 : w2.cell? ⟨w1.heap.size + 1, 2, none⟩ = some (.int .u64 ee) := q1.cell 2
  have q4 : w2.cell? ⟨w1.heap.size + 1, 3, none⟩ = some (.int .i64 nn) := q1.cell 3
  clear q1
  obtain ⟨c0, c1⟩ := ri_cells M1.out.bi
  have f0 := M1.out.bi.frozen 0
  have f1 := M1.out.bi.frozen 1
  have g0 := M1.out.bi.lt
  have d0 : w2.cell? ⟨w.heap.size + 1, 13, none⟩ = some (.int .i64 lt.qk) := M1.out.bl.cell 13
  have d1 : w2.cell? ⟨w.heap.size + 1, 14, none⟩ = some (.int .i64 lt.qc) := M1.out.bl.cell 14
  have d2 : w2.cell? ⟨w.heap.size + 1, 15, none⟩ = some (.int .u64 lt.qe) := M1.out.bl.cell 15
  have d3 : w2.cell? ⟨w.heap.size + 1, 16, none⟩ = some (.int .i64 lt.qn) := M1.out.bl.cell 16
  have e0 := M1.out.bl.frozen 13
  have e1 := M1.out.bl.frozen 14
  have e2 := M1.out.bl.frozen 15
  have e3 := M1.out.bl.frozen 16
  have g1 := M1.out.bl.lt
  obtain ⟨W9, hW9⟩ : ∃ W9, W9 = (((((w2.setCell ⟨w.heap.size, 0, none⟩ (.slice y.A y.s.l.length y.cap)).setCell ⟨w.heap.size, 1, none⟩ (.int .i64 y.s.e)).setCell ⟨w.heap.size + 1, 13, none⟩ (.int .i64 k)).setCell ⟨w.heap.size + 1, 14, none⟩ (.int .i64 cc)).setCell ⟨w.heap.size + 1, 15, none⟩ (.int .u64 ee)).setCell ⟨w.heap.size + 1, 16, none⟩ (.int .i64 nn) := ⟨_, rfl⟩
  have m0 := M1.out.seti (z := y)
  have HM : Hid (RdM w W9 y r) := Lib.hid (by rw [hW9, hr]; exact m0.cmd k cc ee nn)
  have hR9 : RIn W9 B y := by rw [hW9]; exact (((((R1.out.set2 hB _ _).setC (by simp; omega) _).setC (by simp; omega) _).setC (by simp; omega) _).setC (by simp; omega) _)
  have HW9 := Lib.hid hW9
  have HFIN : Hid (∀ V, Chg W9 V (fun k => k = w.heap.size + 2 ∨ k = w.heap.size + 3) → RIn V B y → Below w.heap.size w V → post (.returned (.tuple #[.agg y.cells, .agg (Lt.cells r)])) V) := Lib.hid (fun V hc h1 h2 => HP.out y V (by rw [HZ.out, HRS.out, HYS.out]) h1 h2)
  clear hr hW9 M1 R1 HP HYS HRS HZ m0
  exact rp1
end Go.Proofs.YtmpedblelnpjdaaGreatDoor

end
section
/- The document's read of a part: a configuration. -/
namespace Go.Proofs.YtmpedblelnpjdaaGreatDoor
open Go.RowKit
set_option linter.unusedSimpArgs false
set_option linter.unusedVariables false
set_option maxHeartbeats 8000000
set_option maxRecDepth 100000
attribute [local go_sem] RI.agg
theorem RdM.conf {w W : World} {y : RI} {l : Lt} (h : RdM w W y l) (c : Int) (e : Nat) (A : Option Addr) (n p : Nat) (f : Bool) (j : Int) : RdM w (((((W.setCell ⟨w.heap.size + 1, 17, none⟩ (.int .i64 c)).setCell ⟨w.heap.size + 1, 18, none⟩ (.int .u64 e)).setCell ⟨w.heap.size + 1, 19, none⟩ (.slice A n p)).setCell ⟨w.heap.size + 1, 20, none⟩ (.bool f)).setCell ⟨w.heap.size + 1, 21, none⟩ (.int .i64 j)) y { l with fc := c, fe := e, fA := A, fn := n, fp := p, ff := f, fj := j } := by
 have m1 : RdM w _ y { l with fc := c } := h.setl 17 (.int .i64 c) (h.bl.set_ 17 (.int .i64 c))
 have m2 : RdM w _ y { l with fc := c, fe := e } := m1.setl 18 (.int .u64 e) (m1.bl.set_ 18 (.int .u64 e))
 have m3 : RdM w _ y { l with fc := c, fe := e, fA := A, fn := n, fp := p } := m2.setl 19 (.slice A n p) (m2.bl.set_ 19 (.slice A n p))
 have m4 : RdM w _ y { l with fc := c, fe := e, fA := A, fn := n, fp := p, ff := f } := m3.setl 20 (.bool f) (m3.bl.set_ 20 (.bool f))
 exact m4.setl 21 (.int .i64 j) (m4.bl.set_ 21 (.int .i64 j))
theorem own_set {W : World} {lo g o : Nat} {t : TypeId} {sz n : Nat} {v u : Value} {xs : List Value} (h : W.ownsRow lo t sz v n xs) (hg : g < lo) : (W.setCell ⟨g, o, none⟩ u).ownsRow lo t sz v n xs :=
 (chg_set0 W g u o).own h (fun k hk e => by have := (h.lt k hk).1; unfold isG at e; omega)
theorem own_alc {W : World} {lo : Nat} {t : TypeId} {sz n : Nat} {v : Value} {xs : List Value} {o : Obj} (h : W.ownsRow lo t sz v n xs) : (W.alloc o).ownsRow lo t sz v n xs :=
 own_block_same h (fun k hk => ((Below.refl _ W).alloc (Nat.le_refl _) o).block k (h.lt k hk).2)
theorem rd_f (x : RI) (l : LV) (B lo : Nat) (w : World) (h : RIn w B x) (hB : B ≤ w.heap.size) (hl : RLet w B lo l) (hlo : lo ≤ w.heap.size) :
  Calls Tryz.prog 53 #[.agg x.cells, .agg l.l.cells, .int .u8 102] w (RdP B lo 11 x.s l w) := by
 have G := Lib.hid (fun W (i : RIn W B x) (hW : B ≤ W.heap.size) => (show Calls Tryz.prog 124 #[.agg x.cells] W (fun e w' => ∃ (y : RI) (z : Cf), e = .returned (.tuple #[y.agg, .agg #[.int .i64 z.ch, .int .u64 z.ep, .slice z.A z.len z.cap, .bool z.fr, .int .i64 z.jn], .int .i64 (confGe x.s)]) ∧ y.s = (k6 x.s).1 ∧ z.ch = (confGv x.s).ch ∧ (z.ep : Int) = (confGv x.s).ep ∧ z.fr = (confGv x.s).fr ∧ z.jn = (confGv x.s).jn ∧ z.zs = (confGv x.s).ns ∧ w'.ownsRow W.heap.size 3 1 (.slice z.A z.len z.cap) z.len (z.zs.map (Value.int .i64)) ∧ RIn w' B y ∧ Below W.heap.size W w') from conGet_any x B W i hW))
 have FL := Lib.hid (fun W (y : RI) (ev : Int) (hev : ev ≠ 0) (i : RIn W B y) (hW : B ≤ W.heap.size) => (show Calls Tryz.prog 123 #[.agg y.cells, .int .i64 ev] W _ from refFail_any y ev hev B W i hW))
 have hwf := Cn.wf_of x.s h.by_
 obtain ⟨lt, ns, vs, us, ds⟩ := l
 have HP : Hid (∀ (y : RI) (z : Cf) (r : Lt) (W : World), r = { lt with fc := z.ch, fe := z.ep, fA := z.A, fn := z.len, fp := z.cap, ff := z.fr, fj := z.jn } → y.s = rconI x.s → (z.ch = (confGv x.s).ch ∧ (z.ep : Int) = (confGv x.s).ep ∧ z.fr = (confGv x.s).fr ∧ z.jn = (confGv x.s).jn ∧ z.zs = (confGv x.s).ns) → W.ownsRow (w.heap.size + 4) 3 1 (.slice z.A z.len z.cap) z.len (z.zs.map (Value.int .i64)) → RIn W B y → Below w.heap.size w W → RdP B lo 11 x.s ⟨lt, ns, vs, us, ds⟩ w (.returned (.tuple #[.agg y.cells, .agg (Lt.cells r)])) W) := Lib.hid (fun y z r W hr hy hz ho hri hb => by
  have hL := hl.below hb hB
  have w0 := hL.wf
  obtain ⟨z1, z2, z3, z4, z5⟩ := hz
  obtain ⟨x1, x2, x3, x4⟩ := hwf
  rw [← z1] at x1
  rw [← z2] at x2
  rw [← z4] at x3
  rw [← z5] at x4
  refine ⟨y, ⟨r, z.zs, vs, us, ds⟩, rfl, hy, ?_, hri, ?_, hb⟩
  ·rw [hr]
   show _ = (rd11 _ _).2
   unfold rd11
   simp only [LV.val, z1, z2, z3, z4, z5]
  ·rw [hr]
   exact ⟨own_base ho (by omega), hL.vt, hL.up, hL.ub, hL.da, hL.by_, ⟨w0.kd, w0.fr, w0.tw, w0.ch, w0.ep, w0.bl, w0.nu, w0.sq, w0.dz, w0.vr, w0.sl, w0.ky, w0.cd, w0.qk, w0.qc, w0.qe, w0.qn, x1, x2, x3⟩, hL.vw, x4, hL.cd, hL.nl⟩)
 have HRC : Hid (rconI x.s = if confGe x.s ≠ 0 then (k6 x.s).1.fail (confGe x.s) else (k6 x.s).1) := Lib.hid rfl
 simp only at HP ⊢
 obtain ⟨W0, hW0⟩ : ∃ W0, W0 = (((w.alloc (.cells x.cells 130)).alloc (.cells lt.cells 37)).alloc (.cells #[.slice none 0 0, .int .i64 0] 130)).alloc (.cells ZL 37) := ⟨_, rfl⟩
 have M : Hid (RdM w W0 x lt) := Lib.hid (by rw [hW0]; exact RdM.start w x lt)
 have R0 : Hid (RIn W0 B x) := Lib.hid (h.below (M.out.bel.mono hB))
 have HW0 := Lib.hid hW0
 have hB0 := Nat.le_trans hB M.out.bel.size
 clear h hl hW0
 generalize RdP B lo 11 x.s ⟨lt, ns, vs, us, ds⟩ w = post at *
 generalize rconI x.s = rs at *
 generalize confGv x.s = gv at *
 generalize confGe x.s = ge at *
 generalize k6 x.s = q at *
 obtain ⟨s', bs⟩ := q
 simp only at HRC G
 clear hwf
 obtain ⟨c0, c1⟩ := ri_cells M.out.bi
 have f0 := M.out.bi.frozen 0
 have f1 := M.out.bi.frozen 1
 have g0 := M.out.bi.lt
 by_cases hge : ge = 0
 ·have hgb : (ge != 0) = false := by simpa using hge
  have HRS : Hid (rs = s') := Lib.hid (by rw [HRC.out, if_neg (fun h => h hge)])
  clear HRC hge
  go_enter Tryz.func53, Tryz.ntmps53
  go_upto_region 1 with (fail)
  rw [← HW0.out]
  clear HW0
  go_wp2_with (fail)
  refine (G.out _ R0.out hB0).mono ?_
  rintro e w1 ⟨y, z, rfl, hy, z1, z2, z3, z4, z5, ho, h1, h2⟩
  have HYS := Lib.hid hy
  have HZ9 := Lib.hid (And.intro z1 (And.intro z2 (And.intro z3 (And.intro z4 z5))))
  have hM4 := M.out.bw.lt
  have HO1 : Hid (w1.ownsRow (w.heap.size + 4) 3 1 (.slice z.A z.len z.cap) z.len (z.zs.map (Value.int .i64))) := Lib.hid (own_base ho (by omega))
  obtain ⟨k, hk⟩ : ∃ k, k = z.ch := ⟨_, rfl⟩
  obtain ⟨ee, hee⟩ : ∃ ee, ee = z.ep := ⟨_, rfl⟩
  obtain ⟨zA, hzA⟩ : ∃ zA, zA = z.A := ⟨_, rfl⟩
  obtain ⟨zn, hzn⟩ : ∃ zn, zn = z.len := ⟨_, rfl⟩
  obtain ⟨zc, hzc⟩ : ∃ zc, zc = z.cap := ⟨_, rfl⟩
  obtain ⟨zf, hzf⟩ : ∃ zf, zf = z.fr := ⟨_, rfl⟩
  obtain ⟨nn, hnn⟩ : ∃ nn, nn = z.jn := ⟨_, rfl⟩
  rw [← hk, ← hee, ← hzA, ← hzn, ← hzc, ← hzf, ← hnn]
  rw [← hzA, ← hzn, ← hzc] at HO1
  obtain ⟨r, hr⟩ : ∃ r : Lt, r = { lt with fc := k, fe := ee, fA := zA, fn := zn, fp := zc, ff := zf, fj := nn } := ⟨_, rfl⟩
  have HRZ : Hid (r = { lt with fc := z.ch, fe := z.ep, fA := z.A, fn := z.len, fp := z.cap, ff := z.fr, fj := z.jn }) := Lib.hid (by rw [hr, hk, hee, hzA, hzn, hzc, hzf, hnn])
  have HZE := Lib.hid (And.intro hzA (And.intro hzn hzc))
  clear z1 z2 z3 z4 z5 ho hk hee hzA hzn hzc hzf hnn
  have M1 := Lib.hid (M.out.below h2)
  have R1 := Lib.hid h1
  have hs1 := Nat.le_trans hB0 h2.size
  clear c0 c1 f0 f1 g0 M G R0 hy h1 h2
  obtain ⟨c0, c1⟩ := ri_cells M1.out.bi
  have f0 := M1.out.bi.frozen 0
  have f1 := M1.out.bi.frozen 1
  have g0 := M1.out.bi.lt
  have d0 : w1.cell? ⟨w.heap.size + 1, 17, none⟩ = some (.int .i64 lt.fc) := M1.out.bl.cell 17
  have d1 : w1.cell? ⟨w.heap.size + 1, 18, none⟩ = some (.int .u64 lt.fe) := M1.out.bl.cell 18
  have d2 : w1.cell? ⟨w.heap.size + 1, 19, none⟩ = some (.slice lt.fA lt.fn lt.fp) := M1.out.bl.cell 19
  have d3 : w1.cell? ⟨w.heap.size + 1, 20, none⟩ = some (.bool lt.ff) := M1.out.bl.cell 20
  have d4 : w1.cell? ⟨w.heap.size + 1, 21, none⟩ = some (.int .i64 lt.fj) := M1.out.bl.cell 21
  have e0 := M1.out.bl.frozen 17
  have e1 := M1.out.bl.frozen 18
  have e2 := M1.out.bl.frozen 19
  have e3 := M1.out.bl.frozen 20
  have e4 := M1.out.bl.frozen 21
  have g1 := M1.out.bl.lt
  obtain ⟨W9, hW9⟩ : ∃ W9, W9 = ((((((((w1.setCell ⟨w.heap.size, 0, none⟩ (.slice y.A y.s.l.length y.cap)).setCell ⟨w.heap.size, 1, none⟩ (.int .i64 y.s.e)).setCell ⟨w.heap.size + 1, 17, none⟩ (.int .i64 k)).setCell ⟨w.heap.size + 1, 18, none⟩ (.int .u64 ee)).setCell ⟨w.heap.size + 1, 19, none⟩ (.slice zA zn zc)).setCell ⟨w.heap.size + 1, 20, none⟩ (.bool zf)).setCell ⟨w.heap.size + 1, 21, none⟩ (.int .i64 nn)).alloc (.cells #[.slice y.A y.s.l.length y.cap, .int .i64 y.s.e] 130)).alloc (.cells #[.int .i64 k, .int .u64 ee, .slice zA zn zc, .bool zf, .int .i64 nn] 33) := ⟨_, rfl⟩
  have m0 := M1.out.seti (z := y)
  have HM : Hid (RdM w W9 y r) := Lib.hid (by rw [hW9, hr]; exact ((m0.conf k ee zA zn zc zf nn).alloc _).alloc _)
  have hR9 : RIn W9 B y := by rw [hW9]; exact ((((((((R1.out.set2 hB _ _).setC (by simp; omega) _).setC (by simp; omega) _).setC (by simp; omega) _).setC (by simp; omega) _).setC (by simp; omega) _).alloc (by simp [World.setCell]; omega) _).alloc (by simp [World.setCell]; omega) _)
  have HO9 : Hid (W9.ownsRow (w.heap.size + 4) 3 1 (.slice zA zn zc) zn (z.zs.map (Value.int .i64))) := Lib.hid (by rw [hW9]; exact own_alc (own_alc (own_set (own_set (own_set (own_set (own_set (own_set (own_set HO1.out (by omega)) (by omega)) (by omega)) (by omega)) (by omega)) (by omega)) (by omega))))
  have HW9 := Lib.hid hW9
  have HFIN : Hid (∀ V, Chg W9 V (fun k => k = w.heap.size + 2 ∨ k = w.heap.size + 3) → RIn V B y → Below w.heap.size w V → post (.returned (.tuple #[.agg y.cells, .agg (Lt.cells r)])) V) := Lib.hid (fun V hc h1 h2 => HP.out y z r V HRZ.out (by rw [HYS.out, HRS.out]) HZ9.out (by rw [← HZE.out.1, ← HZE.out.2.1, ← HZE.out.2.2]; exact hc.own HO9.out (fun k hk e => by have := (HO9.out.lt k hk).1; omega)) h1 h2)
  clear hr hW9 M1 R1 HP HYS HRS m0
  exact rp1
 ·have hgb : (ge != 0) = true := by simpa using hge
  have HRS : Hid (rs = s'.fail ge) := Lib.hid (by rw [HRC.out, if_pos hge])
  clear HRC
  go_enter Tryz.func53, Tryz.ntmps53
  go_upto_region 1 with (fail)
  rw [← HW0.out]
  clear HW0
  go_wp2_with (fail)
  refine (G.out _ R0.out hB0).mono ?_
  rintro e w1 ⟨u, z, rfl, hy, z1, z2, z3, z4, z5, ho, h1, h2⟩
  have HYS := Lib.hid hy
  have HZ9 := Lib.hid (And.intro z1 (And.intro z2 (And.intro z3 (And.intro z4 z5))))
  have hM4 := M.out.bw.lt
  have HO1 : Hid (w1.ownsRow (w.heap.size + 4) 3 1 (.slice z.A z.len z.cap) z.len (z.zs.map (Value.int .i64))) := Lib.hid (own_base ho (by omega))
  obtain ⟨k, hk⟩ : ∃ k, k = z.ch := ⟨_, rfl⟩
  obtain ⟨ee, hee⟩ : ∃ ee, ee = z.ep := ⟨_, rfl⟩
  obtain ⟨zA, hzA⟩ : ∃ zA, zA = z.A := ⟨_, rfl⟩
  obtain ⟨zn, hzn⟩ : ∃ zn, zn = z.len := ⟨_, rfl⟩
  obtain ⟨zc, hzc⟩ : ∃ zc, zc = z.cap := ⟨_, rfl⟩
  obtain ⟨zf, hzf⟩ : ∃ zf, zf = z.fr := ⟨_, rfl⟩
  obtain ⟨nn, hnn⟩ : ∃ nn, nn = z.jn := ⟨_, rfl⟩
  rw [← hk, ← hee, ← hzA, ← hzn, ← hzc, ← hzf, ← hnn]
  rw [← hzA, ← hzn, ← hzc] at HO1
  obtain ⟨r, hr⟩ : ∃ r : Lt, r = { lt with fc := k, fe := ee, fA := zA, fn := zn, fp := zc, ff := zf, fj := nn } := ⟨_, rfl⟩
  have HRZ : Hid (r = { lt with fc := z.ch, fe := z.ep, fA := z.A, fn := z.len, fp := z.cap, ff := z.fr, fj := z.jn }) := Lib.hid (by rw [hr, hk, hee, hzA, hzn, hzc, hzf, hnn])
  have HZE := Lib.hid (And.intro hzA (And.intro hzn hzc))
  clear z1 z2 z3 z4 z5 ho hk hee hzA hzn hzc hzf hnn
  have M1 := Lib.hid (M.out.below h2)
  have R1 := Lib.hid h1
  have hs1 := Nat.le_trans hB0 h2.size
  clear c0 c1 f0 f1 g0 M G R0 hy h1 h2
  obtain ⟨c0, c1⟩ := ri_cells M1.out.bi
  have f0 := M1.out.bi.frozen 0
  have f1 := M1.out.bi.frozen 1
  have g0 := M1.out.bi.lt
  have d0 : w1.cell? ⟨w.heap.size + 1, 17, none⟩ = some (.int .i64 lt.fc) := M1.out.bl.cell 17
  have d1 : w1.cell? ⟨w.heap.size + 1, 18, none⟩ = some (.int .u64 lt.fe) := M1.out.bl.cell 18
  have d2 : w1.cell? ⟨w.heap.size + 1, 19, none⟩ = some (.slice lt.fA lt.fn lt.fp) := M1.out.bl.cell 19
  have d3 : w1.cell? ⟨w.heap.size + 1, 20, none⟩ = some (.bool lt.ff) := M1.out.bl.cell 20
  have d4 : w1.cell? ⟨w.heap.size + 1, 21, none⟩ = some (.int .i64 lt.fj) := M1.out.bl.cell 21
  have e0 := M1.out.bl.frozen 17
  have e1 := M1.out.bl.frozen 18
  have e2 := M1.out.bl.frozen 19
  have e3 := M1.out.bl.frozen 20
  have e4 := M1.out.bl.frozen 21
  have g1 := M1.out.bl.lt
  have hsz := M1.out.bw.lt
  have nq : w1.heap.size + 1 ≠ w.heap.size := by omega
  have nq' : w.heap.size ≠ w1.heap.size + 1 := by omega
  have nr : w1.heap.size + 1 ≠ w.heap.size + 1 := by omega
  have nr' : w.heap.size + 1 ≠ w1.heap.size + 1 := by omega
  obtain ⟨Wf, hWf⟩ : ∃ Wf, Wf = (((w1.setCell ⟨w.heap.size, 0, none⟩ (.slice u.A u.s.l.length u.cap)).setCell ⟨w.heap.size, 1, none⟩ (.int .i64 u.s.e)).alloc (.cells #[.slice u.A u.s.l.length u.cap, .int .i64 u.s.e] 130)).alloc (.cells #[.int .i64 k, .int .u64 ee, .slice zA zn zc, .bool zf, .int .i64 nn] 33) := ⟨_, rfl⟩
  have MF : Hid (RdM w Wf u lt) := Lib.hid (by rw [hWf]; exact ((M1.out.seti (z := u)).alloc _).alloc _)
  have RF : Hid (RIn Wf B u) := Lib.hid (by rw [hWf]; exact ((R1.out.set2 hB _ _).alloc (by simp [World.setCell]; omega) _).alloc (by simp [World.setCell]; omega) _)
  have QF : Hid (Blk Wf (w1.heap.size + 1) 33 #[.int .i64 k, .int .u64 ee, .slice zA zn zc, .bool zf, .int .i64 nn]) := Lib.hid (by rw [hWf]; exact blk_at _ _ _ _ (by simp [World.setCell]))
  have hsf : B ≤ Wf.heap.size := Nat.le_trans hB MF.out.bel.size
  have HOf : Hid (Wf.ownsRow (w.heap.size + 4) 3 1 (.slice zA zn zc) zn (z.zs.map (Value.int .i64))) := Lib.hid (by rw [hWf]; exact own_alc (own_alc (own_set (own_set HO1.out (by omega)) (by omega))))
  have HWf := Lib.hid hWf
  clear hWf M1 R1
  go_wp2_with (fail)
  rw [← HWf.out]
  clear HWf c0 c1 f0 f1 g0 d0 d1 d2 d3 d4 e0 e1 e2 e3 e4 g1
  refine (FL.out _ u ge hge RF.out hsf).mono ?_
  rintro e w2 ⟨y, rfl, hz, h3, h4⟩
  have HZ := Lib.hid hz
  have M1 := Lib.hid (MF.out.below h4)
  have R1 := Lib.hid h3
  have HO2 : Hid (w2.ownsRow (w.heap.size + 4) 3 1 (.slice zA zn zc) zn (z.zs.map (Value.int .i64))) := Lib.hid (own_block_same HOf.out (fun k hk => h4.block k (HOf.out.lt k hk).2))
  have q1 := QF.out.below h4 QF.out.lt
  have hs2 := Nat.le_trans hsf h4.size
  clear hz h3 h4 MF RF QF FL
  have gq := q1.lt
  have q0 : w2.cell? ⟨w1.heap.size + 1, 0, none⟩ = some (.int .i64 k) := q1.cell 0
  have q2 : w2.cell? ⟨w1.heap.size + 1, 1, none⟩ = some (.int .u64 ee) := q1.cell 1
  have q3 : w2.cell? ⟨w1.heap.size + 1, 2, none⟩ = some (.slice zA zn zc) := q1.cell 2
  have q4 : w2.cell? ⟨w1.heap.size + 1, 3, none⟩ = some (.bool zf) := q1.cell 3
  have q5 : w2.cell? ⟨w1.heap.size + 1, 4, none⟩ = some (.int .i64 nn) := q1.cell 4
  clear q1
  obtain ⟨c0, c1⟩ := ri_cells M1.out.bi
  have f0 := M1.out.bi.frozen 0
  have f1 := M1.out.bi.frozen 1
  have g0 := M1.out.bi.lt
  have d0 : w2.cell? ⟨w.heap.size + 1, 17, none⟩ = some (.int .i64 lt.fc) := M1.out.bl.cell 17
  have d1 : w2.cell? ⟨w.heap.size + 1, 18, none⟩ = some (.int .u64 lt.fe) := M1.out.bl.cell 18
  have d2 : w2.cell? ⟨w.heap.size + 1, 19, none⟩ = some (.slice lt.fA lt.fn lt.fp) := M1.out.bl.cell 19
  have d3 : w2.cell? ⟨w.heap.size + 1, 20, none⟩ = some (.bool lt.ff) := M1.out.bl.cell 20
  have d4 : w2.cell? ⟨w.heap.size + 1, 21, none⟩ = some (.int .i64 lt.fj) := M1.out.bl.cell 21
  have e0 := M1.out.bl.frozen 17
  have e1 := M1.out.bl.frozen 18
  have e2 := M1.out.bl.frozen 19
  have e3 := M1.out.bl.frozen 20
  have e4 := M1.out.bl.frozen 21
  have g1 := M1.out.bl.lt
  obtain ⟨W9, hW9⟩ : ∃ W9, W9 = ((((((w2.setCell ⟨w.heap.size, 0, none⟩ (.slice y.A y.s.l.length y.cap)).setCell ⟨w.heap.size, 1, none⟩ (.int .i64 y.s.e)).setCell ⟨w.heap.size + 1, 17, none⟩ (.int .i64 k)).setCell ⟨w.heap.size + 1, 18, none⟩ (.int .u64 ee)).setCell ⟨w.heap.size + 1, 19, none⟩ (.slice zA zn zc)).setCell ⟨w.heap.size + 1, 20, none⟩ (.bool zf)).setCell ⟨w.heap.size + 1, 21, none⟩ (.int .i64 nn) := ⟨_, rfl⟩
  have m0 := M1.out.seti (z := y)
  have HM : Hid (RdM w W9 y r) := Lib.hid (by rw [hW9, hr]; exact m0.conf k ee zA zn zc zf nn)
  have hR9 : RIn W9 B y := by rw [hW9]; exact ((((((R1.out.set2 hB _ _).setC (by simp; omega) _).setC (by simp; omega) _).setC (by simp; omega) _).setC (by simp; omega) _).setC (by simp; omega) _)
  have HO9 : Hid (W9.ownsRow (w.heap.size + 4) 3 1 (.slice zA zn zc) zn (z.zs.map (Value.int .i64))) := Lib.hid (by rw [hW9]; exact own_set (own_set (own_set (own_set (own_set (own_set (own_set HO2.out (by omega)) (by omega)) (by omega)) (by omega)) (by omega)) (by omega)) (by omega))
  have HW9 := Lib.hid hW9
  have HFIN : Hid (∀ V, Chg W9 V (fun k => k = w.heap.size + 2 ∨ k = w.heap.size + 3) → RIn V B y → Below w.heap.size w V → post (.returned (.tuple #[.agg y.cells, .agg (Lt.cells r)])) V) := Lib.hid (fun V hc h1 h2 => HP.out y z r V HRZ.out (by rw [HZ.out, HRS.out, HYS.out]) HZ9.out (by rw [← HZE.out.1, ← HZE.out.2.1, ← HZE.out.2.2]; exact hc.own HO9.out (fun k hk e => by have := (HO9.out.lt k hk).1; omega)) h1 h2)
  clear hr hW9 M1 R1 HP HYS HRS HZ m0
  exact rp1
end Go.Proofs.YtmpedblelnpjdaaGreatDoor

end
