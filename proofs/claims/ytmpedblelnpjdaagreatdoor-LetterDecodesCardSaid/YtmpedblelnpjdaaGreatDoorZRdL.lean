import Derived.Test.YtmpedblelnpjdaaGreatDoorZRdI
import Derived.Test.YtmpedblelnpjdaaGreatDoorZTq
import Derived.Test.YtmpedblelnpjdaaGreatDoorZTk
import Derived.Test.YtmpedblelnpjdaaGreatDoorZCeC
import Derived.Test.YtmpedblelnpjdaaGreatDoorZCeG
import Derived.Test.YtmpedblelnpjdaaGreatDoorZCeE
section
/- The document's read of a part: the updates. -/
namespace Go.Proofs.YtmpedblelnpjdaaGreatDoor
open Go.RowKit
set_option linter.unusedSimpArgs false
set_option linter.unusedVariables false
set_option maxHeartbeats 8000000
set_option maxRecDepth 100000
attribute [local go_sem] RI.agg Up.agg Up.cells
theorem rupG_stop {s : FI} {j : Nat} (h : (rupG s j).1.e ≠ 0) : ∀ m, j ≤ m → rupG s m = rupG s j := by
 intro m hm
 induction hm with
 | refl => rfl
 | step _ ih => rw [rupG, ih, if_pos h]
structure MnU (w : World) (B lo : Nat) (s1 : FI) (x0 : LV) (j : Nat) (y : RI) (x : LV) (W : World) : Prop where
 m : RdM w W y x.l
 rin : RIn W B y
 rl : RLet W B lo x
 ys : y.s = (rupG s1 j).1
 val : x.val = { x0.val with us := (rupG s1 j).2 }
 new : ∀ k, (Value.slice x.l.uA x.l.un x.l.up).ownBlock = some k → w.heap.size + 4 ≤ k
theorem RLet.chg {W W' : World} {B lo : Nat} {x : LV} {S : Nat → Prop} (h : RLet W B lo x) (hc : Chg W W' S) (hB : B ≤ W.heap.size) (hS : ∀ k, S k → B ≤ k)
  (hn : ∀ k, S k → (Value.slice x.l.fA x.l.fn x.l.fp).ownBlock ≠ some k ∧ (Value.slice x.l.vA x.l.vn x.l.vp).ownBlock ≠ some k ∧ (Value.slice x.l.uA x.l.un x.l.up).ownBlock ≠ some k) : RLet W' B lo x := by
 have hb : Below B W W' := hc.below hB (fun k hk e => by have := hS k e; omega)
 exact ⟨hc.own h.nd (fun k hk e => (hn k e).1 hk), hc.own h.vt (fun k hk e => (hn k e).2.1 hk), hc.own h.up (fun k hk e => (hn k e).2.2 hk), fun u hu => (h.ub u hu).below hb, h.da.below hb, h.by_, h.wf, h.vw, h.nw, h.cd, h.nl⟩
theorem RLet.box {W : World} {B lo g : Nat} {x : LV} {t : TypeId} {cs : Array Value} (h : RLet W B lo x) (hb : Blk W g t cs) (h1 : 3 ≠ t) (h2 : 239 ≠ t) (h3 : 145 ≠ t) : ∀ k, k = g → (Value.slice x.l.fA x.l.fn x.l.fp).ownBlock ≠ some k ∧ (Value.slice x.l.vA x.l.vn x.l.vp).ownBlock ≠ some k ∧ (Value.slice x.l.uA x.l.un x.l.up).ownBlock ≠ some k := by
 rintro k rfl
 exact ⟨own_blk_ne h.nd hb h1, own_blk_ne h.vt hb h2, own_blk_ne h.up hb h3⟩
theorem MnU.un {w W : World} {B lo j : Nat} {s1 : FI} {x0 x : LV} {y : RI} (h : MnU w B lo s1 x0 j y x W) : x.l.un ≤ j := by
 have h1 : x.us.length = x.l.un := by
  have := own_reads h.rl.up
  have := this.1
  rw [List.length_flatMap] at this
  have e : (x.us.map fun u => u.row.length) = x.us.map fun _ => 7 := List.map_congr_left fun u _ => rfl
  rw [e, List.map_const', List.sum_replicate_nat] at this
  omega
 have h2 : x.val.us.length = x.us.length := List.length_map ..
 rw [h.val] at h2
 have h3 : ∀ j, (rupG s1 j).2.length ≤ j := by
  intro j
  induction j with
  | zero => simp [rupG]
  | succ j ih => rw [rupG]; split <;> (try simp only [List.length_append, List.length_cons, List.length_nil]) <;> omega
 have := h3 j
 have h4 : (rupG s1 j).2.length = x.us.length := h2
 omega
theorem MnU.step {w W w6 W7 w9 : World} {B lo j : Nat} {s1 : FI} {x0 x : LV} {y y6 : RI} {u : Up} {A9 : Option Addr} {c9 : Nat} (h : MnU w B lo s1 x0 j y x W) (hB : B ≤ w.heap.size) (hlo : lo ≤ w.heap.size) (he : y.s.e = 0)
  (hb : Below W.heap.size W w6) (hr6 : RIn w6 B y6) (hy6 : y6.s = getUi y.s) (hv : u.val = getUv y.s) (hw : u.wf) (hu : Reads w6 B 1 u.A u.n (u.bs.map (Value.int .u8))) (hc : u.n ≤ u.c ∧ u.c ≤ maxLen)
  (h7 : W7 = ((((w6.setCell ⟨w.heap.size, 0, none⟩ (.slice y6.A y6.s.l.length y6.cap)).setCell ⟨w.heap.size, 1, none⟩ (.int .i64 y6.s.e)).alloc (.cells #[.slice y6.A y6.s.l.length y6.cap, .int .i64 y6.s.e] 130)).alloc (.cells #[.int .u64 u.seq, .int .i64 u.cl, .int .u64 u.num, .int .i64 u.kd, .int .u32 u.key, .int .u64 u.ver, .slice u.A u.n u.c] 145)).alloc (.cells #[.int .u64 u.seq, .int .i64 u.cl, .int .u64 u.num, .int .i64 u.kd, .int .u32 u.key, .int .u64 u.ver, .slice u.A u.n u.c] 145))
  (hown : w9.ownsRow lo 145 7 (.slice A9 (x.l.un + 1) c9) (x.l.un + 1) (x.us.flatMap Up.row ++ u.row)) (hg : W7.grownBy w9 (Value.slice x.l.uA x.l.un x.l.up).ownBlock)
  (hat : (Value.slice A9 (x.l.un + 1) c9).ownBlock = (Value.slice x.l.uA x.l.un x.l.up).ownBlock ∨ (Value.slice A9 (x.l.un + 1) c9).ownBlock = some W7.heap.size) :
  RdM w w9 y6 x.l ∧ MnU w B lo s1 x0 (j + 1) y6 (x.addUp u A9 c9) (w9.setCell ⟨w.heap.size + 1, 23, none⟩ (.slice A9 (x.l.un + 1) c9)) := by
 have M6 := h.m.below hb
 have hsW := h.m.bel.size
 have hs6 := M6.bel.size
 have hbw6 := M6.bw.lt
 have C7 : Chg w6 W7 (isG w.heap.size) := by
  rw [h7]
  exact (set2_chg w6 w.heap.size _ _).trans (Chg.of_below (((((Below.refl _ _).alloc (Nat.le_refl _) _).alloc (by simp) _).alloc (by simp; omega) _)) _) (fun _ _ e => e)
 have M7 : RdM w W7 y6 x.l := by
  rw [h7]; exact ((M6.seti (z := y6)).alloc _ |>.alloc _).alloc _
 have L6 := h.rl.below hb (by omega)
 have L7 : RLet W7 B lo x := L6.chg C7 (by omega) (fun k e => by unfold isG at e; omega) (L6.box M6.bi (by decide) (by decide) (by decide))
 have hcg := Chg.of_grown hg
 have nb : ∀ k, k < w.heap.size + 4 → ¬ (Value.slice x.l.uA x.l.un x.l.up).ownBlock = some k := fun k hk e => by have := h.new k e; omega
 have hs7 := M7.bel.size
 have hbw7 := M7.bw.lt
 have M9 : RdM w w9 y6 x.l := ⟨hcg.blk M7.bi (fun e => nb _ (by omega) e.symm), hcg.blk M7.bl (fun e => nb _ (by omega) e.symm), hcg.blk M7.bz (fun e => nb _ (by omega) e.symm), hcg.blk M7.bw (fun e => nb _ (by omega) e.symm), M7.bel.trans (hcg.below hs7 (fun k hk e => nb k (by omega) e.symm))⟩
 have hs9 := M9.bel.size
 have hB79 : Below B W7 w9 := hcg.below (by omega) (fun k hk e => nb k (by omega) e.symm)
 have hcs := chg_set0 w9 (w.heap.size + 1) (.slice A9 (x.l.un + 1) c9) 23
 have hBs : Below B w9 (w9.setCell ⟨w.heap.size + 1, 23, none⟩ (.slice A9 (x.l.un + 1) c9)) := hcs.below (by omega) (fun k hk e => by unfold isG at e; omega)
 have hB69 : Below B w6 (w9.setCell ⟨w.heap.size + 1, 23, none⟩ (.slice A9 (x.l.un + 1) c9)) := ((C7.below (by omega) (fun k hk e => by unfold isG at e; omega)).trans hB79).trans hBs
 have o : ∀ {t : TypeId} {sz n : Nat} {v : Value} {xs : List Value}, t ≠ 145 → t ≠ 37 → W7.ownsRow lo t sz v n xs → (w9.setCell ⟨w.heap.size + 1, 23, none⟩ (.slice A9 (x.l.un + 1) c9)).ownsRow lo t sz v n xs := fun hne hnl hr =>
  have h9 := hcg.own hr (fun k hk e => own_ne_ownC hr L7.up hne k hk e.symm)
  hcs.own h9 (fun k hk e => by unfold isG at e; subst e; exact own_blk_ne h9 M9.bl hnl hk)
 have w0 := h.rl.wf
 have hys : (rupG s1 (j + 1)) = (getUi (rupG s1 j).1, (rupG s1 j).2 ++ [getUv (rupG s1 j).1]) := by rw [rupG, if_neg (by rw [← h.ys]; exact fun h9 => h9 he)]
 refine ⟨M9, ⟨M9.setl 23 _ (M9.bl.set_ 23 (.slice A9 (x.l.un + 1) c9)), hr6.below hB69, ?_, ?_, ?_, ?_⟩⟩
 ·refine ⟨o (by decide) (by decide) L7.nd, o (by decide) (by decide) L7.vt, ?_, fun z hz => ?_, L6.da.below hB69, h.rl.by_, ⟨w0.kd, w0.fr, w0.tw, w0.ch, w0.ep, w0.bl, w0.nu, w0.sq, w0.dz, w0.vr, w0.sl, w0.ky, w0.cd, w0.qk, w0.qc, w0.qe, w0.qn, w0.fc, w0.fe, w0.fj⟩, h.rl.vw, h.rl.nw, h.rl.cd, ⟨h.rl.nl.1, fun e => by simp [LV.addUp] at e⟩⟩
  ·show World.ownsRow _ lo _ 7 (.slice A9 (x.l.un + 1) c9) (x.l.un + 1) ((x.us ++ [u]).flatMap Up.row)
   rw [List.flatMap_append, List.flatMap_cons, List.flatMap_nil, List.append_nil]
   exact hcs.own hown (fun k hk e => by unfold isG at e; subst e; exact own_blk_ne hown M9.bl (by decide) hk)
  ·rcases List.mem_append.1 hz with hz | hz
   ·exact (L6.ub z hz).below hB69
   ·rw [List.mem_singleton] at hz
    subst hz
    exact UpIn.below ⟨hu, hc.1, hc.2, hw⟩ hB69
 ·rw [hy6, hys, h.ys]
 ·have e1 : (x.addUp u A9 c9).val = { x.val with us := x.val.us ++ [u.val] } := by
   simp only [LV.addUp, LV.val, List.map_append, List.map_cons, List.map_nil]
  rw [e1, h.val, hv, hys, h.ys]
 ·intro k hk
  have hk : (Value.slice A9 (x.l.un + 1) c9).ownBlock = some k := hk
  rcases hat with e | e
  ·rw [e] at hk; exact h.new k hk
  ·rw [e] at hk; injection hk with hk; omega
theorem rmany_u (x : RI) (l : LV) (B lo : Nat) (w : World) (h : RIn w B x) (hB : B ≤ w.heap.size) (hl : RLet w B lo l) (hlo : lo ≤ w.heap.size) (hus : l.us = []) :
  Calls Tryz.prog 125 #[.agg x.cells, .agg l.l.cells, .int .u8 117] w (RdP B lo 13 x.s l w) := by
 obtain ⟨i0, hiu, hz0, hz1, hz2⟩ := info_parts upInfoC
 have UP := Lib.hid (fun W (i : RIn W B x) (hW : B ≤ W.heap.size) => (show Calls Tryz.prog 121 #[.agg x.cells, .int .i64 1, .int .u64 4] W (UPost B W (x.s.upto 1 4)) from refUpto_any x 1 4 B W i hW))
 have GU := Lib.hid (fun (y : RI) W (i : RIn W B y) (hW : B ≤ W.heap.size) => (show Calls Tryz.prog 226 #[.agg y.cells] W (RGuPC B y.s W) from refGetUpdateC_any y B W i hW))
 have HN : Hid ((x.s.upto 1 4).2 ≤ 4) := Lib.hid (FI.upto_most _ _ _)
 have hxu : l.val.us = [] := by show l.us.map Up.val = []; rw [hus]; rfl
 have HNA : Hid (l.l.uA = none) := Lib.hid (hl.nl.2 hus)
 have HVU : Hid ({ l.val with us := [] } = l.val) := Lib.hid (by rw [← hxu])
 have HST : Hid (rd13 x.s l.val = ((rupG (x.s.upto 1 4).1 (x.s.upto 1 4).2).1, { l.val with us := (rupG (x.s.upto 1 4).1 (x.s.upto 1 4).2).2 })) := Lib.hid (by unfold rd13; rw [hxu, List.nil_append])
 have HP : Hid (∀ (y : RI) (z : LV) (W : World), y.s = (rd13 x.s l.val).1 → z.val = (rd13 x.s l.val).2 → RIn W B y → RLet W B lo z → Below w.heap.size w W → RdP B lo 13 x.s l w (.returned (.tuple #[.agg y.cells, .agg (Lt.cells z.l)])) W) := Lib.hid (fun y z W h1 h2 h3 h4 h5 => ⟨y, z, rfl, h1, h2, h3, h4, h5⟩)
 obtain ⟨W0, hW0⟩ : ∃ W0, W0 = (((w.alloc (.cells x.cells 130)).alloc (.cells l.l.cells 37)).alloc (.cells #[.slice none 0 0, .int .i64 0] 130)).alloc (.cells ZL 37) := ⟨_, rfl⟩
 have M : Hid (RdM w W0 x l.l) := Lib.hid (by rw [hW0]; exact RdM.start w x l.l)
 have R0 : Hid (RIn W0 B x) := Lib.hid (h.below (M.out.bel.mono hB))
 have L0 : Hid (RLet W0 B lo l) := Lib.hid (hl.below M.out.bel hB)
 have HW0 := Lib.hid hW0
 have hB0 := Nat.le_trans hB M.out.bel.size
 clear h hl hW0 hxu hus
 generalize RdP B lo 13 x.s l w = post at *
 generalize rd13 x.s l.val = so at *
 generalize x.s.upto 1 4 = r at *
 obtain ⟨s1, n⟩ := r
 simp only at HST HN UP
 obtain ⟨c0, c1⟩ := ri_cells M.out.bi
 have f0 := M.out.bi.frozen 0
 have f1 := M.out.bi.frozen 1
 have g0 := M.out.bi.lt
 go_enter Tryz.func125, Tryz.ntmps125
 go_upto_region 1 with (fail)
 rw [← HW0.out]
 clear HW0
 go_wp2_with (fail)
 refine (UP.out _ R0.out hB0).mono ?_
 rintro e w1 ⟨y1, rfl, hy, h1, h2⟩
 have M1 := Lib.hid (M.out.below h2)
 have R1 := Lib.hid h1
 have L1 := Lib.hid (L0.out.below h2 hB0)
 have HYS := Lib.hid hy
 have hs1 := Nat.le_trans hB0 h2.size
 clear c0 c1 f0 f1 g0 M R0 L0 hy h1 h2 UP
 obtain ⟨c0, c1⟩ := ri_cells M1.out.bi
 have f0 := M1.out.bi.frozen 0
 have f1 := M1.out.bi.frozen 1
 have g0 := M1.out.bi.lt
 have E0 : Hid (MnU w B lo s1 l 0 y1 l ((w1.setCell ⟨w.heap.size, 0, none⟩ (.slice y1.A y1.s.l.length y1.cap)).setCell ⟨w.heap.size, 1, none⟩ (.int .i64 y1.s.e))) := Lib.hid (by
  have hM4 := M1.out.bw.lt
  have hb := set2_chg w1 w.heap.size (.slice y1.A y1.s.l.length y1.cap) (.int .i64 y1.s.e)
  exact ⟨M1.out.seti, R1.out.set2 hB _ _, L1.out.chg hb hs1 (fun k e => by unfold isG at e; omega) (L1.out.box M1.out.bi (by decide) (by decide) (by decide)), HYS.out, HVU.out.symm, fun k hk => by rw [HNA.out] at hk; cases hk⟩)
 go_wp2_with (fail)
 clear c0 c1 f0 f1 g0 M1 R1 L1 HYS HNA HVU
 have hn4 : n ≤ 4 := HN.out
 go_loopw [11] (fun iv wr => ∃ (j : Nat) (y : RI) (z : LV), j ≤ n ∧ iv = .int .u64 j ∧ Hid (MnU w B lo s1 l j y z wr)) (fun iv _ => n - (intOf iv).toNat)
 case atStart => exact ⟨0, y1, l, Nat.zero_le _, rfl, E0⟩
 case round =>
  clear E0
  obtain ⟨j, y, z, hj, rfl, HE⟩ := hrel
  obtain ⟨c0, c1⟩ := ri_cells HE.out.m.bi
  have f0 := HE.out.m.bi.frozen 0
  have f1 := HE.out.m.bi.frozen 1
  have g0 := HE.out.m.bi.lt
  have hsr := Nat.le_trans hB HE.out.m.bel.size
  by_cases hlt : j < n
  ·have hltZ : (j : Int) < n := by omega
   by_cases hey : y.s.e = 0
   ·obtain ⟨yA, yc, ⟨yl, ye⟩⟩ := y
    simp only at hey c0 c1
    subst hey
    have GU1 := Lib.hid (GU.out _ wr HE.out.rin hsr)
    unfold RGuPC RI.cells at GU1
    simp only at GU1
    go_wp2_with (fail)
    refine GU1.out.mono ?_
    rintro e w6 ⟨y6, u, rfl, hy6, hv, hw, hu, hc, h1, h2⟩
    have M6 := Lib.hid (HE.out.m.below h2)
    have R6 := Lib.hid h1
    have K6 := Lib.hid (And.intro hy6 (And.intro hv (And.intro hw (And.intro hu (And.intro hc h2)))))
    clear c0 c1 f0 f1 g0 h1 h2 hy6 hv hw hu hc GU1
    obtain ⟨c0, c1⟩ := ri_cells M6.out.bi
    have f0 := M6.out.bi.frozen 0
    have f1 := M6.out.bi.frozen 1
    have g0 := M6.out.bi.lt
    have d0 : w6.cell? ⟨w.heap.size + 1, 23, none⟩ = some (.slice z.l.uA z.l.un z.l.up) := M6.out.bl.cell 23
    have e0 := M6.out.bl.frozen 23
    have g1 := M6.out.bl.lt
    go_upto_region 13 with (fail)
    iterate 13 go_step
    obtain ⟨W7, hW7⟩ : ∃ W7, W7 = ((((w6.setCell ⟨w.heap.size, 0, none⟩ (.slice y6.A y6.s.l.length y6.cap)).setCell ⟨w.heap.size, 1, none⟩ (.int .i64 y6.s.e)).alloc (.cells #[.slice y6.A y6.s.l.length y6.cap, .int .i64 y6.s.e] 130)).alloc (.cells #[.int .u64 u.seq, .int .i64 u.cl, .int .u64 u.num, .int .i64 u.kd, .int .u32 u.key, .int .u64 u.ver, .slice u.A u.n u.c] 145)).alloc (.cells #[.int .u64 u.seq, .int .i64 u.cl, .int .u64 u.num, .int .i64 u.kd, .int .u32 u.key, .int .u64 u.ver, .slice u.A u.n u.c] 145) := ⟨_, rfl⟩
    rw [← hW7]
    have HW7 := Lib.hid hW7
    have hs7 : lo ≤ W7.heap.size := by rw [hW7]; simp [World.setCell]; omega
    have hrd : Reads W7 W7.heap.size 7 (some ⟨w6.heap.size + 1 + 1, 0, none⟩) 1 u.row := by
     rw [hW7]
     have := reads_one ((((w6.setCell ⟨w.heap.size, 0, none⟩ (.slice y6.A y6.s.l.length y6.cap)).setCell ⟨w.heap.size, 1, none⟩ (.int .i64 y6.s.e)).alloc (.cells #[.slice y6.A y6.s.l.length y6.cap, .int .i64 y6.s.e] 130)).alloc (.cells #[.int .u64 u.seq, .int .i64 u.cl, .int .u64 u.num, .int .i64 u.kd, .int .u32 u.key, .int .u64 u.ver, .slice u.A u.n u.c] 145)) 145 #[.int .u64 u.seq, .int .i64 u.cl, .int .u64 u.num, .int .i64 u.kd, .int .u32 u.key, .int .u64 u.ver, .slice u.A u.n u.c] 7 rfl
     have hV : ((((w6.setCell ⟨w.heap.size, 0, none⟩ (.slice y6.A y6.s.l.length y6.cap)).setCell ⟨w.heap.size, 1, none⟩ (.int .i64 y6.s.e)).alloc (.cells #[.slice y6.A y6.s.l.length y6.cap, .int .i64 y6.s.e] 130)).alloc (.cells #[.int .u64 u.seq, .int .i64 u.cl, .int .u64 u.num, .int .i64 u.kd, .int .u32 u.key, .int .u64 u.ver, .slice u.A u.n u.c] 145)).heap.size = w6.heap.size + 1 + 1 := by simp [World.setCell]
     rw [hV] at this
     exact this
    have HO7 : W7.ownsRow lo 145 7 (.slice z.l.uA z.l.un z.l.up) z.l.un (z.us.flatMap Up.row) := by
     have L6 := HE.out.rl.below K6.out.2.2.2.2.2 hsr
     have hz := L6.box M6.out.bi (by decide) (by decide) (by decide)
     rw [hW7]
     exact own_alc (own_alc (own_alc (((chg_set0 _ _ _ _).own ((chg_set0 w6 w.heap.size (.slice y6.A y6.s.l.length y6.cap) 0).own L6.up (fun k hk e => (hz k e).2.2 hk)) (fun k hk e => (hz k e).2.2 hk)))))
    have hun := HE.out.un
    refine wpList_append_any _ rfl (.tmp 47) (.tmp 49) _ rfl lo 145 i0 _ 7 72 Tryz.underlying35 hiu hz0 hz1 hz2 rfl (by omega) (.slice z.l.uA z.l.un z.l.up) z.l.un (z.us.flatMap Up.row) rfl HO7 W7.heap.size (some ⟨w6.heap.size + 1 + 1, 0, none⟩) 1 1 u.row rfl hrd (up_oneC u) (by unfold maxLen; omega) (by omega) hs7 ?_
    intro v9 w9 hown hg hat
    obtain ⟨A9, c9, rfl, _, _, _⟩ := own_slice hown
    have HA := Lib.hid (HE.out.step hB hlo rfl K6.out.2.2.2.2.2 R6.out K6.out.1 K6.out.2.1 K6.out.2.2.1 K6.out.2.2.2.1 K6.out.2.2.2.2.1 HW7.out hown hg hat)
    clear c0 c1 f0 f1 g0 d0 e0 g1 hown hg hat HO7 hrd M6 R6 K6 hW7 HW7 hs7
    obtain ⟨c0, c1⟩ := ri_cells HA.out.1.bi
    have f0 := HA.out.1.bi.frozen 0
    have f1 := HA.out.1.bi.frozen 1
    have g0 := HA.out.1.bi.lt
    have d0 : w9.cell? ⟨w.heap.size + 1, 23, none⟩ = some (.slice z.l.uA z.l.un z.l.up) := HA.out.1.bl.cell 23
    have e0 := HA.out.1.bl.frozen 23
    have g1 := HA.out.1.bl.lt
    go_wp2_with (fail)
    go_roundw
    case rel => exact ⟨j + 1, y6, _, hlt, by go_num, Lib.hid HA.out.2⟩
    case measure => simp [intOf]; omega
   ·have heb : (y.s.e == 0) = false := by simpa using hey
    have HST2 : Hid (so = ((rupG s1 j).1, { l.val with us := (rupG s1 j).2 })) := Lib.hid (by rw [HST.out, rupG_stop (by rw [← HE.out.ys]; exact hey) n hj])
    exact rp69
  ·exact rp68
end Go.Proofs.YtmpedblelnpjdaaGreatDoor

end
section
/- The document's read of a part: the votes. -/
namespace Go.Proofs.YtmpedblelnpjdaaGreatDoor
open Go.RowKit
set_option linter.unusedSimpArgs false
set_option linter.unusedVariables false
set_option maxHeartbeats 8000000
set_option maxRecDepth 100000
attribute [local go_sem] RI.agg Vt.agg Vt.cells
theorem rvoG_stop {s : FI} {j : Nat} (h : (rvoG s j).1.e ≠ 0) : ∀ m, j ≤ m → rvoG s m = rvoG s j := by
 intro m hm
 induction hm with
 | refl => rfl
 | step _ ih => rw [rvoG, ih, if_pos h]
structure MnV (w : World) (B lo : Nat) (s1 : FI) (x0 : LV) (j : Nat) (y : RI) (x : LV) (W : World) : Prop where
 m : RdM w W y x.l
 rin : RIn W B y
 rl : RLet W B lo x
 ys : y.s = (rvoG s1 j).1
 val : x.val = { x0.val with vs := (rvoG s1 j).2 }
 new : ∀ k, (Value.slice x.l.vA x.l.vn x.l.vp).ownBlock = some k → w.heap.size + 4 ≤ k
theorem MnV.vn {w W : World} {B lo j : Nat} {s1 : FI} {x0 x : LV} {y : RI} (h : MnV w B lo s1 x0 j y x W) : x.l.vn ≤ j := by
 have h1 : x.vs.length = x.l.vn := by
  have := own_reads h.rl.vt
  have := this.1
  rw [List.length_flatMap] at this
  have e : (x.vs.map fun u => u.row.length) = x.vs.map fun _ => 6 := List.map_congr_left fun u _ => rfl
  rw [e, List.map_const', List.sum_replicate_nat] at this
  omega
 have h2 : x.val.vs.length = x.vs.length := rfl
 rw [h.val] at h2
 have h3 : ∀ j, (rvoG s1 j).2.length ≤ j := by
  intro j
  induction j with
  | zero => simp [rvoG]
  | succ j ih => rw [rvoG]; split <;> (try simp only [List.length_append, List.length_cons, List.length_nil]) <;> omega
 have := h3 j
 have h4 : (rvoG s1 j).2.length = x.vs.length := h2
 omega
theorem MnV.step {w W W7 w9 : World} {B lo j : Nat} {s1 : FI} {x0 x : LV} {y y7 : RI} {A9 : Option Addr} {c9 : Nat} (h : MnV w B lo s1 x0 j y x W) (hB : B ≤ w.heap.size) (hlo : lo ≤ w.heap.size) (he : y.s.e = 0)
  (M7 : RdM w W7 y7 x.l) (R7 : RIn W7 B y7) (L7 : RLet W7 B lo x) (hy7 : y7.s = rcmdI (w2 y.s).1)
  (hown : w9.ownsRow lo 239 6 (.slice A9 (x.l.vn + 1) c9) (x.l.vn + 1) (x.vs.flatMap Vt.row ++ (voteV y.s).row)) (hg : W7.grownBy w9 (Value.slice x.l.vA x.l.vn x.l.vp).ownBlock)
  (hat : (Value.slice A9 (x.l.vn + 1) c9).ownBlock = (Value.slice x.l.vA x.l.vn x.l.vp).ownBlock ∨ (Value.slice A9 (x.l.vn + 1) c9).ownBlock = some W7.heap.size) :
  RdM w w9 y7 x.l ∧ MnV w B lo s1 x0 (j + 1) y7 (x.addVt (voteV y.s) A9 c9) (w9.setCell ⟨w.heap.size + 1, 22, none⟩ (.slice A9 (x.l.vn + 1) c9)) := by
 have hcg := Chg.of_grown hg
 have nb : ∀ k, k < w.heap.size + 4 → ¬ (Value.slice x.l.vA x.l.vn x.l.vp).ownBlock = some k := fun k hk e => by have := h.new k e; omega
 have hs7 := M7.bel.size
 have hbw7 := M7.bw.lt
 have M9 : RdM w w9 y7 x.l := ⟨hcg.blk M7.bi (fun e => nb _ (by omega) e.symm), hcg.blk M7.bl (fun e => nb _ (by omega) e.symm), hcg.blk M7.bz (fun e => nb _ (by omega) e.symm), hcg.blk M7.bw (fun e => nb _ (by omega) e.symm), M7.bel.trans (hcg.below hs7 (fun k hk e => nb k (by omega) e.symm))⟩
 have hs9 := M9.bel.size
 have hB79 : Below B W7 w9 := hcg.below (by omega) (fun k hk e => nb k (by omega) e.symm)
 have hcs := chg_set0 w9 (w.heap.size + 1) (.slice A9 (x.l.vn + 1) c9) 22
 have hBs : Below B w9 (w9.setCell ⟨w.heap.size + 1, 22, none⟩ (.slice A9 (x.l.vn + 1) c9)) := hcs.below (by omega) (fun k hk e => by unfold isG at e; omega)
 have hB69 : Below B W7 (w9.setCell ⟨w.heap.size + 1, 22, none⟩ (.slice A9 (x.l.vn + 1) c9)) := hB79.trans hBs
 have o : ∀ {t : TypeId} {sz n : Nat} {v : Value} {xs : List Value}, t ≠ 239 → t ≠ 37 → W7.ownsRow lo t sz v n xs → (w9.setCell ⟨w.heap.size + 1, 22, none⟩ (.slice A9 (x.l.vn + 1) c9)).ownsRow lo t sz v n xs := fun hne hnl hr =>
  have h9 := hcg.own hr (fun k hk e => own_ne_ownC hr L7.vt hne k hk e.symm)
  hcs.own h9 (fun k hk e => by unfold isG at e; subst e; exact own_blk_ne h9 M9.bl hnl hk)
 have w0 := h.rl.wf
 have hwv := voteV_wf y.s h.rin.by_
 have hys : (rvoG s1 (j + 1)) = (rcmdI (w2 (rvoG s1 j).1).1, (rvoG s1 j).2 ++ [voteV (rvoG s1 j).1]) := by rw [rvoG, if_neg (by rw [← h.ys]; exact fun h9 => h9 he)]
 refine ⟨M9, ⟨M9.setl 22 _ (M9.bl.set_ 22 (.slice A9 (x.l.vn + 1) c9)), R7.below hB69, ?_, ?_, ?_, ?_⟩⟩
 ·refine ⟨o (by decide) (by decide) L7.nd, ?_, o (by decide) (by decide) L7.up, fun z hz => (L7.ub z hz).below hB69, L7.da.below hB69, h.rl.by_, ⟨w0.kd, w0.fr, w0.tw, w0.ch, w0.ep, w0.bl, w0.nu, w0.sq, w0.dz, w0.vr, w0.sl, w0.ky, w0.cd, w0.qk, w0.qc, w0.qe, w0.qn, w0.fc, w0.fe, w0.fj⟩, fun z hz => ?_, h.rl.nw, h.rl.cd, ⟨fun e => by simp [LV.addVt] at e, h.rl.nl.2⟩⟩
  ·show World.ownsRow _ lo _ 6 (.slice A9 (x.l.vn + 1) c9) (x.l.vn + 1) ((x.vs ++ [voteV y.s]).flatMap Vt.row)
   rw [List.flatMap_append, List.flatMap_cons, List.flatMap_nil, List.append_nil]
   exact hcs.own hown (fun k hk e => by unfold isG at e; subst e; exact own_blk_ne hown M9.bl (by decide) hk)
  ·rcases List.mem_append.1 hz with hz | hz
   ·exact h.rl.vw z hz
   ·rw [List.mem_singleton] at hz
    subst hz; exact hwv
 ·rw [hy7, hys, h.ys]
 ·have e1 : (x.addVt (voteV y.s) A9 c9).val = { x.val with vs := x.val.vs ++ [voteV y.s] } := by
   simp only [LV.addVt, LV.val]
  rw [e1, h.val, hys, h.ys]
 ·intro k hk
  have hk : (Value.slice A9 (x.l.vn + 1) c9).ownBlock = some k := hk
  rcases hat with e | e
  ·rw [e] at hk; exact h.new k hk
  ·rw [e] at hk; injection hk with hk; omega
theorem RdM.chg {w W W' : World} {y : RI} {l : Lt} {S : Nat → Prop} (h : RdM w W y l) (hc : Chg W W' S) (hS : ∀ k, S k → w.heap.size + 4 ≤ k) : RdM w W' y l := by
 have h1 := h.bel.size
 exact ⟨hc.blk h.bi (fun e => by have := hS _ e; omega), hc.blk h.bl (fun e => by have := hS _ e; omega), hc.blk h.bz (fun e => by have := hS _ e; omega), hc.blk h.bw (fun e => by have := hS _ e; omega), h.bel.trans (hc.below h1 (fun k hk e => by have := hS _ e; omega))⟩
theorem rmany_t (x : RI) (l : LV) (B lo : Nat) (w : World) (h : RIn w B x) (hB : B ≤ w.heap.size) (hl : RLet w B lo l) (hlo : lo ≤ w.heap.size) (hus : l.vs = []) :
  Calls Tryz.prog 125 #[.agg x.cells, .agg l.l.cells, .int .u8 116] w (RdP B lo 12 x.s l w) := by
 obtain ⟨i0, hiu, hz0, hz1, hz2⟩ := info_parts voteInfoC
 have UP := Lib.hid (fun W (i : RIn W B x) (hW : B ≤ W.heap.size) => (show Calls Tryz.prog 121 #[.agg x.cells, .int .i64 2, .int .u64 512] W (UPost B W (x.s.upto 2 512)) from refUpto_any x 2 512 B W i hW))
 have G2 := Lib.hid (fun (y : RI) W (i : RIn W B y) (hW : B ≤ W.heap.size) => (show Calls Tryz.prog 51 #[.agg y.cells, .int .i64 2] W (UPost B W (w1 y.s)) from refGet_any y 2 B W i hW))
 have G8 := Lib.hid (fun (s : FI) (y : RI) (hy : y.s = (w1 s).1) W (i : RIn W B y) (hW : B ≤ W.heap.size) => (show Calls Tryz.prog 51 #[.agg y.cells, .int .i64 8] W (UPost B W (w2 s)) from by have := refGet_any y 8 B W i hW; rw [hy] at this; exact this))
 have GC := Lib.hid (fun (s : FI) (y : RI) (hy : y.s = (w2 s).1) W (i : RIn W B y) (hW : B ≤ W.heap.size) => (show Calls Tryz.prog 122 #[.agg y.cells] W (fun e w' => ∃ y9 : RI, e = .returned (.tuple #[y9.agg, (cmdGv (w2 s).1).agg, .int .i64 (cmdGe (w2 s).1)]) ∧ y9.s = ((w2 s).1.raw 11).1 ∧ RIn w' B y9 ∧ Below W.heap.size W w') from by have := crGet_any y B W i hW; rw [hy] at this; exact this))
 have FL := Lib.hid (fun W (y : RI) (ev : Int) (hev : ev ≠ 0) (i : RIn W B y) (hW : B ≤ W.heap.size) => (show Calls Tryz.prog 123 #[.agg y.cells, .int .i64 ev] W _ from refFail_any y ev hev B W i hW))
 have HN : Hid ((x.s.upto 2 512).2 ≤ 512) := Lib.hid (FI.upto_most _ _ _)
 have hxu : l.val.vs = [] := hus
 have HNA : Hid (l.l.vA = none) := Lib.hid (hl.nl.1 hus)
 have HVU : Hid ({ l.val with vs := [] } = l.val) := Lib.hid (by rw [← hxu])
 have HST : Hid (rd12 x.s l.val = ((rvoG (x.s.upto 2 512).1 (x.s.upto 2 512).2).1, { l.val with vs := (rvoG (x.s.upto 2 512).1 (x.s.upto 2 512).2).2 })) := Lib.hid (by unfold rd12; rw [hxu, List.nil_append])
 have HP : Hid (∀ (y : RI) (z : LV) (W : World), y.s = (rd12 x.s l.val).1 → z.val = (rd12 x.s l.val).2 → RIn W B y → RLet W B lo z → Below w.heap.size w W → RdP B lo 12 x.s l w (.returned (.tuple #[.agg y.cells, .agg (Lt.cells z.l)])) W) := Lib.hid (fun y z W h1 h2 h3 h4 h5 => ⟨y, z, rfl, h1, h2, h3, h4, h5⟩)
 obtain ⟨W0, hW0⟩ : ∃ W0, W0 = (((w.alloc (.cells x.cells 130)).alloc (.cells l.l.cells 37)).alloc (.cells #[.slice none 0 0, .int .i64 0] 130)).alloc (.cells ZL 37) := ⟨_, rfl⟩
 have M : Hid (RdM w W0 x l.l) := Lib.hid (by rw [hW0]; exact RdM.start w x l.l)
 have R0 : Hid (RIn W0 B x) := Lib.hid (h.below (M.out.bel.mono hB))
 have L0 : Hid (RLet W0 B lo l) := Lib.hid (hl.below M.out.bel hB)
 have HW0 := Lib.hid hW0
 have hB0 := Nat.le_trans hB M.out.bel.size
 clear h hl hW0 hxu hus
 generalize RdP B lo 12 x.s l w = post at *
 generalize rd12 x.s l.val = so at *
 generalize x.s.upto 2 512 = r at *
 obtain ⟨s1, n⟩ := r
 simp only at HST HN UP
 obtain ⟨c0, c1⟩ := ri_cells M.out.bi
 have f0 := M.out.bi.frozen 0
 have f1 := M.out.bi.frozen 1
 have g0 := M.out.bi.lt
 go_enter Tryz.func125, Tryz.ntmps125
 go_upto_region 1 with (fail)
 rw [← HW0.out]
 clear HW0
 go_wp2_with (fail)
 refine (UP.out _ R0.out hB0).mono ?_
 rintro e wz ⟨y1, rfl, hy, h1, h2⟩
 have M1 := Lib.hid (M.out.below h2)
 have R1 := Lib.hid h1
 have L1 := Lib.hid (L0.out.below h2 hB0)
 have HYS := Lib.hid hy
 have hs1 := Nat.le_trans hB0 h2.size
 clear c0 c1 f0 f1 g0 M R0 L0 hy h1 h2 UP
 obtain ⟨c0, c1⟩ := ri_cells M1.out.bi
 have f0 := M1.out.bi.frozen 0
 have f1 := M1.out.bi.frozen 1
 have g0 := M1.out.bi.lt
 have E0 : Hid (MnV w B lo s1 l 0 y1 l ((wz.setCell ⟨w.heap.size, 0, none⟩ (.slice y1.A y1.s.l.length y1.cap)).setCell ⟨w.heap.size, 1, none⟩ (.int .i64 y1.s.e))) := Lib.hid (by
  have hM4 := M1.out.bw.lt
  have hb := set2_chg wz w.heap.size (.slice y1.A y1.s.l.length y1.cap) (.int .i64 y1.s.e)
  exact ⟨M1.out.seti, R1.out.set2 hB _ _, L1.out.chg hb hs1 (fun k e => by unfold isG at e; omega) (L1.out.box M1.out.bi (by decide) (by decide) (by decide)), HYS.out, HVU.out.symm, fun k hk => by rw [HNA.out] at hk; cases hk⟩)
 go_wp2_with (fail)
 clear c0 c1 f0 f1 g0 M1 R1 L1 HYS HNA HVU
 have hn4 : n ≤ 512 := HN.out
 go_loopw [11] (fun iv wr => ∃ (j : Nat) (y : RI) (z : LV), j ≤ n ∧ iv = .int .u64 j ∧ Hid (MnV w B lo s1 l j y z wr)) (fun iv _ => n - (intOf iv).toNat)
 case atStart => exact ⟨0, y1, l, Nat.zero_le _, rfl, E0⟩
 case round =>
  clear E0
  obtain ⟨j, y, z, hj, rfl, HE⟩ := hrel
  obtain ⟨c0, c1⟩ := ri_cells HE.out.m.bi
  have f0 := HE.out.m.bi.frozen 0
  have f1 := HE.out.m.bi.frozen 1
  have g0 := HE.out.m.bi.lt
  have hsr := Nat.le_trans hB HE.out.m.bel.size
  by_cases hlt : j < n
  ·have hltZ : (j : Int) < n := by omega
   by_cases hey : y.s.e = 0
   ·obtain ⟨yA, yc, ⟨yl, ye⟩⟩ := y
    simp only at hey c0 c1
    subst hey
    have G21 := Lib.hid (G2.out _ wr HE.out.rin hsr)
    obtain ⟨sj, hsj⟩ : ∃ sj : FI, sj = ⟨yl, 0⟩ := ⟨_, rfl⟩
    unfold UPost RI.cells at G21
    simp only at G21
    rw [← hsj] at G21
    have HSJ := Lib.hid hsj
    have hl1 : (w1 sj).2 < 65536 := FI.upto_lt sj 2 _ (by rw [hsj]; exact HE.out.rin.by_)
    clear hsj
    have G81 := Lib.hid (G8.out sj)
    have GC1 := Lib.hid (GC.out sj)
    obtain ⟨v1, hv1⟩ : ∃ v1, v1 = w1 sj := ⟨_, rfl⟩
    obtain ⟨v2, hv2⟩ : ∃ v2, v2 = w2 sj := ⟨_, rfl⟩
    rw [← hv1] at G21 G81 hl1
    rw [← hv2] at G81 GC1
    have HV1 := Lib.hid hv1
    have HV2 := Lib.hid hv2
    clear hv1 hv2
    have cw : IntKind.i64.wrap (v1.2 : Int) = v1.2 := by rw [IntKind.wrap_i64]; omega
    go_wp2_with (fail)
    refine G21.out.mono ?_
    rintro e w6 ⟨y2, rfl, hy2, h1, h2⟩
    have hM4 := HE.out.m.bw.lt
    have hs26 := h2.size
    obtain ⟨Wa, hWa⟩ : ∃ Wa, Wa = w6.alloc (.cells #[.slice y2.A y2.s.l.length y2.cap, .int .i64 y2.s.e] 130) := ⟨_, rfl⟩
    have ba : Below w6.heap.size w6 Wa := by rw [hWa]; exact (Below.refl _ _).alloc (Nat.le_refl _) _
    have h2a : Below wr.heap.size wr Wa := h2.trans (ba.mono h2.size)
    have Ma := Lib.hid (HE.out.m.below h2a)
    have Ra := Lib.hid (h1.below (ba.mono (by omega)))
    have La := Lib.hid (HE.out.rl.below h2a hsr)
    have Qa : Hid (Blk Wa w6.heap.size 130 y2.cells) := Lib.hid (by rw [hWa]; exact Blk.new _ _ _)
    have hBa : B ≤ Wa.heap.size := by have := h2a.size; omega
    have HWa := Lib.hid hWa
    have HY2 := Lib.hid hy2
    clear hWa hy2 h1 h2 ba c0 c1 f0 f1 g0
    go_wp2_with (fail)
    rw [← HWa.out]
    clear HWa
    refine (G81.out y2 HY2.out _ Ra.out hBa).mono ?_
    rintro e w7 ⟨y3, rfl, hy3, h3, h4⟩
    have M7 := Lib.hid (Ma.out.below h4)
    have L7 := Lib.hid (La.out.below h4 hBa)
    have Q7 := Lib.hid (Qa.out.below h4 Qa.out.lt)
    have hs47 := h4.size
    have C7 := Lib.hid (set2_chg w7 w6.heap.size (.slice y3.A y3.s.l.length y3.cap) (.int .i64 y3.s.e))
    obtain ⟨Wb, hWb⟩ : ∃ Wb, Wb = (w7.setCell ⟨w6.heap.size, 0, none⟩ (.slice y3.A y3.s.l.length y3.cap)).setCell ⟨w6.heap.size, 1, none⟩ (.int .i64 y3.s.e) := ⟨_, rfl⟩
    have CB : Hid (Chg w7 Wb (isG w6.heap.size)) := Lib.hid (by rw [hWb]; exact C7.out)
    have Mb := Lib.hid (M7.out.chg CB.out (fun k e => by unfold isG at e; omega))
    have Rb := Lib.hid (show RIn Wb B y3 from h3.below (CB.out.below (by omega) (fun k hk e => by unfold isG at e; omega)))
    have Lb := Lib.hid (L7.out.chg CB.out (by omega) (fun k e => by unfold isG at e; omega) (L7.out.box Q7.out (by decide) (by decide) (by decide)))
    have Qb : Hid (Blk Wb w6.heap.size 130 y3.cells) := Lib.hid (by rw [hWb]; exact (Q7.out.set_ 0 _).set_ 1 _)
    have hBb : B ≤ Wb.heap.size := by have := CB.out.size; omega
    obtain ⟨c0, c1⟩ := ri_cells Q7.out
    have f0 := Q7.out.frozen 0
    have f1 := Q7.out.frozen 1
    have g0 := Q7.out.lt
    have HWb := Lib.hid hWb
    have HY3 := Lib.hid hy3
    clear hWb hy3 h3 h4 Ma Ra La Qa M7 L7 Q7 C7 HY2
    go_wp2_with (fail)
    rw [← HWb.out]
    clear HWb
    refine (GC1.out y3 HY3.out _ Rb.out hBb).mono ?_
    rintro e w8 ⟨y4, rfl, hy4, h5, h6⟩
    have M8 := Lib.hid (Mb.out.below h6)
    have R8 := Lib.hid h5
    have L8 := Lib.hid (Lb.out.below h6 hBb)
    have Q8 := Lib.hid (Qb.out.below h6 Qb.out.lt)
    have hs68 := h6.size
    have hsb := CB.out.size
    have HY4 := Lib.hid hy4
    clear hy4 h5 h6 Mb Rb Lb Qb CB c0 c1 f0 f1 g0 HY3
    obtain ⟨c0, c1⟩ := ri_cells M8.out.bi
    have f0 := M8.out.bi.frozen 0
    have f1 := M8.out.bi.frozen 1
    have g0 := M8.out.bi.lt
    obtain ⟨p0, p1⟩ := ri_cells Q8.out
    have fp0 := Q8.out.frozen 0
    have fp1 := Q8.out.frozen 1
    have gp := Q8.out.lt
    have hgp := Q8.out.lt
    have d0 : w8.cell? ⟨w.heap.size + 1, 22, none⟩ = some (.slice z.l.vA z.l.vn z.l.vp) := M8.out.bl.cell 22
    have e0 := M8.out.bl.frozen 22
    have g1 := M8.out.bl.lt
    have nq : w6.heap.size ≠ w.heap.size := by omega
    have nq' : w.heap.size ≠ w6.heap.size := by omega
    have nr : w6.heap.size ≠ w.heap.size + 1 := by omega
    have nr' : w.heap.size + 1 ≠ w6.heap.size := by omega
    obtain ⟨gv, hgv⟩ : ∃ gv, gv = cmdGv v2.1 := ⟨_, rfl⟩
    obtain ⟨ge, hge⟩ : ∃ ge, ge = cmdGe v2.1 := ⟨_, rfl⟩
    rw [← hgv, ← hge]
    have HGV := Lib.hid hgv
    have HGE := Lib.hid hge
    clear hgv hge
    obtain ⟨k, cc, ee, nn⟩ := gv
    unfold Cm.agg
    have HROW : Hid ((voteV (⟨yl, 0⟩ : FI)).row = [.int .i64 (v1.2 : Int), .int .u64 (v2.2 : Int), .int .i64 k, .int .i64 cc, .int .u64 ee, .int .i64 nn]) := Lib.hid (by
     rw [← HSJ.out]
     unfold voteV Vt.row
     rw [← HV1.out, ← HV2.out, ← HGV.out])
    have ci : Chg w8 ((w8.setCell ⟨w6.heap.size, 0, none⟩ (.slice y4.A y4.s.l.length y4.cap)).setCell ⟨w6.heap.size, 1, none⟩ (.int .i64 y4.s.e)) (isG w6.heap.size) := set2_chg w8 w6.heap.size _ _
    have mi := M8.out.chg ci (fun k e => by unfold isG at e; omega)
    have li := L8.out.chg ci (by omega) (fun k e => by unfold isG at e; omega) (L8.out.box Q8.out (by decide) (by decide) (by decide))
    have ri := R8.out.below (ci.below (B := B) (by omega) (fun k hk e => by unfold isG at e; omega))
    have cj := set2_chg ((w8.setCell ⟨w6.heap.size, 0, none⟩ (.slice y4.A y4.s.l.length y4.cap)).setCell ⟨w6.heap.size, 1, none⟩ (.int .i64 y4.s.e)) w.heap.size (.slice y4.A y4.s.l.length y4.cap) (.int .i64 y4.s.e)
    have hsi := ci.size
    have MJ := Lib.hid (mi.seti (z := y4))
    have LJ := Lib.hid (li.chg cj (by omega) (fun k e => by unfold isG at e; omega) (li.box mi.bi (by decide) (by decide) (by decide)))
    have RJ := Lib.hid (ri.below (cj.below (B := B) (by omega) (fun k hk e => by unfold isG at e; omega)))
    have hsj := cj.size
    clear ci mi li ri cj M8 L8 R8 Q8
    obtain ⟨V4, hV4⟩ : ∃ V4, V4 = (((w8.setCell ⟨w6.heap.size, 0, none⟩ (.slice y4.A y4.s.l.length y4.cap)).setCell ⟨w6.heap.size, 1, none⟩ (.int .i64 y4.s.e)).setCell ⟨w.heap.size, 0, none⟩ (.slice y4.A y4.s.l.length y4.cap)).setCell ⟨w.heap.size, 1, none⟩ (.int .i64 y4.s.e) := ⟨_, rfl⟩
    have h84 : V4.heap.size = w8.heap.size := by rw [hV4]; simp [World.setCell]
    rw [← hV4] at MJ LJ RJ hsj
    have HV4 := Lib.hid hV4
    clear hV4
    by_cases hge : ge = 0
    ·have hgb : (ge != 0) = false := by simpa using hge
     go_upto_region 20 with (fail)
     iterate 25 go_step
     rw [← HV4.out]
     obtain ⟨W7, hW7⟩ : ∃ W7, W7 = (V4.alloc (.cells #[.int .i64 k, .int .i64 cc, .int .u64 ee, .int .i64 nn] 30)).alloc (.cells #[.int .i64 (v1.2 : Int), .int .u64 (v2.2 : Int), .int .i64 k, .int .i64 cc, .int .u64 ee, .int .i64 nn] 239) := ⟨_, rfl⟩
     rw [← hW7]
     have b7 : Below V4.heap.size V4 W7 := by rw [hW7]; exact ((Below.refl _ _).alloc (Nat.le_refl _) _).alloc (by simp) _
     obtain ⟨y7, hy7⟩ : ∃ y7, y7 = y4 := ⟨_, rfl⟩
     rw [← hy7] at MJ RJ
     have M7 := Lib.hid (MJ.out.below b7)
     have R7 := Lib.hid (RJ.out.below (b7.mono (by omega)))
     have L7 := Lib.hid (LJ.out.below b7 (by omega))
     have HY7 : Hid (y7.s = rcmdI (w2 (⟨yl, 0⟩ : FI)).1) := Lib.hid (by
      rw [hy7, HY4.out, ← HSJ.out, ← HV2.out]
      unfold rcmdI
      rw [← HGE.out, if_neg (fun h9 => h9 hge)])
     have hrd : Hid (Reads W7 W7.heap.size 6 (some ⟨w8.heap.size + 1, 0, none⟩) 1 [.int .i64 (v1.2 : Int), .int .u64 (v2.2 : Int), .int .i64 k, .int .i64 cc, .int .u64 ee, .int .i64 nn]) := Lib.hid (by
      rw [hW7]
      have := reads_one (V4.alloc (.cells #[.int .i64 k, .int .i64 cc, .int .u64 ee, .int .i64 nn] 30)) 239 #[.int .i64 (v1.2 : Int), .int .u64 (v2.2 : Int), .int .i64 k, .int .i64 cc, .int .u64 ee, .int .i64 nn] 6 rfl
      have hV : (V4.alloc (.cells #[.int .i64 k, .int .i64 cc, .int .u64 ee, .int .i64 nn] 30)).heap.size = w8.heap.size + 1 := by simp [h84]
      rw [hV] at this
      exact this)
     clear hW7 hy7 b7 MJ RJ LJ
     exact rp25
    ·have hgb : (ge != 0) = true := by simpa using hge
     obtain ⟨Wf, hWf⟩ : ∃ Wf, Wf = V4.alloc (.cells #[.int .i64 k, .int .i64 cc, .int .u64 ee, .int .i64 nn] 30) := ⟨_, rfl⟩
     have bf : Below V4.heap.size V4 Wf := by rw [hWf]; exact (Below.refl _ _).alloc (Nat.le_refl _) _
     have Mf := Lib.hid (MJ.out.below bf)
     have Rf := Lib.hid (RJ.out.below (bf.mono (show B ≤ _ by omega)))
     have Lf := Lib.hid (LJ.out.below bf (by omega))
     have Qf : Hid (Blk Wf w8.heap.size 30 #[.int .i64 k, .int .i64 cc, .int .u64 ee, .int .i64 nn]) := Lib.hid (by rw [hWf, ← h84]; exact Blk.new _ _ _)
     have hsf : B ≤ Wf.heap.size := by have := bf.size; omega
     have HWf := Lib.hid hWf
     clear hWf bf MJ RJ LJ
     go_wp2_with (fail)
     rw [← HV4.out, ← HWf.out]
     clear HWf HV4 c0 c1 f0 f1 g0 d0 e0 g1 p0 p1 fp0 fp1 gp
     refine (FL.out _ y4 ge hge Rf.out hsf).mono ?_
     rintro e wf ⟨y7, rfl, hy7, h7, h8⟩
     have hs8 := h8.size
     have HY7 : Hid (y7.s = rcmdI (w2 (⟨yl, 0⟩ : FI)).1) := Lib.hid (by
      rw [hy7, HY4.out, ← HSJ.out, ← HV2.out]
      unfold rcmdI
      rw [← HGE.out, if_pos hge])
     have mk := Mf.out.below h8
     have lk := Lf.out.below h8 hsf
     have qk := Qf.out.below h8 Qf.out.lt
     have cj := set2_chg wf w.heap.size (.slice y7.A y7.s.l.length y7.cap) (.int .i64 y7.s.e)
     have hsw := mk.bel.size
     have hsj := cj.size
     have gq := qk.lt
     have q0 : wf.cell? ⟨w8.heap.size, 0, none⟩ = some (.int .i64 k) := qk.cell 0
     have q1 : wf.cell? ⟨w8.heap.size, 1, none⟩ = some (.int .i64 cc) := qk.cell 1
     have q2 : wf.cell? ⟨w8.heap.size, 2, none⟩ = some (.int .u64 ee) := qk.cell 2
     have q3 : wf.cell? ⟨w8.heap.size, 3, none⟩ = some (.int .i64 nn) := qk.cell 3
     obtain ⟨c0, c1⟩ := ri_cells mk.bi
     have f0 := mk.bi.frozen 0
     have f1 := mk.bi.frozen 1
     have g0 := mk.bi.lt
     have d0 : wf.cell? ⟨w.heap.size + 1, 22, none⟩ = some (.slice z.l.vA z.l.vn z.l.vp) := mk.bl.cell 22
     have e0 := mk.bl.frozen 22
     have g1 := mk.bl.lt
     have ns : w8.heap.size ≠ w.heap.size := by omega
     have ns' : w.heap.size ≠ w8.heap.size := by omega
     have MJ := Lib.hid (mk.seti (z := y7))
     have LJ := Lib.hid (lk.chg cj (by omega) (fun k e => by unfold isG at e; omega) (lk.box mk.bi (by decide) (by decide) (by decide)))
     have RJ := Lib.hid (show RIn _ B y7 from h7.below (cj.below (B := B) (by omega) (fun k hk e => by unfold isG at e; omega)))
     clear mk lk qk cj Mf Lf Rf Qf h7 h8 hy7
     obtain ⟨V5, hV5⟩ : ∃ V5, V5 = (wf.setCell ⟨w.heap.size, 0, none⟩ (.slice y7.A y7.s.l.length y7.cap)).setCell ⟨w.heap.size, 1, none⟩ (.int .i64 y7.s.e) := ⟨_, rfl⟩
     have h85 : V5.heap.size = wf.heap.size := by rw [hV5]; simp [World.setCell]
     rw [← hV5] at MJ LJ RJ hsj
     have HV5 := Lib.hid hV5
     clear hV5
     go_upto_region 20 with (fail)
     iterate 25 go_step
     rw [← HV5.out]
     obtain ⟨W7, hW7⟩ : ∃ W7, W7 = V5.alloc (.cells #[.int .i64 (v1.2 : Int), .int .u64 (v2.2 : Int), .int .i64 k, .int .i64 cc, .int .u64 ee, .int .i64 nn] 239) := ⟨_, rfl⟩
     rw [← hW7]
     have b7 : Below V5.heap.size V5 W7 := by rw [hW7]; exact (Below.refl _ _).alloc (Nat.le_refl _) _
     have M7 := Lib.hid (MJ.out.below b7)
     have R7 := Lib.hid (RJ.out.below (b7.mono (by omega)))
     have L7 := Lib.hid (LJ.out.below b7 (by omega))
     have hrd : Hid (Reads W7 W7.heap.size 6 (some ⟨wf.heap.size, 0, none⟩) 1 [.int .i64 (v1.2 : Int), .int .u64 (v2.2 : Int), .int .i64 k, .int .i64 cc, .int .u64 ee, .int .i64 nn]) := Lib.hid (by
      rw [hW7]
      have := reads_one V5 239 #[.int .i64 (v1.2 : Int), .int .u64 (v2.2 : Int), .int .i64 k, .int .i64 cc, .int .u64 ee, .int .i64 nn] 6 rfl
      rw [h85] at this
      exact this)
     clear hW7 b7 MJ RJ LJ q0 q1 q2 q3 gq
     exact rp25
   ·have heb : (y.s.e == 0) = false := by simpa using hey
    have HST2 : Hid (so = ((rvoG s1 j).1, { l.val with vs := (rvoG s1 j).2 })) := Lib.hid (by rw [HST.out, rvoG_stop (by rw [← HE.out.ys]; exact hey) n hj])
    exact rp69
  ·exact rp68
end Go.Proofs.YtmpedblelnpjdaaGreatDoor

end
section
/- The document's read of a part: a list. -/
namespace Go.Proofs.YtmpedblelnpjdaaGreatDoor
open Go.RowKit
set_option linter.unusedSimpArgs false
set_option linter.unusedVariables false
set_option maxHeartbeats 8000000
set_option maxRecDepth 100000
theorem rd_t (x : RI) (l : LV) (B lo : Nat) (w : World) (h : RIn w B x) (hB : B ≤ w.heap.size) (hl : RLet w B lo l) (hlo : lo ≤ w.heap.size) (hus : l.vs = []) :
  Calls Tryz.prog 53 #[.agg x.cells, .agg l.l.cells, .int .u8 116] w (RdP B lo 12 x.s l w) := by
 obtain ⟨W0, hW0⟩ : ∃ W0, W0 = (((w.alloc (.cells x.cells 130)).alloc (.cells l.l.cells 37)).alloc (.cells #[.slice none 0 0, .int .i64 0] 130)).alloc (.cells ZL 37) := ⟨_, rfl⟩
 have M : Hid (RdM w W0 x l.l) := Lib.hid (by rw [hW0]; exact RdM.start w x l.l)
 have R0 : Hid (RIn W0 B x) := Lib.hid (h.below (M.out.bel.mono hB))
 have L0 : Hid (RLet W0 B lo l) := Lib.hid (hl.below M.out.bel hB)
 have HW0 := Lib.hid hW0
 have hB0 := Nat.le_trans hB M.out.bel.size
 have MP := Lib.hid (rmany_t x l B lo W0 R0.out hB0 L0.out (by have := M.out.bel.size; omega) hus)
 unfold RdP at MP
 have HP : Hid (∀ (y : RI) (z : LV) (W : World), y.s = (rdX 12 x.s l.val).1 → z.val = (rdX 12 x.s l.val).2 → RIn W B y → RLet W B lo z → Below w.heap.size w W → RdP B lo 12 x.s l w (.returned (.tuple #[.agg y.cells, .agg (Lt.cells z.l)])) W) := Lib.hid (fun y z W h1 h2 h3 h4 h5 => ⟨y, z, rfl, h1, h2, h3, h4, h5⟩)
 clear h hl hW0 hus
 generalize RdP B lo 12 x.s l w = post at *
 generalize rdX 12 x.s l.val = so at *
 exact rp9
theorem rd_u (x : RI) (l : LV) (B lo : Nat) (w : World) (h : RIn w B x) (hB : B ≤ w.heap.size) (hl : RLet w B lo l) (hlo : lo ≤ w.heap.size) (hus : l.us = []) :
  Calls Tryz.prog 53 #[.agg x.cells, .agg l.l.cells, .int .u8 117] w (RdP B lo 13 x.s l w) := by
 obtain ⟨W0, hW0⟩ : ∃ W0, W0 = (((w.alloc (.cells x.cells 130)).alloc (.cells l.l.cells 37)).alloc (.cells #[.slice none 0 0, .int .i64 0] 130)).alloc (.cells ZL 37) := ⟨_, rfl⟩
 have M : Hid (RdM w W0 x l.l) := Lib.hid (by rw [hW0]; exact RdM.start w x l.l)
 have R0 : Hid (RIn W0 B x) := Lib.hid (h.below (M.out.bel.mono hB))
 have L0 : Hid (RLet W0 B lo l) := Lib.hid (hl.below M.out.bel hB)
 have HW0 := Lib.hid hW0
 have hB0 := Nat.le_trans hB M.out.bel.size
 have MP := Lib.hid (rmany_u x l B lo W0 R0.out hB0 L0.out (by have := M.out.bel.size; omega) hus)
 unfold RdP at MP
 have HP : Hid (∀ (y : RI) (z : LV) (W : World), y.s = (rdX 13 x.s l.val).1 → z.val = (rdX 13 x.s l.val).2 → RIn W B y → RLet W B lo z → Below w.heap.size w W → RdP B lo 13 x.s l w (.returned (.tuple #[.agg y.cells, .agg (Lt.cells z.l)])) W) := Lib.hid (fun y z W h1 h2 h3 h4 h5 => ⟨y, z, rfl, h1, h2, h3, h4, h5⟩)
 clear h hl hW0 hus
 generalize RdP B lo 13 x.s l w = post at *
 generalize rdX 13 x.s l.val = so at *
 exact rp9
end Go.Proofs.YtmpedblelnpjdaaGreatDoor

end
