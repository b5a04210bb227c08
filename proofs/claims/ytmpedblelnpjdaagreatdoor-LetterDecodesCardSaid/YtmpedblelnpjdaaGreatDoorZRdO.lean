/- The document's Decode. -/
import Derived.Test.YtmpedblelnpjdaaGreatDoorZRdN
import Derived.Test.YtmpedblelnpjdaaGreatDoorZTk
import Derived.Test.YtmpedblelnpjdaaGreatDoorZHeld
namespace Go.Proofs.YtmpedblelnpjdaaGreatDoor
open Go.RowKit
set_option linter.unusedSimpArgs false
set_option linter.unusedVariables false
set_option maxHeartbeats 8000000
set_option maxRecDepth 100000
attribute [local go_sem] RI.agg
theorem rin_hdr (A : Option Addr) (n c : Nat) (w : World) : (Instr.build 130 #[(0, .slice A n c)]).run Tryz.prog w = .ok (.agg #[.slice A n c, .int .i64 0]) w := by kernel_rfl
structure DcI (w : World) (B lo g6 g9 : Nat) (is : List Nat) (s0 : FI) (v0 : LVal) (j : Nat) (y : RI) (z : LV) (W : World) : Prop where
 b2 : Blk W w.heap.size 37 ZL
 b6 : Blk W g6 130 y.cells
 b9 : Blk W g9 37 (Lt.cells z.l)
 rin : RIn W B y
 rl : RLet W B lo z
 ys : y.s = (stF rdX (is.take j) s0 v0).1
 val : z.val = (stF rdX (is.take j) s0 v0).2
 bel : Below w.heap.size w W
 ord : w.heap.size < g6 ∧ g6 < g9 ∧ g9 < lo ∧ lo ≤ W.heap.size ∧ B ≤ w.heap.size
theorem DcI.below {w W W' : World} {B lo g6 g9 j : Nat} {is : List Nat} {s0 : FI} {v0 : LVal} {y : RI} {z : LV} (h : DcI w B lo g6 g9 is s0 v0 j y z W) (hb : Below W.heap.size W W') : DcI w B lo g6 g9 is s0 v0 j y z W' := by
 obtain ⟨o1, o2, o3, o4, o5⟩ := h.ord
 have hs := hb.size
 exact ⟨h.b2.below hb h.b2.lt, h.b6.below hb h.b6.lt, h.b9.below hb h.b9.lt, h.rin.below (hb.mono (by omega)), h.rl.below hb (by omega), h.ys, h.val, h.bel.trans (hb.mono h.bel.size), ⟨o1, o2, o3, by omega, o5⟩⟩
theorem DcI.step {w W w6 : World} {B lo g6 g9 j i : Nat} {is : List Nat} {s0 : FI} {v0 : LVal} {y y' : RI} {z z' : LV} (h : DcI w B lo g6 g9 is s0 v0 j y z W) (hi : is[j]? = some i) (hb : Below W.heap.size W w6)
  (hr : RIn w6 B y') (hl : RLet w6 B lo z') (hy : y'.s = (rdX i y.s z.val).1) (hz : z'.val = (rdX i y.s z.val).2) :
  Blk w6 g6 130 y.cells ∧ Blk (w6.setRow g6 y'.cells) g9 37 (Lt.cells z.l) ∧ DcI w B lo g6 g9 is s0 v0 (j + 1) y' z' ((w6.setRow g6 y'.cells).setRow g9 (Lt.cells z'.l)) := by
 obtain ⟨o1, o2, o3, o4, o5⟩ := h.ord
 have hs := hb.size
 have k2 := h.b2.below hb h.b2.lt
 have k6 := h.b6.below hb h.b6.lt
 have k9 := h.b9.below hb h.b9.lt
 have kb := h.bel.trans (hb.mono h.bel.size)
 have C1 := chg_row w6 g6 y'.cells
 have C2 := chg_row (w6.setRow g6 y'.cells) g9 (Lt.cells z'.l)
 have hs1 := C1.size
 have hs2 := C2.size
 have n9 := C1.blk k9 (show ¬ g9 = g6 by omega)
 have n2 := C1.blk k2 (show ¬ w.heap.size = g6 by omega)
 have n6 : Blk (w6.setRow g6 y'.cells) g6 130 y'.cells := setRow_heap _ _ _ _ _ _ k6
 have f6 := stF_step rdX is s0 v0 j i hi
 have ow : ∀ {V V' : World} {g : Nat}, Chg V V' (fun k => k = g) → RLet V B lo z' → g < lo → B ≤ g → B ≤ V.heap.size → RLet V' B lo z' := fun hc hl hg hBg hBV => by
  rename_i V V' g
  have hn : ∀ {t : TypeId} {sz n : Nat} {v : Value} {xs : List Value}, V.ownsRow lo t sz v n xs → ∀ k, k = g → v.ownBlock ≠ some k := fun ho k hk e => by have := (ho.lt k e).1; omega
  exact hl.chg hc hBV (fun k e => by omega) (fun k e => ⟨hn hl.nd k e, hn hl.vt k e, hn hl.up k e⟩)
 refine ⟨k6, n9, ⟨C2.blk n2 (show ¬ w.heap.size = g9 by omega), C2.blk n6 (show ¬ g6 = g9 by omega), setRow_heap _ _ _ _ _ _ n9, (hr.below (C1.below (B := B) (by omega) (fun k hk e => by omega))).below (C2.below (B := B) (by omega) (fun k hk e => by omega)), ow C2 (ow C1 hl (by omega) (by omega) (by omega)) (by omega) (by omega) (by omega), ?_, ?_, ?_, ⟨o1, o2, o3, by omega, o5⟩⟩⟩
 ·rw [hy, f6, h.ys, h.val]
 ·rw [hz, f6, h.ys, h.val]
 ·exact (kb.trans (C1.below (by omega) (fun k hk e => by omega))).trans (C2.below (by omega) (fun k hk e => by omega))
theorem refDec_any : RefDecP := by
 intro A n c B b w hr hb hB hn hnc hc
 have HBS := Lib.hid hb
 have HRD := Lib.hid (rd_same b)
 have HP : Hid (∀ (z : LV) (W : World) (ev : Int), ev = rdE b → z.val = (if rdE b = 0 then (rdS b).2 else LVal.zero) → LIn W W.heap.size z → Below w.heap.size w W →
   (fun (e : Ending) (w' : World) => ∃ z : LV, e = .returned (.tuple #[.agg z.l.cells, .int .i64 (dE b)]) ∧ z.val = (if dE b = 0 then dV b else LVal.zero) ∧ LIn w' w'.heap.size z ∧ Below w.heap.size w w') (.returned (.tuple #[.agg z.l.cells, .int .i64 ev])) W) := Lib.hid (fun z W ev h1 h2 h3 h4 => by
  have e := HRD.out
  refine ⟨z, by rw [h1, e.1]; rfl, ?_, h3, h4⟩
  rw [h2]
  show _ = if decE chkV stX b = 0 then (decS stX b).2 else _
  rw [← e.1]
  by_cases h9 : rdE b = 0
  ·rw [if_pos h9, if_pos h9, e.2 h9]
  ·rw [if_neg h9, if_neg h9])
 generalize (fun (e : Ending) (w' : World) => ∃ z : LV, e = .returned (.tuple #[.agg z.l.cells, .int .i64 (dE b)]) ∧ z.val = (if dE b = 0 then dV b else LVal.zero) ∧ LIn w' w'.heap.size z ∧ Below w.heap.size w w') = post at *
 obtain ⟨W0, hW0⟩ : ∃ W0, W0 = w.alloc (.cells ZL 37) := ⟨_, rfl⟩
 have h0 : Below w.heap.size w W0 := by rw [hW0]; exact (Below.refl _ _).alloc (Nat.le_refl _) _
 have B2 : Hid (Blk W0 w.heap.size 37 ZL) := Lib.hid (by rw [hW0]; exact Blk.new _ _ _)
 have HB0 := Lib.hid h0
 have hs0 := h0.size
 have FG := Lib.hid (refGetFC_any A n c B b W0 (hr.below (h0.mono hB)) hb (by omega) (by omega) hnc (by unfold maxLen at hc; omega))
 have HW0 := Lib.hid hW0
 have hz0 := z_hdr
 have hz1 := l_hdr
 have hz2 := rin_hdr
 clear hr hb hW0 h0
 have hgk := (getB_facts b HBS.out).1
 have hgb := (getB_facts b HBS.out).2.1
 have HFB := Lib.hid (frame_back b HBS.out)
 obtain ⟨ge, hge⟩ : ∃ ge, ge = getE b := ⟨_, rfl⟩
 obtain ⟨gk, hgk'⟩ : ∃ gk, gk = getK b := ⟨_, rfl⟩
 obtain ⟨gb, hgb'⟩ : ∃ gb, gb = getB b := ⟨_, rfl⟩
 rw [← hge, ← hgk', ← hgb'] at FG
 rw [← hge, ← hgk', ← hgb'] at HFB
 rw [← hgk'] at hgk
 rw [← hgb'] at hgb
 have HGE := Lib.hid hge
 have HGK := Lib.hid hgk'
 have HGB := Lib.hid hgb'
 clear hge hgk' hgb'
 go_enter Tryz.func10, Tryz.ntmps10
 go_upto_region 1 with (fail)
 rw [← HW0.out]
 clear HW0
 go_wp2_with (fail)
 refine FG.out.mono ?_
 rintro e w1 ⟨A1, c1, rfl, h1, hcp, h2⟩
 have B21 := Lib.hid (B2.out.below h2 B2.out.lt)
 have HR1 := Lib.hid h1
 have HCP := Lib.hid hcp
 have HB1 := Lib.hid (HB0.out.trans (h2.mono HB0.out.size))
 have hs1 := HB1.out.size
 have l21 := B21.out.lt
 clear h1 hcp h2 FG B2 HB0
 by_cases hge : ge = 0
 rotate_left
 ·have hgb1 : ((ge : Int) != 0) = true := by simp; omega
  obtain ⟨Wf, hWf⟩ : ∃ Wf, Wf = w1.alloc (.cells #[.int .u8 gk, .slice A1 gb.length c1] 126) := ⟨_, rfl⟩
  have bf : Below w1.heap.size w1 Wf := by rw [hWf]; exact (Below.refl _ _).alloc (Nat.le_refl _) _
  have BF := Lib.hid (B21.out.below bf l21)
  have HBF := Lib.hid (HB1.out.trans (bf.mono HB1.out.size))
  have HWf := Lib.hid hWf
  clear hWf bf
  go_upto_region 3 with (fail)
  rw [← HWf.out]
  iterate 7 go_step
  refine wpList_store_row rfl 37 (.tmp 2) (.tmp 19) rfl w.heap.size Lt.zero.cells rfl rfl 37 ZL BF.out ltInfo rfl (lt_all _) ?_
  go_wp2_with (fail)
  refine bodyPost_ret_by (v := .tuple #[.agg Lt.zero.cells, .int .i64 ge]) (results_cell_row_tmp Tryz.results10 _ _ w.heap.size 37 Lt.zero.cells (0, 0) _ _ rfl (setRow_heap _ _ _ _ _ _ (BF.out)) rfl Tryz.underlying37 rfl ltInfo) rfl ?_
  have hbs := below_setRow (Below.refl w.heap.size Wf) (Nat.le_refl _) Lt.zero.cells
  have hv : (ge : Int) = rdE b := by unfold rdE decE; rw [if_pos (by rw [← HGE.out]; omega), ← HGE.out]
  exact HP.out LV.zero _ _ hv (by rw [if_neg (by rw [← hv]; omega)]; rfl) (LOwn.zero _ 0).lin (HBF.out.trans hbs)
 subst hge
 obtain ⟨Wf, hWf⟩ : ∃ Wf, Wf = w1.alloc (.cells #[.int .u8 gk, .slice A1 gb.length c1] 126) := ⟨_, rfl⟩
 have bf : Below w1.heap.size w1 Wf := by rw [hWf]; exact (Below.refl _ _).alloc (Nat.le_refl _) _
 have BF := Lib.hid (B21.out.below bf l21)
 have HBF := Lib.hid (HB1.out.trans (bf.mono HB1.out.size))
 have RF := Lib.hid (HR1.out.below (bf.mono (show B ≤ w1.heap.size by omega)))
 have FF : Hid (Blk Wf w1.heap.size 126 #[.int .u8 gk, .slice A1 gb.length c1]) := Lib.hid (by rw [hWf]; exact Blk.new _ _ _)
 have hsf := bf.size
 have HWf := Lib.hid hWf
 clear hWf bf B21 HB1 HR1 l21
 have p0 : Wf.cell? ⟨w1.heap.size, 0, none⟩ = some (.int .u8 gk) := FF.out.cell 0
 have p1 : Wf.cell? ⟨w1.heap.size, 1, none⟩ = some (.slice A1 gb.length c1) := FF.out.cell 1
 have lp := FF.out.lt
 obtain ⟨hk1, _, _⟩ := (HFB.out rfl).2
 by_cases hk : gk ≤ 20
 rotate_left
 ·have hkb : (20 : Int) < gk := by omega
  go_upto_region 4 with (fail)
  rw [← HWf.out]
  clear HWf
  go_upto_region 5 with (fail)
  iterate 4 go_step
  refine wpList_store_row rfl 37 (.tmp 2) (.tmp 24) rfl w.heap.size Lt.zero.cells rfl rfl 37 ZL BF.out ltInfo rfl (lt_all _) ?_
  go_wp2_with (fail)
  refine bodyPost_ret_by (v := .tuple #[.agg Lt.zero.cells, .int .i64 1]) (results_cell_row_tmp Tryz.results10 _ _ w.heap.size 37 Lt.zero.cells (0, 0) _ _ rfl (setRow_heap _ _ _ _ _ _ (BF.out)) rfl Tryz.underlying37 rfl ltInfo) rfl ?_
  have hbs := below_setRow (Below.refl w.heap.size Wf) (Nat.le_refl _) Lt.zero.cells
  have hv : (1 : Int) = rdE b := by unfold rdE decE; rw [if_neg (by rw [← HGE.out]; omega), if_pos (by rw [← HGK.out]; omega)]
  exact HP.out LV.zero _ _ hv (by rw [if_neg (by rw [← hv]; omega)]; rfl) (LOwn.zero _ 0).lin (HBF.out.trans hbs)
 have hkb : ¬ (20 : Int) < gk := by omega
 have HIN : Hid (RIn Wf B ⟨A1, c1, ⟨bI gb, 0⟩⟩) := Lib.hid (by
  have e : (bI gb).length = gb.length := by unfold bI; simp
  exact ⟨by rw [e]; exact RF.out, by rw [e]; exact HCP.out.1, HCP.out.2, hgb, fun h9 => absurd rfl h9⟩)
 have G1 := Lib.hid (fun W (i : RIn W B ⟨A1, c1, ⟨bI gb, 0⟩⟩) (hW : B ≤ W.heap.size) => (show Calls Tryz.prog 51 #[.agg #[.slice A1 gb.length c1, .int .i64 0], .int .i64 2] W (UPost B W (dec1 b)) from by
  have := refGet_any ⟨A1, c1, ⟨bI gb, 0⟩⟩ 2 B W i hW
  have e : (bI gb).length = gb.length := by unfold bI; simp
  unfold RI.agg at this
  simp only [e] at this
  rw [HGB.out] at this ⊢
  exact this))
 have G2 := Lib.hid (fun W (y : RI) (hy : y.s = (dec1 b).1) (i : RIn W B y) (hW : B ≤ W.heap.size) => (show Calls Tryz.prog 51 #[y.agg, .int .i64 2] W (UPost B W (dec2 b)) from by have := refGet_any y 2 B W i hW; rw [hy] at this; exact this))
 have hb1 : (dec1 b).2 < 65536 := FI.upto_lt _ 2 _ (by rw [← HGB.out]; exact hgb)
 have hb2 : (dec2 b).2 < 65536 := FI.upto_lt _ 2 _ (FI.upto_bytes _ _ _ (by rw [← HGB.out]; exact hgb))
 have HDV : Hid (decV b = { LVal.zero with kd := (gk : Int), fr := ((dec1 b).2 : Int), tw := ((dec2 b).2 : Int) }) := Lib.hid (by unfold decV; rw [HGK.out])
 have HRS : Hid (rdS b = stF rdX (partsI gk) (dec2 b).1 (decV b)) := Lib.hid (by rw [HGK.out]; rfl)
 generalize dec1 b = d1 at *
 generalize dec2 b = d2 at *
 obtain ⟨s1, n1⟩ := d1
 obtain ⟨s2, n2⟩ := d2
 simp only at hb1 hb2 HDV HRS G2
 have cw1 : IntKind.i64.wrap (n1 : Int) = n1 := by rw [IntKind.wrap_i64]; omega
 have cw2 : IntKind.i64.wrap (n2 : Int) = n2 := by rw [IntKind.wrap_i64]; omega
 have cwk : IntKind.i64.wrap (gk : Int) = gk := by rw [IntKind.wrap_i64]; omega
 go_upto_region 4 with (fail)
 rw [← HWf.out]
 clear HWf
 have hBf : B ≤ Wf.heap.size := by omega
 have hg1 := hz2 A1 gb.length c1
 go_wp2_with (fail)
 refine (G1.out _ HIN.out hBf).mono ?_
 rintro e w2 ⟨y1, rfl, hy1, h1, h2⟩
 obtain ⟨Wc, hWc⟩ : ∃ Wc, Wc = w2.alloc (.cells #[.slice y1.A y1.s.l.length y1.cap, .int .i64 y1.s.e] 130) := ⟨_, rfl⟩
 have bc : Below w2.heap.size w2 Wc := by rw [hWc]; exact (Below.refl _ _).alloc (Nat.le_refl _) _
 have h2c : Below Wf.heap.size Wf Wc := h2.trans (bc.mono h2.size)
 have hs2 := h2.size
 have hsc := bc.size
 have BC := Lib.hid (BF.out.below h2c BF.out.lt)
 have FC := Lib.hid (FF.out.below h2c lp)
 have HBC := Lib.hid (HBF.out.trans (h2c.mono HBF.out.size))
 have RC := Lib.hid (h1.below (bc.mono (show B ≤ w2.heap.size by omega)))
 have GC : Hid (Blk Wc w2.heap.size 130 y1.cells) := Lib.hid (by rw [hWc]; exact Blk.new _ _ _)
 have HWc := Lib.hid hWc
 have HY1 := Lib.hid hy1
 clear hWc bc h2c h1 h2 hy1 p0 p1 BF FF HBF RF HIN G1 hg1
 go_wp2_with (fail)
 rw [← HWc.out]
 clear HWc
 refine (G2.out _ y1 HY1.out RC.out (by omega)).mono ?_
 rintro e w3 ⟨y2, rfl, hy2, h3, h4⟩
 have hs3 := h4.size
 have B3 := Lib.hid (BC.out.below h4 BC.out.lt)
 have F3 := FC.out.below h4 FC.out.lt
 have HB3 := Lib.hid (HBC.out.trans (h4.mono HBC.out.size))
 have G3 := Lib.hid (GC.out.below h4 GC.out.lt)
 have hg3 := G3.out.lt
 have HY2 := Lib.hid hy2
 have R3 := Lib.hid h3
 have p0 : w3.cell? ⟨w1.heap.size, 0, none⟩ = some (.int .u8 gk) := F3.cell 0
 have lp3 := F3.lt
 obtain ⟨c0, c1⟩ := ri_cells G3.out
 have f0 := G3.out.frozen 0
 have f1 := G3.out.frozen 1
 obtain ⟨g6, hg6⟩ : ∃ g6, g6 = w2.heap.size := ⟨_, rfl⟩
 rw [← hg6] at c0 c1 f0 f1 G3 hg3
 have HG6 := Lib.hid hg6
 have nq : w1.heap.size ≠ g6 := by omega
 have nq' : g6 ≠ w1.heap.size := by omega
 have o1 : w.heap.size < g6 := by omega
 clear hy2 h3 h4 hg6 F3 BC FC HBC RC GC HY1 G2
 rw [← HG6.out]
 go_upto_region 8 with (fail)
 iterate 28 go_step
 obtain ⟨Wd, hWd⟩ : ∃ Wd, Wd = ((w3.setCell ⟨g6, 0, none⟩ (.slice y2.A y2.s.l.length y2.cap)).setCell ⟨g6, 1, none⟩ (.int .i64 y2.s.e)).alloc (.cells ZL 37) := ⟨_, rfl⟩
 have hsz : ((w3.setCell ⟨g6, 0, none⟩ (.slice y2.A y2.s.l.length y2.cap)).setCell ⟨g6, 1, none⟩ (.int .i64 y2.s.e)).heap.size = w3.heap.size := by simp [World.setCell]
 have HA : Blk Wd w3.heap.size 37 ZL := by
  rw [hWd]
  have := Blk.new ((w3.setCell ⟨g6, 0, none⟩ (.slice y2.A y2.s.l.length y2.cap)).setCell ⟨g6, 1, none⟩ (.int .i64 y2.s.e)) 37 ZL
  rw [hsz] at this
  exact this
 rw [← hWd]
 refine wpList_store_row rfl 37 (.tmp 9) (.tmp 44) rfl w3.heap.size (Lt.cells { Lt.zero with kd := (gk : Int), fr := (n1 : Int), tw := (n2 : Int) }) rfl rfl 37 ZL HA ltInfo rfl (lt_all _) ?_
 obtain ⟨g9, hg9⟩ : ∃ g9, g9 = w3.heap.size := ⟨_, rfl⟩
 rw [← hg9] at HA ⊢
 obtain ⟨We, hWe⟩ : ∃ We, We = Wd.setRow g9 (Lt.cells { Lt.zero with kd := (gk : Int), fr := (n1 : Int), tw := (n2 : Int) }) := ⟨_, rfl⟩
 rw [← hWe]
 obtain ⟨is, his⟩ : ∃ is, is = partsI gk := ⟨_, rfl⟩
 obtain ⟨lo, hlo⟩ : ∃ lo, lo = We.heap.size := ⟨_, rfl⟩
 have HI : Hid (DcI w B lo g6 g9 is s2 (decV b) 0 y2 ⟨{ Lt.zero with kd := (gk : Int), fr := (n1 : Int), tw := (n2 : Int) }, [], [], [], []⟩ We) := Lib.hid (by
  have d1 : Chg w3 Wd (isG g6) := by rw [hWd]; exact (set2_chg w3 g6 _ _).trans (Chg.of_below ((Below.refl _ _).alloc (Nat.le_refl _) _) _) (fun _ _ e => e)
  have d2 : Chg Wd We (fun k => k = g9) := by rw [hWe]; exact chg_row _ _ _
  have e1 := d1.size
  have e2 := d2.size
  have k6 : Blk Wd g6 130 y2.cells := by rw [hWd]; exact (((G3.out.set_ 0 _).set_ 1 _).alloc _)
  have hlt9 := HA.lt
  have ow := LOwn.hdr We 0 (gk : Int) (n1 : Int) (n2 : Int) (by omega) (by omega) (by omega)
  refine ⟨d2.blk (d1.blk B3.out (by unfold isG; omega)) (by omega), d2.blk k6 (by omega), by rw [hWe]; exact setRow_heap _ _ _ _ _ _ HA, (R3.out.below (d1.below (B := B) (by omega) (fun k hk e => by unfold isG at e; omega))).below (d2.below (B := B) (by omega) (fun k hk e => by omega)), ?_, HY2.out, ?_, (HB3.out.trans (d1.below (by omega) (fun k hk e => by unfold isG at e; omega))).trans (d2.below (by omega) (fun k hk e => by omega)), ⟨o1, by omega, by omega, by omega, hB⟩⟩
  ·exact ⟨World.ownsRow_nil _ _ _ _, World.ownsRow_nil _ _ _ _, World.ownsRow_nil _ _ _ _, fun u hu => (by cases hu), Reads.none_, bytesB_nil, ow.wf, fun v hv => (by cases hv), fun v hv => (by cases hv), ⟨Nat.le_refl _, Nat.zero_le _⟩, ⟨fun _ => rfl, fun _ => rfl⟩⟩
  ·rw [HDV.out]; rfl)
 clear hWd hsz HA hg9 hWe hlo B3 HB3 G3 R3 HY2 c0 c1 f0 f1 nq nq' o1 hg3 p0 lp3 HG6
 obtain ⟨sv, hsv⟩ : ∃ sv, sv = partsS gk := ⟨_, rfl⟩
 have HLEN : Hid (sv.size = is.length) := Lib.hid (by rw [hsv, his]; exact len_parts gk)
 have h6 : is.length ≤ 6 := by rw [his]; exact parts_len6 gk (by omega)
 have HLT : Hid (∀ i ∈ is, i < 15) := Lib.hid (by rw [his]; exact parts_lt gk (by omega))
 have HIDX : Hid (∀ (j i : Nat) (w : World), is[j]? = some i → (Instr.index 9 (.string sv) (.int .i64 (j : Int))).run Tryz.prog w = .ok (.int .u8 ((chI i : Nat) : Int)) w) := Lib.hid (fun j i w h => by rw [hsv]; exact idx_parts gk j i (by omega) (by rw [← his]; exact h) w)
 have HONE : Hid (∀ j i, is[j]? = some i → i < 15 → ∀ m ∈ is.take j, m ≠ i) := Lib.hid (fun j i h hi => by
  rw [his] at h ⊢
  have hj : j < (partsI gk).length := (List.getElem?_eq_some_iff.1 h).1
  have := parts_len6 gk (by omega)
  exact parts_once gk (by omega) j (by omega) i hi h)
 have PT : Hid (∀ W, Calls Tryz.prog 52 #[.int .i64 (gk : Int)] W fun e w' => e = .returned (.string sv) ∧ Below W.heap.size W w') := Lib.hid (fun W => by rw [hsv]; exact refParts_any gk ⟨hk1, hk⟩ W)
 rw [← his] at HRS
 clear his hsv
 have c0 : We.cell? ⟨g9, 0, none⟩ = some (.int .i64 (gk : Int)) := HI.out.b9.cell 0
 have l9 := HI.out.b9.lt
 go_wp2_with (fail)
 refine (PT.out _).mono ?_
 rintro e w4 ⟨rfl, hb4⟩
 have HI2 := Lib.hid (HI.out.below hb4)
 clear hb4 HI PT c0 l9
 go_wp2_with (fail)
 go_loopw [11] (fun iv wr => ∃ (j : Nat) (y : RI) (z : LV), j ≤ is.length ∧ iv = .int .i64 j ∧ Hid (DcI w B lo g6 g9 is s2 (decV b) j y z wr)) (fun iv _ => is.length - (intOf iv).toNat)
 case atStart => exact ⟨0, y2, _, Nat.zero_le _, rfl, HI2⟩
 case round =>
  clear HI2
  obtain ⟨j, y, z, hj, rfl, HI⟩ := hrel
  have hlen := HLEN.out
  have l6 := HI.out.b6.lt
  have l9 := HI.out.b9.lt
  obtain ⟨o1, o2, o3, o4, o5⟩ := HI.out.ord
  by_cases hlt : j < is.length
  ·have hd : decide (j < is.length) = true := decide_eq_true hlt
   obtain ⟨i, hi⟩ : ∃ i, is[j]? = some i := ⟨_, List.getElem?_eq_getElem hlt⟩
   have hix : ∀ w, (Instr.index 9 (.string sv) (.int .i64 (j : Int))).run Tryz.prog w = .ok (.int .u8 ((chI i : Nat) : Int)) w := fun w => HIDX.out j i w hi
   have hi15 := HLT.out i (List.mem_of_getElem? hi)
   have hone := HONE.out j i hi hi15
   have CP0 := refReadX_any y z i hi15 B lo wr.drew (HI.out.rin.below ((Below.refl _ _).drew)) (show B ≤ wr.heap.size by omega) (HI.out.rl.below ((Below.refl _ _).drew) (by omega)) o4
    (fun e => by
     have h1 := HI.out.val
     have h2 := stF_vs (is.take j) s2 (decV b) (fun m hm => by rw [← e]; exact hone m hm)
     rw [← h1] at h2
     exact h2)
    (fun e => by
     have h1 := HI.out.val
     have h2 := stF_us (is.take j) s2 (decV b) (fun m hm => by rw [← e]; exact hone m hm)
     rw [← h1] at h2
     have h3 : z.us.map Up.val = [] := h2
     exact List.map_eq_nil_iff.1 h3)
   unfold RdP at CP0
   have HST := Lib.hid (fun (w6 : World) (y' : RI) (z' : LV) hb hr hl hy hz => HI.out.step (w6 := w6) (y' := y') (z' := z') hi hb hr hl hy hz)
   obtain ⟨cb, hcb⟩ : ∃ cb : Int, cb = ((chI i : Nat) : Int) := ⟨_, rfl⟩
   rw [← hcb] at CP0 hix
   have CP := Lib.hid CP0
   clear CP0 hcb hone hi15
   have b6 := HI.out.b6
   have b9 := HI.out.b9
   go_upto_region 13 with (fail)
   refine wp_region_k 9 (S := fun wq => Blk wq g6 130 y.cells ∧ Blk wq g9 37 (Lt.cells z.l)) (by kernel_rfl) ⟨b6, b9⟩ (fun hHeld => ?_)
   refine wpAnyK_take (n := 12) (i := 0) (oi := _) (v := (.agg y.cells)) rfl (by kernel_rfl) (by kernel_rfl) (by kernel_rfl) (by kernel_rfl) (by kernel_rfl) (by kernel_rfl) (fun _ _ _ h => h) (Or.inl ⟨by rfl, ?_⟩) (by assumption) ?_
   ·exact fun wq hSw => exec_load_row rfl _ rfl (load_ri y _ wq hSw.1)
   try simp only [Act.put, pS]
   refine wpAnyK_take (n := 12) (i := 1) (oi := _) (v := (.agg (Lt.cells z.l))) rfl (by kernel_rfl) (by kernel_rfl) (by kernel_rfl) (by kernel_rfl) (by kernel_rfl) (by kernel_rfl) (fun _ _ _ h => h) (Or.inl ⟨by rfl, ?_⟩) (by assumption) ?_
   ·exact fun wq hSw => exec_load_row rfl _ rfl (load_lt z.l _ wq hSw.2)
   try simp only [Act.put, pS]
   refine wpAnyK_take (n := 12) (i := 2) (oi := _) (v := ?_) rfl (by kernel_rfl) (by kernel_rfl) (by kernel_rfl) (by kernel_rfl) (by kernel_rfl) (by kernel_rfl) (fun _ _ _ h => h) (Or.inl ⟨by rfl, ?_⟩) (by assumption) ?_
   rotate_left 1
   ·(intro wq hSw; (try dsimp only at hSw); go_simp; (try with_reducible rfl))
   try simp only [Act.put, pS]
   refine wpAnyK_take (n := 12) (i := 3) (oi := _) (v := ?_) rfl (by kernel_rfl) (by kernel_rfl) (by kernel_rfl) (by kernel_rfl) (by kernel_rfl) (by kernel_rfl) (fun _ _ _ h => h) (Or.inl ⟨by rfl, ?_⟩) (by assumption) ?_
   rotate_left 1
   ·(intro wq hSw; (try dsimp only at hSw); go_simp; (try with_reducible rfl))
   try simp only [Act.put, pS]
   refine wpAnyK_take (n := 12) (i := 4) (oi := _) (v := ?_) rfl (by kernel_rfl) (by kernel_rfl) (by kernel_rfl) (by kernel_rfl) (by kernel_rfl) (by kernel_rfl) (fun _ _ _ h => h) (Or.inl ⟨by rfl, ?_⟩) (by assumption) ?_
   rotate_left 1
   ·(intro wq hSw; (try dsimp only at hSw); go_simp; (try with_reducible rfl))
   try simp only [Act.put, pS]
   refine wpAnyK_ready (rs := [5]) (by kernel_rfl) (by simp) ?_
   refine AllReadyK.cons (o := _) rfl (fun K hK => ?_) AllReadyK.nil
   go_simp
   refine CP.out.mono ?_; rintro e w6 ⟨y', z', rfl, hy6, hz6, hr6, hl6, hb6⟩; have hbw := (show Below wr.heap.size wr w6 from (Below.refl _ _).drew.trans hb6); have HX := Lib.hid (HST.out w6 y' z' hbw hr6 hl6 hy6 hz6); have HS := And.intro HX.out.1 (b9.below hbw l9); clear hbw hy6 hz6 hr6 hl6 hb6
   (try go_simp)
   refine hK.out _ _ ?_ (fun hHeld => ?_)
   ·first | exact HS | go_keep
   clear hK K
   try simp only [Act.put, pS]
   refine wpAnyK_take (n := 12) (i := 6) (oi := _) (v := ?_) rfl (by kernel_rfl) (by kernel_rfl) (by kernel_rfl) (by kernel_rfl) (by kernel_rfl) (by kernel_rfl) (fun _ _ _ h => h) (Or.inl ⟨by rfl, ?_⟩) (by assumption) ?_
   rotate_left 1
   ·(intro wq hSw; (try dsimp only at hSw); go_simp; (try with_reducible rfl))
   try simp only [Act.put, pS]
   refine wpAnyK_take (n := 12) (i := 7) (oi := _) (v := ?_) rfl (by kernel_rfl) (by kernel_rfl) (by kernel_rfl) (by kernel_rfl) (by kernel_rfl) (by kernel_rfl) (fun _ _ _ h => h) (Or.inl ⟨by rfl, ?_⟩) (by assumption) ?_
   rotate_left 1
   ·(intro wq hSw; (try dsimp only at hSw); go_simp; (try with_reducible rfl))
   try simp only [Act.put, pS]
   refine wpAnyK_free' (i := 8) (oi := _) (v := ?_) rfl (by kernel_rfl) (by kernel_rfl) (by kernel_rfl) (by decide) (fun _ _ _ h => h) (Or.inl ⟨by rfl, ?_⟩) (fun _ => by assumption) ?_
   rotate_left 1
   ·(intro wq hSw; (try dsimp only at hSw); go_simp; (try with_reducible rfl))
   try simp only [Act.put, pS]
   refine wpAnyK_ready (rs := [9]) (by kernel_rfl) (by simp) ?_
   refine AllReadyK.last (o := _) rfl (by kernel_rfl) (fun K hK => ?_) AllReadyK.nil
   refine step_store_row rfl 130 (.tmp 6) (.tmp 61) rfl g6 y'.cells rfl rfl 130 y.cells HX.out.1 riInfo rfl (ri_all _) ?_
   (try go_simp)
   refine hK.out _ _ ?_
   clear hK K
   try simp only [Act.put, pS]
   refine wpAnyK_ready (rs := [10]) (by kernel_rfl) (by simp) ?_
   refine AllReadyK.last (o := _) rfl (by kernel_rfl) (fun K hK => ?_) AllReadyK.nil
   refine step_store_row rfl 37 (.tmp 9) (.tmp 62) rfl g9 (Lt.cells z'.l) rfl rfl 37 (Lt.cells z.l) HX.out.2.1 ltInfo rfl (lt_all _) ?_
   (try go_simp)
   refine hK.out _ _ ?_
   clear hK K
   try simp only [Act.put, pS]
   refine wpAnyK_done (by kernel_rfl) ?_ _
   have HN := Lib.hid HX.out.2.2
   clear HS hHeld b6 b9 CP HX HST
   generalize (w6.setRow g6 y'.cells).setRow g9 (Lt.cells z'.l) = W9 at *
   go_wp2_with (fail)
   exact ⟨⟨j + 1, y', z', hlt, by simp, HN⟩, by simp [intOf]; omega⟩
  ·obtain rfl : j = is.length := by omega
   have hd : decide (is.length < is.length) = false := decide_eq_false (by omega)
   have HYS : Hid (y.s = (rdS b).1) := Lib.hid (by rw [HI.out.ys, List.take_length, HRS.out])
   have HZV : Hid (z.val = (rdS b).2) := Lib.hid (by rw [HI.out.val, List.take_length, HRS.out])
   have HRE : Hid (rdE b = if (rdS b).1.done ≠ 0 ∨ chkV (rdS b).2 ≠ 0 then 4 else 0) := Lib.hid (by
    unfold rdE decE
    rw [if_neg (by rw [← HGE.out]; omega), if_neg (by rw [← HGK.out]; omega)]
    rfl)
   have DN := Lib.hid (show Calls Tryz.prog 54 #[.agg #[.slice y.A y.s.l.length y.cap, .int .i64 y.s.e]] wr _ from refDone_any y B wr HI.out.rin (by omega))
   have LZ := Lib.hid (HI.out.rl.lin (show B ≤ wr.heap.size by omega))
   have RL := Lib.hid HI.out.rl
   have B2 := Lib.hid HI.out.b2
   have B9 := Lib.hid HI.out.b9
   have BEL := Lib.hid HI.out.bel
   have hsw := BEL.out.size
   obtain ⟨c0, c1⟩ := ri_cells HI.out.b6
   obtain ⟨dn, hdn⟩ : ∃ dn, dn = y.s.done := ⟨_, rfl⟩
   rw [← hdn] at DN
   have HDN : Hid (dn = (rdS b).1.done) := Lib.hid (by rw [hdn, HYS.out])
   by_cases hd0 : dn = 0
   rotate_left
   ·have hdb : (dn != 0) = true := by simpa using hd0
    have HD4 : Hid (rdE b = 4) := Lib.hid (by rw [HRE.out, if_pos (.inl (by rw [← HDN.out]; exact hd0))])
    clear hd0 hdn HI
    go_wp2_with (fail)
    refine DN.out.mono ?_
    rintro e w5 ⟨rfl, h5⟩
    have B25 := Lib.hid (B2.out.below h5 B2.out.lt)
    have BEL5 := Lib.hid (BEL.out.trans (h5.mono BEL.out.size))
    clear h5 B2 B9 BEL LZ c0 c1
    go_upto_region 15 with (fail)
    iterate 4 go_step
    refine wpList_store_row rfl 37 (.tmp 2) (.tmp 71) rfl w.heap.size Lt.zero.cells rfl rfl 37 ZL B25.out ltInfo rfl (lt_all _) ?_
    go_wp2_with (fail)
    refine bodyPost_ret_by (v := .tuple #[.agg Lt.zero.cells, .int .i64 4]) (results_cell_row_tmp Tryz.results10 _ _ w.heap.size 37 Lt.zero.cells (0, 0) _ _ rfl (setRow_heap _ _ _ _ _ _ (B25.out)) rfl Tryz.underlying37 rfl ltInfo) rfl ?_
    have hbs := below_setRow (Below.refl w.heap.size w5) (Nat.le_refl _) Lt.zero.cells
    have hv : (4 : Int) = rdE b := HD4.out.symm
    exact HP.out LV.zero _ _ hv (by rw [if_neg (by rw [← hv]; decide)]; rfl) (LOwn.zero _ 0).lin (BEL5.out.trans hbs)
   ·subst hd0
    have hdb : ((0 : Int) != 0) = false := rfl
    have HSE : Hid ((rdS b).2 = (decS stX b).2) := Lib.hid (by
     rcases rdS_eq b with ⟨_, h9⟩ | ⟨_, h9⟩
     ·rw [h9]
     ·exact absurd HDN.out.symm (done_err h9))
    clear hdn
    go_wp2_with (fail)
    refine DN.out.mono ?_
    rintro e w5 ⟨rfl, h5⟩
    have B25 := Lib.hid (B2.out.below h5 B2.out.lt)
    have B95 := Lib.hid (B9.out.below h5 B9.out.lt)
    have BEL5 := Lib.hid (BEL.out.trans (h5.mono BEL.out.size))
    have LZ5 := Lib.hid ((LZ.out.below h5).more h5.size)
    have RL5 := Lib.hid (RL.out.below h5 (show B ≤ wr.heap.size by omega))
    have HNR : z.near := near_dec z w5 _ LZ5.out b HBS.out (by rw [HZV.out, HSE.out])
    have CC0 := refCheck10_any z w5.heap.size w5 LZ5.out (Nat.le_refl _) HNR
    rw [chk_val z w5 _ LZ5.out, HZV.out] at CC0
    have CC := Lib.hid CC0
    clear CC0
    have hs5 := h5.size
    clear h5 B2 B9 BEL LZ c0 c1 HNR HI
    have HRE2 : Hid (rdE b = if chkV (rdS b).2 ≠ 0 then 4 else 0) := Lib.hid (by rw [HRE.out]; simp [← HDN.out])
    clear HRE
    obtain ⟨ck, hck'⟩ : ∃ ck, ck = chkV (rdS b).2 := ⟨_, rfl⟩
    rw [← hck'] at CC HRE2
    clear hck'
    dsimp only
    rename_i hK9
    refine hK9 _ _ ?_
    clear hK9
    iterate 6 go_step
    refine wpList_load_rowG (by rfl) 37 (.tmp 9) rfl g9 rfl 37 (Lt.cells z.l) (0, 0) _ B95.out Tryz.underlying37 rfl ltInfo ?_
    go_wp2_with (fail)
    refine CC.out.mono ?_
    rintro e w10 ⟨rfl, h10⟩
    have B2A := Lib.hid (B25.out.below h10 B25.out.lt)
    have B9A := Lib.hid (B95.out.below h10 B95.out.lt)
    have BELA := Lib.hid (BEL5.out.trans (h10.mono BEL5.out.size))
    have RLA := Lib.hid (RL5.out.below h10 (show B ≤ w5.heap.size by omega))
    have hsA := BELA.out.size
    clear h10 CC B25 B95 BEL5 LZ5 RL5
    by_cases hck : ck = 0
    ·subst hck
     have HD : Hid (0 = rdE b) := Lib.hid (by rw [HRE2.out]; simp)
     clear HRE2
     go_upto_region 16 with (fail)
     iterate 1 go_step
     refine wpList_load_row rfl 37 (.tmp 9) rfl g9 rfl 37 (Lt.cells z.l) (0, 0) _ B9A.out Tryz.underlying37 rfl ltInfo ?_
     refine wpList_store_row rfl 37 (.tmp 2) (.tmp 72) rfl w.heap.size (Lt.cells z.l) rfl rfl 37 ZL B2A.out ltInfo rfl (lt_all _) ?_
     go_wp2_with (fail)
     refine bodyPost_ret_by (v := .tuple #[.agg (Lt.cells z.l), .int .i64 0]) (results_cell_row_tmp Tryz.results10 _ _ w.heap.size 37 (Lt.cells z.l) (0, 0) _ _ rfl (setRow_heap _ _ _ _ _ _ B2A.out) rfl Tryz.underlying37 rfl ltInfo) rfl ?_
     have C9 := chg_row w10 w.heap.size (Lt.cells z.l)
     have hn : ∀ {t : TypeId} {sz n : Nat} {v : Value} {xs : List Value}, w10.ownsRow lo t sz v n xs → ∀ k, k = w.heap.size → v.ownBlock ≠ some k := fun ho k hk e => by have := (ho.lt k e).1; omega
     have RLZ := RLA.out.chg C9 (by omega) (fun k e => by omega) (fun k e => ⟨hn RLA.out.nd k e, hn RLA.out.vt k e, hn RLA.out.up k e⟩)
     exact HP.out z _ 0 HD.out (by rw [if_pos HD.out.symm]; exact HZV.out) (RLZ.lin (by have := C9.size; omega)) (BELA.out.trans (below_setRow (Below.refl w.heap.size w10) (Nat.le_refl _) _))
    ·have hcb : (ck != 0) = true := by simpa using hck
     have HD : Hid (4 = rdE b) := Lib.hid (by rw [HRE2.out, if_pos hck])
     clear hck HRE2
     go_upto_region 15 with (fail)
     iterate 4 go_step
     refine wpList_store_row rfl 37 (.tmp 2) (.tmp 71) rfl w.heap.size Lt.zero.cells rfl rfl 37 ZL B2A.out ltInfo rfl (lt_all _) ?_
     go_wp2_with (fail)
     refine bodyPost_ret_by (v := .tuple #[.agg Lt.zero.cells, .int .i64 4]) (results_cell_row_tmp Tryz.results10 _ _ w.heap.size 37 Lt.zero.cells (0, 0) _ _ rfl (setRow_heap _ _ _ _ _ _ (B2A.out)) rfl Tryz.underlying37 rfl ltInfo) rfl ?_
     have hbs := below_setRow (Below.refl w.heap.size w10) (Nat.le_refl _) Lt.zero.cells
     have hv : (4 : Int) = rdE b := HD.out
     exact HP.out LV.zero _ _ hv (by rw [if_neg (by rw [← hv]; decide)]; rfl) (LOwn.zero _ 0).lin (BELA.out.trans hbs)
end Go.Proofs.YtmpedblelnpjdaaGreatDoor
