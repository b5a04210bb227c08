/- Closing blocks of tactics that several proofs share. -/
import Derived.WalkKit
import Derived.WalkLawsBesides
import Derived.WalkSpells
import Derived.Outline
import Derived.Lib.Hide
import Derived.OrdersHeld
import Derived.KernelRfl
import Derived.ProofKit
import Derived.Deep.RegionHeld3
import Derived.Deep.QuietTactic
import Derived.RegionTactic
import Derived.Deep.RegionWith
import Derived.Deep.RegionLaw
import Derived.Deep.LoopGhost
import Derived.Deep.DeepCutAuto
import Derived.Deep.DeepMust
import Derived.Deep.Slices
import Derived.Deep.Fields
import Derived.StillTailTactics
import Derived.RegionCalls
import Derived.BigQuiet
import Derived.Deep.MidRow
import Derived.Deep.Draws
import Derived.OpenShut
import Derived.LoopNIn
import Derived.Lib.SliceRun
namespace Go.Proofs.YtmpedblelnpjdaaGreatDoor
open Go.RowKit
set_option linter.unusedVariables false
set_option autoImplicit false
theorem rp0 {p : Prop} (h : p := by
 have HX2 := Lib.hid (show Blk W2 w.heap.size 62 _ from by rw [hW2]; exact HX.out.set_ 2 (.int .u64 ((c.num : Int) + 1)))
 have HO2 : Hid (Blk W2 (w.heap.size + 1) 58 o.cells) := Lib.hid (by rw [hW2]; exact HO.out.far (p := ⟨w.heap.size, 2, none⟩) (by simp) _)
 have HR2 : Hid (Blk W2 (w.heap.size + 2) 62 #[.int .i64 0, .int .i64 0, .int .u64 0, .int .i64 0, .slice none 0 0, .int .i64 0, .int .u32 0, .int .u64 0, .slice none 0 0, .int .i64 0, .int .i64 0, .int .i64 0, .int .u64 0, .slice none 0 0, .int .u64 0, .int .i64 0, .int .u64 0, .slice none 0 0]) := Lib.hid (by rw [hW2]; exact HR.out.far (p := ⟨w.heap.size, 2, none⟩) (by simp) _)
 have HB2 : Hid (Below w.heap.size w W2) := Lib.hid (by rw [hW2]; exact below_put HB.out HB.out.size (Nat.le_refl _) 2 _)
 have HW2 := Lib.hid hW2
 clear hW2
 go_upto_region 12 with (fail)
 rw [← HW2.out]
 clear HW2 HX HO HR HB o0 o1 o2 o3 o4 x2 f2 e1
 obtain ⟨o0, o1, o2, o3, o4⟩ := op_cells HO2.out
 have s5 : W2.cell? ⟨w.heap.size, 5, none⟩ = some (.int .i64 c.op.kd) := HX2.out.cell 5
 have s6 : W2.cell? ⟨w.heap.size, 6, none⟩ = some (.int .u32 c.op.key) := HX2.out.cell 6
 have s7 : W2.cell? ⟨w.heap.size, 7, none⟩ = some (.int .u64 c.op.ver) := HX2.out.cell 7
 have s8 : W2.cell? ⟨w.heap.size, 8, none⟩ = some (.slice d.oA c.op.n d.oc) := HX2.out.cell 8
 have s9 : W2.cell? ⟨w.heap.size, 9, none⟩ = some (.int .i64 c.op.pick) := HX2.out.cell 9
 have t5 := HX2.out.frozen 5
 have t6 := HX2.out.frozen 6
 have t7 := HX2.out.frozen 7
 have t8 := HX2.out.frozen 8
 have t9 := HX2.out.frozen 9
 obtain ⟨W3, hW3⟩ : ∃ W3, W3 = (((((W2.setCell ⟨w.heap.size, 5, none⟩ (.int .i64 o.kd)).setCell ⟨w.heap.size, 6, none⟩ (.int .u32 o.key)).setCell ⟨w.heap.size, 7, none⟩ (.int .u64 o.ver)).setCell ⟨w.heap.size, 8, none⟩ (.slice o.A o.n o.c)).setCell ⟨w.heap.size, 9, none⟩ (.int .i64 o.pick)) := ⟨_, rfl⟩
 have HX3 := Lib.hid (show Blk W3 w.heap.size 62 #[.int .i64 c.cl, .int .i64 c.ms, .int .u64 ((c.num : Int) + 1), .int .i64 c.tk, .slice d.lA d.ln d.lc, .int .i64 o.kd, .int .u32 o.key, .int .u64 o.ver, .slice o.A o.n o.c, .int .i64 o.pick, .int .i64 c.st, .int .i64 c.rp.cd, .int .u64 c.rp.vr, .slice d.rA c.rp.n d.rc, .int .u64 c.last, .int .i64 c.ly.cd, .int .u64 c.ly.vr, .slice d.yA c.ly.n d.yc] from by rw [hW3, ← begun3_cells]; exact (((((HX2.out.set_ 5 (.int .i64 o.kd)).set_ 6 (.int .u32 o.key)).set_ 7 (.int .u64 o.ver)).set_ 8 (.slice o.A o.n o.c)).set_ 9 (.int .i64 o.pick)))
 have HC3 : Hid (Chg W2 W3 (fun i => i = w.heap.size)) := Lib.hid (by rw [hW3]; exact chg_five W2 w.heap.size _ _ _ _ _)
 have HR3 : Hid (Blk W3 (w.heap.size + 2) 62 #[.int .i64 0, .int .i64 0, .int .u64 0, .int .i64 0, .slice none 0 0, .int .i64 0, .int .u32 0, .int .u64 0, .slice none 0 0, .int .i64 0, .int .i64 0, .int .i64 0, .int .u64 0, .slice none 0 0, .int .u64 0, .int .i64 0, .int .u64 0, .slice none 0 0]) := Lib.hid (HC3.out.blk HR2.out (by simp))
 have HB3 : Hid (Below w.heap.size w W3) := Lib.hid (HB2.out.trans (HC3.out.below HB2.out.size (fun i hi e => by omega)))
 have HW3 := Lib.hid hW3
 clear hW3
 go_upto_region 13 with (fail)
 rw [← HW3.out]
 clear HW3 HX2 HO2 HR2 HB2 HC3 o0 o1 o2 o3 o4 s5 s6 s7 s8 s9 t5 t6 t7 t8 t9
 have s10 : W3.cell? ⟨w.heap.size, 10, none⟩ = some (.int .i64 c.st) := HX3.out.cell 10
 have t10 := HX3.out.frozen 10
 have s11 : W3.cell? ⟨w.heap.size, 11, none⟩ = some (.int .i64 c.rp.cd) := HX3.out.cell 11
 have s12 : W3.cell? ⟨w.heap.size, 12, none⟩ = some (.int .u64 c.rp.vr) := HX3.out.cell 12
 have s13 : W3.cell? ⟨w.heap.size, 13, none⟩ = some (.slice d.rA c.rp.n d.rc) := HX3.out.cell 13
 have t11 := HX3.out.frozen 11
 have t12 := HX3.out.frozen 12
 have t13 := HX3.out.frozen 13
 obtain ⟨W4, hW4⟩ : ∃ W4, W4 = (((W3.setCell ⟨w.heap.size, 10, none⟩ (.int .i64 1)).setCell ⟨w.heap.size, 11, none⟩ (.int .i64 0)).setCell ⟨w.heap.size, 12, none⟩ (.int .u64 0)).setCell ⟨w.heap.size, 13, none⟩ (.slice none 0 0) := ⟨_, rfl⟩
 have HX4 : Hid (Blk W4 w.heap.size 62 ((c.begun o none 0).dcells (d.begun o))) := Lib.hid (by rw [hW4, ← begun_cells]; exact ((((HX3.out.set_ 10 (.int .i64 1)).set_ 11 (.int .i64 0)).set_ 12 (.int .u64 0)).set_ 13 (.slice none 0 0)))
 have HC4 : Hid (Chg W3 W4 (fun i => i = w.heap.size)) := Lib.hid (by rw [hW4]; exact (((chg_one W3 ⟨w.heap.size, 10, none⟩ _).trans (chg_one _ ⟨w.heap.size, 11, none⟩ _) (fun _ _ e => e)).trans (chg_one _ ⟨w.heap.size, 12, none⟩ _) (fun _ _ e => e)).trans (chg_one _ ⟨w.heap.size, 13, none⟩ _) (fun _ _ e => e))
 have HR4 : Hid (Blk W4 (w.heap.size + 2) 62 #[.int .i64 0, .int .i64 0, .int .u64 0, .int .i64 0, .slice none 0 0, .int .i64 0, .int .u32 0, .int .u64 0, .slice none 0 0, .int .i64 0, .int .i64 0, .int .i64 0, .int .u64 0, .slice none 0 0, .int .u64 0, .int .i64 0, .int .u64 0, .slice none 0 0]) := Lib.hid (HC4.out.blk HR3.out (by simp))
 have HB4 : Hid (Below w.heap.size w W4) := Lib.hid (HB3.out.trans (HC4.out.below HB3.out.size (fun i hi e => by omega)))
 have HW4 := Lib.hid hW4
 clear hW4
 go_upto_region 15 with (fail)
 rw [← HW4.out]
 clear HW4 HX3 HR3 HB3 HC4 s10 s11 s12 s13 t10 t11 t12 t13
 have AS := Lib.hid (fun W (h9 : Below w.heap.size w W) => dask_any (c.begun o none 0) (d.begun o) l k B W ((HD.out.begun HOP.out none 0).below (h9.mono hB)) (Nat.le_trans hB h9.size) B ((HD.out.begun HOP.out none 0).below (h9.mono hB)).op (Nat.le_trans hB h9.size) HKK.out hkk h1 h4 HVS.out hcl hnum hn)
 have HX : Hid (Blk W4.drew w.heap.size 62 ((c.begun o none 0).dcells (d.begun o))) := Lib.hid HX4.out.drew
 have HR : Hid (Blk W4.drew (w.heap.size + 2) 62 #[.int .i64 0, .int .i64 0, .int .u64 0, .int .i64 0, .slice none 0 0, .int .i64 0, .int .u32 0, .int .u64 0, .slice none 0 0, .int .i64 0, .int .i64 0, .int .i64 0, .int .u64 0, .slice none 0 0, .int .u64 0, .int .i64 0, .int .u64 0, .slice none 0 0]) := Lib.hid HR4.out.drew
 have HB : Hid (Below w.heap.size w W4.drew) := Lib.hid HB4.out.drew
 have lr : w.heap.size + 2 < W4.drew.heap.size := HR4.out.lt
 refine wp_region_held_drew (S := fun wq => Blk wq w.heap.size 62 ((c.begun o none 0).dcells (d.begun o))) (by kernel_rfl) HX4.out (fun hHeld => ?_)
 generalize W4.drew = Vd at *
 refine tkT 0 rfl (v := (.agg ((c.begun o none 0).dcells (d.begun o)))) ?_ ?_
 ·exact fun wq hSw => exec_load_row rfl _ rfl (load_dc (c.begun o none 0) (d.begun o) _ wq hSw)
 try simp only [Act.put, pS]
 refine tkT 1 rfl (v := (.agg ((c.begun o none 0).dcells (d.begun o)))) ?_ ?_
 ·exact fun wq hSw => exec_load_row rfl _ rfl (load_dc (c.begun o none 0) (d.begun o) _ wq hSw)
 try simp only [Act.put, pS]
 refine wpAnyH_ready (rs := [2]) (by kernel_rfl) (by simp) ?_
 refine (AllReadyH.cons rfl (fun K hK => ?_) AllReadyH.nil)
 go_simp
 refine (AS.out _ HB.out).mono ?_
 rintro e x2 ⟨q1, xx, rfl, hq1, hbk1, hin1, hnr1, hof1, h9⟩
 have hqs := HB.out.size
 have hqW : w.heap.size ≤ q1 := Nat.le_trans hqs hq1
 have hqr : w.heap.size + 2 < q1 := Nat.lt_of_lt_of_le lr hq1
 have HIN : Hid (∀ W, Chg x2 W (fun i => i = w.heap.size + 2) → LIn W q1 xx) := Lib.hid (fun W hc => hin1 W (hc.mono (fun i hi e => .inl (by omega))))
 have HNR : Hid (xx.near ∧ AskOf (l.map Cf.val) k (c.begun o none 0) xx.val) := Lib.hid ⟨hnr1, hof1⟩
 have HN := Lib.hid hbk1
 clear hbk1 hin1 hnr1 hof1 hq1 hqs lr
 replace HB := Lib.hid (HB.out.trans (h9.mono HB.out.size))
 replace HX := Lib.hid (HX.out.below h9 HX.out.lt)
 replace HR := Lib.hid (HR.out.below h9 HR.out.lt)
 have HS : Blk x2 w.heap.size 62 ((c.begun o none 0).dcells (d.begun o)) := HX.out
 clear h9
 refine hK.out _ _ ?_ (fun hHeld => ?_)
 ·first | exact HS | go_keep
 clear hK K
 try simp only [Act.put, pS]
 refine wpAnyH_ready (rs := [3]) (by kernel_rfl) (by simp) ?_
 refine (AllReadyH.cons rfl (fun K hK => ?_) AllReadyH.nil)
 have hcg : Chg x2 (World.setRow x2 (w.heap.size + 2) ((c.begun o none 0).dcells (d.begun o))) (fun i => i = w.heap.size + 2) := chg_row9 _ _ _
 replace HB : Hid (Below w.heap.size w (World.setRow x2 (w.heap.size + 2) ((c.begun o none 0).dcells (d.begun o)))) := Lib.hid (setRow_below HB.out HB.out.size (Nat.le_add_right _ 2) _)
 replace HX := Lib.hid (hcg.blk HX.out (by simp))
 have HR0 := HR
 replace HR : Hid (Blk (World.setRow x2 (w.heap.size + 2) ((c.begun o none 0).dcells (d.begun o))) (w.heap.size + 2) 62 ((c.begun o none 0).dcells (d.begun o))) := Lib.hid (setRow_heap _ _ _ _ _ _ HR0.out)
 replace HIN := Lib.hid (HIN.out _ hcg)
 replace HN := Lib.hid (hcg.blk HN.out (by omega))
 have HS : Blk (World.setRow x2 (w.heap.size + 2) ((c.begun o none 0).dcells (d.begun o))) w.heap.size 62 ((c.begun o none 0).dcells (d.begun o)) := HX.out
 clear hcg
 refine step_store_row rfl 62 (.tmp 4) (.tmp 58) rfl (w.heap.size + 2) ((c.begun o none 0).dcells (d.begun o)) rfl rfl 62 #[.int .i64 0, .int .i64 0, .int .u64 0, .int .i64 0, .slice none 0 0, .int .i64 0, .int .u32 0, .int .u64 0, .slice none 0 0, .int .i64 0, .int .i64 0, .int .i64 0, .int .u64 0, .slice none 0 0, .int .u64 0, .int .i64 0, .int .u64 0, .slice none 0 0] HR0.out dcInfo rfl (dc_all _ _) ?_
 refine hK.out _ _ ?_ (fun hHeld => ?_)
 ·first | exact HS | go_keep
 clear hK K
 generalize (World.setRow x2 (w.heap.size + 2) ((c.begun o none 0).dcells (d.begun o))) = Vs at *
 try simp only [Act.put, pS]
 refine tkT 4 rfl (v := ?_) ?_ ?_
 rotate_left 1
 ·(intro wq hSw; (try dsimp only at hSw); go_simp; (try with_reducible rfl))
 try simp only [Act.put, pS]
 refine tkT 5 rfl (v := ?_) ?_ ?_
 rotate_left 1
 ·(intro wq hSw; (try dsimp only at hSw); go_simp; (try with_reducible rfl))
 try simp only [Act.put, pS]
 refine wpAnyH_done (by kernel_rfl) ?_ _
 go_wp2_with (fail)
 refine bodyPost_ret_by (results_cell_row_tmp2 Tryz.results24 _ _ (w.heap.size + 2) 62 ((c.begun o none 0).dcells (d.begun o)) (0, 0) _ _ _ rfl HR.out rfl rfl Tryz.underlying62 rfl dcInfo) rfl ?_
 exact ⟨HB.out, .inr ⟨HE.out, q1, xx, rfl, hqW, HN.out, HIN.out, HNR.out.1, HNR.out.2⟩⟩) : p := h
theorem rp1 {p : Prop} (h : p := by
 by_cases hk1 : s1.kd = 1
 ·have q0 : (s1.kd == 0) = false := by simp [hk0]
  have q1 : (s1.kd == 1) = true := by simp [hk1]
  have HK0 := Lib.hid (And.intro hk0 hk1)
  clear hk0 hk1
  obtain ⟨N', hN'⟩ : ∃ N', N' = (if beginE N s1.o = 0 then N.begun s1.o none 0 else N) := ⟨_, rfl⟩
  obtain ⟨be, hbe⟩ : ∃ be, be = beginE N s1.o := ⟨_, rfl⟩
  have qb : (be != be) = false := by simp
  have CP := Lib.hid (begin_p s1.o HPX.out.bb (by omega) wx (HK.out.below HPX.out.bel) HPX.out.pp (by have := HPX.out.ll; omega) (HI.out.op.below HPX.out.bel) HPX.out.bel.size HONX.out)
  have CD := Lib.hid (fun w10 (a : DSt w10 w.heap.size q vs N d l') (hb : Below w.heap.size w w10) => begin_d s1.o HPX.out.bb (by omega) w10 a HPX.out.nn (HI.out.op.below hb) HONX.out)
  rw [← hN', ← hbe] at CP CD
  have HFL : Hid (FlatL (if be = 0 then asksL vs s1.o.key.toNat (N.begun s1.o none 0) else [])) := Lib.hid (by rw [hbe]; exact begin_flat vs N s1.o)
  have HNB := Lib.hid (show Bnd vs N' (i + 1) ∧ N'.norm = N' ∧ N'.cl = N.cl from by rw [hN']; exact ⟨HPX.out.bb.begin_ s1.o HONX.out, begin_norm s1.o HPX.out.nn, begin_cl N s1.o⟩)
  clear hN' hbe
  go_upto_region 23 with (fail)
  clear x0
  iterate 7 go_step
  refine wpList_load_mid rfl 58 (.tmp 111) rfl gx 1 rfl [.int .i64 s1.o.kd, .int .u32 s1.o.key, .int .u64 s1.o.ver, .slice s1.o.A s1.o.n s1.o.c, .int .i64 s1.o.pick] _ (st_op HXX.out) Tryz.underlying58 rfl opInfo ?_
  go_wp2_with (fail)
  refine CP.out.mono ?_
  rintro e w10 ⟨c', h', A3, n3, cp3, xs, rfl, hP1', hx1', hv1', hch1'⟩
  have HBL := Lib.hid (HPX.out.doc hch1').2.2
  have hP1 := Lib.hid hP1'
  have hch1 := Lib.hid hch1'
  have hx1 := Lib.hid hx1'
  have hv1 := Lib.hid hv1'
  have HD1 := Lib.hid (HPX.out.doc hch1').1
  have HG1 := Lib.hid (HPX.out.doc hch1').2.1
  have HZ1 := Lib.hid (hch1'.blk HXX.out (TP.ne HXX.out (by decide) (by decide) (by decide)))
  clear hP1' hch1' hx1' hv1'
  go_upto_region 24 with (fail)
  iterate 1 go_step
  refine wpList_load_row rfl 62 (.tmp 9) rfl gr rfl 62 (N.dcells d) (0, 0) _ HG1.out Tryz.underlying62 rfl dcInfo ?_
  iterate 3 go_step
  refine wpList_load_mid rfl 58 (.tmp 118) rfl gx 1 rfl [.int .i64 s1.o.kd, .int .u32 s1.o.key, .int .u64 s1.o.ver, .slice s1.o.A s1.o.n s1.o.c, .int .i64 s1.o.pick] _ (st_op HZ1.out) Tryz.underlying58 rfl opInfo ?_
  go_wp2_with (fail)
  refine (CD.out w10 HD1.out HBL.out).mono ?_
  rintro e w11 ⟨d', l2, A4, n4, cp4, ys, rfl, hD2, hy2, hv2, hb2⟩
  have HG2 := Lib.hid (HG1.out.below hb2 HG1.out.lt)
  have HE0 := Lib.hid (fun W3 (hc : Chg w11 W3 (fun k => k = gr)) hbox => HPX.out.step (W3 := W3) HNB.out.1 HNB.out.2.1 HNB.out.2.2 hP1.out hch1.out hx1.out hv1.out HFL.out hD2 hb2 hy2 hv2 hc hbox)
  clear hD2 hy2 hv2 hb2
  dsimp only
  iterate 16 go_step
  refine wpList_store_row rfl 62 (.tmp 17) (.tmp 121) rfl w11.heap.size (N'.dcells d') rfl rfl 62 #[.int .i64 0, .int .i64 0, .int .u64 0, .int .i64 0, .slice none 0 0, .int .i64 0, .int .u32 0, .int .u64 0, .slice none 0 0, .int .i64 0, .int .i64 0, .int .i64 0, .int .u64 0, .slice none 0 0, .int .u64 0, .int .i64 0, .int .u64 0, .slice none 0 0] (Blk.new w11 _ _) dcInfo rfl (dc_all _ _) ?_
  have HB12 : Hid (Below w11.heap.size w11 (World.setRow (w11.alloc (.cells #[.int .i64 0, .int .i64 0, .int .u64 0, .int .i64 0, .slice none 0 0, .int .i64 0, .int .u32 0, .int .u64 0, .slice none 0 0, .int .i64 0, .int .i64 0, .int .i64 0, .int .u64 0, .slice none 0 0, .int .u64 0, .int .i64 0, .int .u64 0, .slice none 0 0] 62)) w11.heap.size (N'.dcells d'))) := Lib.hid (setRow_below ((Below.refl _ _).alloc (Nat.le_refl _) _) ((Below.refl _ _).alloc (Nat.le_refl _) _).size (Nat.le_refl _) _)
  have HS12 : Hid (Blk (World.setRow (w11.alloc (.cells #[.int .i64 0, .int .i64 0, .int .u64 0, .int .i64 0, .slice none 0 0, .int .i64 0, .int .u32 0, .int .u64 0, .slice none 0 0, .int .i64 0, .int .i64 0, .int .i64 0, .int .u64 0, .slice none 0 0, .int .u64 0, .int .i64 0, .int .u64 0, .slice none 0 0] 62)) w11.heap.size (N'.dcells d')) w11.heap.size 62 (N'.dcells d')) := Lib.hid (setRow_heap _ _ _ _ _ _ (Blk.new w11 _ _))
  have HG12 := Lib.hid (HG2.out.below HB12.out HG2.out.lt)
  generalize World.setRow (w11.alloc (.cells #[.int .i64 0, .int .i64 0, .int .u64 0, .int .i64 0, .slice none 0 0, .int .i64 0, .int .u32 0, .int .u64 0, .slice none 0 0, .int .i64 0, .int .i64 0, .int .i64 0, .int .u64 0, .slice none 0 0, .int .u64 0, .int .i64 0, .int .u64 0, .slice none 0 0] 62)) w11.heap.size (N'.dcells d') = w12 at HB12 HS12 HG12 ⊢
  go_upto_region 25 with (fail)
  iterate 1 go_step
  refine wpList_load_row rfl 62 (.tmp 17) rfl w11.heap.size rfl 62 (N'.dcells d') (0, 0) _ HS12.out Tryz.underlying62 rfl dcInfo ?_
  refine wpList_store_row rfl 62 (.tmp 9) (.tmp 124) rfl gr (N'.dcells d') rfl rfl 62 (N.dcells d) HG12.out dcInfo rfl (dc_all _ _) ?_
  have HE := Lib.hid (HE0.out (World.setRow w12 gr (N'.dcells d')) ((Chg.of_below HB12.out _).trans (chg_row9 _ _ _) (fun _ _ e => e)) (setRow_heap _ _ _ _ _ _ HG12.out))
  generalize World.setRow w12 gr (N'.dcells d') = wz at HE ⊢
  clear HE0 HG2 HG12 HS12 HB12
  go_upto_region 30 with (fail)
  obtain ⟨hE1, hE2, hE3, hE4, hE6, hE5⟩ := HE.out
  subst hE6
  have HE1 := Lib.hid hE1
  have SM := Lib.hid (same14_any A3 A4 n3 cp3 cp4 wz.heap.size wz.heap.size xs ys wz hE2 hE3 hE4 (Nat.le_refl _) (Nat.le_refl _) (by omega))
  clear hE1 hE2 hE3 hE4 hE5 HE
  go_wp2_with (fail)
  refine SM.out.mono ?_
  rintro e wy ⟨rfl, hby⟩
  have HE2 := Lib.hid (HE1.out.below hby)
  clear hby SM HE1
  have SX := Lib.hid (same26_any lo g G q hh cB _ _ w.heap.size _ _ _ _ _ wy HE2.out.pp HE2.out.dd HE2.out.bb)
  dsimp only
  iterate 9 go_step
  refine wpList_load_rowG (by rfl) 62 (.tmp 9) rfl gr rfl 62 _ (0, 0) _ HE2.out.box Tryz.underlying62 rfl dcInfo ?_
  go_wp2_with (fail)
  refine SX.out.mono ?_
  rintro e wv ⟨rfl, hbv⟩
  have HE3 := Lib.hid (HE2.out.below hbv)
  clear hbv SX HE2
  go_wp2_with (fail)
  go_roundw
  case rel => exact ⟨i + 1, _, _, _, _, _, _, by omega, by simp, HE3⟩
  case measure => simp [intOf]; omega
 ·have q0 : (s1.kd == 0) = false := by simp [hk0]
  have q1 : (s1.kd == 1) = false := by simp [hk1]
  have HK0 := Lib.hid (And.intro hk0 hk1)
  clear hk0 hk1
  have CP := Lib.hid (take_p s1.x HPX.out.bb (by omega) wx (HK.out.below HPX.out.bel) HPX.out.pp (by have := HPX.out.ll; omega) (HI.out.lt.below HPX.out.bel) HPX.out.bel.size HNX.out)
  have CD := Lib.hid (fun w10 (a : DSt w10 w.heap.size q vs N d l') (hb : Below w.heap.size w w10) (hq : q < w10.heap.size) => take_d s1.x HPX.out.bb (by omega) w10 a HPX.out.nn hq (HI.out.lt.below hb) HNX.out)
  have HNB := Lib.hid (show Bnd (takeVs vs N s1.x) (takeN N s1.x) (i + 1) ∧ (takeN N s1.x).norm = takeN N s1.x ∧ (takeN N s1.x).cl = N.cl from ⟨HPX.out.bb.take s1.x HI.out.lt HNX.out, take_norm s1.x HPX.out.nn, take_cl N s1.x⟩)
  have HFL := Lib.hid (take_flat vs N s1.x)
  generalize takeVs vs N s1.x = vs' at CP CD HNB
  generalize takeN N s1.x = N' at CP CD HNB
  generalize takeL vs N s1.x = vals at CP CD HFL
  go_upto_region 17 with (fail)
  clear x0
  iterate 7 go_step
  refine wpList_load_mid rfl 37 (.tmp 88) rfl gx 7 rfl s1.x.l.cells.toList _ (st_lt HXX.out) Tryz.underlying37 rfl ltInfo ?_
  go_wp2_with (fail)
  refine CP.out.mono ?_
  rintro e w10 ⟨c', h', A3, n3, cp3, xs, rfl, hP1', hx1', hv1', hch1'⟩
  have HBL := Lib.hid (HPX.out.doc hch1').2.2
  have HQ := Lib.hid (show q < w10.heap.size from by obtain ⟨o, h1, _⟩ := hP1'.atx; exact h1.conf.lt)
  have hP1 := Lib.hid hP1'
  have hch1 := Lib.hid hch1'
  have hx1 := Lib.hid hx1'
  have hv1 := Lib.hid hv1'
  have HD1 := Lib.hid (HPX.out.doc hch1').1
  have HG1 := Lib.hid (HPX.out.doc hch1').2.1
  have HZ1 := Lib.hid (hch1'.blk HXX.out (TP.ne HXX.out (by decide) (by decide) (by decide)))
  clear hP1' hch1' hx1' hv1'
  simp only [id_eq]
  go_upto_region 18 with (fail)
  iterate 1 go_step
  refine wpList_load_row rfl 62 (.tmp 9) rfl gr rfl 62 (N.dcells d) (0, 0) _ HG1.out Tryz.underlying62 rfl dcInfo ?_
  iterate 3 go_step
  refine wpList_load_mid rfl 37 (.tmp 93) rfl gx 7 rfl s1.x.l.cells.toList _ (st_lt HZ1.out) Tryz.underlying37 rfl ltInfo ?_
  go_wp2_with (fail)
  refine (CD.out w10 HD1.out HBL.out HQ.out).mono ?_
  rintro e w11 ⟨d', l2, A4, n4, cp4, ys, rfl, hD2, hy2, hv2, hb2⟩
  have HG2 := Lib.hid (HG1.out.below hb2 HG1.out.lt)
  have HE0 := Lib.hid (fun W3 (hc : Chg w11 W3 (fun k => k = gr)) hbox => HPX.out.step (W3 := W3) HNB.out.1 HNB.out.2.1 HNB.out.2.2 hP1.out hch1.out hx1.out hv1.out HFL.out hD2 hb2 hy2 hv2 hc hbox)
  clear hD2 hy2 hv2 hb2
  dsimp only
  iterate 10 go_step
  refine wpList_store_row rfl 62 (.tmp 9) (.tmp 96) rfl gr (N'.dcells d') rfl rfl 62 (N.dcells d) HG2.out dcInfo rfl (dc_all _ _) ?_
  have HE := Lib.hid (HE0.out (World.setRow w11 gr (N'.dcells d')) (chg_row9 _ _ _) (setRow_heap _ _ _ _ _ _ HG2.out))
  generalize World.setRow w11 gr (N'.dcells d') = wz at HE ⊢
  clear HE0 HG2
  go_upto_region 30 with (fail)
  obtain ⟨hE1, hE2, hE3, hE4, hE6, hE5⟩ := HE.out
  subst hE6
  have HE1 := Lib.hid hE1
  have SM := Lib.hid (same14_any A3 A4 n3 cp3 cp4 wz.heap.size wz.heap.size xs ys wz hE2 hE3 hE4 (Nat.le_refl _) (Nat.le_refl _) (by omega))
  clear hE1 hE2 hE3 hE4 hE5 HE
  go_wp2_with (fail)
  refine SM.out.mono ?_
  rintro e wy ⟨rfl, hby⟩
  have HE2 := Lib.hid (HE1.out.below hby)
  clear hby SM HE1
  have SX := Lib.hid (same26_any lo g G q hh cB _ _ w.heap.size _ _ _ _ _ wy HE2.out.pp HE2.out.dd HE2.out.bb)
  dsimp only
  iterate 9 go_step
  refine wpList_load_rowG (by rfl) 62 (.tmp 9) rfl gr rfl 62 _ (0, 0) _ HE2.out.box Tryz.underlying62 rfl dcInfo ?_
  go_wp2_with (fail)
  refine SX.out.mono ?_
  rintro e wv ⟨rfl, hbv⟩
  have HE3 := Lib.hid (HE2.out.below hbv)
  clear hbv SX HE2
  go_wp2_with (fail)
  go_roundw
  case rel => exact ⟨i + 1, _, _, _, _, _, _, by omega, by simp, HE3⟩
  case measure => simp [intOf]; omega) : p := h
theorem rp2 {p : Prop} (h : p := by
 have HW1 := Lib.hid hW1
 clear hW1 hr
 go_enter Tryz.func142, Tryz.ntmps142
 go_upto_region 1 with (fail)
 rw [← HW.out]
 clear HW
 go_upto_region 31 with (fail)
 rw [← HW1.out]
 clear HW1
 iterate 1 go_step
 refine wpList_load_row rfl 37 (.tmp 3) rfl w.heap.size rfl 37 r.cells (0, 0) _ HX.out Tryz.underlying37 rfl ltInfo ?_
 refine wpList_store_row rfl 37 (.tmp 6) (.tmp 81) rfl (w.heap.size + 2) r.cells rfl rfl 37 ZL HZ.out ltInfo rfl (lt_all _) ?_
 go_wp2_with (fail)
 refine bodyPost_ret_by (v := .agg r.cells) (results_cell_row Tryz.results142 _ _ (w.heap.size + 2) 37 r.cells (0, 0) _ rfl (setRow_heap _ _ _ _ _ _ HZ.out) Tryz.underlying37 rfl ltInfo) rfl ?_
 exact ⟨rfl, below_setRow HB1.out (by omega) _⟩) : p := h
theorem rp3 {p : Prop} (h : p := by
 go_enter Tryz.func19, Tryz.ntmps19
 go_upto_region 2 with (fail)
 have hbz := dn_zero
 iterate 4 go_step
 refine wpList_store_row rfl 62 (.tmp 6) (.tmp 27) rfl w.heap.size #[.int .i64 0, .int .i64 0, .int .u64 0, .int .i64 0, .slice none 0 0, .int .i64 0, .int .u32 0, .int .u64 0, .slice none 0 0, .int .i64 0, .int .i64 0, .int .i64 0, .int .u64 0, .slice none 0 0, .int .u64 0, .int .i64 0, .int .u64 0, .slice none 0 0] rfl rfl 62 #[.int .i64 0, .int .i64 0, .int .u64 0, .int .i64 0, .slice none 0 0, .int .i64 0, .int .u32 0, .int .u64 0, .slice none 0 0, .int .i64 0, .int .i64 0, .int .i64 0, .int .u64 0, .slice none 0 0, .int .u64 0, .int .i64 0, .int .u64 0, .slice none 0 0] HR.out dcInfo rfl (by simp [Value.oneCell']) ?_
 have HR3 := Lib.hid (show Blk (World.setRow (w.alloc (.cells #[.int .i64 0, .int .i64 0, .int .u64 0, .int .i64 0, .slice none 0 0, .int .i64 0, .int .u32 0, .int .u64 0, .slice none 0 0, .int .i64 0, .int .i64 0, .int .i64 0, .int .u64 0, .slice none 0 0, .int .u64 0, .int .i64 0, .int .u64 0, .slice none 0 0] 62)) w.heap.size #[.int .i64 0, .int .i64 0, .int .u64 0, .int .i64 0, .slice none 0 0, .int .i64 0, .int .u32 0, .int .u64 0, .slice none 0 0, .int .i64 0, .int .i64 0, .int .i64 0, .int .u64 0, .slice none 0 0, .int .u64 0, .int .i64 0, .int .u64 0, .slice none 0 0]) w.heap.size 62 #[.int .i64 0, .int .i64 0, .int .u64 0, .int .i64 0, .slice none 0 0, .int .i64 0, .int .u32 0, .int .u64 0, .slice none 0 0, .int .i64 0, .int .i64 0, .int .i64 0, .int .u64 0, .slice none 0 0, .int .u64 0, .int .i64 0, .int .u64 0, .slice none 0 0] from setRow_heap _ _ _ _ _ _ HR.out)
 have HB3 := Lib.hid (setRow_below HB.out HB.out.size (Nat.le_refl _) (g := w.heap.size) #[.int .i64 0, .int .i64 0, .int .u64 0, .int .i64 0, .slice none 0 0, .int .i64 0, .int .u32 0, .int .u64 0, .slice none 0 0, .int .i64 0, .int .i64 0, .int .i64 0, .int .u64 0, .slice none 0 0, .int .u64 0, .int .i64 0, .int .u64 0, .slice none 0 0])
 generalize World.setRow (w.alloc (.cells #[.int .i64 0, .int .i64 0, .int .u64 0, .int .i64 0, .slice none 0 0, .int .i64 0, .int .u32 0, .int .u64 0, .slice none 0 0, .int .i64 0, .int .i64 0, .int .i64 0, .int .u64 0, .slice none 0 0, .int .u64 0, .int .i64 0, .int .u64 0, .slice none 0 0] 62)) w.heap.size #[.int .i64 0, .int .i64 0, .int .u64 0, .int .i64 0, .slice none 0 0, .int .i64 0, .int .u32 0, .int .u64 0, .slice none 0 0, .int .i64 0, .int .i64 0, .int .i64 0, .int .u64 0, .slice none 0 0, .int .u64 0, .int .i64 0, .int .u64 0, .slice none 0 0] = W3 at *
 go_wp2_with (fail)
 refine bodyPost_ret_by (results_cell_row_tmp Tryz.results19 _ _ w.heap.size 62 #[.int .i64 0, .int .i64 0, .int .u64 0, .int .i64 0, .slice none 0 0, .int .i64 0, .int .u32 0, .int .u64 0, .slice none 0 0, .int .i64 0, .int .i64 0, .int .i64 0, .int .u64 0, .slice none 0 0, .int .u64 0, .int .i64 0, .int .u64 0, .slice none 0 0] (0, 0) _ _ rfl HR3.out rfl Tryz.underlying62 rfl dcInfo) rfl ?_
 exact ⟨HB3.out, .inl ⟨fun e => by omega, rfl⟩⟩) : p := h
theorem rp4 {p : Prop} (h : p := by
 go_upto_region 9 with (fail)
 have HQ : Hid (Below wr.heap.size wr wr.drew) := Lib.hid (Below.refl _ _).drew
 refine wp_region_held_drew (S := fun wq => Blk wq w.heap.size 37 x.l.cells ∧ wq.cell? ⟨w.heap.size, 1, none⟩ = some (.int .i64 x.l.fr) ∧ wq.cell? ⟨w.heap.size, 2, none⟩ = some (.int .i64 x.l.tw)) (by kernel_rfl) ⟨b1, x1, x2⟩ (fun hHeld => ?_)
 refine tkT 0 rfl (v := ?_) ?_ ?_
 rotate_left 1
 ·(intro wq hSw; (try dsimp only at hSw); go_simp; (try with_reducible rfl))
 try simp only [Act.put, pS]
 refine tkT 1 rfl (v := ?_) ?_ ?_
 rotate_left 1
 ·(intro wq hSw; (try dsimp only at hSw); go_simp; (try with_reducible rfl))
 try simp only [Act.put, pS]
 refine wpAnyH_ready (rs := [2]) (by kernel_rfl) (by simp) ?_
 refine (AllReadyH.cons rfl (fun K hK => ?_) AllReadyH.nil)
 go_simp
 refine (A1.out _).mono ?_
 rintro e w3 ⟨rfl, rfl⟩
 have HS : Blk wr.drew w.heap.size 37 x.l.cells ∧ wr.drew.cell? ⟨w.heap.size, 1, none⟩ = some (.int .i64 x.l.fr) ∧ wr.drew.cell? ⟨w.heap.size, 2, none⟩ = some (.int .i64 x.l.tw) := ⟨HB1.out.below HQ.out lw1, (HB1.out.below HQ.out lw1).cell 1, (HB1.out.below HQ.out lw1).cell 2⟩
 refine hK.out _ _ ?_ (fun hHeld => ?_)
 ·first | exact HS | go_keep
 clear hK K
 try simp only [Act.put, pS]
 refine tkT 3 rfl (v := ?_) ?_ ?_
 rotate_left 1
 ·(intro wq hSw; (try dsimp only at hSw); go_simp; (try with_reducible rfl))
 try simp only [Act.put, pS]
 refine tkT 4 rfl (v := ?_) ?_ ?_
 rotate_left 1
 ·(intro wq hSw; (try dsimp only at hSw); go_simp; (try with_reducible rfl))
 try simp only [Act.put, pS]
 refine tkT 5 rfl (v := ?_) ?_ ?_
 rotate_left 1
 ·(intro wq hSw; (try dsimp only at hSw); go_simp; (try with_reducible rfl))
 try simp only [Act.put, pS]
 refine tkT 6 rfl (v := ?_) ?_ ?_
 rotate_left 1
 ·(intro wq hSw; (try dsimp only at hSw); go_simp; (try with_reducible rfl))
 try simp only [Act.put, pS]
 refine wpAnyH_ready (rs := [7]) (by kernel_rfl) (by simp) ?_
 refine (AllReadyH.cons rfl (fun K hK => ?_) AllReadyH.nil)
 go_simp
 refine (A2.out _).mono ?_
 rintro e w3 ⟨rfl, rfl⟩
 have HS : Blk wr.drew w.heap.size 37 x.l.cells ∧ wr.drew.cell? ⟨w.heap.size, 1, none⟩ = some (.int .i64 x.l.fr) ∧ wr.drew.cell? ⟨w.heap.size, 2, none⟩ = some (.int .i64 x.l.tw) := ⟨HB1.out.below HQ.out lw1, (HB1.out.below HQ.out lw1).cell 1, (HB1.out.below HQ.out lw1).cell 2⟩
 refine hK.out _ _ ?_ (fun hHeld => ?_)
 ·first | exact HS | go_keep
 clear hK K
 try simp only [Act.put, pS]
 refine tkT 8 rfl (v := ?_) ?_ ?_
 rotate_left 1
 ·(intro wq hSw; (try dsimp only at hSw); go_simp; (try with_reducible rfl))
 try simp only [Act.put, pS]
 refine tkT 9 rfl (v := ?_) ?_ ?_
 rotate_left 1
 ·(intro wq hSw; (try dsimp only at hSw); go_simp; (try with_reducible rfl))
 try simp only [Act.put, pS]
 refine tkT 10 rfl (v := ?_) ?_ ?_
 rotate_left 1
 ·(intro wq hSw; (try dsimp only at hSw); go_simp; (try with_reducible rfl))
 try simp only [Act.put, pS]
 refine tkT 11 rfl (v := L) ?_ ?_
 ·exact fun wq hSw => exec_load_row rfl _ rfl (hLD wq hSw.1)
 try simp only [Act.put, pS]
 refine tkT 12 rfl (v := L) ?_ ?_
 ·exact fun wq hSw => exec_load_row rfl _ rfl (hLD wq hSw.1)
 try simp only [Act.put, pS]
 refine wpAnyH_ready (rs := [13]) (by kernel_rfl) (by simp) ?_
 refine (AllReadyH.cons rfl (fun K hK => ?_) AllReadyH.nil)
 go_simp
 refine (BR.out _).mono ?_
 rintro e w13 ⟨rfl, h13⟩
 replace HQ := Lib.hid (HQ.out.trans (h13.mono HQ.out.size))
 clear h13
 have HS : Blk w13 w.heap.size 37 x.l.cells ∧ w13.cell? ⟨w.heap.size, 1, none⟩ = some (.int .i64 x.l.fr) ∧ w13.cell? ⟨w.heap.size, 2, none⟩ = some (.int .i64 x.l.tw) := ⟨HB1.out.below HQ.out lw1, (HB1.out.below HQ.out lw1).cell 1, (HB1.out.below HQ.out lw1).cell 2⟩
 refine hK.out _ _ ?_ (fun hHeld => ?_)
 ·first | exact HS | go_keep
 clear hK K
 try simp only [Act.put, pS]
 refine wpAnyH_ready (rs := [14]) (by kernel_rfl) (by simp) ?_
 refine (AllReadyH.cons rfl (fun K hK => ?_) AllReadyH.nil)
 go_simp
 refine (SM.out _ (HE.out.1.trans (HQ.out.mono hbs))).mono ?_
 rintro e w14 ⟨rfl, h14⟩
 replace HQ := Lib.hid (HQ.out.trans (h14.mono HQ.out.size))
 clear h14
 have HS : Blk w14 w.heap.size 37 x.l.cells ∧ w14.cell? ⟨w.heap.size, 1, none⟩ = some (.int .i64 x.l.fr) ∧ w14.cell? ⟨w.heap.size, 2, none⟩ = some (.int .i64 x.l.tw) := ⟨HB1.out.below HQ.out lw1, (HB1.out.below HQ.out lw1).cell 1, (HB1.out.below HQ.out lw1).cell 2⟩
 refine hK.out _ _ ?_ (fun hHeld => ?_)
 ·first | exact HS | go_keep
 clear hK K
 try simp only [Act.put, pS]
 refine tkT 15 rfl (v := ?_) ?_ ?_
 rotate_left 1
 ·(intro wq hSw; (try dsimp only at hSw); go_simp; (try with_reducible rfl))
 try simp only [Act.put, pS]
 refine tkT 16 rfl (v := ?_) ?_ ?_
 rotate_left 1
 ·(intro wq hSw; (try dsimp only at hSw); go_simp; (try with_reducible rfl))
 try simp only [Act.put, pS]
 refine wpAnyH_done (by kernel_rfl) ?_ _
 go_wp2_with (fail)
 go_ret
 exact ⟨by rw [HCF.out]; rfl, HB.out.trans ((HE.out.1.trans (HQ.out.mono hbs)).mono hsB)⟩) : p := h
theorem rp5 {p : Prop} (h : p := by
 go_upto_region 30 with (fail)
 obtain ⟨hE1, hE2, hE3, hE4, hE6, hE5⟩ := HE.out
 subst hE6
 have HE1 := Lib.hid hE1
 have SM := Lib.hid (same14_any A3 A4 n3 cp3 cp4 wz.heap.size wz.heap.size xs ys wz hE2 hE3 hE4 (Nat.le_refl _) (Nat.le_refl _) (by omega))
 clear hE1 hE2 hE3 hE4 hE5 HE
 go_wp2_with (fail)
 refine SM.out.mono ?_
 rintro e wy ⟨rfl, hby⟩
 have HE2 := Lib.hid (HE1.out.below hby)
 clear hby SM HE1
 have SX := Lib.hid (same26_any lo g G q hh cB _ _ w.heap.size _ _ _ _ _ wy HE2.out.pp HE2.out.dd HE2.out.bb)
 dsimp only
 iterate 9 go_step
 refine wpList_load_rowG (by rfl) 62 (.tmp 9) rfl gr rfl 62 _ (0, 0) _ HE2.out.box Tryz.underlying62 rfl dcInfo ?_
 go_wp2_with (fail)
 refine SX.out.mono ?_
 rintro e wv ⟨rfl, hbv⟩
 have HE3 := Lib.hid (HE2.out.below hbv)
 clear hbv SX HE2
 go_wp2_with (fail)
 go_roundw
 case rel => exact ⟨i + 1, _, _, _, _, _, _, by omega, by simp, HE3⟩
 case measure => simp [intOf]; omega) : p := h
theorem rp6 {p : Prop} (h : p := by
 have hba : Below W9.heap.size W9 (W9.alloc (.cells l5.cells 37)) := (Below.refl _ _).alloc (Nat.le_refl _) _
 have hup : UpIn W9 W9.heap.size u := ⟨(HCw.out.reads HUP.out.rd (Nat.le_refl _) (no_byte HL4.out HUP.out.rd)).more HCw.out.size, HUP.out.hc, HUP.out.hm, HUP.out.wf⟩
 have hUU : UpsIn W9 W9.heap.size l5.uA l5.un [u] := by
  rw [hsl.2.1, hsl.2.2.2]
  exact ⟨reads_blk_up HGQ.out, fun u' hu' => by rw [List.mem_singleton] at hu'; rw [hu']; exact hup⟩
 refine ⟨_, ⟨l5, [], [], [u], []⟩, rfl, HBW.out.size, Blk.new _ _ _, lin_ask hsl.1 hwf (hUU.below hba) (by rw [hsl.2.1, hsl.2.2.1]; decide), ?_, ?_, HBW.out.alloc HBW.out.size _⟩
 ·refine ⟨fun u' hu' => ?_, by show l5.un ≤ 1000000; rw [hsl.2.1]; decide, by show l5.vn ≤ 1000000; rw [hsl.1.2.1.1]; decide, by show l5.dn ≤ 1000000; rw [hsl.1.2.2.1]; decide, by show l5.fn ≤ 1000000; rw [hsl.1.1.1]; decide⟩
  rw [List.mem_singleton] at hu'
  rw [hu', ← hup.len]
  have := congrArg (fun v : Int × Int × Int × Int × Int × Int × List Int => v.2.2.2.2.2.2.length) HUV.out
  have this : u.bs.length = (reqV (reqE c.op c.cl c.num) (reqU c.op c.cl c.num none 0)).bs.length := this
  rw [this]
  unfold reqV
  split
  ·rw [show (reqU c.op c.cl c.num none 0).bs = c.op.bs from rfl, HBN.out]; exact hn
  ·exact Nat.zero_le _
 ·rw [HL5.out]
  exact ask_of HONE.out HONE2.out (by unfold askUs; rw [if_neg HK1.out]; simp only [List.map_cons, List.map_nil, HUV.out])) : p := h
theorem rp7 {p : Prop} (h : p := by
 have HR3 := Lib.hid (show Blk (World.setRow w2 (w.heap.size + 2) (c.dcells d)) (w.heap.size + 2) 62 (c.dcells d) from setRow_heap _ _ _ _ _ _ HR2.out)
 have HB3 := Lib.hid (setRow_below HB2.out HB2.out.size (Nat.le_add_right _ 2) (g := w.heap.size + 2) (c.dcells d))
 generalize World.setRow w2 (w.heap.size + 2) (c.dcells d) = W3 at *
 go_wp2_with (fail)
 refine bodyPost_ret_by (results_cell_row_tmp Tryz.results26 _ _ (w.heap.size + 2) 62 (c.dcells d) (0, 0) _ _ rfl HR3.out rfl Tryz.underlying62 rfl dcInfo) rfl ?_
 exact ⟨HB3.out, rfl⟩) : p := h
theorem rp8 {p : Prop} (h : p := by
 try simp only [Act.put, pS]
 refine wpAnyH_ready (rs := [22]) (by kernel_rfl) (by simp) ?_
 refine (AllReadyH.cons rfl (fun K hK => ?_) AllReadyH.nil)
 go_simp
 refine (OF.out _ HB.out).mono ?_
 rintro e x22 ⟨y, rfl, hone, hown, h9⟩
 replace HB := Lib.hid (HB.out.trans (h9.mono HB.out.size))
 (try replace GB := Lib.hid (GB.out.below h9 GB.out.lt))
 have HS : x22.cell? ⟨g, 1, none⟩ = some (.int .i64 c.ms) ∧ x22.cell? ⟨g, 3, none⟩ = some (.int .i64 tk) ∧ x22.cell? ⟨g, 4, none⟩ = some (.pointer (some ⟨G, 0, none⟩)) ∧ x22.cell? ⟨g, 6, none⟩ = some (.int .u32 (k : Int)) := ⟨(HA2.out.below HB.out).box.cell 1, ((HA2.out.below HB.out).box.cell 3).trans (by rw [HTK.out]; rfl), (HA2.out.below HB.out).box.cell 4, ((HA2.out.below HB.out).box.cell 6).trans (by rw [← HKE.out]; rfl)⟩
 have HONE : Hid (OneOf vs k y) := Lib.hid (HOV.out y hone hown.len_)
 clear h9 hown hone
 refine hK.out _ _ ?_ (fun hHeld => ?_)
 ·first | exact HS | go_keep
 clear hK K
 try simp only [Act.put, pS]
 refine tkT 23 rfl (v := ?_) ?_ ?_
 rotate_left 1
 ·(intro wq hSw; (try dsimp only at hSw); go_simp; (try with_reducible rfl))
 try simp only [Act.put, pS]
 refine tkT 24 rfl (v := ?_) ?_ ?_
 rotate_left 1
 ·(intro wq hSw; (try dsimp only at hSw); go_simp; (try with_reducible rfl))
 try simp only [Act.put, pS]
 refine wpAnyH_ready (rs := [26]) (by kernel_rfl) (by simp) ?_
 refine (AllReadyH.cons rfl (fun K hK => ?_) AllReadyH.nil)
 replace HB : Hid (Below w2.heap.size w2 (World.setRow x22 Vd.heap.size (Lt.cells { Lt.zero with kd := 10, fr := (f : Int), tw := IntKind.i64.wrap (IntKind.i64.wrap (100 + tk.tmod (c.ms : Int)) + 1), ch := y.ch }))) := Lib.hid (below_setRow HB.out lG _)
 have HS : (World.setRow x22 Vd.heap.size (Lt.cells { Lt.zero with kd := 10, fr := (f : Int), tw := IntKind.i64.wrap (IntKind.i64.wrap (100 + tk.tmod (c.ms : Int)) + 1), ch := y.ch })).cell? ⟨g, 1, none⟩ = some (.int .i64 c.ms) ∧ (World.setRow x22 Vd.heap.size (Lt.cells { Lt.zero with kd := 10, fr := (f : Int), tw := IntKind.i64.wrap (IntKind.i64.wrap (100 + tk.tmod (c.ms : Int)) + 1), ch := y.ch })).cell? ⟨g, 3, none⟩ = some (.int .i64 tk) ∧ (World.setRow x22 Vd.heap.size (Lt.cells { Lt.zero with kd := 10, fr := (f : Int), tw := IntKind.i64.wrap (IntKind.i64.wrap (100 + tk.tmod (c.ms : Int)) + 1), ch := y.ch })).cell? ⟨g, 4, none⟩ = some (.pointer (some ⟨G, 0, none⟩)) ∧ (World.setRow x22 Vd.heap.size (Lt.cells { Lt.zero with kd := 10, fr := (f : Int), tw := IntKind.i64.wrap (IntKind.i64.wrap (100 + tk.tmod (c.ms : Int)) + 1), ch := y.ch })).cell? ⟨g, 6, none⟩ = some (.int .u32 (k : Int)) := ⟨(HA2.out.below HB.out).box.cell 1, ((HA2.out.below HB.out).box.cell 3).trans (by rw [HTK.out]; rfl), (HA2.out.below HB.out).box.cell 4, ((HA2.out.below HB.out).box.cell 6).trans (by rw [← HKE.out]; rfl)⟩
 have HLM : Hid (LetM2 w2 { Lt.zero with kd := 10, fr := (f : Int), tw := IntKind.i64.wrap (IntKind.i64.wrap (100 + tk.tmod (c.ms : Int)) + 1), ch := y.ch } Vd.heap.size (World.setRow x22 Vd.heap.size (Lt.cells { Lt.zero with kd := 10, fr := (f : Int), tw := IntKind.i64.wrap (IntKind.i64.wrap (100 + tk.tmod (c.ms : Int)) + 1), ch := y.ch }))) := Lib.hid ⟨setRow_heap _ _ _ _ _ _ GB.out, lG, HB.out⟩
 have HWL : Hid (WhereL vs k c.ticked { Lt.zero with kd := 10, fr := (f : Int), tw := IntKind.i64.wrap (IntKind.i64.wrap (100 + tk.tmod (c.ms : Int)) + 1), ch := y.ch }) := Lib.hid ⟨y.val, HONE.out.1, by rw [where_tw c tk hms, HFF.out, HTK.out]; rfl⟩
 refine step_store_row rfl 37 (.tmp 3) (.tmp 40) rfl Vd.heap.size (Lt.cells { Lt.zero with kd := 10, fr := (f : Int), tw := IntKind.i64.wrap (IntKind.i64.wrap (100 + tk.tmod (c.ms : Int)) + 1), ch := y.ch }) rfl rfl 37 ZL GB.out ltInfo rfl (lt_all _) ?_
 refine hK.out _ _ ?_ (fun hHeld => ?_)
 ·first | exact HS | go_keep
 clear hK K
 generalize (World.setRow x22 Vd.heap.size (Lt.cells { Lt.zero with kd := 10, fr := (f : Int), tw := IntKind.i64.wrap (IntKind.i64.wrap (100 + tk.tmod (c.ms : Int)) + 1), ch := y.ch })) = Vb at *
 try simp only [Act.put, pS]
 refine wpAnyH_done (by kernel_rfl) ?_ _
 go_wp2_with (fail)
 go_meet
 case rel => exact ⟨_, _, rfl, HLM, HWL⟩) : p := h
theorem rp9 {p : Prop} (h : p := by
 obtain ⟨k, hk, rfl, hT, hb⟩ := hrel
 by_cases hlt : k < n
 ·obtain ⟨b1, o1, z1, rfl, hb1, hz1, hc1⟩ := reads_at Vt.row (fun _ => rfl) (by omega) (HX.out.below (hb.out.mono hB)) hlt
  obtain ⟨b2, o2, z2, rfl, hb2, hz2, hc2⟩ := reads_at Vt.row (fun _ => rfl) (by omega) (HY.out.below (hb.out.mono hD)) hlt
  have Z1 := Lib.hid hz1
  have Z2 := Lib.hid hz2
  have u0 := hc1 0 _ rfl
  have u1 := hc1 1 _ rfl
  have u2 := hc1 2 _ rfl
  have u3 := hc1 3 _ rfl
  have u4 := hc1 4 _ rfl
  have u5 := hc1 5 _ rfl
  have v0 := hc2 0 _ rfl
  have v1 := hc2 1 _ rfl
  have v2 := hc2 2 _ rfl
  have v3 := hc2 3 _ rfl
  have v4 := hc2 4 _ rfl
  have v5 := hc2 5 _ rfl
  simp only [Nat.add_zero] at u0 v0
  have hbw1 : b1 < wr.heap.size := Nat.lt_of_lt_of_le hb1 (Nat.le_trans hB hb.out.size)
  have hbw2 : b2 < wr.heap.size := Nat.lt_of_lt_of_le hb2 (Nat.le_trans hD hb.out.size)
  clear hz1 hz2 hc1 hc2 hb1 hb2
  by_cases hz : z1 = z2
  ·have HZ := Lib.hid hz
   subst hz
   go_wp2_with (fail)
   go_quiet (fail)
   go_wp2
   go_roundw
   case rel =>
    refine ⟨k + 1, by omega, by go_num, Lib.hid ?_, Lib.hid (below_drewN hb.out _)⟩
    rw [List.take_add_one, List.take_add_one, Z1.out, Z2.out, hT.out]
   case measure => simp [intOf]; omega
  ·have HN : Hid (decide (x = y) = false) := Lib.hid (decide_eq_false (fun h => by
    subst h
    have h1 := Z1.out
    rw [Z2.out] at h1
    exact hz (Option.some.inj h1).symm))
   have HZ := Lib.hid hz
   clear hz
   by_cases q0 : z1.sl = z2.sl
   rotate_left
   ·have e1 : (z1.sl == z2.sl) = false := by simpa using q0
    have e2 : (z1.sl != z2.sl) = true := by simpa using q0
    go_wp2_with (fail)
    go_quiet (fail)
    go_wp2
    go_ret
    exact ⟨ret_bool (by rw [HN.out]), below_drewN hb.out _⟩
   rw [← q0] at v0
   have Q0 := Lib.hid q0
   clear q0
   by_cases q1 : z1.bl = z2.bl
   rotate_left
   ·have e1 : (z1.bl == z2.bl) = false := by simpa using q1
    have e2 : (z1.bl != z2.bl) = true := by simpa using q1
    go_wp2_with (fail)
    go_quiet (fail)
    go_wp2
    go_ret
    exact ⟨ret_bool (by rw [HN.out]), below_drewN hb.out _⟩
   rw [← q1] at v1
   have Q1 := Lib.hid q1
   clear q1
   by_cases q2 : z1.qk = z2.qk
   rotate_left
   ·have e1 : (z1.qk == z2.qk) = false := by simpa using q2
    have e2 : (z1.qk != z2.qk) = true := by simpa using q2
    go_wp2_with (fail)
    go_quiet (fail)
    go_wp2
    go_ret
    exact ⟨ret_bool (by rw [HN.out]), below_drewN hb.out _⟩
   rw [← q2] at v2
   have Q2 := Lib.hid q2
   clear q2
   by_cases q3 : z1.qc = z2.qc
   rotate_left
   ·have e1 : (z1.qc == z2.qc) = false := by simpa using q3
    have e2 : (z1.qc != z2.qc) = true := by simpa using q3
    go_wp2_with (fail)
    go_quiet (fail)
    go_wp2
    go_ret
    exact ⟨ret_bool (by rw [HN.out]), below_drewN hb.out _⟩
   rw [← q3] at v3
   have Q3 := Lib.hid q3
   clear q3
   by_cases q4 : z1.qe = z2.qe
   rotate_left
   ·have e1 : (z1.qe == z2.qe) = false := by simpa using q4
    have e2 : (z1.qe != z2.qe) = true := by simpa using q4
    go_wp2_with (fail)
    go_quiet (fail)
    go_wp2
    go_ret
    exact ⟨ret_bool (by rw [HN.out]), below_drewN hb.out _⟩
   rw [← q4] at v4
   have Q4 := Lib.hid q4
   clear q4
   by_cases q5 : z1.qn = z2.qn
   rotate_left
   ·have e1 : (z1.qn == z2.qn) = false := by simpa using q5
    have e2 : (z1.qn != z2.qn) = true := by simpa using q5
    go_wp2_with (fail)
    go_quiet (fail)
    go_wp2
    go_ret
    exact ⟨ret_bool (by rw [HN.out]), below_drewN hb.out _⟩
   rw [← q5] at v5
   have Q5 := Lib.hid q5
   clear q5
   exfalso
   exact HZ.out (by
    have e0 := Q0.out
    have e1 := Q1.out
    have e2 := Q2.out
    have e3 := Q3.out
    have e4 := Q4.out
    have e5 := Q5.out
    cases z1
    cases z2
    simp_all)
 ·have hke : k = n := by omega
  subst hke
  go_wp2
  go_ret
  refine ⟨ret_bool ?_, hb.out⟩
  rw [decide_eq_true]
  have := hT.out
  rwa [List.take_of_length_le (by have := LX.out; omega), List.take_of_length_le (by have := LY.out; omega)] at this) : p := h
theorem rp10 {p : Prop} (h : p := by
 (have HX := Lib.hid (upOk_no (u := u) (r := false) (fun h => by unfold upOkP at h; simp at h; omega)); go_enter Tryz.func312, Tryz.ntmps312; go_wp2_with (fail); go_ret; exact ⟨by rw [← HX.out]; rfl, by repeat (first | with_reducible exact Below.refl _ _ | with_reducible refine Below.setCell ?_ (by first | omega | (simp <;> omega)) _ | with_reducible refine Below.alloc ?_ (by first | omega | (simp <;> omega)) _ | with_reducible refine below_drewN ?_ _ | with_reducible refine Below.drew ?_)⟩)) : p := h
theorem rp11 {p : Prop} (h : p := by
 (have HX := Lib.hid (upOk_no (u := u) (r := true) (fun h => by unfold upOkP at h; simp at h; omega)); go_enter Tryz.func312, Tryz.ntmps312; go_wp2_with (fail); go_ret; exact ⟨by rw [← HX.out]; rfl, by repeat (first | with_reducible exact Below.refl _ _ | with_reducible refine Below.setCell ?_ (by first | omega | (simp <;> omega)) _ | with_reducible refine Below.alloc ?_ (by first | omega | (simp <;> omega)) _ | with_reducible refine below_drewN ?_ _ | with_reducible refine Below.drew ?_)⟩)) : p := h
theorem rp12 {p : Prop} (h : p := by
 try simp only [Act.put, pS]
 refine tkT 5 rfl (v := ?_) ?_ ?_
 rotate_left 1
 ·(intro wq hSw; (try dsimp only at hSw); go_simp; (try with_reducible rfl))
 try simp only [Act.put, pS]
 refine tkT 6 rfl (v := ?_) ?_ ?_
 rotate_left 1
 ·(intro wq hSw; (try dsimp only at hSw); go_simp; (try with_reducible rfl))
 try simp only [Act.put, pS]
 refine wpAnyH_take (i := 7) (v := undef) rfl (by kernel_rfl) (by kernel_rfl) (by kernel_rfl) (fun _ _ _ h => h) (Or.inr ⟨by rfl, rfl⟩) (by assumption) ?_
 try simp only [Act.put, pS]
 refine wpAnyH_take (i := 8) (v := undef) rfl (by kernel_rfl) (by kernel_rfl) (by kernel_rfl) (fun _ _ _ h => h) (Or.inr ⟨by rfl, rfl⟩) (by assumption) ?_
 try simp only [Act.put, pS]
 refine wpAnyH_take (i := 9) (v := undef) rfl (by kernel_rfl) (by kernel_rfl) (by kernel_rfl) (fun _ _ _ h => h) (Or.inr ⟨by rfl, rfl⟩) (by assumption) ?_
 try simp only [Act.put, pS]
 refine wpAnyH_take (i := 10) (v := undef) rfl (by kernel_rfl) (by kernel_rfl) (by kernel_rfl) (fun _ _ _ h => h) (Or.inr ⟨by rfl, rfl⟩) (by assumption) ?_
 try simp only [Act.put, pS]
 refine wpAnyH_take (i := 11) (v := undef) rfl (by kernel_rfl) (by kernel_rfl) (by kernel_rfl) (fun _ _ _ h => h) (Or.inr ⟨by rfl, rfl⟩) (by assumption) ?_
 try simp only [Act.put, pS]
 refine wpAnyH_take (i := 12) (v := undef) rfl (by kernel_rfl) (by kernel_rfl) (by kernel_rfl) (fun _ _ _ h => h) (Or.inr ⟨by rfl, rfl⟩) (by assumption) ?_
 try simp only [Act.put, pS]
 refine wpAnyH_take (i := 13) (v := undef) rfl (by kernel_rfl) (by kernel_rfl) (by kernel_rfl) (fun _ _ _ h => h) (Or.inr ⟨by rfl, rfl⟩) (by assumption) ?_
 try simp only [Act.put, pS]
 refine tkT 14 rfl (v := ?_) ?_ ?_
 rotate_left 1
 ·(intro wq hSw; (try dsimp only at hSw); go_simp; (try with_reducible rfl))
 try simp only [Act.put, pS]
 refine wpAnyH_done (by kernel_rfl) ?_ _
 skip
 go_upto_region 8 with (fail)
 iterate 1 go_step
 refine wpList_load_row rfl 62 (.tmp 2) rfl w.heap.size rfl 62 (c.dcells (d.learnt A' c')) (0, 0) _ HX.out Tryz.underlying62 rfl dcInfo ?_
 refine wpList_store_row rfl 62 (.tmp 4) (.tmp 51) rfl (w.heap.size + 2) (c.dcells (d.learnt A' c')) rfl rfl 62 #[.int .i64 0, .int .i64 0, .int .u64 0, .int .i64 0, .slice none 0 0, .int .i64 0, .int .u32 0, .int .u64 0, .slice none 0 0, .int .i64 0, .int .i64 0, .int .i64 0, .int .u64 0, .slice none 0 0, .int .u64 0, .int .i64 0, .int .u64 0, .slice none 0 0] HR.out dcInfo rfl (dc_all _ _) ?_
 have HR3 := Lib.hid (show Blk (World.setRow Vd (w.heap.size + 2) (c.dcells (d.learnt A' c'))) (w.heap.size + 2) 62 (c.dcells (d.learnt A' c')) from setRow_heap _ _ _ _ _ _ HR.out)
 have HB3 := Lib.hid (setRow_below HB.out HB.out.size (Nat.le_add_right _ 2) (g := w.heap.size + 2) (c.dcells (d.learnt A' c')))
 have HCR : Chg Vd (World.setRow Vd (w.heap.size + 2) (c.dcells (d.learnt A' c'))) (fun i => i = w.heap.size ∨ i = w.heap.size + 2) := (chg_row9 _ _ _).mono (fun _ _ e => .inr e)
 generalize World.setRow Vd (w.heap.size + 2) (c.dcells (d.learnt A' c')) = W3 at *
 go_wp2_with (fail)
 refine bodyPost_ret_by (results_cell_row_tmp Tryz.results26 _ _ (w.heap.size + 2) 62 (c.dcells (d.learnt A' c')) (0, 0) _ _ rfl HR3.out rfl Tryz.underlying62 rfl dcInfo) rfl ?_
 exact ⟨HB3.out, A', c', l', (HW5.out _ (HC.out.trans HCR (fun _ _ e => e))).more (Nat.le_trans HC.out.size HCR.size), HVV.out, ⟨hc1, hc2⟩, HAA.out, HMM.out, .inr ⟨HNOW.out, rfl⟩⟩) : p := h
theorem rp13 {p : Prop} (h : p := by
 go_upto_region 32 with (fail)
 refine wp_region_held_drew (S := fun wq => wq.cell? ⟨w.heap.size, 0, none⟩ = some (.int .i64 (kc : Int))) (by kernel_rfl) (HP.out.who.cell 0) (fun hHeld => ?_)
 have HBD : Hid (Below wr.heap.size wr wr.drew) := Lib.hid (Below.refl _ _).drew
 generalize wr.drew = Vd at HBD hHeld ⊢
 refine tkT 0 rfl (v := ?_) ?_ ?_
 rotate_left 1
 ·(intro wq hSw; (try dsimp only at hSw); go_simp; (try with_reducible rfl))
 try simp only [Act.put, pS]
 refine tkT 1 rfl (v := ?_) ?_ ?_
 rotate_left 1
 ·(intro wq hSw; (try dsimp only at hSw); go_simp; (try with_reducible rfl))
 try simp only [Act.put, pS]
 refine tkT 2 rfl (v := ?_) ?_ ?_
 rotate_left 1
 ·(intro wq hSw; (try dsimp only at hSw); go_simp; (try with_reducible rfl))
 try simp only [Act.put, pS]
 refine tkT 3 rfl (v := ?_) ?_ ?_
 rotate_left 1
 ·(intro wq hSw; (try dsimp only at hSw); go_simp; (try with_reducible rfl))
 try simp only [Act.put, pS]
 refine tkT 5 rfl (v := ?_) ?_ ?_
 rotate_left 1
 ·(intro wq hSw; (try dsimp only at hSw); go_simp; (try with_reducible rfl))
 try simp only [Act.put, pS]
 refine tkT 6 rfl (v := ?_) ?_ ?_
 rotate_left 1
 ·(intro wq hSw; (try dsimp only at hSw); go_simp; (try with_reducible rfl))
 try simp only [Act.put, pS]
 refine tkT 7 rfl (v := ?_) ?_ ?_
 rotate_left 1
 ·(intro wq hSw; (try dsimp only at hSw); go_simp; (try with_reducible rfl))
 try simp only [Act.put, pS]
 refine wpAnyH_ready (rs := [4]) (by kernel_rfl) (by simp) ?_
 refine (AllReadyH.cons rfl (fun K hK => ?_) AllReadyH.nil)
 go_simp
 refine (AD.out _ HBD.out).mono ?_
 rintro e x9 ⟨rfl, rfl⟩
 have HS := hHeld
 refine hK.out _ _ ?_ (fun hHeld => ?_)
 ·first | exact HS | go_keep
 clear hK K
 try simp only [Act.put, pS]
 refine tkT 8 rfl (v := ?_) ?_ ?_
 rotate_left 1
 ·(intro wq hSw; (try dsimp only at hSw); go_simp; (try with_reducible rfl))
 try simp only [Act.put, pS]
 refine tkT 9 rfl (v := ?_) ?_ ?_
 rotate_left 1
 ·(intro wq hSw; (try dsimp only at hSw); go_simp; (try with_reducible rfl))
 try simp only [Act.put, pS]
 refine tkT 10 rfl (v := ?_) ?_ ?_
 rotate_left 1
 ·(intro wq hSw; (try dsimp only at hSw); go_simp; (try with_reducible rfl))
 try simp only [Act.put, pS]
 refine wpAnyH_ready (rs := [11]) (by kernel_rfl) (by simp) ?_
 refine (AllReadyH.cons rfl (fun K hK => ?_) AllReadyH.nil)
 go_simp
 refine (awake26b_any _ (HK.out.below (HP.out.bel.trans (HBD.out.mono HP.out.bel.size)))).mono ?_
 rintro e x1 ⟨rfl, hb⟩
 have HBE := Lib.hid (HBD.out.trans (hb.mono HBD.out.size))
 have HS : x1.cell? ⟨w.heap.size, 0, none⟩ = some (.int .i64 (kc : Int)) := (HP.out.who.below HBE.out HP.out.who.lt).cell 0
 clear hb
 refine hK.out _ _ ?_ (fun hHeld => ?_)
 ·first | exact HS | go_keep
 clear hK K
 try simp only [Act.put, pS]
 refine tkT 12 rfl (v := ?_) ?_ ?_
 rotate_left 1
 ·(intro wq hSw; (try dsimp only at hSw); go_simp; (try with_reducible rfl))
 try simp only [Act.put, pS]
 refine tkT 13 rfl (v := ?_) ?_ ?_
 rotate_left 1
 ·(intro wq hSw; (try dsimp only at hSw); go_simp; (try with_reducible rfl))
 try simp only [Act.put, pS]
 refine wpAnyH_done (by kernel_rfl) ?_ _
 skip
 go_wp2_with (fail)
 go_ret
 exact ⟨rfl, HP.out.bel.trans (HBE.out.mono HP.out.bel.size)⟩) : p := h
theorem rp14 {p : Prop} (h : p := by
 go_upto_region 1 with (fail)
 have e0 := HW.out
 simp only [Lt.cells] at e0
 first | rw [← e0] | rw [← HW.out]
 clear e0
 go_wp2_with (fail)
 go_ret
 exact ⟨ret_bool (by first | (simp [a0, a1]; done) | (simp [a0, a1]; omega)), HB.out⟩) : p := h
theorem rp15 {p : Prop} (h : p := by
 go_enter Tryz.func118, Tryz.ntmps118
 go_upto_region 1 with (fail)
 rw [← HW.out]
 go_wp2_with (fail)
 go_ret
 exact ⟨by rw [HN.out]; rfl, HB.out⟩) : p := h
theorem rp16 {p : Prop} (h : p := by
 go_enter Tryz.func11, Tryz.ntmps11
 go_upto_region 1 with (fail)
 rw [← HW.out]
 go_wp2_with (fail)
 go_ret
 exact ⟨by rw [HN.out]; rfl, HB.out⟩) : p := h
theorem rp17 {p : Prop} (h : p := by
 try simp only [Act.put, pS]
 refine tkV 29 rfl ?_
 try simp only [Act.put, pS]
 refine tkV 30 rfl ?_
 try simp only [Act.put, pS]
 refine tkU 31 rfl ?_
 try simp only [Act.put, pS]
 refine tkU 32 rfl ?_
 try simp only [Act.put, pS]
 refine tkU 33 rfl ?_
 try simp only [Act.put, pS]
 refine tkU 34 rfl ?_
 try simp only [Act.put, pS]
 refine tkV 35 rfl ?_
 try simp only [Act.put, pS]
 refine wpAnyH_done (by kernel_rfl) ?_ _
 clear hHeld
 go_wp2_with (fail)
 go_ret
 exact ⟨by rw [HN.out]; rfl, HBB.out.trans (HB1.out.drew.mono hsB)⟩) : p := h
theorem rp18 {p : Prop} (h : p := by
 try simp only [Act.put, pS]
 refine tkV 28 rfl ?_
 try simp only [Act.put, pS]
 refine tkV 29 rfl ?_
 try simp only [Act.put, pS]
 refine tkU 30 rfl ?_
 try simp only [Act.put, pS]
 refine tkU 31 rfl ?_
 try simp only [Act.put, pS]
 refine tkU 32 rfl ?_
 try simp only [Act.put, pS]
 refine tkU 33 rfl ?_
 try simp only [Act.put, pS]
 refine tkV 34 rfl ?_
 try simp only [Act.put, pS]
 refine wpAnyH_done (by kernel_rfl) ?_ _
 clear hHeld
 go_wp2_with (fail)
 go_ret
 exact ⟨by rw [HN.out]; rfl, HB1.out.drew⟩) : p := h
theorem rp19 {p : Prop} (h : p := by
 exact ⟨rfl, by repeat (first | with_reducible exact Below.refl _ _ | with_reducible refine Below.setCell ?_ (by first | omega | (simp <;> omega)) _ | with_reducible refine Below.alloc ?_ (by first | omega | (simp <;> omega)) _ | with_reducible refine below_drewN ?_ _ | with_reducible refine Below.drew ?_)⟩) : p := h
theorem rp20 {p : Prop} (h : p := by
 have hN := Lib.hid (Cf.right_no (x := x) (fun h => by have q1 := h.1; have q2 := h.2.1; have q3 := h.2.2.1; omega))
 go_wp2_with (fail)
 go_ret
 exact ⟨ret_bool hN.out, (Below.refl _ _).alloc (Nat.le_refl _) _⟩) : p := h
theorem rp21 {p : Prop} (h : p := by
 have hks := hk
 rcases hks with hkk | hkk
 all_goals (have HX := Lib.hid (updE_bad (u := u) (r := false) hk (by omega) (fun h => by unfold upOkP at h; simp at h; omega)); clear hw; go_enter Tryz.func239, Tryz.ntmps239; go_wp2_with (fail); go_ret; exact ⟨by rw [← HX.out]; rfl, by repeat (first | with_reducible exact Below.refl _ _ | with_reducible refine Below.setCell ?_ (by first | omega | (simp <;> omega)) _ | with_reducible refine Below.alloc ?_ (by first | omega | (simp <;> omega)) _ | with_reducible refine below_drewN ?_ _ | with_reducible refine Below.drew ?_)⟩)) : p := h
theorem rp22 {p : Prop} (h : p := by
 have hks := hk
 rcases hks with hkk | hkk
 all_goals (have HX := Lib.hid (updE_bad (u := u) (r := true) hk (by omega) (fun h => by unfold upOkP at h; simp at h; omega)); clear hw; go_enter Tryz.func239, Tryz.ntmps239; go_wp2_with (fail); go_ret; exact ⟨by rw [← HX.out]; rfl, by repeat (first | with_reducible exact Below.refl _ _ | with_reducible refine Below.setCell ?_ (by first | omega | (simp <;> omega)) _ | with_reducible refine Below.alloc ?_ (by first | omega | (simp <;> omega)) _ | with_reducible refine below_drewN ?_ _ | with_reducible refine Below.drew ?_)⟩)) : p := h
theorem rp23 {p : Prop} (h : p := by
 have := congrArg (fun v : Int × Int × Int × Int × Int × Int × List Int => v.2.2.2.2.2.2.length) HUV.out
 have this : u.bs.length = (reqV (reqE c.op c.cl c.num) (reqU c.op c.cl c.num none 0)).bs.length := this
 rw [this]
 unfold reqV
 split
 ·rw [show (reqU c.op c.cl c.num none 0).bs = c.op.bs from rfl, HBN.out]; exact hn
 ·exact Nat.zero_le _) : p := h
theorem rp24 {p : Prop} (h : p := by
 by_cases h18 : x.l.kd = 18
 ·have k1 : (x.l.kd == 11) = false := by simp [h18]
  have k2 : (x.l.kd == 18) = true := by simp [h18]
  have k3 : (x.l.kd == 20) = false := by simp [h18]
  clear h18
  go_wp2_with (fail)
  go_ret
  exact ⟨rfl, HA5.out, HB5.out⟩
 by_cases h20 : x.l.kd = 20
 ·have k1 : (x.l.kd == 11) = false := by simp [h20]
  have k2 : (x.l.kd == 18) = false := by simp [h20]
  have k3 : (x.l.kd == 20) = true := by simp [h20]
  clear h18 h20
  go_upto_region 13 with (fail)
  go_quiet (fail)
  go_wp2_with (fail)
  go_ret
  exact ⟨rfl, HA5.out.below (below_drewN (Below.refl _ _) _), below_drewN HB5.out _⟩
 have k1 : (x.l.kd == 11) = false := by simp [HK11.out]
 have k2 : (x.l.kd == 18) = false := by simp [h18]
 have k3 : (x.l.kd == 20) = false := by simp [h20]
 clear h18 h20
 go_wp2_with (fail)
 go_ret
 exact ⟨rfl, HA5.out, HB5.out⟩) : p := h
theorem rp25 {p : Prop} (h : p := by
 unfold wordP Pm.agg
 clear h hb2
 go_wp2_with (fail)
 refine bodyPost_ret (v := (wordP (.func 194) g1).agg) (by simp [results, Tryz.results115, go_sem, p0, p1, p2, smallP, wordP, plainP, Pm.agg]) rfl ?_
 exact ⟨wordP (.func 194) g1, rfl, ⟨_, rfl, by intro b hb; have h5 := hx.out b hb; refine ⟨?_, h5.2⟩; repeat (first | with_reducible exact h5.1 | with_reducible refine Blk.far ?_ (hne b hb) _)⟩, by repeat (first | with_reducible exact HB2.out | with_reducible refine Below.setCell ?_ (by first | omega | (simp <;> omega) | simp) _)⟩) : p := h
theorem rp26 {p : Prop} (h : p := by
 try simp only [Act.put, pS]
 refine tkT 9 rfl (v := ?_) ?_ ?_
 rotate_left 1
 ·(intro wq hSw; (try dsimp only at hSw); go_simp; (try with_reducible rfl))
 try simp only [Act.put, pS]
 refine tkT 10 rfl (v := ?_) ?_ ?_
 rotate_left 1
 ·(intro wq hSw; (try dsimp only at hSw); go_simp; (try with_reducible rfl))
 try simp only [Act.put, pS]
 refine wpAnyH_take (i := 11) (v := undef) rfl (by kernel_rfl) (by kernel_rfl) (by kernel_rfl) (fun _ _ _ h => h) (Or.inr ⟨by rfl, rfl⟩) (by assumption) ?_
 try simp only [Act.put, pS]
 refine wpAnyH_take (i := 12) (v := undef) rfl (by kernel_rfl) (by kernel_rfl) (by kernel_rfl) (fun _ _ _ h => h) (Or.inr ⟨by rfl, rfl⟩) (by assumption) ?_
 try simp only [Act.put, pS]
 refine wpAnyH_take (i := 13) (v := undef) rfl (by kernel_rfl) (by kernel_rfl) (by kernel_rfl) (fun _ _ _ h => h) (Or.inr ⟨by rfl, rfl⟩) (by assumption) ?_
 try simp only [Act.put, pS]
 refine wpAnyH_take (i := 14) (v := undef) rfl (by kernel_rfl) (by kernel_rfl) (by kernel_rfl) (fun _ _ _ h => h) (Or.inr ⟨by rfl, rfl⟩) (by assumption) ?_
 try simp only [Act.put, pS]
 refine wpAnyH_take (i := 15) (v := undef) rfl (by kernel_rfl) (by kernel_rfl) (by kernel_rfl) (fun _ _ _ h => h) (Or.inr ⟨by rfl, rfl⟩) (by assumption) ?_
 try simp only [Act.put, pS]
 refine tkT 16 rfl (v := ?_) ?_ ?_
 rotate_left 1
 ·(intro wq hSw; (try dsimp only at hSw); go_simp; (try with_reducible rfl))
 try simp only [Act.put, pS]
 refine wpAnyH_done (by kernel_rfl) ?_ _
 go_wp2_with (fail)
 go_ret
 exact ⟨by rw [HCF.out]; rfl, HB.out.trans ((HE.out.1.trans (HQ.out.mono hbs)).mono hsB)⟩) : p := h
theorem rp27 {p : Prop} (h : p := by
 intro v4 w4 hown hg hat
 replace HB := Lib.hid (HB.out.grown hg HB.out.size (fun g hg' => (HQ.out.lt g hg').1))
 have HO4 := Lib.hid hown
 replace HBq := Lib.hid (HBq.out.grown hg (Nat.le_trans hql HBq.out.size) (fun g hg' => (HQ2.out.lt g hg').1))
 have HS : Blk w4 g3 37 l.cells := HBL.out.below HB.out l3
 clear hown hg hat
 refine hK.out _ _ ?_ (fun hHeld => ?_)
 ·first | exact HS | go_keep
 clear hK K
 try simp only [Act.put, pS]
 refine tkT 5 rfl (v := ?_) ?_ ?_
 rotate_left 1
 ·(intro wq hSw; (try dsimp only at hSw); go_simp; (try with_reducible rfl))
 try simp only [Act.put, pS]
 refine wpAnyH_done (by kernel_rfl) ?_ _
 obtain ⟨A4, c4, e4, hr4, _, _⟩ := own_slice HO4.out
 have HR4 := Lib.hid hr4
 clear hr4
 have HBQ := HBq
 have HXQ := HX1
 have HXL := HXC
 have hql9 := hql
 subst e4
 have HC4 := Lib.hid (HC2.out.trans (Chg.of_below (HB0.out.trans (HB.out.mono hs2)) _) (fun _ _ e => e))
 have HA4 := Lib.hid (HA2.out.below (HB0.out.trans (HB.out.mono hs2)))
 go_wp2_with (fail)
 go_ret
 obtain ⟨hlw, hwv⟩ := where_in HVS.out hcl hms HWL.out
 refine ⟨HA4.out, HC4.out, .inr ⟨HST.out, _, _, xx, ⟨l, [], [], [], []⟩, rfl, ⟨?_, ?_⟩, HXQ.out.2.2, hwv⟩⟩
 ·have e : [xx, (⟨l, [], [], [], []⟩ : LV)].flatMap lrow = xs1 ++ l.cells.toList := by rw [← HXL.out]; simp [lrow]
  rw [e]
  exact HR4.out
 ·intro x hx
  simp only [List.mem_cons, List.not_mem_nil, or_false] at hx
  rcases hx with rfl | rfl
  ·exact ⟨(HXQ.out.1.below HBQ.out).more (Nat.le_trans hql9 HBQ.out.size), HXQ.out.2.1⟩
  ·exact ⟨(hlw _ _).1, (hlw wc 0).2⟩) : p := h
theorem rp28 {p : Prop} (h : p := by
 go_upto_region 1 with (fail)
 have e0 := HW.out
 simp only [Lt.cells] at e0
 first | rw [← e0] | rw [← HW.out]
 clear e0
 go_wp2_with (fail)
 go_ret
 exact ⟨ret_bool (by first | (simp [a0]; done) | (simp [a0]; omega)), HB.out⟩) : p := h
theorem rp29 {p : Prop} (h : p := by
 go_enter Tryz.func264, Tryz.ntmps264
 go_upto_region 1 with (fail)
 rw [← HW.out]
 go_wp2_with (fail)
 go_ret
 exact ⟨by rw [HV.out]; rfl, HB.out⟩) : p := h
theorem rp30 {p : Prop} (h : p := by
 go_enter Tryz.func137, Tryz.ntmps137
 go_upto_region 1 with (fail)
 rw [← HW.out]
 go_wp2_with (fail)
 go_ret
 exact ⟨by rw [HV.out]; rfl, HB.out⟩) : p := h
theorem rp31 {p : Prop} (h : p := by
 obtain ⟨W0, hW0, hb0, hbk⟩ := box_all x w; have hl := hbk.lt; have HB := Lib.hid hb0; have HW := Lib.hid hW0; have BK := Lib.hid hbk; clear hb0 hW0 hbk
 go_enter Tryz.func62, Tryz.ntmps62
 go_upto_region 1 with (fail)
 have e0 := HW.out
 simp only [Lt.cells] at e0
 first | rw [← e0] | rw [← HW.out]
 clear e0
 go_wp2_with (fail)
 go_ret
 exact ⟨rfl, HB.out⟩) : p := h
theorem rp32 {p : Prop} (h : p := by
 try simp only [Act.put, pS]
 refine wpAnyH_ready (rs := [8]) (by kernel_rfl) (by simp) ?_
 refine (AllReadyH.cons rfl (fun K hK => ?_) AllReadyH.nil)
 replace HB : Hid (Below w.heap.size w (World.setRow Va Vd.heap.size (askHd (f : Int) y).cells)) := Lib.hid (below_setRow HB.out lG _)
 replace GC : Hid (Blk (World.setRow Va Vd.heap.size (askHd (f : Int) y).cells) g3 33 y.cells) := Lib.hid (GC.out.below (below_setRow (Below.refl Vd.heap.size Va) (Nat.le_refl _) _) lC)
 have HS : (World.setRow Va Vd.heap.size (askHd (f : Int) y).cells).cell? ⟨g3, 0, none⟩ = some (.int .i64 y.ch) ∧ (World.setRow Va Vd.heap.size (askHd (f : Int) y).cells).cell? ⟨g3, 1, none⟩ = some (.int .u64 (y.ep : Int)) := ⟨GC.out.cell 0, GC.out.cell 1⟩
 have HLM : Hid (LetM2 w (askHd (f : Int) y) Vd.heap.size (World.setRow Va Vd.heap.size (askHd (f : Int) y).cells)) := Lib.hid ⟨setRow_heap _ _ _ _ _ _ GB.out, lG, HB.out⟩
 refine step_store_row rfl 37 (.tmp 4) (.tmp 23) rfl Vd.heap.size (askHd (f : Int) y).cells rfl rfl 37 ZL GB.out ltInfo rfl (lt_all _) ?_
 refine hK.out _ _ ?_ (fun hHeld => ?_)
 ·first | exact HS | go_keep
 clear hK K
 generalize (World.setRow Va Vd.heap.size (askHd (f : Int) y).cells) = Vb at *
 try simp only [Act.put, pS]
 refine wpAnyH_done (by kernel_rfl) ?_ _
 go_wp2_with (fail)
 go_meet
 case rel => exact ⟨_, rfl, HLM⟩) : p := h
theorem rp33 {p : Prop} (h : p := by
 clear hlo
 go_upto_region 4 with (fail)
 iterate 1 go_step
 refine wpList_load_row rfl 62 (.tmp 2) rfl w.heap.size rfl 62 (c.dcells d) (0, 0) _ HX.out Tryz.underlying62 rfl dcInfo ?_
 skip
 refine wpList_store_row rfl 62 (.tmp 4) (.tmp 21) rfl (w.heap.size + 2) (c.dcells d) rfl rfl 62 #[.int .i64 0, .int .i64 0, .int .u64 0, .int .i64 0, .slice none 0 0, .int .i64 0, .int .u32 0, .int .u64 0, .slice none 0 0, .int .i64 0, .int .i64 0, .int .i64 0, .int .u64 0, .slice none 0 0, .int .u64 0, .int .i64 0, .int .u64 0, .slice none 0 0] HR.out dcInfo rfl (dc_all _ _) ?_
 have HR3 := Lib.hid (show Blk (World.setRow W1 (w.heap.size + 2) (c.dcells d)) (w.heap.size + 2) 62 (c.dcells d) from setRow_heap _ _ _ _ _ _ HR.out)
 have HB3 := Lib.hid (setRow_below HB.out HB.out.size (Nat.le_add_right _ 2) (g := w.heap.size + 2) (c.dcells d))
 generalize World.setRow W1 (w.heap.size + 2) (c.dcells d) = W3 at *
 go_wp2_with (fail)
 refine bodyPost_ret_by (results_cell_row_tmp2 Tryz.results24 _ _ (w.heap.size + 2) 62 (c.dcells d) (0, 0) _ _ _ rfl HR3.out rfl rfl Tryz.underlying62 rfl dcInfo) rfl ?_
 have he : beginE c o = 1 := by unfold beginE chkE; rw [if_neg HST.out, if_neg (by omega), if_neg (by omega)]
 exact ⟨HB3.out, .inl ⟨by rw [he]; decide, by rw [he]; rfl⟩⟩) : p := h
theorem rp34 {p : Prop} (h : p := by
 obtain ⟨k, hk, rfl, hT, hb⟩ := hrel
 by_cases hlt : k < n
 ·obtain ⟨ad1, z1, rfl, _, hz1, hc1⟩ := reads_int (HX.out.below (hb.out.mono hB)) hlt
  obtain ⟨ad2, z2, rfl, _, hz2, hc2⟩ := reads_int (HY.out.below (hb.out.mono hD)) hlt
  have Z1 := Lib.hid hz1
  have Z2 := Lib.hid hz2
  clear hz1 hz2
  by_cases hz : z1 = z2
  ·have hz' : (z1 != z2) = false := by simp [hz]
   have HZ := Lib.hid hz
   clear hz
   go_wp2_with (fail)
   go_quiet (fail)
   go_wp2
   go_roundw
   case rel =>
    refine ⟨k + 1, by omega, by go_num, Lib.hid ?_, Lib.hid (below_drewN hb.out _)⟩
    rw [List.take_add_one, List.take_add_one, Z1.out, Z2.out, hT.out, HZ.out]
   case measure => simp [intOf]; omega
  ·have hz' : (z1 != z2) = true := by simp [hz]
   have HZ := Lib.hid hz
   clear hz
   go_wp2_with (fail)
   go_quiet (fail)
   go_wp2
   go_ret
   refine ⟨ret_bool ?_, below_drewN hb.out _⟩
   rw [decide_eq_false]
   intro h
   subst h
   have h1 := Z1.out
   rw [Z2.out] at h1
   exact HZ.out (Option.some.inj h1).symm
 ·have hke : k = n := by omega
  subst hke
  go_wp2
  go_ret
  refine ⟨ret_bool ?_, hb.out⟩
  rw [decide_eq_true]
  have := hT.out
  rwa [List.take_of_length_le (by have := LX.out; omega), List.take_of_length_le (by have := LY.out; omega)] at this) : p := h
theorem rp35 {p : Prop} (h : p := by
 have h5 := hx b hb
 have h6 := h5.1
 unfold Blk at h6 hb2
 rw [e, hb2] at h6
 injection h6 with h6
 injection h6 with _ ht _
 exact boxT_ne h5.2 (by decide) (by decide) (by decide) ht.symm) : p := h
theorem rp36 {p : Prop} (h : p := by
 have hke : k = n := by omega
 subst hke
 go_wp2
 go_ret
 refine ⟨ret_bool ?_, hb.out⟩
 rw [decide_eq_true]
 have := hT.out
 rwa [List.take_of_length_le (by have := LX.out; omega), List.take_of_length_le (by have := LY.out; omega)] at this) : p := h
theorem rp37 {p : Prop} (h : p := by
 try simp only [Act.put, pS]
 refine tkT 11 rfl (v := ?_) ?_ ?_
 rotate_left 1
 ·(intro wq hSw; (try dsimp only at hSw); go_simp; (try with_reducible rfl))
 try simp only [Act.put, pS]
 refine tkT 12 rfl (v := ?_) ?_ ?_
 rotate_left 1
 ·(intro wq hSw; (try dsimp only at hSw); go_simp; (try with_reducible rfl))
 try simp only [Act.put, pS]
 refine wpAnyH_take (i := 13) (v := undef) rfl (by kernel_rfl) (by kernel_rfl) (by kernel_rfl) (fun _ _ _ h => h) (Or.inr ⟨by rfl, rfl⟩) (by assumption) ?_
 try simp only [Act.put, pS]
 refine wpAnyH_take (i := 14) (v := undef) rfl (by kernel_rfl) (by kernel_rfl) (by kernel_rfl) (fun _ _ _ h => h) (Or.inr ⟨by rfl, rfl⟩) (by assumption) ?_
 try simp only [Act.put, pS]
 refine tkT 15 rfl (v := ?_) ?_ ?_
 rotate_left 1
 ·(intro wq hSw; (try dsimp only at hSw); go_simp; (try with_reducible rfl))
 try simp only [Act.put, pS]
 refine tkT 16 rfl (v := ?_) ?_ ?_
 rotate_left 1
 ·(intro wq hSw; (try dsimp only at hSw); go_simp; (try with_reducible rfl))
 try simp only [Act.put, pS]
 refine wpAnyH_done (by kernel_rfl) ?_ _
 go_wp2_with (fail)
 go_meet
 case rel => exact ⟨⟨_, rfl⟩, HB⟩) : p := h
theorem rp38 {p : Prop} (h : p := by
 go_wp2_with (fail)
 go_roundw
 case rel => exact ⟨k + 1, by omega, by go_num, Lib.hid (fun j x hj hx => by
  by_cases hjk : j < k
  ·exact HO.out j x hjk hx
  ·obtain rfl : j = k := by omega
   rw [HV.out] at hx
   injection hx with hx
   subst hx
   exact HVO.out), HBE⟩
 case measure => simp [intOf]; omega) : p := h
theorem rp39 {p : Prop} (h : p := by
 rintro e w1 ⟨rfl, h⟩
 have H1 := Lib.hid (HB.out.trans (h.mono HB.out.size))
 clear h
 go_wp2_with (fail)
 go_ret
 exact ⟨rfl, H1.out⟩) : p := h
theorem rp40 {p : Prop} (h : p := by
 go_enter Tryz.func74, Tryz.ntmps74
 go_upto_region 1 with (fail)
 rw [show w.alloc (.cells #[.int .i64 o.kd, .int .u32 o.key, .int .u64 o.ver, .slice o.A o.n o.c, .int .i64 o.pick] 58) = W5 from HW5.out.symm]
 go_wp2_with (fail)
 go_ret
 exact ⟨rfl, HBW.out⟩) : p := h
theorem rp41 {p : Prop} (h : p := by
 go_enter Tryz.func138, Tryz.ntmps138
 have hY := Lib.hid (Cf.right_yes (x := x) ⟨by omega, by omega, by omega, fun q => by rw [hf] at q; first | exact Bool.noConfusion q | omega⟩)
 go_wp2_with (fail)
 refine (stands_at x B _ _ (by simp [Cf.agg, *]) (HX.out.alloc hB _) (by simp; omega) (by omega)).mono ?_
 rintro e w1 ⟨v, rfl, g1, g2⟩
 obtain ⟨A1, c1, rfl, gr, gn1, gm1⟩ := own_slice g1
 have HR := Lib.hid gr
 have H2 := Lib.hid g2
 clear g1 g2 gr
 go_wp2_with (fail)
 refine (refUnlike_any A1 _ c1 _ x.stands _ HR.out gn1 gm1).mono ?_
 rintro e w2 ⟨rfl, g2⟩
 have H3 := Lib.hid (H2.out.trans (g2.mono H2.out.size))
 clear g2
 go_wp2
 go_ret
 exact ⟨ret_bool hY.out, ((Below.refl _ _).alloc (Nat.le_refl _) _).trans (H3.out.mono (by simp))⟩) : p := h
theorem rp42 {p : Prop} (h : p := by
 go_enter Tryz.func231, Tryz.ntmps231
 have hY := Lib.hid (Cf.right_yes (x := x) ⟨by omega, by omega, by omega, fun q => by rw [hf] at q; first | exact Bool.noConfusion q | omega⟩)
 go_wp2_with (fail)
 refine (everybody_at x B _ _ (by simp [Cf.agg, *]) (HX.out.alloc hB _) (by simp; omega) (by omega)).mono ?_
 rintro e w1 ⟨v, rfl, g1, g2⟩
 obtain ⟨A1, c1, rfl, gr, gn1, gm1⟩ := own_slice g1
 have HR := Lib.hid gr
 have H2 := Lib.hid g2
 clear g1 g2 gr
 go_wp2_with (first | (go_at_call 233; refine (unlike_any A1 _ c1 _ x.stands _ HR.out gn1 gm1).mono ?_; rintro e w' ⟨rfl, rfl⟩) | fail)
 go_ret
 exact ⟨ret_bool hY.out, ((Below.refl _ _).alloc (Nat.le_refl _) _).trans (H2.out.mono (by simp))⟩) : p := h
theorem rp43 {p : Prop} (h : p := by
 go_enter Tryz.func205, Tryz.ntmps205
 go_upto_region 1 with (fail)
 rw [← HW.out]
 go_wp2_with (fail)
 go_ret
 exact ⟨by rw [HN.out]; rfl, HB.out⟩) : p := h
theorem rp44 {p : Prop} (h : p := by
 go_enter Tryz.func128, Tryz.ntmps128
 go_upto_region 1 with (fail)
 rw [← HW.out]
 go_wp2_with (fail)
 go_ret
 exact ⟨by rw [HN.out]; rfl, HB.out⟩) : p := h
theorem rp45 {p : Prop} (h : p := by
 (have e5 : (u.kd != 2) = true := (by simpa using h5); have e6 : (u.kd != 3) = true := (by simpa using h6); have HX := Lib.hid (upOk_no (u := u) (r := false) (fun h => by unfold upOkP at h; simp at h; omega)); go_enter Tryz.func312, Tryz.ntmps312; go_wp2_with (fail); go_ret; exact ⟨by rw [← HX.out]; rfl, by repeat (first | with_reducible exact Below.refl _ _ | with_reducible refine Below.setCell ?_ (by first | omega | (simp <;> omega)) _ | with_reducible refine Below.alloc ?_ (by first | omega | (simp <;> omega)) _ | with_reducible refine below_drewN ?_ _ | with_reducible refine Below.drew ?_)⟩)) : p := h
theorem rp46 {p : Prop} (h : p := by
 (have e5 : (u.kd != 2) = true := (by simpa using h5); have e6 : (u.kd != 3) = true := (by simpa using h6); have HX := Lib.hid (upOk_no (u := u) (r := true) (fun h => by unfold upOkP at h; simp at h; omega)); go_enter Tryz.func312, Tryz.ntmps312; go_wp2_with (fail); go_ret; exact ⟨by rw [← HX.out]; rfl, by repeat (first | with_reducible exact Below.refl _ _ | with_reducible refine Below.setCell ?_ (by first | omega | (simp <;> omega)) _ | with_reducible refine Below.alloc ?_ (by first | omega | (simp <;> omega)) _ | with_reducible refine below_drewN ?_ _ | with_reducible refine Below.drew ?_)⟩)) : p := h
theorem rp47 {p : Prop} (h : p := by
 try simp only [Act.put, pS]
 refine tkV 9 rfl ?_
 try simp only [Act.put, pS]
 refine tkV 10 rfl ?_
 try simp only [Act.put, pS]
 refine tkU 11 rfl ?_
 try simp only [Act.put, pS]
 refine tkU 12 rfl ?_
 try simp only [Act.put, pS]
 refine tkU 13 rfl ?_
 try simp only [Act.put, pS]
 refine tkU 14 rfl ?_
 try simp only [Act.put, pS]
 refine tkU 15 rfl ?_
 try simp only [Act.put, pS]
 refine tkV 16 rfl ?_
 try simp only [Act.put, pS]
 refine wpAnyH_done (by kernel_rfl) ?_ _
 clear hHeld
 go_wp2_with (fail)
 go_ret
 exact ⟨rfl, HB.out.drew⟩) : p := h
theorem rp48 {p : Prop} (h : p := by
 go_upto_region 1 with (fail)
 have e0 := HW.out
 simp only [Lt.cells] at e0
 first | rw [← e0] | rw [← HW.out]
 clear e0
 go_wp2_with (fail)
 refine C.out.mono ?_
 rintro e w1 ⟨rfl, h⟩
 have H1 := Lib.hid (HB.out.trans (h.mono HB.out.size))
 clear h
 by_cases he : er = 0
 ·have heb : (er == 0) = true := by simpa using he
  go_wp2_with (fail)
  go_ret
  exact ⟨ret_bool (by simp [he]), H1.out⟩
 ·have heb : (er == 0) = false := by simpa using he
  go_wp2_with (fail)
  go_ret
  exact ⟨ret_bool (by simp [he]), H1.out⟩) : p := h
theorem rp49 {p : Prop} (h : p := by
 have hN := Lib.hid (Cf.right_no (x := x) (fun h => by have q1 := h.2.2.2 hf; omega))
 go_wp2_with (fail)
 go_ret
 exact ⟨ret_bool hN.out, (Below.refl _ _).alloc (Nat.le_refl _) _⟩) : p := h
theorem rp50 {p : Prop} (h : p := by
 (have HX := Lib.hid (updE_ok (u := u) (r := false) hk (by omega) (by unfold upOkP; simp; omega)); clear hw; go_enter Tryz.func239, Tryz.ntmps239; go_wp2_with (fail); go_ret; exact ⟨by rw [← HX.out]; rfl, by repeat (first | with_reducible exact Below.refl _ _ | with_reducible refine Below.setCell ?_ (by first | omega | (simp <;> omega)) _ | with_reducible refine Below.alloc ?_ (by first | omega | (simp <;> omega)) _ | with_reducible refine below_drewN ?_ _ | with_reducible refine Below.drew ?_)⟩)) : p := h
theorem rp51 {p : Prop} (h : p := by
 (have HX := Lib.hid (updE_ok (u := u) (r := true) hk (by omega) (by unfold upOkP; simp; omega)); clear hw; go_enter Tryz.func239, Tryz.ntmps239; go_wp2_with (fail); go_ret; exact ⟨by rw [← HX.out]; rfl, by repeat (first | with_reducible exact Below.refl _ _ | with_reducible refine Below.setCell ?_ (by first | omega | (simp <;> omega)) _ | with_reducible refine Below.alloc ?_ (by first | omega | (simp <;> omega)) _ | with_reducible refine below_drewN ?_ _ | with_reducible refine Below.drew ?_)⟩)) : p := h
theorem rp52 {p : Prop} (h : p := by
 (have HX := Lib.hid (upOk_yes (u := u) (r := false) (by unfold upOkP; simp; omega)); go_enter Tryz.func312, Tryz.ntmps312; go_wp2_with (fail); go_ret; exact ⟨by rw [← HX.out]; rfl, by repeat (first | with_reducible exact Below.refl _ _ | with_reducible refine Below.setCell ?_ (by first | omega | (simp <;> omega)) _ | with_reducible refine Below.alloc ?_ (by first | omega | (simp <;> omega)) _ | with_reducible refine below_drewN ?_ _ | with_reducible refine Below.drew ?_)⟩)) : p := h
theorem rp53 {p : Prop} (h : p := by
 (have HX := Lib.hid (upOk_yes (u := u) (r := true) (by unfold upOkP; simp; omega)); go_enter Tryz.func312, Tryz.ntmps312; go_wp2_with (fail); go_ret; exact ⟨by rw [← HX.out]; rfl, by repeat (first | with_reducible exact Below.refl _ _ | with_reducible refine Below.setCell ?_ (by first | omega | (simp <;> omega)) _ | with_reducible refine Below.alloc ?_ (by first | omega | (simp <;> omega)) _ | with_reducible refine below_drewN ?_ _ | with_reducible refine Below.drew ?_)⟩)) : p := h
theorem rp54 {p : Prop} (h : p := by
 go_wp2_with (fail)
 go_quiet ((go_at_call 235; exact quiet_add_left (refHas_any (some ad) k c B (zs.take k) z _ (HT.out.drewN _) (by unfold maxLen; omega))))
 go_wp2
 go_ret
 exact ⟨ret_bool hi.out, below_drewN (below_drewN (Below.refl _ _) _) _⟩) : p := h
theorem rp55 {p : Prop} (h : p := by
 rintro e w1 ⟨rfl, h⟩
 have hb1 := box_below h; obtain ⟨c0, c1, c2, c3, c4⟩ := cf_cells (x := x) ((Blk.new w 33 x.cells).below h (by simp)); have H1 := Lib.hid hb1; have HX1 := Lib.hid (HX.out.below (hb1.mono hB)); clear h hb1
 obtain ⟨ad, hA, _, hcell⟩ := cf_at HX1.out (k := 0) (by rw [HM.out]; omega)
 rw [show ad.add 0 = ad by simp [Addr.add]] at hcell
 rw [hA, HM.out] at c2
 clear hA
 go_wp2
 go_ret
 exact ⟨ret_int hT.out, H1.out⟩) : p := h
theorem rp56 {p : Prop} (h : p := by
 rintro e w1 ⟨rfl, h⟩
 have hb1 := box_below h; obtain ⟨c0, c1, c2, c3, c4⟩ := cf_cells (x := x) ((Blk.new w 33 x.cells).below h (by simp)); have H1 := Lib.hid hb1; have HX1 := Lib.hid (HX.out.below (hb1.mono hB)); clear h hb1
 obtain ⟨ad, hA, _, hcell⟩ := cf_at HX1.out (k := r) (by rw [HM.out]; omega)
 rw [hA, HM.out] at c2
 clear hA
 go_wp2_with (fail)
 go_quiet (fail)
 go_wp2
 go_ret
 exact ⟨ret_int hT.out, below_drewN H1.out _⟩) : p := h
theorem rp57 {p : Prop} (h : p := by
 go_enter Tryz.func62, Tryz.ntmps62
 go_upto_region 1 with (fail)
 have e0 := HW.out
 simp only [Lt.cells] at e0
 first | rw [← e0] | rw [← HW.out]
 clear e0
 go_wp2_with (fail)
 go_ret
 exact ⟨by first | rfl | simp, HB.out⟩) : p := h
theorem rp58 {p : Prop} (h : p := by
 clear hno
 go_enter Tryz.func81, Tryz.ntmps81
 go_wp2_with (fail)
 go_quiet (fail)
 all_goals
  go_wp2
  go_ret2
  have hbl : Below w.heap.size w ((w.alloc (.cells x.cells 33)).drewN nq) := below_drewN ((Below.refl _ _).alloc (Nat.le_refl _) _) _
  refine ⟨hbl, A, c, l, by rw [hT.out]; rfl, ?_, (learn_no hT.out).symm, hc, hm, .inl rfl, fun _ hz => .inl hz⟩
  exact (HL.out.below (hbl.mono hB)).more (Nat.le_trans hB hbl.size)) : p := h
theorem rp59 {p : Prop} (h : p := by
 go_enter Tryz.func202, Tryz.ntmps202
 go_upto_region 1 with (fail)
 rw [← HW.out]
 go_wp2_with (fail)
 go_ret
 exact ⟨by rw [HN.out]; rfl, HB.out⟩) : p := h
theorem rp60 {p : Prop} (h : p := by
 go_enter Tryz.func55, Tryz.ntmps55
 go_upto_region 1 with (fail)
 rw [← HW.out]
 go_wp2_with (fail)
 go_ret
 exact ⟨by rw [HN.out]; rfl, HB.out⟩) : p := h
theorem rp61 {p : Prop} (h : p := by
 rintro e w1 ⟨rfl, h⟩
 have H1 := Lib.hid (box2_belowK h)
 obtain ⟨c0, c1, c2, c3, c4⟩ := cf_cells (x := o) (((Blk.new w 33 o.cells).alloc (.cells x.cells 33)).below h (by simp <;> omega))
 obtain ⟨d0, d1, d2, d3, d4⟩ := cf_cells (x := x) ((blk_new_at (w.alloc (.cells o.cells 33)) 33 x.cells (w.heap.size + 1) (by simp)).below h (by simp))
 clear h
 go_wp2
 go_ret
 exact ⟨rfl, H1.out⟩) : p := h
theorem rp62 {p : Prop} (h : p := by
 go_enter Tryz.func239, Tryz.ntmps239
 go_wp2_with (fail)
 go_ret
 exact ⟨by rw [← HX.out]; rfl, by repeat (first | with_reducible exact Below.refl _ _ | with_reducible refine Below.setCell ?_ (by first | omega | (simp <;> omega)) _ | with_reducible refine Below.alloc ?_ (by first | omega | (simp <;> omega)) _ | with_reducible refine below_drewN ?_ _ | with_reducible refine Below.drew ?_)⟩) : p := h
theorem rp63 {p : Prop} (h : p := by
 clear AN h hd
 go_enter Tryz.func18, Tryz.ntmps18
 go_wp2_with (fail)
 go_ret2
 exact ⟨Below.refl _ _, .inl ⟨fun e => HN.out e.1, rfl⟩⟩) : p := h
theorem rp64 {p : Prop} (h : p := by
 intro p W0 hp
 obtain ⟨g0, rfl, _⟩ := hp
 exact ⟨194, rfl, enters_of Tryz.func194 (by kernel_rfl) rfl, fun W hg hB => fineT_any x W⟩) : p := h
theorem rp65 {p : Prop} (h : p := by
 refine hK.out _ _ ?_ (fun hHeld => ?_)
 ·first | exact HS | go_keep
 clear hK K
 try simp only [Act.put, pS]
 refine tkT 16 rfl (v := ?_) ?_ ?_
 rotate_left 1
 ·(intro wq hSw; (try dsimp only at hSw); go_simp; (try with_reducible rfl))
 try simp only [Act.put, pS]
 refine wpAnyH_done (by kernel_rfl) ?_ _
 go_wp2_with (fail)
 go_ret
 exact ⟨rfl, HBW.out.trans (HB.out.mono HBW.out.size)⟩) : p := h
theorem rp66 {p : Prop} (h : p := by
 have HX : Hid (false = upOkB u r) := Lib.hid (upOk_no (fun h => by unfold upOkP at h; omega))
 (go_enter Tryz.func139, Tryz.ntmps139; go_wp2_with (fail); go_ret; exact ⟨ret_bool HX.out, HB.out⟩)) : p := h
theorem rp67 {p : Prop} (h : p := by
 clear h1
 go_enter Tryz.func276, Tryz.ntmps276
 go_upto_region 1 with (fail)
 have e0 := HW.out
 simp only [Lt.cells] at e0
 first | rw [← e0] | rw [← HW.out]
 clear e0
 go_wp2_with (fail)
 refine CC.out.mono ?_
 rintro e w1 ⟨rfl, h⟩
 have H1 := Lib.hid (HB2.out.trans (h.mono HB2.out.size))
 clear h
 go_wp2_with (fail)
 go_ret
 exact ⟨by rw [HV.out]; simp, H1.out⟩) : p := h
theorem rp68 {p : Prop} (h : p := by
 (try go_simp)
 refine hK.out _ _ ?_ (fun hHeld => ?_)
 ·go_keep
 clear hK K
 try simp only [Act.put, pS]
 refine tkV 34 rfl ?_
 try simp only [Act.put, pS]
 refine tkV 35 rfl ?_
 try simp only [Act.put, pS]
 refine wpAnyH_done (by kernel_rfl) ?_ _
 clear hHeld
 go_wp2_with (fail)
 go_ret
 exact ⟨by rw [HN.out]; rfl, HBB.out.trans (HBE.out.mono hsB)⟩) : p := h
theorem rp69 {p : Prop} (h : p := by
 clear h3 h5 h6 h7
 (go_enter Tryz.func139, Tryz.ntmps139; go_wp2_with (fail); go_ret; exact ⟨ret_bool HX.out, HB.out⟩)) : p := h
theorem rp70 {p : Prop} (h : p := by
 clear h3 h5 h7
 (go_enter Tryz.func139, Tryz.ntmps139; go_wp2_with (fail); go_ret; exact ⟨ret_bool HX.out, HB.out⟩)) : p := h
theorem rp71 {p : Prop} (h : p := by
 (try go_simp)
 refine hK.out _ _ ?_ (fun hHeld => ?_)
 ·go_keep
 clear hK K
 try simp only [Act.put, pS]
 refine tkV 33 rfl ?_
 try simp only [Act.put, pS]
 refine tkV 34 rfl ?_
 try simp only [Act.put, pS]
 refine wpAnyH_done (by kernel_rfl) ?_ _
 clear hHeld
 go_wp2_with (fail)
 go_ret
 exact ⟨by rw [HN.out]; rfl, HBE.out⟩) : p := h
theorem rp72 {p : Prop} (h : p := by
 try simp only [Act.put, pS]
 refine tkT 13 rfl (v := ?_) ?_ ?_
 rotate_left 1
 ·(intro wq hSw; (try dsimp only at hSw); go_simp; (try with_reducible rfl))
 try simp only [Act.put, pS]
 refine wpAnyH_done (by kernel_rfl) ?_ _
 go_wp2_with (fail)
 go_ret
 exact ⟨rfl, HA.out.below HB.out, HBW.out.trans (HB.out.mono hs1)⟩) : p := h
theorem rp73 {p : Prop} (h : p := by
 try simp only [Act.put, pS]
 refine tkT 18 rfl (v := ?_) ?_ ?_
 rotate_left 1
 ·(intro wq hSw; (try dsimp only at hSw); go_simp; (try with_reducible rfl))
 try simp only [Act.put, pS]
 refine wpAnyH_done (by kernel_rfl) ?_ _
 go_wp2_with (fail)
 go_meet
 case rel => exact ⟨_, _, rfl, HM2⟩) : p := h
theorem rp74 {p : Prop} (h : p := by
 unfold Cl.dcells
 match j with
 | 0 => simp
 | 1 => simp
 | 2 => simp
 | 3 => simp
 | 4 => simp
 | 5 => simp
 | 6 => simp
 | 7 => simp
 | 8 => simp
 | 9 => simp
 | 10 => simp
 | 11 => simp
 | 12 => simp
 | 13 => simp
 | 14 => simp
 | 15 => simp
 | 16 => simp
 | 17 => simp
 | n + 18 => simp) : p := h
theorem rp75 {p : Prop} (h : p := by
 intro v1 w1 hown hg hat
 have HO := Lib.hid hown
 have HG := Lib.hid hg
 clear hown hg hat hnil
 go_wp2
 go_ret
 refine ⟨_, rfl, by simpa using HO.out, ((Below.refl _ _).alloc (Nat.le_refl _) _).grown HG.out (by simp) (fun k hk => ?_)⟩
 simp [Value.ownBlock] at hk
 omega) : p := h
theorem rp76 {p : Prop} (h : p := by
 go_upto_region 1 with (fail)
 have e0 := HW.out
 simp only [Lt.cells] at e0
 first | rw [← e0] | rw [← HW.out]
 clear e0
 go_wp2_with (fail)
 refine C.out.mono ?_
 rintro e w1 ⟨rfl, rfl⟩
 go_wp2_with (fail)
 go_ret
 exact ⟨rfl, HB.out⟩) : p := h
theorem rp77 {p : Prop} (h : p := by
 clear h1 CC
 go_enter Tryz.func276, Tryz.ntmps276
 go_upto_region 1 with (fail)
 have e0 := HW.out
 simp only [Lt.cells] at e0
 first | rw [← e0] | rw [← HW.out]
 clear e0
 go_wp2_with (fail)
 go_ret
 exact ⟨by rw [HV.out]; rfl, HB2.out⟩) : p := h
theorem rp78 {p : Prop} (h : p := by
 have x0 : wx.cell? ⟨gx, 0, none⟩ = some (.int .i64 s1.kd) := HXX.out.cell 0
 by_cases hk0 : s1.kd = 0
 ·have q0 : (s1.kd == 0) = true := by simp [hk0]
  have HK0 := Lib.hid hk0
  clear hk0
  go_wp2_with (fail)
  refine (tick_p HPX.out.bb (by omega) wx (HK.out.below HPX.out.bel) HPX.out.pp (by have := HPX.out.ll; omega)).mono ?_
  rintro e w10 ⟨c', h', A3, n3, cp3, xs, rfl, hP1', hx1', hv1', hch1'⟩
  have hP1 := Lib.hid hP1'
  have hch1 := Lib.hid hch1'
  have hx1 := Lib.hid hx1'
  have hv1 := Lib.hid hv1'
  have HD1 := Lib.hid (HPX.out.doc hch1').1
  have HG1 := Lib.hid (HPX.out.doc hch1').2.1
  have HZ1 := Lib.hid (hch1'.blk HXX.out (TP.ne HXX.out (by decide) (by decide) (by decide)))
  clear hP1' hch1' hx1' hv1'
  simp only [id_eq]
  clear x0
  go_upto_region 21 with (fail)
  iterate 1 go_step
  refine wpList_load_row rfl 62 (.tmp 9) rfl gr rfl 62 (N.dcells d) (0, 0) _ HG1.out Tryz.underlying62 rfl dcInfo ?_
  go_wp2_with (fail)
  refine (tick_d HPX.out.bb (by omega) w10 HD1.out HPX.out.nn).mono ?_
  rintro e w11 ⟨d', l2, A4, n4, cp4, ys, rfl, hD2, hy2, hv2, hb2⟩
  have HG2 := Lib.hid (HG1.out.below hb2 HG1.out.lt)
  have HE0 := Lib.hid (fun W3 (hc : Chg w11 W3 (fun k => k = gr)) hbox => HPX.out.step (W3 := W3) (HPX.out.bb.tick) (tick_norm HPX.out.nn) (tick_cl N) hP1.out hch1.out hx1.out hv1.out (tick_flat _ _) hD2 hb2 hy2 hv2 hc hbox)
  clear hD2 hy2 hv2 hb2
  dsimp only
  iterate 10 go_step
  refine wpList_store_row rfl 62 (.tmp 9) (.tmp 105) rfl gr (N.ticked.dcells d') rfl rfl 62 (N.dcells d) HG2.out dcInfo rfl (dc_all _ _) ?_
  have HE := Lib.hid (HE0.out (World.setRow w11 gr (N.ticked.dcells d')) (chg_row9 _ _ _) (setRow_heap _ _ _ _ _ _ HG2.out))
  generalize World.setRow w11 gr (N.ticked.dcells d') = wz at HE ⊢
  clear HE0 HG2
  exact rp5
 exact rp1) : p := h
theorem rp79 {p : Prop} (h : p := by
 go_upto_region 21 with (fail)
 iterate 1 go_step
 refine wpList_load_row rfl 62 (.tmp 2) rfl w.heap.size rfl 62 (c.dcells d) (0, 0) _ HX2.out Tryz.underlying62 rfl dcInfo ?_
 refine wpList_store_row rfl 62 (.tmp 4) (.tmp 121) rfl (w.heap.size + 2) (c.dcells d) rfl rfl 62 #[.int .i64 0, .int .i64 0, .int .u64 0, .int .i64 0, .slice none 0 0, .int .i64 0, .int .u32 0, .int .u64 0, .slice none 0 0, .int .i64 0, .int .i64 0, .int .i64 0, .int .u64 0, .slice none 0 0, .int .u64 0, .int .i64 0, .int .u64 0, .slice none 0 0] HR2.out dcInfo rfl (dc_all _ _) ?_
 exact rp7) : p := h
theorem rp80 {p : Prop} (h : p := by
 go_upto_region 10 with (fail)
 iterate 1 go_step
 refine wpList_load_row rfl 62 (.tmp 2) rfl w.heap.size rfl 62 (c.dcells d) (0, 0) _ HX2.out Tryz.underlying62 rfl dcInfo ?_
 refine wpList_store_row rfl 62 (.tmp 4) (.tmp 68) rfl (w.heap.size + 2) (c.dcells d) rfl rfl 62 #[.int .i64 0, .int .i64 0, .int .u64 0, .int .i64 0, .slice none 0 0, .int .i64 0, .int .u32 0, .int .u64 0, .slice none 0 0, .int .i64 0, .int .i64 0, .int .i64 0, .int .u64 0, .slice none 0 0, .int .u64 0, .int .i64 0, .int .u64 0, .slice none 0 0] HR2.out dcInfo rfl (dc_all _ _) ?_
 exact rp7) : p := h
theorem rp81 {p : Prop} (h : p := by
 try simp only [Act.put, pS]
 refine tkV 7 rfl ?_
 try simp only [Act.put, pS]
 refine tkV 8 rfl ?_
 try simp only [Act.put, pS]
 refine tkU 9 rfl ?_
 try simp only [Act.put, pS]
 refine tkU 10 rfl ?_
 try simp only [Act.put, pS]
 refine tkU 11 rfl ?_
 try simp only [Act.put, pS]
 refine tkU 12 rfl ?_
 try simp only [Act.put, pS]
 refine tkU 13 rfl ?_
 try simp only [Act.put, pS]
 refine tkU 14 rfl ?_
 try simp only [Act.put, pS]
 refine tkU 15 rfl ?_
 try simp only [Act.put, pS]
 refine tkU 16 rfl ?_
 try simp only [Act.put, pS]
 refine tkU 17 rfl ?_
 try simp only [Act.put, pS]
 refine tkU 18 rfl ?_
 try simp only [Act.put, pS]
 refine tkU 19 rfl ?_
 try simp only [Act.put, pS]
 refine tkU 20 rfl ?_
 try simp only [Act.put, pS]
 refine tkU 21 rfl ?_
 try simp only [Act.put, pS]
 refine tkU 22 rfl ?_
 try simp only [Act.put, pS]
 refine tkV 23 rfl ?_
 try simp only [Act.put, pS]
 refine tkV 24 rfl ?_
 try simp only [Act.put, pS]
 refine tkU 25 rfl ?_
 try simp only [Act.put, pS]
 refine tkU 26 rfl ?_
 try simp only [Act.put, pS]
 refine tkU 27 rfl ?_
 try simp only [Act.put, pS]
 refine tkU 28 rfl ?_
 exact rp17) : p := h
theorem rp82 {p : Prop} (h : p := by
 try simp only [Act.put, pS]
 refine tkV 7 rfl ?_
 try simp only [Act.put, pS]
 refine tkV 8 rfl ?_
 try simp only [Act.put, pS]
 refine tkU 9 rfl ?_
 try simp only [Act.put, pS]
 refine tkU 10 rfl ?_
 try simp only [Act.put, pS]
 refine tkU 11 rfl ?_
 try simp only [Act.put, pS]
 refine tkU 12 rfl ?_
 try simp only [Act.put, pS]
 refine tkU 13 rfl ?_
 try simp only [Act.put, pS]
 refine tkU 14 rfl ?_
 try simp only [Act.put, pS]
 refine tkU 15 rfl ?_
 try simp only [Act.put, pS]
 refine tkU 16 rfl ?_
 try simp only [Act.put, pS]
 refine tkU 17 rfl ?_
 try simp only [Act.put, pS]
 refine tkU 18 rfl ?_
 try simp only [Act.put, pS]
 refine tkU 19 rfl ?_
 try simp only [Act.put, pS]
 refine tkU 20 rfl ?_
 try simp only [Act.put, pS]
 refine tkU 21 rfl ?_
 try simp only [Act.put, pS]
 refine tkV 22 rfl ?_
 try simp only [Act.put, pS]
 refine tkV 23 rfl ?_
 try simp only [Act.put, pS]
 refine tkU 24 rfl ?_
 try simp only [Act.put, pS]
 refine tkU 25 rfl ?_
 try simp only [Act.put, pS]
 refine tkU 26 rfl ?_
 try simp only [Act.put, pS]
 refine tkU 27 rfl ?_
 exact rp18) : p := h
theorem rp83 {p : Prop} (h : p := by
 try simp only [Act.put, pS]
 refine tkV 22 rfl ?_
 try simp only [Act.put, pS]
 refine tkV 23 rfl ?_
 try simp only [Act.put, pS]
 refine tkV 24 rfl ?_
 try simp only [Act.put, pS]
 refine tkV 25 rfl ?_
 try simp only [Act.put, pS]
 refine tkV 26 rfl ?_
 try simp only [Act.put, pS]
 refine wpAnyH_ready (rs := [27]) (by kernel_rfl) (by simp) ?_
 refine AllReadyH.cons (o := _) rfl (fun K hK => ?_) AllReadyH.nil
 go_simp
 refine (IS.out _).mono ?_; rintro e w2 ⟨rfl, rfl⟩
 (try go_simp)
 refine hK.out _ _ ?_ (fun hHeld => ?_)
 ·go_keep
 clear hK K
 try simp only [Act.put, pS]
 refine tkV 28 rfl ?_
 exact rp17) : p := h
theorem rp84 {p : Prop} (h : p := by
 try simp only [Act.put, pS]
 refine tkV 21 rfl ?_
 try simp only [Act.put, pS]
 refine tkV 22 rfl ?_
 try simp only [Act.put, pS]
 refine tkV 23 rfl ?_
 try simp only [Act.put, pS]
 refine tkV 24 rfl ?_
 try simp only [Act.put, pS]
 refine tkV 25 rfl ?_
 try simp only [Act.put, pS]
 refine wpAnyH_ready (rs := [26]) (by kernel_rfl) (by simp) ?_
 refine AllReadyH.cons (o := _) rfl (fun K hK => ?_) AllReadyH.nil
 go_simp
 refine (IS.out _).mono ?_; rintro e w2 ⟨rfl, rfl⟩
 (try go_simp)
 refine hK.out _ _ ?_ (fun hHeld => ?_)
 ·go_keep
 clear hK K
 try simp only [Act.put, pS]
 refine tkV 27 rfl ?_
 exact rp18) : p := h
theorem rp85 {p : Prop} (h : p := by
 clear hz
 go_upto_region 2 with (fail)
 iterate 1 go_step
 refine wpList_load_row rfl 62 (.tmp 2) rfl w.heap.size rfl 62 (c.dcells d) (0, 0) _ HX2.out Tryz.underlying62 rfl dcInfo ?_
 refine wpList_store_row rfl 62 (.tmp 4) (.tmp 19) rfl (w.heap.size + 2) (c.dcells d) rfl rfl 62 #[.int .i64 0, .int .i64 0, .int .u64 0, .int .i64 0, .slice none 0 0, .int .i64 0, .int .u32 0, .int .u64 0, .slice none 0 0, .int .i64 0, .int .i64 0, .int .i64 0, .int .u64 0, .slice none 0 0, .int .u64 0, .int .i64 0, .int .u64 0, .slice none 0 0] HR2.out dcInfo rfl (dc_all _ _) ?_
 exact rp7) : p := h
theorem rp86 {p : Prop} (h : p := by
 have HV : Hid (cmdE k c e n = 4) := Lib.hid (by unfold cmdE; rw [if_neg (by have := HA1.out; omega), if_neg (by have := HA2.out; omega), if_pos (by omega)])
 exact rp29) : p := h
theorem rp87 {p : Prop} (h : p := by
 have HBX5 := Lib.hid (HBX.out.below HB.out lb)
 have HA5 := Lib.hid (HA.out.below HB.out)
 have HB5 := Lib.hid (HBW.out.trans (HB.out.mono hs1))
 clear HBX HA HX HB HBW y5e x1 x6 y2 y5 BU ND
 have x0 : x4d.cell? ⟨w.heap.size, 0, none⟩ = some (.int .i64 x.l.kd) := HBX5.out.cell 0
 have x11 : x4d.cell? ⟨w.heap.size, 11, none⟩ = some (.int .u32 x.l.ky) := HBX5.out.cell 11
 have y6 : x4d.cell? ⟨g, 6, none⟩ = some (.int .u32 c.op.key) := HA5.out.box.cell 6
 exact rp24) : p := h
theorem rp88 {p : Prop} (h : p := by
 go_upto_region 1 with (fail)
 have e0 := HW.out
 simp only [Lt.cells] at e0
 first | rw [← e0] | rw [← HW.out]
 clear e0
 go_wp2_with (fail)
 refine C.out.mono ?_
 exact rp39) : p := h
theorem rp89 {p : Prop} (h : p := by
 have HV : Hid (cmdE k c e n = 4) := Lib.hid (by unfold cmdE; rw [if_neg (by have := HA1.out; omega), if_neg (by have := HA2.out; omega), if_pos (by omega)])
 exact rp30) : p := h
end Go.Proofs.YtmpedblelnpjdaaGreatDoor
