import Derived.Test.YtmpedblelnpjdaaGreatDoorZDcB
import Derived.Test.YtmpedblelnpjdaaGreatDoorZTq
import Derived.Test.YtmpedblelnpjdaaGreatDoorZTk
section
/- The document's caller: Tick. -/
namespace Go.Proofs.YtmpedblelnpjdaaGreatDoor
open Go.RowKit
set_option linter.unusedSimpArgs false
set_option linter.unusedVariables false
set_option maxHeartbeats 8000000
set_option maxRecDepth 100000
def DTickP (vs : List CV) (k : Nat) (c : Cl) (d : DA) (w : World) (e : Ending) (w' : World) : Prop :=
 Below w.heap.size w w' ∧ ((c.st ≠ 1 ∧ e = .returned (.tuple #[.agg (c.ticked.dcells d), .slice none 0 0])) ∨
  (c.st = 1 ∧ ∃ (A : Option Addr) (cp : Nat) (x1 x2 : LV), e = .returned (.tuple #[.agg (c.ticked.dcells d), .slice A 2 cp]) ∧ LtsIn w' w'.heap.size A 2 [x1, x2] ∧ AskOf vs k c.ticked x1.val ∧ WhereOf vs k c.ticked x2.val))
theorem setRow_below {B g : Nat} {w W : World} (h : Below B w W) (hB : B ≤ W.heap.size) (hg : B ≤ g) (cs : Array Value) : Below B w (W.setRow g cs) := h.trans ((chg_row9 W g cs).below hB (fun k hk e => by omega))
theorem DIn.ticked {w : World} {B : Nat} {c : Cl} {d : DA} {l : List Cf} (h : DIn w B c d l) : DIn w B c.ticked d l := ⟨h.cf, h.lc, h.op, h.rp, h.rc, h.ly, h.yc⟩
theorem dTick_any (c : Cl) (d : DA) (l : List Cf) (k B : Nat) (w : World) (h : DIn w B c d l) (hB : B ≤ w.heap.size) (hk : c.op.key = (k : Int)) (h1 : 1 ≤ l.length) (h4 : l.length ≤ 4) (hvs : VsOk (l.map Cf.val)) (hcl : c.cl ≤ 6) (hms : 1 ≤ c.ms ∧ c.ms ≤ 5) (hnum : c.num ≤ 1000000) (hn : c.op.n ≤ 1000000) :
  Calls Tryz.prog 22 #[.agg (c.dcells d)] w (DTickP (l.map Cf.val) k c d w) := by
 have hkk : k < 4294967296 := by have : c.op.key ≤ 4294967295 := h.op.wf.key.2; omega
 have HVS := Lib.hid hvs
 have HKK := Lib.hid hk
 obtain ⟨W1, hW1⟩ : ∃ W1, W1 = (w.alloc (.cells (c.dcells d) 62)).alloc (.cells #[.int .i64 0, .int .i64 0, .int .u64 0, .int .i64 0, .slice none 0 0, .int .i64 0, .int .u32 0, .int .u64 0, .slice none 0 0, .int .i64 0, .int .i64 0, .int .i64 0, .int .u64 0, .slice none 0 0, .int .u64 0, .int .i64 0, .int .u64 0, .slice none 0 0] 62) := ⟨_, rfl⟩
 have hb1 : Blk W1 w.heap.size 62 (c.dcells d) := by rw [hW1]; exact (Blk.new _ _ _).alloc _
 have HR1 : Hid (Blk W1 (w.heap.size + 1) 62 #[.int .i64 0, .int .i64 0, .int .u64 0, .int .i64 0, .slice none 0 0, .int .i64 0, .int .u32 0, .int .u64 0, .slice none 0 0, .int .i64 0, .int .i64 0, .int .i64 0, .int .u64 0, .slice none 0 0, .int .u64 0, .int .i64 0, .int .u64 0, .slice none 0 0]) := Lib.hid (by rw [hW1, show w.heap.size + 1 = (w.alloc (.cells (c.dcells d) 62)).heap.size by simp]; exact Blk.new _ _ _)
 have HB1 : Hid (Below w.heap.size w W1) := Lib.hid (by rw [hW1]; exact ((Below.refl _ _).alloc (Nat.le_refl _) _).alloc (by simp) _)
 have c3 : W1.cell? ⟨w.heap.size, 3, none⟩ = some (.int .i64 c.tk) := hb1.cell 3
 have f3 := hb1.frozen 3
 have HX1 := Lib.hid hb1
 have HW1 := Lib.hid hW1
 have HD := Lib.hid h
 clear h hk hvs hW1 hb1
 go_enter Tryz.func22, Tryz.ntmps22
 go_upto_region 1 with (fail)
 rw [show (w.alloc (.cells (c.dcells d) 62)).alloc (.cells #[.int .i64 0, .int .i64 0, .int .u64 0, .int .i64 0, .slice none 0 0, .int .i64 0, .int .u32 0, .int .u64 0, .slice none 0 0, .int .i64 0, .int .i64 0, .int .i64 0, .int .u64 0, .slice none 0 0, .int .u64 0, .int .i64 0, .int .u64 0, .slice none 0 0] 62) = W1 from HW1.out.symm]
 clear HW1
 obtain ⟨W2, hW2⟩ : ∃ W2, W2 = W1.setCell ⟨w.heap.size, 3, none⟩ (.int .i64 (wrap64 (c.tk + 1))) := ⟨_, rfl⟩
 have HX2 : Hid (Blk W2 w.heap.size 62 (c.ticked.dcells d)) := Lib.hid (by rw [hW2]; exact HX1.out.set_ 3 _)
 have HR2 : Hid (Blk W2 (w.heap.size + 1) 62 #[.int .i64 0, .int .i64 0, .int .u64 0, .int .i64 0, .slice none 0 0, .int .i64 0, .int .u32 0, .int .u64 0, .slice none 0 0, .int .i64 0, .int .i64 0, .int .i64 0, .int .u64 0, .slice none 0 0, .int .u64 0, .int .i64 0, .int .u64 0, .slice none 0 0]) := Lib.hid (by rw [hW2]; exact HR1.out.far (p := ⟨w.heap.size, 3, none⟩) (by simp) _)
 have HB2 : Hid (Below w.heap.size w W2) := Lib.hid (by rw [hW2]; exact below_put HB1.out HB1.out.size (Nat.le_refl _) 3 _)
 have HW2 := Lib.hid hW2
 clear hW2
 go_upto_region 2 with (fail)
 rw [← HW2.out]
 clear HW2 c3 f3 HX1 HR1 HB1
 have c10 : W2.cell? ⟨w.heap.size, 10, none⟩ = some (.int .i64 c.st) := HX2.out.cell 10
 by_cases hst : c.st = 1
 rotate_left
 ·have q1 : ((c.st : Int) != 1) = true := by simp; omega
  have HST := Lib.hid hst
  clear hst
  go_upto_region 3 with (fail)
  iterate 1 go_step
  refine wpList_load_row rfl 62 (.tmp 1) rfl w.heap.size rfl 62 (c.ticked.dcells d) (0, 0) _ HX2.out Tryz.underlying62 rfl dcInfo ?_
  refine wpList_store_row rfl 62 (.tmp 2) (.tmp 11) rfl (w.heap.size + 1) (c.ticked.dcells d) rfl rfl 62 #[.int .i64 0, .int .i64 0, .int .u64 0, .int .i64 0, .slice none 0 0, .int .i64 0, .int .u32 0, .int .u64 0, .slice none 0 0, .int .i64 0, .int .i64 0, .int .i64 0, .int .u64 0, .slice none 0 0, .int .u64 0, .int .i64 0, .int .u64 0, .slice none 0 0] HR2.out dcInfo rfl (dc_all _ _) ?_
  have HR3 := Lib.hid (show Blk (World.setRow W2 (w.heap.size + 1) (c.ticked.dcells d)) (w.heap.size + 1) 62 (c.ticked.dcells d) from setRow_heap _ _ _ _ _ _ HR2.out)
  have HB3 := Lib.hid (setRow_below HB2.out HB2.out.size (Nat.le_succ _) (g := w.heap.size + 1) (c.ticked.dcells d))
  generalize World.setRow W2 (w.heap.size + 1) (c.ticked.dcells d) = W3 at *
  go_wp2_with (fail)
  refine bodyPost_ret_by (v := .tuple #[.agg (c.ticked.dcells d), .slice none 0 0]) (results_cell_row_tmp Tryz.results22 _ _ (w.heap.size + 1) 62 (c.ticked.dcells d) (0, 0) _ _ rfl HR3.out rfl Tryz.underlying62 rfl dcInfo) rfl ?_
  exact ⟨HB3.out, .inl ⟨HST.out, rfl⟩⟩
 have q1 : ((c.st : Int) != 1) = false := by simp; omega
 have HST := Lib.hid hst
 clear hst
 have hs2 := HB2.out.size
 have hB2 : B ≤ W2.heap.size := Nat.le_trans hB hs2
 have AS := Lib.hid (fun W (h9 : Below w.heap.size w W) => dask_any c.ticked d l k B W (HD.out.ticked.below (h9.mono hB)) (Nat.le_trans hB h9.size) B (HD.out.ticked.below (h9.mono hB)).op (Nat.le_trans hB h9.size) HKK.out hkk h1 h4 HVS.out hcl hnum hn)
 have CH := Lib.hid (fun W (h9 : Below w.heap.size w W) => dchain_any c.ticked d l k B W (HD.out.ticked.below (h9.mono hB)) (Nat.le_trans hB h9.size) HKK.out hkk h1 h4)
 obtain ⟨i0, hi, hz0, hz1, hz2⟩ := info_parts ltRowInfo
 obtain ⟨tk, htk⟩ : ∃ tk, tk = wrap64 (c.tk + 1) := ⟨_, rfl⟩
 have HTK := Lib.hid htk
 have y0 : W2.cell? ⟨w.heap.size, 0, none⟩ = some (.int .i64 c.cl) := HX2.out.cell 0
 have y1 : W2.cell? ⟨w.heap.size, 1, none⟩ = some (.int .i64 c.ms) := HX2.out.cell 1
 have y3 : W2.cell? ⟨w.heap.size, 3, none⟩ = some (.int .i64 tk) := (HX2.out.cell 3).trans (by rw [htk]; rfl)
 have hz := tick_hdr
 have hfd := fld_ch
 have m0 : (c.ms = 0) = False := by simp; omega
 have hz2' := one_lt
 have e2 : IntKind.i64.wrap (200 + (c.cl : Int)) = 200 + (c.cl : Int) := by rw [IntKind.wrap_i64]; omega
 have e3 : IntKind.i64.wrap (101 + tk.tmod (c.ms : Int)) = 101 + tk.tmod (c.ms : Int) := by
  have := tmod_small tk c.ms hms
  generalize tk.tmod (c.ms : Int) = z at *
  rw [IntKind.wrap_i64]
  omega
 clear htk
 go_upto_region 4 with (fail)
 have HLX := Lib.hid (fun wq (h : Blk wq w.heap.size 62 (c.ticked.dcells d)) => load_dc c.ticked d w.heap.size wq h)
 have HX : Hid (Blk W2.drew w.heap.size 62 (c.ticked.dcells d)) := Lib.hid HX2.out.drew
 have HR : Hid (Blk W2.drew (w.heap.size + 1) 62 #[.int .i64 0, .int .i64 0, .int .u64 0, .int .i64 0, .slice none 0 0, .int .i64 0, .int .u32 0, .int .u64 0, .slice none 0 0, .int .i64 0, .int .i64 0, .int .i64 0, .int .u64 0, .slice none 0 0, .int .u64 0, .int .i64 0, .int .u64 0, .slice none 0 0]) := Lib.hid HR2.out.drew
 have HB : Hid (Below w.heap.size w W2.drew) := Lib.hid HB2.out.drew
 have lr := HR2.out.lt
 refine wp_region_held_drew (S := fun wq => wq.cell? ⟨w.heap.size, 0, none⟩ = some (.int .i64 c.cl) ∧ wq.cell? ⟨w.heap.size, 1, none⟩ = some (.int .i64 c.ms) ∧ wq.cell? ⟨w.heap.size, 3, none⟩ = some (.int .i64 tk) ∧ Blk wq w.heap.size 62 (c.ticked.dcells d)) (by kernel_rfl) ⟨y0, y1, y3, HX2.out⟩ (fun hHeld => ?_)
 have hW0 : w.heap.size + 1 < W2.drew.heap.size := lr
 clear lr
 generalize W2.drew = Vd at *
 refine tkT 0 rfl (v := (.agg (c.ticked.dcells d))) ?_ ?_
 ·exact fun wq hSw => exec_load_row rfl _ rfl (load_dc c.ticked d _ wq hSw.2.2.2)
 try simp only [Act.put, pS]
 refine tkT 1 rfl (v := (.agg (c.ticked.dcells d))) ?_ ?_
 ·exact fun wq hSw => exec_load_row rfl _ rfl (load_dc c.ticked d _ wq hSw.2.2.2)
 try simp only [Act.put, pS]
 refine tkT 3 rfl (v := ?_) ?_ ?_
 rotate_left 1
 ·(intro wq hSw; (try dsimp only at hSw); go_simp; (try with_reducible rfl))
 try simp only [Act.put, pS]
 refine tkT 4 rfl (v := ?_) ?_ ?_
 rotate_left 1
 ·(intro wq hSw; (try dsimp only at hSw); go_simp; (try with_reducible rfl))
 try simp only [Act.put, pS]
 refine tkT 5 rfl (v := ?_) ?_ ?_
 rotate_left 1
 ·(intro wq hSw; (try dsimp only at hSw); go_simp; (try with_reducible rfl))
 try simp only [Act.put, pS]
 refine tkT 6 rfl (v := ?_) ?_ ?_
 rotate_left 1
 ·(intro wq hSw; (try dsimp only at hSw); go_simp; (try with_reducible rfl))
 try simp only [Act.put, pS]
 refine tkT 7 rfl (v := ?_) ?_ ?_
 rotate_left 1
 ·(intro wq hSw; (try dsimp only at hSw); go_simp; (try with_reducible rfl))
 try simp only [Act.put, pS]
 refine tkT 8 rfl (v := ?_) ?_ ?_
 rotate_left 1
 ·(intro wq hSw; (try dsimp only at hSw); go_simp; (try with_reducible rfl))
 try simp only [Act.put, pS]
 refine tkT 9 rfl (v := ?_) ?_ ?_
 rotate_left 1
 ·(intro wq hSw; (try dsimp only at hSw); go_simp; (try with_reducible rfl))
 try simp only [Act.put, pS]
 refine tkT 10 rfl (v := ?_) ?_ ?_
 rotate_left 1
 ·(intro wq hSw; (try dsimp only at hSw); go_simp; (try with_reducible rfl))
 try simp only [Act.put, pS]
 refine tkT 11 rfl (v := ?_) ?_ ?_
 rotate_left 1
 ·(intro wq hSw; (try dsimp only at hSw); go_simp; (try with_reducible rfl))
 try simp only [Act.put, pS]
 refine tkT 12 rfl (v := (.agg (c.ticked.dcells d))) ?_ ?_
 ·exact fun wq hSw => exec_load_row rfl _ rfl (load_dc c.ticked d _ wq hSw.2.2.2)
 try simp only [Act.put, pS]
 refine wpAnyH_ready (rs := [2]) (by kernel_rfl) (by simp) ?_
 refine (AllReadyH.cons rfl (fun K hK => ?_) AllReadyH.nil)
 go_simp
 refine (AS.out _ HB.out).mono ?_
 rintro e x2 ⟨q1, xx, rfl, hq1, hbk1, hin1, hnr1, hof1, h9⟩
 have hqW : w.heap.size + 2 ≤ q1 := Nat.le_trans hW0 hq1
 have hB2' := HB.out.size
 have HIN : Hid (∀ W, Chg x2 W (fun i => i = w.heap.size + 1 ∨ q1 ≤ i) → LIn W q1 xx) := Lib.hid (fun W hc => hin1 W (hc.mono (fun i hi e => by rcases e with e | e; exact .inl (by omega); exact .inr e)))
 have HNR : Hid (xx.near ∧ AskOf (l.map Cf.val) k c.ticked xx.val) := Lib.hid ⟨hnr1, hof1⟩
 have HQ := Lib.hid (own_one_lt hbk1 hqW)
 have hq1W : q1 < x2.heap.size := hbk1.lt
 have HXL : Hid (lrow xx = xx.l.cells.toList) := Lib.hid rfl
 generalize hxs1 : xx.l.cells.toList = xs1 at HQ HXL
 clear hxs1 hbk1 hin1 hnr1 hof1 hq1 hB2'
 replace HB := Lib.hid (HB.out.trans (h9.mono HB.out.size))
 replace HX := Lib.hid (HX.out.below h9 HX.out.lt)
 replace HR := Lib.hid (HR.out.below h9 HR.out.lt)
 (try replace HN := Lib.hid (HN.out.below h9 HN.out.lt))
 replace hW0 : w.heap.size + 1 < x2.heap.size := HR.out.lt
 have HS : x2.cell? ⟨w.heap.size, 0, none⟩ = some (.int .i64 c.cl) ∧ x2.cell? ⟨w.heap.size, 1, none⟩ = some (.int .i64 c.ms) ∧ x2.cell? ⟨w.heap.size, 3, none⟩ = some (.int .i64 tk) ∧ Blk x2 w.heap.size 62 (c.ticked.dcells d) := ⟨HX.out.cell 0, HX.out.cell 1, (HX.out.cell 3).trans (by rw [HTK.out]; rfl), HX.out⟩
 clear h9
 refine hK.out _ _ ?_ (fun hHeld => ?_)
 ·first | exact HS | go_keep
 clear hK K
 try simp only [Act.put, pS]
 refine wpAnyH_ready (rs := [13]) (by kernel_rfl) (by simp) ?_
 refine (AllReadyH.cons rfl (fun K hK => ?_) AllReadyH.nil)
 go_simp
 refine (CH.out _ HB.out).mono ?_
 rintro e x13 ⟨y, rfl, hyl, h9⟩
 have HYL : Hid ((l.map Cf.val)[(chainV k (l.map Cf.val).length).toNat]? = some y.val) := Lib.hid (by rw [List.length_map, List.getElem?_map, hyl]; rfl)
 replace HB := Lib.hid (HB.out.trans (h9.mono HB.out.size))
 replace HX := Lib.hid (HX.out.below h9 HX.out.lt)
 replace HR := Lib.hid (HR.out.below h9 HR.out.lt)
 (try replace HIN := Lib.hid (fun W hc => HIN.out W ((Chg.of_below h9 _).trans hc (fun _ _ e => e))))
 (try replace HQ := Lib.hid ((Chg.of_below h9 (fun _ => False)).own HQ.out (fun _ _ e => e)))
 (try replace hq1W := Nat.lt_of_lt_of_le hq1W h9.size)
 replace hW0 : w.heap.size + 1 < x13.heap.size := HR.out.lt
 have HS : x13.cell? ⟨w.heap.size, 0, none⟩ = some (.int .i64 c.cl) ∧ x13.cell? ⟨w.heap.size, 1, none⟩ = some (.int .i64 c.ms) ∧ x13.cell? ⟨w.heap.size, 3, none⟩ = some (.int .i64 tk) ∧ Blk x13 w.heap.size 62 (c.ticked.dcells d) := ⟨HX.out.cell 0, HX.out.cell 1, (HX.out.cell 3).trans (by rw [HTK.out]; rfl), HX.out⟩
 clear h9 hyl
 refine hK.out _ _ ?_ (fun hHeld => ?_)
 ·first | exact HS | go_keep
 clear hK K
 try simp only [Act.put, pS]
 refine tkT 14 rfl (v := ?_) ?_ ?_
 rotate_left 1
 ·(intro wq hSw; (try dsimp only at hSw); go_simp; (try with_reducible rfl))
 try simp only [Act.put, pS]
 refine tkT 15 rfl (v := ?_) ?_ ?_
 rotate_left 1
 ·(intro wq hSw; (try dsimp only at hSw); go_simp; (try with_reducible rfl))
 try simp only [Act.put, pS]
 refine wpAnyH_ready (rs := [16]) (by kernel_rfl) (by simp) ?_
 refine (AllReadyH.cons rfl (fun K hK => ?_) AllReadyH.nil)
 go_simp
 have HN : Hid (Blk (x13.alloc (.cells (({ Lt.zero with kd := 10, fr := 200 + (c.cl : Int), tw := 101 + tk.tmod (c.ms : Int), ch := y.ch } : Lt)).cells 37)) x13.heap.size 37 (({ Lt.zero with kd := 10, fr := 200 + (c.cl : Int), tw := 101 + tk.tmod (c.ms : Int), ch := y.ch } : Lt)).cells) := Lib.hid (Blk.new _ _ _)
 have hqn : w.heap.size + 2 ≤ x13.heap.size := hW0
 have h9 : Below x13.heap.size x13 (x13.alloc (.cells (({ Lt.zero with kd := 10, fr := 200 + (c.cl : Int), tw := 101 + tk.tmod (c.ms : Int), ch := y.ch } : Lt)).cells 37)) := (Below.refl _ _).alloc (Nat.le_refl _) _
 replace HB := Lib.hid (HB.out.trans (h9.mono HB.out.size))
 replace HX := Lib.hid (HX.out.below h9 HX.out.lt)
 replace HR := Lib.hid (HR.out.below h9 HR.out.lt)
 (try replace HIN := Lib.hid (fun W hc => HIN.out W ((Chg.of_below h9 _).trans hc (fun _ _ e => e))))
 (try replace HQ := Lib.hid ((Chg.of_below h9 (fun _ => False)).own HQ.out (fun _ _ e => e)))
 (try replace hq1W := Nat.lt_of_lt_of_le hq1W h9.size)
 replace hW0 : w.heap.size + 1 < (x13.alloc (.cells (({ Lt.zero with kd := 10, fr := 200 + (c.cl : Int), tw := 101 + tk.tmod (c.ms : Int), ch := y.ch } : Lt)).cells 37)).heap.size := HR.out.lt
 have HS : (x13.alloc (.cells (({ Lt.zero with kd := 10, fr := 200 + (c.cl : Int), tw := 101 + tk.tmod (c.ms : Int), ch := y.ch } : Lt)).cells 37)).cell? ⟨w.heap.size, 0, none⟩ = some (.int .i64 c.cl) ∧ (x13.alloc (.cells (({ Lt.zero with kd := 10, fr := 200 + (c.cl : Int), tw := 101 + tk.tmod (c.ms : Int), ch := y.ch } : Lt)).cells 37)).cell? ⟨w.heap.size, 1, none⟩ = some (.int .i64 c.ms) ∧ (x13.alloc (.cells (({ Lt.zero with kd := 10, fr := 200 + (c.cl : Int), tw := 101 + tk.tmod (c.ms : Int), ch := y.ch } : Lt)).cells 37)).cell? ⟨w.heap.size, 3, none⟩ = some (.int .i64 tk) ∧ Blk (x13.alloc (.cells (({ Lt.zero with kd := 10, fr := 200 + (c.cl : Int), tw := 101 + tk.tmod (c.ms : Int), ch := y.ch } : Lt)).cells 37)) w.heap.size 62 (c.ticked.dcells d) := ⟨HX.out.cell 0, HX.out.cell 1, (HX.out.cell 3).trans (by rw [HTK.out]; rfl), HX.out⟩
 clear h9
 refine hK.out _ _ ?_ (fun hHeld => ?_)
 ·first | exact HS | go_keep
 clear hK K
 try simp only [Act.put, pS]
 refine wpAnyH_ready (rs := [17]) (by kernel_rfl) (by simp) ?_
 refine (AllReadyH.cons rfl (fun K hK => ?_) AllReadyH.nil)
 refine step_append_any _ rfl (.tmp 14) (.tmp 28) _ rfl (w.heap.size + 2) 37 i0 _ 25 264 Tryz.underlying67 hi hz0 hz1 hz2 rfl (by omega) (.slice (some ⟨q1, 0, none⟩) 1 1) 1 xs1 rfl HQ.out _ (some ⟨x13.heap.size, 0, none⟩) 1 1 (({ Lt.zero with kd := 10, fr := 200 + (c.cl : Int), tw := 101 + tk.tmod (c.ms : Int), ch := y.ch } : Lt)).cells.toList rfl (reads_blk_lt HN.out) (lt_news _) (by decide) (by decide) hW0 ?_
 intro v4 w4 hown hg hat
 have HO4 := Lib.hid hown
 have hcg := Chg.of_grown hg
 have h9s := hcg.size
 replace HB := Lib.hid (HB.out.grown hg HB.out.size (fun g hg' => Nat.le_trans (Nat.le_add_right _ 2) (HQ.out.lt g hg').1))
 replace HX := Lib.hid (hcg.blk HX.out (fun e => by have := (HQ.out.lt _ e.symm).1; omega))
 replace HR := Lib.hid (hcg.blk HR.out (fun e => by have := (HQ.out.lt _ e.symm).1; omega))
 replace HIN := Lib.hid (fun W hc => HIN.out W ((hcg.mono (fun i _ e => by injection e with e; exact .inr (Nat.le_of_eq e.symm))).trans hc (fun _ _ e => e)))
 replace hq1W := Nat.lt_of_lt_of_le hq1W h9s
 replace hW0 : w.heap.size + 1 < w4.heap.size := HR.out.lt
 have HS : w4.cell? ⟨w.heap.size, 0, none⟩ = some (.int .i64 c.cl) ∧ w4.cell? ⟨w.heap.size, 1, none⟩ = some (.int .i64 c.ms) ∧ w4.cell? ⟨w.heap.size, 3, none⟩ = some (.int .i64 tk) ∧ Blk w4 w.heap.size 62 (c.ticked.dcells d) := ⟨HX.out.cell 0, HX.out.cell 1, (HX.out.cell 3).trans (by rw [HTK.out]; rfl), HX.out⟩
 clear hown hg hat hcg h9s
 refine hK.out _ _ ?_ (fun hHeld => ?_)
 ·first | exact HS | go_keep
 clear hK K
 try simp only [Act.put, pS]
 refine wpAnyH_ready (rs := [18]) (by kernel_rfl) (by simp) ?_
 refine (AllReadyH.cons rfl (fun K hK => ?_) AllReadyH.nil)
 have hcg : Chg w4 (World.setRow w4 (w.heap.size + 1) (c.ticked.dcells d)) (fun i => i = w.heap.size + 1) := chg_row9 _ _ _
 replace HB : Hid (Below w.heap.size w (World.setRow w4 (w.heap.size + 1) (c.ticked.dcells d))) := Lib.hid (setRow_below HB.out HB.out.size (Nat.le_succ _) _)
 replace HX := Lib.hid (hcg.blk HX.out (by simp))
 have HR0 := HR
 replace HR : Hid (Blk (World.setRow w4 (w.heap.size + 1) (c.ticked.dcells d)) (w.heap.size + 1) 62 (c.ticked.dcells d)) := Lib.hid (setRow_heap _ _ _ _ _ _ HR0.out)
 (try replace HIN := Lib.hid (fun W hc => HIN.out W ((hcg.mono (fun i _ e => Or.inl e)).trans hc (fun _ _ e => e))))
 (try replace HQ := Lib.hid (hcg.own HQ.out (fun k hk e => by have := (HQ.out.lt k hk).1; omega)))
 (try replace HO4 := Lib.hid (hcg.own HO4.out (fun k hk e => by have := (HO4.out.lt k hk).1; omega)))
 (try replace HN := Lib.hid (hcg.blk HN.out (by omega)))
 (try replace hq1W := Nat.lt_of_lt_of_le hq1W hcg.size)
 replace hW0 : w.heap.size + 1 < (World.setRow w4 (w.heap.size + 1) (c.ticked.dcells d)).heap.size := HR.out.lt
 have HS : (World.setRow w4 (w.heap.size + 1) (c.ticked.dcells d)).cell? ⟨w.heap.size, 0, none⟩ = some (.int .i64 c.cl) ∧ (World.setRow w4 (w.heap.size + 1) (c.ticked.dcells d)).cell? ⟨w.heap.size, 1, none⟩ = some (.int .i64 c.ms) ∧ (World.setRow w4 (w.heap.size + 1) (c.ticked.dcells d)).cell? ⟨w.heap.size, 3, none⟩ = some (.int .i64 tk) ∧ Blk (World.setRow w4 (w.heap.size + 1) (c.ticked.dcells d)) w.heap.size 62 (c.ticked.dcells d) := ⟨HX.out.cell 0, HX.out.cell 1, (HX.out.cell 3).trans (by rw [HTK.out]; rfl), HX.out⟩
 clear hcg
 refine step_store_row rfl 62 (.tmp 2) (.tmp 12) rfl (w.heap.size + 1) (c.ticked.dcells d) rfl rfl 62 #[.int .i64 0, .int .i64 0, .int .u64 0, .int .i64 0, .slice none 0 0, .int .i64 0, .int .u32 0, .int .u64 0, .slice none 0 0, .int .i64 0, .int .i64 0, .int .i64 0, .int .u64 0, .slice none 0 0, .int .u64 0, .int .i64 0, .int .u64 0, .slice none 0 0] HR0.out dcInfo rfl (dc_all _ _) ?_
 refine hK.out _ _ ?_ (fun hHeld => ?_)
 ·first | exact HS | go_keep
 clear hK K
 generalize (World.setRow w4 (w.heap.size + 1) (c.ticked.dcells d)) = Vs at *
 try simp only [Act.put, pS]
 refine tkT 19 rfl (v := ?_) ?_ ?_
 rotate_left 1
 ·(intro wq hSw; (try dsimp only at hSw); go_simp; (try with_reducible rfl))
 try simp only [Act.put, pS]
 refine wpAnyH_done (by kernel_rfl) ?_ _
 go_wp2_with (fail)
 refine bodyPost_ret_by (results_cell_row_tmp Tryz.results22 _ _ (w.heap.size + 1) 62 (c.ticked.dcells d) (0, 0) _ _ rfl HR.out rfl Tryz.underlying62 rfl dcInfo) rfl ?_
 obtain ⟨A4, c4, e4, hr4, _, _⟩ := own_slice HO4.out
 have hwh := where_in (k := k) (c := c) (l := ({ Lt.zero with kd := 10, fr := 200 + (c.cl : Int), tw := 101 + tk.tmod (c.ms : Int), ch := y.ch } : Lt)) HVS.out hcl hms ⟨y.val, HYL.out, by rw [HTK.out]; simp only [Cl.ticked]; congr 1⟩
 refine ⟨HB.out, .inr ⟨HST.out, A4, c4, xx, ⟨({ Lt.zero with kd := 10, fr := 200 + (c.cl : Int), tw := 101 + tk.tmod (c.ms : Int), ch := y.ch } : Lt), [], [], [], []⟩, (by rw [← e4]; rfl), ⟨?_, ?_⟩, HNR.out.2, hwh.2⟩⟩
 ·have e : [xx, (⟨({ Lt.zero with kd := 10, fr := 200 + (c.cl : Int), tw := 101 + tk.tmod (c.ms : Int), ch := y.ch } : Lt), [], [], [], []⟩ : LV)].flatMap lrow = xs1 ++ (({ Lt.zero with kd := 10, fr := 200 + (c.cl : Int), tw := 101 + tk.tmod (c.ms : Int), ch := y.ch } : Lt)).cells.toList := by rw [← HXL.out]; simp [lrow]
  rw [e]
  exact hr4
 ·intro x hx
  simp only [List.mem_cons, List.not_mem_nil, or_false] at hx
  rcases hx with rfl | rfl
  ·exact ⟨(HIN.out _ (Chg.refl _ _)).more (Nat.le_of_lt hq1W), HNR.out.1⟩
  ·exact hwh.1 _ _
end Go.Proofs.YtmpedblelnpjdaaGreatDoor

end
section
/- The document's caller: Begin. -/
namespace Go.Proofs.YtmpedblelnpjdaaGreatDoor
open Go.RowKit
set_option linter.unusedSimpArgs false
set_option linter.unusedVariables false
set_option maxHeartbeats 1000000
set_option maxRecDepth 100000
attribute [local go_sem] Opn.agg Opn.cells Up.agg Up.cells
theorem results_cell_row_tmp2 {P : Program} {fn : Func} {p u v : Tmp} {ty : TypeId} (h : fn.results = #[.cell p ty, .tmp u, .tmp v]) (tmps : Array Value) (w : World) (g : Nat) (t : TypeId) (cs : Array Value) (fr : Nat × Nat) (d : TypeDesc) (q r : Value)
  (hp : tmps.getD p undef = .pointer (some ⟨g, 0, none⟩)) (hg : w.heap[g]? = some (.cells cs t fr)) (hq : tmps.getD u undef = q) (hr : tmps.getD v undef = r)
  (hu : P.underlying ty = some d) (hd : (match d with | .struct _ | .array _ _ => true | _ => false) = true) (hi : (P.info? ty).map (·.size) = some cs.size) :
  (results fn tmps).run P w = .ok (.tuple #[.agg cs, q, r]) w := by
 have hp' : tmps[p]?.getD undef = .pointer (some ⟨g, 0, none⟩) := by simpa using hp
 have hq' : tmps[u]?.getD undef = q := by simpa using hq
 have hr' : tmps[v]?.getD undef = r := by simpa using hr
 simp [results, h, hp', hq', hr', asAddr, run_loadVar_row w g t ty cs fr d hg hu hd hi]
def DA.begun (d : DA) (o : Opn) : DA := ⟨d.lA, d.ln, d.lc, o.A, o.c, none, 0, d.yA, d.yc⟩
theorem DIn.begun {w : World} {B : Nat} {c : Cl} {d : DA} {l : List Cf} {o : Opn} (h : DIn w B c d l) (ho : OpIn w B o) (A : Option Addr) (n : Nat) : DIn w B (c.begun o A n) (d.begun o) l :=
 ⟨h.cf, h.lc, ho, Reads.none_, ⟨Nat.le_refl _, Nat.zero_le _⟩, h.ly, h.yc⟩
theorem begun3_cells (c : Cl) (d : DA) (o : Opn) : ((((((c.dcells d).setIfInBounds 2 (.int .u64 ((c.num : Int) + 1))).setIfInBounds 5 (.int .i64 o.kd)).setIfInBounds 6 (.int .u32 o.key)).setIfInBounds 7 (.int .u64 o.ver)).setIfInBounds 8 (.slice o.A o.n o.c)).setIfInBounds 9 (.int .i64 o.pick) = #[.int .i64 c.cl, .int .i64 c.ms, .int .u64 ((c.num : Int) + 1), .int .i64 c.tk, .slice d.lA d.ln d.lc, .int .i64 o.kd, .int .u32 o.key, .int .u64 o.ver, .slice o.A o.n o.c, .int .i64 o.pick, .int .i64 c.st, .int .i64 c.rp.cd, .int .u64 c.rp.vr, .slice d.rA c.rp.n d.rc, .int .u64 c.last, .int .i64 c.ly.cd, .int .u64 c.ly.vr, .slice d.yA c.ly.n d.yc] := by
 simp [Cl.dcells]
theorem begun_cells (c : Cl) (d : DA) (o : Opn) : ((((#[.int .i64 c.cl, .int .i64 c.ms, .int .u64 ((c.num : Int) + 1), .int .i64 c.tk, .slice d.lA d.ln d.lc, .int .i64 o.kd, .int .u32 o.key, .int .u64 o.ver, .slice o.A o.n o.c, .int .i64 o.pick, .int .i64 c.st, .int .i64 c.rp.cd, .int .u64 c.rp.vr, .slice d.rA c.rp.n d.rc, .int .u64 c.last, .int .i64 c.ly.cd, .int .u64 c.ly.vr, .slice d.yA c.ly.n d.yc] : Array Value).setIfInBounds 10 (.int .i64 1)).setIfInBounds 11 (.int .i64 0)).setIfInBounds 12 (.int .u64 0)).setIfInBounds 13 (.slice none 0 0) = (c.begun o none 0).dcells (d.begun o) := by
 simp [Cl.dcells, Cl.begun, DA.begun, Opn.at_, Rp.zero]
def DBegP (vs : List CV) (k : Nat) (c : Cl) (o : Opn) (d : DA) (w : World) (e : Ending) (w' : World) : Prop :=
 Below w.heap.size w w' ∧ ((beginE c o ≠ 0 ∧ e = .returned (.tuple #[.agg (c.dcells d), .slice none 0 0, .int .i64 (beginE c o)])) ∨
  (beginE c o = 0 ∧ ∃ (q : Nat) (x : LV), e = .returned (.tuple #[.agg ((c.begun o none 0).dcells (d.begun o)), .slice (some ⟨q, 0, none⟩) 1 1, .int .i64 0]) ∧ w.heap.size ≤ q ∧ Blk w' q 37 x.l.cells ∧ LIn w' q x ∧ x.near ∧ AskOf vs k (c.begun o none 0) x.val))
theorem dBegin_any (c : Cl) (d : DA) (o : Opn) (l : List Cf) (k B : Nat) (w : World) (h : DIn w B c d l) (ho : OpIn w B o) (hB : B ≤ w.heap.size) (hk : o.key = (k : Int)) (h1 : 1 ≤ l.length) (h4 : l.length ≤ 4) (hvs : VsOk (l.map Cf.val)) (hcl : c.cl ≤ 6) (hnum : c.num + 1 ≤ 1000000) (hn : o.n ≤ 1000000) :
  Calls Tryz.prog 24 #[.agg (c.dcells d), o.agg] w (DBegP (l.map Cf.val) k c o d w) := by
 have hkk : k < 4294967296 := by have : o.key ≤ 4294967295 := ho.wf.key.2; omega
 have HVS := Lib.hid hvs
 have HKK := Lib.hid hk
 obtain ⟨W1, hW1⟩ : ∃ W1, W1 = ((w.alloc (.cells (c.dcells d) 62)).alloc (.cells o.cells 58)).alloc (.cells #[.int .i64 0, .int .i64 0, .int .u64 0, .int .i64 0, .slice none 0 0, .int .i64 0, .int .u32 0, .int .u64 0, .slice none 0 0, .int .i64 0, .int .i64 0, .int .i64 0, .int .u64 0, .slice none 0 0, .int .u64 0, .int .i64 0, .int .u64 0, .slice none 0 0] 62) := ⟨_, rfl⟩
 have HX : Hid (Blk W1 w.heap.size 62 (c.dcells d)) := Lib.hid (by rw [hW1]; exact ((Blk.new _ _ _).alloc _).alloc _)
 have HO : Hid (Blk W1 (w.heap.size + 1) 58 o.cells) := Lib.hid (by rw [hW1, show w.heap.size + 1 = (w.alloc (.cells (c.dcells d) 62)).heap.size by simp]; exact (Blk.new _ _ _).alloc _)
 have HR : Hid (Blk W1 (w.heap.size + 2) 62 #[.int .i64 0, .int .i64 0, .int .u64 0, .int .i64 0, .slice none 0 0, .int .i64 0, .int .u32 0, .int .u64 0, .slice none 0 0, .int .i64 0, .int .i64 0, .int .i64 0, .int .u64 0, .slice none 0 0, .int .u64 0, .int .i64 0, .int .u64 0, .slice none 0 0]) := Lib.hid (by rw [hW1, show w.heap.size + 2 = ((w.alloc (.cells (c.dcells d) 62)).alloc (.cells o.cells 58)).heap.size by simp]; exact Blk.new _ _ _)
 have HB : Hid (Below w.heap.size w W1) := Lib.hid (by rw [hW1]; exact (((Below.refl _ _).alloc (Nat.le_refl _) _).alloc (by simp) _).alloc (by simp <;> omega) _)
 have HW1 := Lib.hid hW1
 have HD := Lib.hid h
 have HOP := Lib.hid ho
 have hkd := ho.wf.kd
 have hvr := ho.wf.ver
 clear h ho hk hvs hW1
 have x10 : W1.cell? ⟨w.heap.size, 10, none⟩ = some (.int .i64 c.st) := HX.out.cell 10
 obtain ⟨o0, o1, o2, o3, o4⟩ := op_cells HO.out
 go_enter Tryz.func24, Tryz.ntmps24
 go_upto_region 1 with (fail)
 rw [show ((w.alloc (.cells (c.dcells d) 62)).alloc (.cells #[.int .i64 o.kd, .int .u32 o.key, .int .u64 o.ver, .slice o.A o.n o.c, .int .i64 o.pick] 58)).alloc (.cells #[.int .i64 0, .int .i64 0, .int .u64 0, .int .i64 0, .slice none 0 0, .int .i64 0, .int .u32 0, .int .u64 0, .slice none 0 0, .int .i64 0, .int .i64 0, .int .i64 0, .int .u64 0, .slice none 0 0, .int .u64 0, .int .i64 0, .int .u64 0, .slice none 0 0] 62) = W1 from HW1.out.symm]
 clear HW1
 by_cases hst : c.st = 1
 ·have q1 : ((c.st : Int) == 1) = true := by simp; omega
  have HST := Lib.hid hst
  clear hst
  go_upto_region 2 with (fail)
  iterate 1 go_step
  refine wpList_load_row rfl 62 (.tmp 2) rfl w.heap.size rfl 62 (c.dcells d) (0, 0) _ HX.out Tryz.underlying62 rfl dcInfo ?_
  skip
  refine wpList_store_row rfl 62 (.tmp 4) (.tmp 12) rfl (w.heap.size + 2) (c.dcells d) rfl rfl 62 #[.int .i64 0, .int .i64 0, .int .u64 0, .int .i64 0, .slice none 0 0, .int .i64 0, .int .u32 0, .int .u64 0, .slice none 0 0, .int .i64 0, .int .i64 0, .int .i64 0, .int .u64 0, .slice none 0 0, .int .u64 0, .int .i64 0, .int .u64 0, .slice none 0 0] HR.out dcInfo rfl (dc_all _ _) ?_
  have HR3 := Lib.hid (show Blk (World.setRow W1 (w.heap.size + 2) (c.dcells d)) (w.heap.size + 2) 62 (c.dcells d) from setRow_heap _ _ _ _ _ _ HR.out)
  have HB3 := Lib.hid (setRow_below HB.out HB.out.size (Nat.le_add_right _ 2) (g := w.heap.size + 2) (c.dcells d))
  generalize World.setRow W1 (w.heap.size + 2) (c.dcells d) = W3 at *
  go_wp2_with (fail)
  refine bodyPost_ret_by (results_cell_row_tmp2 Tryz.results24 _ _ (w.heap.size + 2) 62 (c.dcells d) (0, 0) _ _ _ rfl HR3.out rfl rfl Tryz.underlying62 rfl dcInfo) rfl ?_
  have he : beginE c o = 12 := by unfold beginE; rw [if_pos HST.out]
  exact ⟨HB3.out, .inl ⟨by rw [he]; decide, by rw [he]; rfl⟩⟩
 have q1 : ((c.st : Int) == 1) = false := by simp; omega
 have HST := Lib.hid hst
 clear hst
 by_cases hlo : o.kd < 1 ∨ 3 < o.kd
 ·have HLO := Lib.hid hlo
  by_cases hl1 : o.kd < 1
  ·have q2 : decide (o.kd < 1) = true := by simp [hl1]
   exact rp33
  ·have q2 : decide (o.kd < 1) = false := by simp; omega
   have q3 : decide (3 < o.kd) = true := by simp; omega
   have hl3 : 3 < o.kd := by omega
   exact rp33
 have q2 : decide (o.kd < 1) = false := by simp; omega
 have q3 : decide (3 < o.kd) = false := by simp; omega
 have hk1 : ¬ o.kd < 1 := by omega
 have hk3 : ¬ 3 < o.kd := by omega
 clear hlo
 by_cases hk : o.kd = 1
 ·have q4 : (o.kd == 1) = true := by simp [hk]
  have HK1 := Lib.hid hk
  clear hk
  by_cases hv : 0 < o.ver
  ·have q5 : decide (0 < o.ver) = true := by simp [hv]
   have hv0 : o.ver ≠ 0 := by omega
   go_upto_region 7 with (fail)
   iterate 1 go_step
   refine wpList_load_row rfl 62 (.tmp 2) rfl w.heap.size rfl 62 (c.dcells d) (0, 0) _ HX.out Tryz.underlying62 rfl dcInfo ?_
   skip
   refine wpList_store_row rfl 62 (.tmp 4) (.tmp 34) rfl (w.heap.size + 2) (c.dcells d) rfl rfl 62 #[.int .i64 0, .int .i64 0, .int .u64 0, .int .i64 0, .slice none 0 0, .int .i64 0, .int .u32 0, .int .u64 0, .slice none 0 0, .int .i64 0, .int .i64 0, .int .i64 0, .int .u64 0, .slice none 0 0, .int .u64 0, .int .i64 0, .int .u64 0, .slice none 0 0] HR.out dcInfo rfl (dc_all _ _) ?_
   have HR3 := Lib.hid (show Blk (World.setRow W1 (w.heap.size + 2) (c.dcells d)) (w.heap.size + 2) 62 (c.dcells d) from setRow_heap _ _ _ _ _ _ HR.out)
   have HB3 := Lib.hid (setRow_below HB.out HB.out.size (Nat.le_add_right _ 2) (g := w.heap.size + 2) (c.dcells d))
   generalize World.setRow W1 (w.heap.size + 2) (c.dcells d) = W3 at *
   go_wp2_with (fail)
   refine bodyPost_ret_by (results_cell_row_tmp2 Tryz.results24 _ _ (w.heap.size + 2) 62 (c.dcells d) (0, 0) _ _ _ rfl HR3.out rfl rfl Tryz.underlying62 rfl dcInfo) rfl ?_
   have he : beginE c o = 4 := by unfold beginE chkE; rw [if_neg HST.out, if_pos HK1.out, if_pos (.inl hv0)]
   exact ⟨HB3.out, .inl ⟨by rw [he]; decide, by rw [he]; rfl⟩⟩
  have q5 : decide (0 < o.ver) = false := by simp; omega
  have hv0 : o.ver = 0 := by omega
  by_cases hn0 : 0 < o.n
  ·have q6 : (0 < (o.n : Int)) = True := by simp; omega
   go_upto_region 7 with (fail)
   iterate 1 go_step
   refine wpList_load_row rfl 62 (.tmp 2) rfl w.heap.size rfl 62 (c.dcells d) (0, 0) _ HX.out Tryz.underlying62 rfl dcInfo ?_
   skip
   refine wpList_store_row rfl 62 (.tmp 4) (.tmp 34) rfl (w.heap.size + 2) (c.dcells d) rfl rfl 62 #[.int .i64 0, .int .i64 0, .int .u64 0, .int .i64 0, .slice none 0 0, .int .i64 0, .int .u32 0, .int .u64 0, .slice none 0 0, .int .i64 0, .int .i64 0, .int .i64 0, .int .u64 0, .slice none 0 0, .int .u64 0, .int .i64 0, .int .u64 0, .slice none 0 0] HR.out dcInfo rfl (dc_all _ _) ?_
   have HR3 := Lib.hid (show Blk (World.setRow W1 (w.heap.size + 2) (c.dcells d)) (w.heap.size + 2) 62 (c.dcells d) from setRow_heap _ _ _ _ _ _ HR.out)
   have HB3 := Lib.hid (setRow_below HB.out HB.out.size (Nat.le_add_right _ 2) (g := w.heap.size + 2) (c.dcells d))
   generalize World.setRow W1 (w.heap.size + 2) (c.dcells d) = W3 at *
   go_wp2_with (fail)
   refine bodyPost_ret_by (results_cell_row_tmp2 Tryz.results24 _ _ (w.heap.size + 2) 62 (c.dcells d) (0, 0) _ _ _ rfl HR3.out rfl rfl Tryz.underlying62 rfl dcInfo) rfl ?_
   have he : beginE c o = 4 := by unfold beginE chkE; rw [if_neg HST.out, if_pos HK1.out, if_pos (.inr hn0)]
   exact ⟨HB3.out, .inl ⟨by rw [he]; decide, by rw [he]; rfl⟩⟩
  have q6 : (0 < (o.n : Int)) = False := by simp; omega
  have q7 : (0 < o.n) = False := by simp; omega
  have q8 : decide (0 < o.n) = false := by simp; omega
  have HE : Hid (beginE c o = 0) := Lib.hid (by unfold beginE chkE; rw [if_neg HST.out, if_pos HK1.out, if_neg (by rintro (e | e); exact e hv0; exact hn0 e)])
  clear hv hn0 hv0
  go_upto_region 11 with (fail)
  clear x10 q1 q2 q3 q4 q5 q6 q7 q8 o0 o1 o2 o3 o4
  obtain ⟨o0, o1, o2, o3, o4⟩ := op_cells HO.out
  have x2 : W1.cell? ⟨w.heap.size, 2, none⟩ = some (.int .u64 c.num) := HX.out.cell 2
  have f2 := HX.out.frozen 2
  have e1 : IntKind.u64.wrap ((c.num : Int) + 1) = ((c.num + 1 : Nat) : Int) := by rw [IntKind.wrap_u64]; omega
  obtain ⟨W2, hW2⟩ : ∃ W2, W2 = W1.setCell ⟨w.heap.size, 2, none⟩ (.int .u64 ((c.num : Int) + 1)) := ⟨_, rfl⟩
  exact rp0
 have q4 : (o.kd == 1) = false := by simp [hk]
 have HK1 := Lib.hid hk
 have hk23 : o.kd = 2 ∨ o.kd = 3 := by omega
 have RQ := Lib.hid (fun W => refRequest_any o c.cl ((c.num : Int) + 1) W HOP.out.wf hn (by omega) (by omega))
 have HE1 : Hid (beginE c o = reqE o c.cl ((c.num : Int) + 1)) := Lib.hid (by unfold beginE chkE; rw [if_neg HST.out, if_neg HK1.out, if_pos hk23]; rfl)
 have x0 : W1.cell? ⟨w.heap.size, 0, none⟩ = some (.int .i64 c.cl) := HX.out.cell 0
 have x2 : W1.cell? ⟨w.heap.size, 2, none⟩ = some (.int .u64 c.num) := HX.out.cell 2
 have e1 : IntKind.u64.wrap ((c.num : Int) + 1) = ((c.num : Int) + 1) := by rw [IntKind.wrap_u64]; omega
 clear hk hk23
 go_upto_region 8 with (fail)
 go_wp2_with (fail)
 refine (RQ.out _).mono ?_
 rintro e w5 ⟨rfl, hb5⟩
 obtain ⟨z, hz⟩ : ∃ z, z = reqE o c.cl ((c.num : Int) + 1) := ⟨_, rfl⟩
 rw [← hz] at HE1 ⊢
 have HX5 := Lib.hid (HX.out.below hb5 HX.out.lt)
 have HO5 := Lib.hid (HO.out.below hb5 HO.out.lt)
 have HR5 := Lib.hid (HR.out.below hb5 HR.out.lt)
 have HB5 := Lib.hid (HB.out.trans (hb5.mono HB.out.size))
 clear hb5 hz RQ HX HO HR HB x10 x0 x2 q1 q2 q3 q4 o0 o1 o2 o3 o4 hk1 hk3
 generalize reqV z (reqU o c.cl ((c.num : Int) + 1) o.A o.c) = u at *
 go_upto_region 9 with (fail)
 obtain ⟨W6, hW6⟩ : ∃ W6, W6 = w5.alloc (.cells #[.int .u64 u.seq, .int .i64 u.cl, .int .u64 u.num, .int .i64 u.kd, .int .u32 u.key, .int .u64 u.ver, .slice u.A u.n u.c] 145) := ⟨_, rfl⟩
 have HX : Hid (Blk W6 w.heap.size 62 (c.dcells d)) := Lib.hid (by rw [hW6]; exact HX5.out.alloc _)
 have HO : Hid (Blk W6 (w.heap.size + 1) 58 o.cells) := Lib.hid (by rw [hW6]; exact HO5.out.alloc _)
 have HR : Hid (Blk W6 (w.heap.size + 2) 62 #[.int .i64 0, .int .i64 0, .int .u64 0, .int .i64 0, .slice none 0 0, .int .i64 0, .int .u32 0, .int .u64 0, .slice none 0 0, .int .i64 0, .int .i64 0, .int .i64 0, .int .u64 0, .slice none 0 0, .int .u64 0, .int .i64 0, .int .u64 0, .slice none 0 0]) := Lib.hid (by rw [hW6]; exact HR5.out.alloc _)
 have HB : Hid (Below w.heap.size w W6) := Lib.hid (by rw [hW6]; exact HB5.out.alloc HB5.out.size _)
 rw [← hW6]
 clear hW6 HX5 HO5 HR5 HB5
 by_cases hz : z = 0
 rotate_left
 ·have HZ := Lib.hid hz
  have q9 : (z != 0) = true := by simp [hz]
  clear hz
  go_upto_region 10 with (fail)
  iterate 1 go_step
  refine wpList_load_row rfl 62 (.tmp 2) rfl w.heap.size rfl 62 (c.dcells d) (0, 0) _ HX.out Tryz.underlying62 rfl dcInfo ?_
  iterate 3 go_step
  refine wpList_store_row rfl 62 (.tmp 4) (.tmp 47) rfl (w.heap.size + 2) (c.dcells d) rfl rfl 62 #[.int .i64 0, .int .i64 0, .int .u64 0, .int .i64 0, .slice none 0 0, .int .i64 0, .int .u32 0, .int .u64 0, .slice none 0 0, .int .i64 0, .int .i64 0, .int .i64 0, .int .u64 0, .slice none 0 0, .int .u64 0, .int .i64 0, .int .u64 0, .slice none 0 0] HR.out dcInfo rfl (dc_all _ _) ?_
  have HR3 := Lib.hid (show Blk (World.setRow W6 (w.heap.size + 2) (c.dcells d)) (w.heap.size + 2) 62 (c.dcells d) from setRow_heap _ _ _ _ _ _ HR.out)
  have HB3 := Lib.hid (setRow_below HB.out HB.out.size (Nat.le_add_right _ 2) (g := w.heap.size + 2) (c.dcells d))
  generalize World.setRow W6 (w.heap.size + 2) (c.dcells d) = W3 at *
  go_wp2_with (fail)
  refine bodyPost_ret_by (results_cell_row_tmp2 Tryz.results24 _ _ (w.heap.size + 2) 62 (c.dcells d) (0, 0) _ _ _ rfl HR3.out rfl rfl Tryz.underlying62 rfl dcInfo) rfl ?_
  have he : beginE c o = z := HE1.out
  exact ⟨HB3.out, .inl ⟨by rw [he]; exact HZ.out, by rw [he]; rfl⟩⟩
 have q9 : (z != 0) = false := by simp [hz]
 have HE : Hid (beginE c o = 0) := Lib.hid (by rw [HE1.out, hz])
 clear HE1
 subst hz
 go_upto_region 11 with (fail)
 clear q9 e1
 obtain ⟨o0, o1, o2, o3, o4⟩ := op_cells HO.out
 have x2 : W6.cell? ⟨w.heap.size, 2, none⟩ = some (.int .u64 c.num) := HX.out.cell 2
 have f2 := HX.out.frozen 2
 have e1 : IntKind.u64.wrap ((c.num : Int) + 1) = ((c.num + 1 : Nat) : Int) := by rw [IntKind.wrap_u64]; omega
 obtain ⟨W2, hW2⟩ : ∃ W2, W2 = W6.setCell ⟨w.heap.size, 2, none⟩ (.int .u64 ((c.num : Int) + 1)) := ⟨_, rfl⟩
 exact rp0
end Go.Proofs.YtmpedblelnpjdaaGreatDoor

end
section
/- The document's caller: New. -/
namespace Go.Proofs.YtmpedblelnpjdaaGreatDoor
open Go.RowKit
set_option linter.unusedSimpArgs false
set_option linter.unusedVariables false
set_option maxHeartbeats 1000000
set_option maxRecDepth 100000
def DA.new (A : Option Addr) (n c : Nat) : DA := ⟨A, n, c, none, 0, none, 0, none, 0⟩
def DNewP (cl ms : Int) (l : List Cf) (A : Option Addr) (n c : Nat) (w : World) (e : Ending) (w' : World) : Prop := Below w.heap.size w w' ∧
  ((¬ ((1 ≤ cl ∧ cl ≤ 6 ∧ 1 ≤ ms ∧ ms ≤ 5) ∧ allB l = true) ∧ e = .returned (.tuple #[.agg #[.int .i64 0, .int .i64 0, .int .u64 0, .int .i64 0, .slice none 0 0, .int .i64 0, .int .u32 0, .int .u64 0, .slice none 0 0, .int .i64 0, .int .i64 0, .int .i64 0, .int .u64 0, .slice none 0 0, .int .u64 0, .int .i64 0, .int .u64 0, .slice none 0 0], .int .i64 1])) ∨
   ((1 ≤ cl ∧ cl ≤ 6 ∧ 1 ≤ ms ∧ ms ≤ 5) ∧ allB l = true ∧ e = .returned (.tuple #[.agg ((Cl.new cl.toNat ms.toNat).dcells (DA.new A n c)), .int .i64 0])))
theorem dn_zero (w : World) : (Instr.build 62 #[]).run Tryz.prog w = .ok (.agg #[.int .i64 0, .int .i64 0, .int .u64 0, .int .i64 0, .slice none 0 0, .int .i64 0, .int .u32 0, .int .u64 0, .slice none 0 0, .int .i64 0, .int .i64 0, .int .i64 0, .int .u64 0, .slice none 0 0, .int .u64 0, .int .i64 0, .int .u64 0, .slice none 0 0]) w := by kernel_rfl
theorem dn_new (a b : Int) (A : Option Addr) (n c : Nat) (w : World) : (Instr.build 62 #[(0, .int .i64 a), (1, .int .i64 b), (4, .slice A n c)]).run Tryz.prog w = .ok (.agg #[.int .i64 a, .int .i64 b, .int .u64 0, .int .i64 0, .slice A n c, .int .i64 0, .int .u32 0, .int .u64 0, .slice none 0 0, .int .i64 0, .int .i64 0, .int .i64 0, .int .u64 0, .slice none 0 0, .int .u64 0, .int .i64 0, .int .u64 0, .slice none 0 0]) w := by kernel_rfl
theorem dNew_any (cl ms : Int) (A : Option Addr) (n c B : Nat) (l : List Cf) (w : World) (hl : CfsIn w B A n l) (hB : B ≤ w.heap.size) (hn : n ≤ 1000) :
  Calls Tryz.prog 19 #[.int .i64 cl, .int .i64 ms, .slice A n c] w (DNewP cl ms l A n c w) := by
 have AL := Lib.hid (fun W (h9 : Below w.heap.size w W) => refAll_any A n c B l W (hl.below (h9.mono hB)) (Nat.le_trans hB h9.size) hn)
 have HB : Hid (Below w.heap.size w (w.alloc (.cells #[.int .i64 0, .int .i64 0, .int .u64 0, .int .i64 0, .slice none 0 0, .int .i64 0, .int .u32 0, .int .u64 0, .slice none 0 0, .int .i64 0, .int .i64 0, .int .i64 0, .int .u64 0, .slice none 0 0, .int .u64 0, .int .i64 0, .int .u64 0, .slice none 0 0] 62))) := Lib.hid ((Below.refl _ _).alloc (Nat.le_refl _) _)
 have HR : Hid (Blk (w.alloc (.cells #[.int .i64 0, .int .i64 0, .int .u64 0, .int .i64 0, .slice none 0 0, .int .i64 0, .int .u32 0, .int .u64 0, .slice none 0 0, .int .i64 0, .int .i64 0, .int .i64 0, .int .u64 0, .slice none 0 0, .int .u64 0, .int .i64 0, .int .u64 0, .slice none 0 0] 62)) w.heap.size 62 #[.int .i64 0, .int .i64 0, .int .u64 0, .int .i64 0, .slice none 0 0, .int .i64 0, .int .u32 0, .int .u64 0, .slice none 0 0, .int .i64 0, .int .i64 0, .int .i64 0, .int .u64 0, .slice none 0 0, .int .u64 0, .int .i64 0, .int .u64 0, .slice none 0 0]) := Lib.hid (Blk.new _ _ _)
 have hz1 := dn_zero
 have hz2 := dn_new
 by_cases h1 : cl < 1
 ·have q1 : decide (cl < 1) = true := by simp [h1]
  exact rp3
 have q1 : decide (cl < 1) = false := by simp; omega
 by_cases h2 : 6 < cl
 ·have q2 : decide (6 < cl) = true := by simp [h2]
  exact rp3
 have q2 : decide (6 < cl) = false := by simp; omega
 by_cases h3 : ms < 1
 ·have q3 : decide (ms < 1) = true := by simp [h3]
  exact rp3
 have q3 : decide (ms < 1) = false := by simp; omega
 by_cases h4 : 5 < ms
 ·have q4 : decide (5 < ms) = true := by simp [h4]
  exact rp3
 have q4 : decide (5 < ms) = false := by simp; omega
 go_enter Tryz.func19, Tryz.ntmps19
 go_wp2_with (fail)
 refine (AL.out _ HB.out).mono ?_
 rintro e w2 ⟨rfl, hb2⟩
 have HB2 := Lib.hid (HB.out.trans (hb2.mono HB.out.size))
 have HR2 := Lib.hid (HR.out.below hb2 HR.out.lt)
 clear hb2
 cases hb : allB l
 ·have HAB := Lib.hid hb
  clear hb
  go_upto_region 2 with (fail)
  have hbz := dn_zero
  iterate 4 go_step
  refine wpList_store_row rfl 62 (.tmp 6) (.tmp 27) rfl w.heap.size #[.int .i64 0, .int .i64 0, .int .u64 0, .int .i64 0, .slice none 0 0, .int .i64 0, .int .u32 0, .int .u64 0, .slice none 0 0, .int .i64 0, .int .i64 0, .int .i64 0, .int .u64 0, .slice none 0 0, .int .u64 0, .int .i64 0, .int .u64 0, .slice none 0 0] rfl rfl 62 #[.int .i64 0, .int .i64 0, .int .u64 0, .int .i64 0, .slice none 0 0, .int .i64 0, .int .u32 0, .int .u64 0, .slice none 0 0, .int .i64 0, .int .i64 0, .int .i64 0, .int .u64 0, .slice none 0 0, .int .u64 0, .int .i64 0, .int .u64 0, .slice none 0 0] HR2.out dcInfo rfl (by simp [Value.oneCell']) ?_
  have HR3 := Lib.hid (show Blk (World.setRow w2 w.heap.size #[.int .i64 0, .int .i64 0, .int .u64 0, .int .i64 0, .slice none 0 0, .int .i64 0, .int .u32 0, .int .u64 0, .slice none 0 0, .int .i64 0, .int .i64 0, .int .i64 0, .int .u64 0, .slice none 0 0, .int .u64 0, .int .i64 0, .int .u64 0, .slice none 0 0]) w.heap.size 62 #[.int .i64 0, .int .i64 0, .int .u64 0, .int .i64 0, .slice none 0 0, .int .i64 0, .int .u32 0, .int .u64 0, .slice none 0 0, .int .i64 0, .int .i64 0, .int .i64 0, .int .u64 0, .slice none 0 0, .int .u64 0, .int .i64 0, .int .u64 0, .slice none 0 0] from setRow_heap _ _ _ _ _ _ HR2.out)
  have HB3 := Lib.hid (setRow_below HB2.out HB2.out.size (Nat.le_refl _) (g := w.heap.size) #[.int .i64 0, .int .i64 0, .int .u64 0, .int .i64 0, .slice none 0 0, .int .i64 0, .int .u32 0, .int .u64 0, .slice none 0 0, .int .i64 0, .int .i64 0, .int .i64 0, .int .u64 0, .slice none 0 0, .int .u64 0, .int .i64 0, .int .u64 0, .slice none 0 0])
  generalize World.setRow w2 w.heap.size #[.int .i64 0, .int .i64 0, .int .u64 0, .int .i64 0, .slice none 0 0, .int .i64 0, .int .u32 0, .int .u64 0, .slice none 0 0, .int .i64 0, .int .i64 0, .int .i64 0, .int .u64 0, .slice none 0 0, .int .u64 0, .int .i64 0, .int .u64 0, .slice none 0 0] = W3 at *
  go_wp2_with (fail)
  refine bodyPost_ret_by (results_cell_row_tmp Tryz.results19 _ _ w.heap.size 62 #[.int .i64 0, .int .i64 0, .int .u64 0, .int .i64 0, .slice none 0 0, .int .i64 0, .int .u32 0, .int .u64 0, .slice none 0 0, .int .i64 0, .int .i64 0, .int .i64 0, .int .u64 0, .slice none 0 0, .int .u64 0, .int .i64 0, .int .u64 0, .slice none 0 0] (0, 0) _ _ rfl HR3.out rfl Tryz.underlying62 rfl dcInfo) rfl ?_
  exact ⟨HB3.out, .inl ⟨fun e => (by have := e.2; rw [HAB.out] at this; cases this), rfl⟩⟩
 ·have HAB := Lib.hid hb
  clear hb
  have hok : 1 ≤ cl ∧ cl ≤ 6 ∧ 1 ≤ ms ∧ ms ≤ 5 := by omega
  obtain ⟨k, rfl⟩ := Int.eq_ofNat_of_zero_le (show 0 ≤ cl by omega)
  obtain ⟨m, rfl⟩ := Int.eq_ofNat_of_zero_le (show 0 ≤ ms by omega)
  go_upto_region 3 with (fail)
  iterate 13 go_step
  refine wpList_store_row rfl 62 (.tmp 6) (.tmp 31) rfl w.heap.size ((Cl.new k m).dcells (DA.new A n c)) rfl rfl 62 #[.int .i64 0, .int .i64 0, .int .u64 0, .int .i64 0, .slice none 0 0, .int .i64 0, .int .u32 0, .int .u64 0, .slice none 0 0, .int .i64 0, .int .i64 0, .int .i64 0, .int .u64 0, .slice none 0 0, .int .u64 0, .int .i64 0, .int .u64 0, .slice none 0 0] HR2.out dcInfo rfl (dc_all _ _) ?_
  have HR3 := Lib.hid (show Blk (World.setRow w2 w.heap.size ((Cl.new k m).dcells (DA.new A n c))) w.heap.size 62 ((Cl.new k m).dcells (DA.new A n c)) from setRow_heap _ _ _ _ _ _ HR2.out)
  have HB3 := Lib.hid (setRow_below HB2.out HB2.out.size (Nat.le_refl _) (g := w.heap.size) ((Cl.new k m).dcells (DA.new A n c)))
  generalize World.setRow w2 w.heap.size ((Cl.new k m).dcells (DA.new A n c)) = W3 at *
  go_wp2_with (fail)
  refine bodyPost_ret_by (results_cell_row_tmp Tryz.results19 _ _ w.heap.size 62 ((Cl.new k m).dcells (DA.new A n c)) (0, 0) _ _ rfl HR3.out rfl Tryz.underlying62 rfl dcInfo) rfl ?_
  exact ⟨HB3.out, .inr ⟨hok, HAB.out, rfl⟩⟩
end Go.Proofs.YtmpedblelnpjdaaGreatDoor

end
