/- Closing blocks of tactics that several proofs share. -/
import Derived.WalkKit
import Derived.WalkLawsBesides
import Derived.WalkSpells
import Derived.Outline
import Derived.Lib.Hide
import Derived.OrdersHeld
import Derived.KernelRfl
import Derived.ProofKit
import Derived.Deep.RegionHeld3
import Derived.Deep.QuietTactic
import Derived.RegionTactic
import Derived.Deep.RegionWith
import Derived.Deep.RegionLaw
import Derived.Deep.LoopGhost
import Derived.Deep.DeepCutAuto
import Derived.Deep.DeepMust
import Derived.Deep.Slices
import Derived.Deep.Fields
import Derived.StillTailTactics
import Derived.RegionCalls
import Derived.BigQuiet
import Derived.Deep.MidRow
import Derived.Deep.Draws
import Derived.OpenShut
import Derived.LoopNIn
import Derived.Lib.SliceRun
namespace Go.Proofs.YtmpedblelnpjdaaGreatDoor
open Go.RowKit
set_option linter.unusedVariables false
set_option autoImplicit false
theorem rp0 {p : Prop} (h : p := by
 clear hr hW9 M1 R1 HP HYS
 have HD := Lib.hid (HM.out.below ((Below.refl _ _).drew))
 have HR := Lib.hid (hR9.below ((Below.refl B W9).drew))
 go_upto_region 54 with (fail)
 rw [← HW9.out]
 refine wp_region_held_drew (S := fun wq => Blk wq w.heap.size 130 y.cells ∧ Blk wq (w.heap.size + 1) 37 (Lt.cells r)) (by kernel_rfl) ⟨HM.out.bi, HM.out.bl⟩ (fun hHeld => ?_)
 have HDR : Hid (Chg W9 W9.drew (fun k => k = w.heap.size + 2 ∨ k = w.heap.size + 3)) := Lib.hid (Chg.of_below ((Below.refl _ _).drew) _)
 clear HM HW9 hR9
 generalize W9.drew = V at *
 have n02 : ¬ (w.heap.size = w.heap.size + 2) := by omega
 have n12 : ¬ (w.heap.size + 1 = w.heap.size + 2) := by omega
 have n32 : ¬ (w.heap.size + 3 = w.heap.size + 2) := by omega
 have n03 : ¬ (w.heap.size = w.heap.size + 3) := by omega
 have n13 : ¬ (w.heap.size + 1 = w.heap.size + 3) := by omega
 have n23 : ¬ (w.heap.size + 2 = w.heap.size + 3) := by omega
 obtain ⟨V1, hV1⟩ : ∃ V1, V1 = V.setRow (w.heap.size + 2) y.cells := ⟨_, rfl⟩
 obtain ⟨V2, hV2⟩ : ∃ V2, V2 = V1.setRow (w.heap.size + 3) (Lt.cells r) := ⟨_, rfl⟩
 have C1 := Lib.hid (show Chg V V1 (fun k => k = w.heap.size + 2) by rw [hV1]; exact chg_row _ _ _)
 have C2 := Lib.hid (show Chg V1 V2 (fun k => k = w.heap.size + 3) by rw [hV2]; exact chg_row _ _ _)
 have Z1 := Lib.hid (show Blk V1 (w.heap.size + 2) 130 y.cells by rw [hV1]; exact setRow_heap _ _ _ _ _ _ HD.out.bz)
 have Z2 := Lib.hid (C1.out.blk HD.out.bw n32)
 have Y2 := Lib.hid (show Blk V2 (w.heap.size + 3) 37 (Lt.cells r) by rw [hV2]; exact setRow_heap _ _ _ _ _ _ Z2.out)
 have Y1 := Lib.hid (C2.out.blk Z1.out n23)
 have HS1 := Lib.hid (And.intro (C1.out.blk HD.out.bi n02) (C1.out.blk HD.out.bl n12))
 have HS2 := Lib.hid (And.intro (C2.out.blk HS1.out.1 n03) (C2.out.blk HS1.out.2 n13))
 have HB2 := Lib.hid ((HD.out.bel.trans (C1.out.below HD.out.bel.size (fun k hk e => by omega))).trans (C2.out.below (Nat.le_trans HD.out.bel.size C1.out.size) (fun k hk e => by omega)))
 have HCV := Lib.hid (show Chg W9 V2 (fun k => k = w.heap.size + 2 ∨ k = w.heap.size + 3) from (HDR.out.trans (C1.out.sub (fun k e => Or.inl e)) (fun _ _ e => e)).trans (C2.out.sub (fun k e => Or.inr e)) (fun _ _ e => e))
 have HRF := Lib.hid ((HR.out.below (C1.out.below (Nat.le_trans hB HD.out.bel.size) (fun k hk e => by omega))).below (C2.out.below (Nat.le_trans hB (Nat.le_trans HD.out.bel.size C1.out.size)) (fun k hk e => by omega)))
 have HV1 := Lib.hid hV1
 have HV2 := Lib.hid hV2
 clear hV1 hV2
 refine tkT 0 rfl (v := (.agg y.cells)) ?_ ?_
 ·exact fun wq hSw => exec_load_row rfl _ rfl (load_ri y _ wq hSw.1)
 try simp only [Act.put, pS]
 refine tkT 1 rfl (v := (.agg (Lt.cells r))) ?_ ?_
 ·exact fun wq hSw => exec_load_row rfl _ rfl (load_lt r _ wq hSw.2)
 try simp only [Act.put, pS]
 refine wpAnyH_ready (rs := [2]) (by kernel_rfl) (by simp) ?_
 refine (AllReadyH.cons rfl (fun K hK => ?_) AllReadyH.nil)
 have HS := HS1.out
 refine step_store_row rfl 130 (.tmp 6) (.tmp 166) rfl (w.heap.size + 2) y.cells rfl rfl 130 #[.slice none 0 0, .int .i64 0] HD.out.bz riInfo rfl (ri_all _) ?_
 rw [← HV1.out]
 refine hK.out _ _ ?_ (fun hHeld => ?_)
 ·first | exact HS | go_keep
 clear hK K
 try simp only [Act.put, pS]
 refine wpAnyH_ready (rs := [3]) (by kernel_rfl) (by simp) ?_
 refine (AllReadyH.cons rfl (fun K hK => ?_) AllReadyH.nil)
 have HS := HS2.out
 refine step_store_row rfl 37 (.tmp 7) (.tmp 167) rfl (w.heap.size + 3) (Lt.cells r) rfl rfl 37 ZL Z2.out ltInfo rfl (lt_all _) ?_
 rw [← HV2.out]
 refine hK.out _ _ ?_ (fun hHeld => ?_)
 ·first | exact HS | go_keep
 clear hK K
 try simp only [Act.put, pS]
 refine wpAnyH_done (by kernel_rfl) ?_ _
 go_wp2_with (fail)
 refine bodyPost_ret_by (v := .tuple #[.agg y.cells, .agg (Lt.cells r)]) (results_two Tryz.results53 _ _ (w.heap.size + 2) (w.heap.size + 3) 130 37 y.cells (Lt.cells r) (0, 0) (0, 0) _ _ rfl Y1.out rfl Y2.out Tryz.underlying130 rfl riInfo Tryz.underlying37 rfl ltInfo) rfl ?_
 exact HFIN.out V2 HCV.out HRF.out HB2.out) : p := h
theorem rp1 {p : Prop} (h : p := by
 have HD := Lib.hid (HM.out.below ((Below.refl _ _).drew))
 have HR := Lib.hid (hR9.below ((Below.refl B W9).drew))
 go_upto_region 54 with (fail)
 rw [← HW9.out]
 refine wp_region_held_drew (S := fun wq => Blk wq w.heap.size 130 y.cells ∧ Blk wq (w.heap.size + 1) 37 (Lt.cells r)) (by kernel_rfl) ⟨HM.out.bi, HM.out.bl⟩ (fun hHeld => ?_)
 have HDR : Hid (Chg W9 W9.drew (fun k => k = w.heap.size + 2 ∨ k = w.heap.size + 3)) := Lib.hid (Chg.of_below ((Below.refl _ _).drew) _)
 clear HM HW9 hR9
 generalize W9.drew = V at *
 have n02 : ¬ (w.heap.size = w.heap.size + 2) := by omega
 have n12 : ¬ (w.heap.size + 1 = w.heap.size + 2) := by omega
 have n32 : ¬ (w.heap.size + 3 = w.heap.size + 2) := by omega
 have n03 : ¬ (w.heap.size = w.heap.size + 3) := by omega
 have n13 : ¬ (w.heap.size + 1 = w.heap.size + 3) := by omega
 have n23 : ¬ (w.heap.size + 2 = w.heap.size + 3) := by omega
 obtain ⟨V1, hV1⟩ : ∃ V1, V1 = V.setRow (w.heap.size + 2) y.cells := ⟨_, rfl⟩
 obtain ⟨V2, hV2⟩ : ∃ V2, V2 = V1.setRow (w.heap.size + 3) (Lt.cells r) := ⟨_, rfl⟩
 have C1 := Lib.hid (show Chg V V1 (fun k => k = w.heap.size + 2) by rw [hV1]; exact chg_row _ _ _)
 have C2 := Lib.hid (show Chg V1 V2 (fun k => k = w.heap.size + 3) by rw [hV2]; exact chg_row _ _ _)
 have Z1 := Lib.hid (show Blk V1 (w.heap.size + 2) 130 y.cells by rw [hV1]; exact setRow_heap _ _ _ _ _ _ HD.out.bz)
 have Z2 := Lib.hid (C1.out.blk HD.out.bw n32)
 have Y2 := Lib.hid (show Blk V2 (w.heap.size + 3) 37 (Lt.cells r) by rw [hV2]; exact setRow_heap _ _ _ _ _ _ Z2.out)
 have Y1 := Lib.hid (C2.out.blk Z1.out n23)
 have HS1 := Lib.hid (And.intro (C1.out.blk HD.out.bi n02) (C1.out.blk HD.out.bl n12))
 have HS2 := Lib.hid (And.intro (C2.out.blk HS1.out.1 n03) (C2.out.blk HS1.out.2 n13))
 have HB2 := Lib.hid ((HD.out.bel.trans (C1.out.below HD.out.bel.size (fun k hk e => by omega))).trans (C2.out.below (Nat.le_trans HD.out.bel.size C1.out.size) (fun k hk e => by omega)))
 have HCV := Lib.hid (show Chg W9 V2 (fun k => k = w.heap.size + 2 ∨ k = w.heap.size + 3) from (HDR.out.trans (C1.out.sub (fun k e => Or.inl e)) (fun _ _ e => e)).trans (C2.out.sub (fun k e => Or.inr e)) (fun _ _ e => e))
 have HRF := Lib.hid ((HR.out.below (C1.out.below (Nat.le_trans hB HD.out.bel.size) (fun k hk e => by omega))).below (C2.out.below (Nat.le_trans hB (Nat.le_trans HD.out.bel.size C1.out.size)) (fun k hk e => by omega)))
 have HV1 := Lib.hid hV1
 have HV2 := Lib.hid hV2
 clear hV1 hV2
 refine tkT 0 rfl (v := (.agg y.cells)) ?_ ?_
 ·exact fun wq hSw => exec_load_row rfl _ rfl (load_ri y _ wq hSw.1)
 try simp only [Act.put, List.setIfInBounds_toArray, List.set_cons_zero, List.set_cons_succ, List.getElem_toArray, List.getElem_cons_zero, List.getElem_cons_succ]
 refine tkT 1 rfl (v := (.agg (Lt.cells r))) ?_ ?_
 ·exact fun wq hSw => exec_load_row rfl _ rfl (load_lt r _ wq hSw.2)
 try simp only [Act.put, List.setIfInBounds_toArray, List.set_cons_zero, List.set_cons_succ, List.getElem_toArray, List.getElem_cons_zero, List.getElem_cons_succ]
 refine wpAnyH_ready (rs := [2]) (by kernel_rfl) (by simp) ?_
 refine (AllReadyH.cons rfl (fun K hK => ?_) AllReadyH.nil)
 have HS := HS1.out
 refine step_store_row rfl 130 (.tmp 6) (.tmp 166) rfl (w.heap.size + 2) y.cells rfl rfl 130 #[.slice none 0 0, .int .i64 0] HD.out.bz riInfo rfl (ri_all _) ?_
 rw [← HV1.out]
 refine hK.out _ _ ?_ (fun hHeld => ?_)
 ·first | exact HS | go_keep
 clear hK K
 try simp only [Act.put, List.setIfInBounds_toArray, List.set_cons_zero, List.set_cons_succ, List.getElem_toArray, List.getElem_cons_zero, List.getElem_cons_succ]
 refine wpAnyH_ready (rs := [3]) (by kernel_rfl) (by simp) ?_
 refine (AllReadyH.cons rfl (fun K hK => ?_) AllReadyH.nil)
 have HS := HS2.out
 refine step_store_row rfl 37 (.tmp 7) (.tmp 167) rfl (w.heap.size + 3) (Lt.cells r) rfl rfl 37 ZL Z2.out ltInfo rfl (lt_all _) ?_
 rw [← HV2.out]
 refine hK.out _ _ ?_ (fun hHeld => ?_)
 ·first | exact HS | go_keep
 clear hK K
 try simp only [Act.put, List.setIfInBounds_toArray, List.set_cons_zero, List.set_cons_succ, List.getElem_toArray, List.getElem_cons_zero, List.getElem_cons_succ]
 refine wpAnyH_done (by kernel_rfl) ?_ _
 go_wp2_with (fail)
 refine bodyPost_ret_by (v := .tuple #[.agg y.cells, .agg (Lt.cells r)]) (results_two Tryz.results53 _ _ (w.heap.size + 2) (w.heap.size + 3) 130 37 y.cells (Lt.cells r) (0, 0) (0, 0) _ _ rfl Y1.out rfl Y2.out Tryz.underlying130 rfl riInfo Tryz.underlying37 rfl ltInfo) rfl ?_
 exact HFIN.out V2 HCV.out HRF.out HB2.out) : p := h
theorem rp2 {p : Prop} (h : p := by
 have HD := Lib.hid (HM.out.below ((Below.refl _ _).drew))
 have HR := Lib.hid (hR9.below ((Below.refl B W9).drew))
 go_upto_region 21 with (fail)
 rw [← HW9.out]
 refine wp_region_held_drew (S := fun wq => Blk wq w.heap.size 130 y.cells ∧ Blk wq (w.heap.size + 1) 37 (Lt.cells r)) (by kernel_rfl) ⟨HM.out.bi, HM.out.bl⟩ (fun hHeld => ?_)
 have HDR : Hid (Chg W9 W9.drew (fun k => k = w.heap.size + 2 ∨ k = w.heap.size + 3)) := Lib.hid (Chg.of_below ((Below.refl _ _).drew) _)
 clear HM HW9 hR9
 generalize W9.drew = V at *
 have n02 : ¬ (w.heap.size = w.heap.size + 2) := by omega
 have n12 : ¬ (w.heap.size + 1 = w.heap.size + 2) := by omega
 have n32 : ¬ (w.heap.size + 3 = w.heap.size + 2) := by omega
 have n03 : ¬ (w.heap.size = w.heap.size + 3) := by omega
 have n13 : ¬ (w.heap.size + 1 = w.heap.size + 3) := by omega
 have n23 : ¬ (w.heap.size + 2 = w.heap.size + 3) := by omega
 obtain ⟨V1, hV1⟩ : ∃ V1, V1 = V.setRow (w.heap.size + 2) y.cells := ⟨_, rfl⟩
 obtain ⟨V2, hV2⟩ : ∃ V2, V2 = V1.setRow (w.heap.size + 3) (Lt.cells r) := ⟨_, rfl⟩
 have C1 := Lib.hid (show Chg V V1 (fun k => k = w.heap.size + 2) by rw [hV1]; exact chg_row _ _ _)
 have C2 := Lib.hid (show Chg V1 V2 (fun k => k = w.heap.size + 3) by rw [hV2]; exact chg_row _ _ _)
 have Z1 := Lib.hid (show Blk V1 (w.heap.size + 2) 130 y.cells by rw [hV1]; exact setRow_heap _ _ _ _ _ _ HD.out.bz)
 have Z2 := Lib.hid (C1.out.blk HD.out.bw n32)
 have Y2 := Lib.hid (show Blk V2 (w.heap.size + 3) 37 (Lt.cells r) by rw [hV2]; exact setRow_heap _ _ _ _ _ _ Z2.out)
 have Y1 := Lib.hid (C2.out.blk Z1.out n23)
 have HS1 := Lib.hid (And.intro (C1.out.blk HD.out.bi n02) (C1.out.blk HD.out.bl n12))
 have HS2 := Lib.hid (And.intro (C2.out.blk HS1.out.1 n03) (C2.out.blk HS1.out.2 n13))
 have HB2 := Lib.hid ((HD.out.bel.trans (C1.out.below HD.out.bel.size (fun k hk e => by omega))).trans (C2.out.below (Nat.le_trans HD.out.bel.size C1.out.size) (fun k hk e => by omega)))
 have HCV := Lib.hid (show Chg W9 V2 (fun k => k = w.heap.size + 2 ∨ k = w.heap.size + 3) from (HDR.out.trans (C1.out.sub (fun k e => Or.inl e)) (fun _ _ e => e)).trans (C2.out.sub (fun k e => Or.inr e)) (fun _ _ e => e))
 have HRF := Lib.hid ((HR.out.below (C1.out.below (Nat.le_trans hB HD.out.bel.size) (fun k hk e => by omega))).below (C2.out.below (Nat.le_trans hB (Nat.le_trans HD.out.bel.size C1.out.size)) (fun k hk e => by omega)))
 have HV1 := Lib.hid hV1
 have HV2 := Lib.hid hV2
 clear hV1 hV2
 refine tkT 0 rfl (v := (.agg y.cells)) ?_ ?_
 ·exact fun wq hSw => exec_load_row rfl _ rfl (load_ri y _ wq hSw.1)
 try simp only [Act.put, List.setIfInBounds_toArray, List.set_cons_zero, List.set_cons_succ, List.getElem_toArray, List.getElem_cons_zero, List.getElem_cons_succ]
 refine tkT 1 rfl (v := (.agg (Lt.cells r))) ?_ ?_
 ·exact fun wq hSw => exec_load_row rfl _ rfl (load_lt r _ wq hSw.2)
 try simp only [Act.put, List.setIfInBounds_toArray, List.set_cons_zero, List.set_cons_succ, List.getElem_toArray, List.getElem_cons_zero, List.getElem_cons_succ]
 refine wpAnyH_ready (rs := [2]) (by kernel_rfl) (by simp) ?_
 refine (AllReadyH.cons rfl (fun K hK => ?_) AllReadyH.nil)
 have HS := HS1.out
 refine step_store_row rfl 130 (.tmp 6) (.tmp 84) rfl (w.heap.size + 2) y.cells rfl rfl 130 #[.slice none 0 0, .int .i64 0] HD.out.bz riInfo rfl (ri_all _) ?_
 rw [← HV1.out]
 refine hK.out _ _ ?_ (fun hHeld => ?_)
 ·first | exact HS | go_keep
 clear hK K
 try simp only [Act.put, List.setIfInBounds_toArray, List.set_cons_zero, List.set_cons_succ, List.getElem_toArray, List.getElem_cons_zero, List.getElem_cons_succ]
 refine wpAnyH_ready (rs := [3]) (by kernel_rfl) (by simp) ?_
 refine (AllReadyH.cons rfl (fun K hK => ?_) AllReadyH.nil)
 have HS := HS2.out
 refine step_store_row rfl 37 (.tmp 7) (.tmp 85) rfl (w.heap.size + 3) (Lt.cells r) rfl rfl 37 ZL Z2.out ltInfo rfl (lt_all _) ?_
 rw [← HV2.out]
 refine hK.out _ _ ?_ (fun hHeld => ?_)
 ·first | exact HS | go_keep
 clear hK K
 try simp only [Act.put, List.setIfInBounds_toArray, List.set_cons_zero, List.set_cons_succ, List.getElem_toArray, List.getElem_cons_zero, List.getElem_cons_succ]
 refine wpAnyH_done (by kernel_rfl) ?_ _
 go_wp2_with (fail)
 refine bodyPost_ret_by (v := .tuple #[.agg y.cells, .agg (Lt.cells r)]) (results_two Tryz.results125 _ _ (w.heap.size + 2) (w.heap.size + 3) 130 37 y.cells (Lt.cells r) (0, 0) (0, 0) _ _ rfl Y1.out rfl Y2.out Tryz.underlying130 rfl riInfo Tryz.underlying37 rfl ltInfo) rfl ?_
 exact HFIN.out V2 HCV.out HRF.out HB2.out) : p := h
theorem rp3 {p : Prop} (h : p := by
 have HW1 := Lib.hid hW1
 clear hW1 hr
 go_enter Tryz.func142, Tryz.ntmps142
 go_upto_region 1 with (fail)
 rw [← HW.out]
 clear HW
 go_upto_region 31 with (fail)
 rw [← HW1.out]
 clear HW1
 iterate 1 go_step
 refine wpList_load_row rfl 37 (.tmp 3) rfl w.heap.size rfl 37 r.cells (0, 0) _ HX.out Tryz.underlying37 rfl ltInfo ?_
 refine wpList_store_row rfl 37 (.tmp 6) (.tmp 81) rfl (w.heap.size + 2) r.cells rfl rfl 37 ZL HZ.out ltInfo rfl (lt_all _) ?_
 go_wp2_with (fail)
 refine bodyPost_ret_by (v := .agg r.cells) (results_cell_row Tryz.results142 _ _ (w.heap.size + 2) 37 r.cells (0, 0) _ rfl (setRow_heap _ _ _ _ _ _ HZ.out) Tryz.underlying37 rfl ltInfo) rfl ?_
 exact ⟨rfl, below_setRow HB1.out (by omega) _⟩) : p := h
theorem rp4 {p : Prop} (h : p := by
 repeat (first | with_reducible exact Below.refl _ _ | with_reducible exact HB1.out | with_reducible refine Below.setCell ?_ (by simp <;> omega) _ | with_reducible refine Below.alloc ?_ (by first | omega | (simp <;> omega)) _ | with_reducible refine below_drewN ?_ _ | with_reducible refine Below.drew ?_)) : p := h
theorem rp5 {p : Prop} (h : p := by
 go_upto_region 9 with (fail)
 have HQ : Hid (Below wr.heap.size wr wr.drew) := Lib.hid (Below.refl _ _).drew
 refine wp_region_held_drew (S := fun wq => Blk wq w.heap.size 37 x.l.cells ∧ wq.cell? ⟨w.heap.size, 1, none⟩ = some (.int .i64 x.l.fr) ∧ wq.cell? ⟨w.heap.size, 2, none⟩ = some (.int .i64 x.l.tw)) (by kernel_rfl) ⟨b1, x1, x2⟩ (fun hHeld => ?_)
 refine tkT 0 rfl (v := ?_) ?_ ?_
 rotate_left 1
 ·(intro wq hSw; (try dsimp only at hSw); go_simp; (try with_reducible rfl))
 try simp only [Act.put, pS]
 refine tkT 1 rfl (v := ?_) ?_ ?_
 rotate_left 1
 ·(intro wq hSw; (try dsimp only at hSw); go_simp; (try with_reducible rfl))
 try simp only [Act.put, pS]
 refine wpAnyH_ready (rs := [2]) (by kernel_rfl) (by simp) ?_
 refine (AllReadyH.cons rfl (fun K hK => ?_) AllReadyH.nil)
 go_simp
 refine (A1.out _).mono ?_
 rintro e w3 ⟨rfl, rfl⟩
 have HS : Blk wr.drew w.heap.size 37 x.l.cells ∧ wr.drew.cell? ⟨w.heap.size, 1, none⟩ = some (.int .i64 x.l.fr) ∧ wr.drew.cell? ⟨w.heap.size, 2, none⟩ = some (.int .i64 x.l.tw) := ⟨HB1.out.below HQ.out lw1, (HB1.out.below HQ.out lw1).cell 1, (HB1.out.below HQ.out lw1).cell 2⟩
 refine hK.out _ _ ?_ (fun hHeld => ?_)
 ·first | exact HS | go_keep
 clear hK K
 try simp only [Act.put, pS]
 refine tkT 3 rfl (v := ?_) ?_ ?_
 rotate_left 1
 ·(intro wq hSw; (try dsimp only at hSw); go_simp; (try with_reducible rfl))
 try simp only [Act.put, pS]
 refine tkT 4 rfl (v := ?_) ?_ ?_
 rotate_left 1
 ·(intro wq hSw; (try dsimp only at hSw); go_simp; (try with_reducible rfl))
 try simp only [Act.put, pS]
 refine tkT 5 rfl (v := ?_) ?_ ?_
 rotate_left 1
 ·(intro wq hSw; (try dsimp only at hSw); go_simp; (try with_reducible rfl))
 try simp only [Act.put, pS]
 refine tkT 6 rfl (v := ?_) ?_ ?_
 rotate_left 1
 ·(intro wq hSw; (try dsimp only at hSw); go_simp; (try with_reducible rfl))
 try simp only [Act.put, pS]
 refine wpAnyH_ready (rs := [7]) (by kernel_rfl) (by simp) ?_
 refine (AllReadyH.cons rfl (fun K hK => ?_) AllReadyH.nil)
 go_simp
 refine (A2.out _).mono ?_
 rintro e w3 ⟨rfl, rfl⟩
 have HS : Blk wr.drew w.heap.size 37 x.l.cells ∧ wr.drew.cell? ⟨w.heap.size, 1, none⟩ = some (.int .i64 x.l.fr) ∧ wr.drew.cell? ⟨w.heap.size, 2, none⟩ = some (.int .i64 x.l.tw) := ⟨HB1.out.below HQ.out lw1, (HB1.out.below HQ.out lw1).cell 1, (HB1.out.below HQ.out lw1).cell 2⟩
 refine hK.out _ _ ?_ (fun hHeld => ?_)
 ·first | exact HS | go_keep
 clear hK K
 try simp only [Act.put, pS]
 refine tkT 8 rfl (v := ?_) ?_ ?_
 rotate_left 1
 ·(intro wq hSw; (try dsimp only at hSw); go_simp; (try with_reducible rfl))
 try simp only [Act.put, pS]
 refine tkT 9 rfl (v := ?_) ?_ ?_
 rotate_left 1
 ·(intro wq hSw; (try dsimp only at hSw); go_simp; (try with_reducible rfl))
 try simp only [Act.put, pS]
 refine tkT 10 rfl (v := ?_) ?_ ?_
 rotate_left 1
 ·(intro wq hSw; (try dsimp only at hSw); go_simp; (try with_reducible rfl))
 try simp only [Act.put, pS]
 refine tkT 11 rfl (v := L) ?_ ?_
 ·exact fun wq hSw => exec_load_row rfl _ rfl (hLD wq hSw.1)
 try simp only [Act.put, pS]
 refine tkT 12 rfl (v := L) ?_ ?_
 ·exact fun wq hSw => exec_load_row rfl _ rfl (hLD wq hSw.1)
 try simp only [Act.put, pS]
 refine wpAnyH_ready (rs := [13]) (by kernel_rfl) (by simp) ?_
 refine (AllReadyH.cons rfl (fun K hK => ?_) AllReadyH.nil)
 go_simp
 refine (BR.out _).mono ?_
 rintro e w13 ⟨rfl, h13⟩
 replace HQ := Lib.hid (HQ.out.trans (h13.mono HQ.out.size))
 clear h13
 have HS : Blk w13 w.heap.size 37 x.l.cells ∧ w13.cell? ⟨w.heap.size, 1, none⟩ = some (.int .i64 x.l.fr) ∧ w13.cell? ⟨w.heap.size, 2, none⟩ = some (.int .i64 x.l.tw) := ⟨HB1.out.below HQ.out lw1, (HB1.out.below HQ.out lw1).cell 1, (HB1.out.below HQ.out lw1).cell 2⟩
 refine hK.out _ _ ?_ (fun hHeld => ?_)
 ·first | exact HS | go_keep
 clear hK K
 try simp only [Act.put, pS]
 refine wpAnyH_ready (rs := [14]) (by kernel_rfl) (by simp) ?_
 refine (AllReadyH.cons rfl (fun K hK => ?_) AllReadyH.nil)
 go_simp
 refine (SM.out _ (HE.out.1.trans (HQ.out.mono hbs))).mono ?_
 rintro e w14 ⟨rfl, h14⟩
 replace HQ := Lib.hid (HQ.out.trans (h14.mono HQ.out.size))
 clear h14
 have HS : Blk w14 w.heap.size 37 x.l.cells ∧ w14.cell? ⟨w.heap.size, 1, none⟩ = some (.int .i64 x.l.fr) ∧ w14.cell? ⟨w.heap.size, 2, none⟩ = some (.int .i64 x.l.tw) := ⟨HB1.out.below HQ.out lw1, (HB1.out.below HQ.out lw1).cell 1, (HB1.out.below HQ.out lw1).cell 2⟩
 refine hK.out _ _ ?_ (fun hHeld => ?_)
 ·first | exact HS | go_keep
 clear hK K
 try simp only [Act.put, pS]
 refine tkT 15 rfl (v := ?_) ?_ ?_
 rotate_left 1
 ·(intro wq hSw; (try dsimp only at hSw); go_simp; (try with_reducible rfl))
 try simp only [Act.put, pS]
 refine tkT 16 rfl (v := ?_) ?_ ?_
 rotate_left 1
 ·(intro wq hSw; (try dsimp only at hSw); go_simp; (try with_reducible rfl))
 try simp only [Act.put, pS]
 refine wpAnyH_done (by kernel_rfl) ?_ _
 go_wp2_with (fail)
 go_ret
 exact ⟨by rw [HCF.out]; rfl, HB.out.trans ((HE.out.1.trans (HQ.out.mono hbs)).mono hsB)⟩) : p := h
theorem rp6 {p : Prop} (h : p := by
 obtain ⟨k, hk, rfl, hT, hb⟩ := hrel
 by_cases hlt : k < n
 ·obtain ⟨b1, o1, z1, rfl, hb1, hz1, hc1⟩ := reads_at Vt.row (fun _ => rfl) (by omega) (HX.out.below (hb.out.mono hB)) hlt
  obtain ⟨b2, o2, z2, rfl, hb2, hz2, hc2⟩ := reads_at Vt.row (fun _ => rfl) (by omega) (HY.out.below (hb.out.mono hD)) hlt
  have Z1 := Lib.hid hz1
  have Z2 := Lib.hid hz2
  have u0 := hc1 0 _ rfl
  have u1 := hc1 1 _ rfl
  have u2 := hc1 2 _ rfl
  have u3 := hc1 3 _ rfl
  have u4 := hc1 4 _ rfl
  have u5 := hc1 5 _ rfl
  have v0 := hc2 0 _ rfl
  have v1 := hc2 1 _ rfl
  have v2 := hc2 2 _ rfl
  have v3 := hc2 3 _ rfl
  have v4 := hc2 4 _ rfl
  have v5 := hc2 5 _ rfl
  simp only [Nat.add_zero] at u0 v0
  have hbw1 : b1 < wr.heap.size := Nat.lt_of_lt_of_le hb1 (Nat.le_trans hB hb.out.size)
  have hbw2 : b2 < wr.heap.size := Nat.lt_of_lt_of_le hb2 (Nat.le_trans hD hb.out.size)
  clear hz1 hz2 hc1 hc2 hb1 hb2
  by_cases hz : z1 = z2
  ·have HZ := Lib.hid hz
   subst hz
   go_wp2_with (fail)
   go_quiet (fail)
   go_wp2
   go_roundw
   case rel =>
    refine ⟨k + 1, by omega, by go_num, Lib.hid ?_, Lib.hid (below_drewN hb.out _)⟩
    rw [List.take_add_one, List.take_add_one, Z1.out, Z2.out, hT.out]
   case measure => simp [intOf]; omega
  ·have HN : Hid (decide (x = y) = false) := Lib.hid (decide_eq_false (fun h => by
    subst h
    have h1 := Z1.out
    rw [Z2.out] at h1
    exact hz (Option.some.inj h1).symm))
   have HZ := Lib.hid hz
   clear hz
   by_cases q0 : z1.sl = z2.sl
   rotate_left
   ·have e1 : (z1.sl == z2.sl) = false := by simpa using q0
    have e2 : (z1.sl != z2.sl) = true := by simpa using q0
    go_wp2_with (fail)
    go_quiet (fail)
    go_wp2
    go_ret
    exact ⟨ret_bool (by rw [HN.out]), below_drewN hb.out _⟩
   rw [← q0] at v0
   have Q0 := Lib.hid q0
   clear q0
   by_cases q1 : z1.bl = z2.bl
   rotate_left
   ·have e1 : (z1.bl == z2.bl) = false := by simpa using q1
    have e2 : (z1.bl != z2.bl) = true := by simpa using q1
    go_wp2_with (fail)
    go_quiet (fail)
    go_wp2
    go_ret
    exact ⟨ret_bool (by rw [HN.out]), below_drewN hb.out _⟩
   rw [← q1] at v1
   have Q1 := Lib.hid q1
   clear q1
   by_cases q2 : z1.qk = z2.qk
   rotate_left
   ·have e1 : (z1.qk == z2.qk) = false := by simpa using q2
    have e2 : (z1.qk != z2.qk) = true := by simpa using q2
    go_wp2_with (fail)
    go_quiet (fail)
    go_wp2
    go_ret
    exact ⟨ret_bool (by rw [HN.out]), below_drewN hb.out _⟩
   rw [← q2] at v2
   have Q2 := Lib.hid q2
   clear q2
   by_cases q3 : z1.qc = z2.qc
   rotate_left
   ·have e1 : (z1.qc == z2.qc) = false := by simpa using q3
    have e2 : (z1.qc != z2.qc) = true := by simpa using q3
    go_wp2_with (fail)
    go_quiet (fail)
    go_wp2
    go_ret
    exact ⟨ret_bool (by rw [HN.out]), below_drewN hb.out _⟩
   rw [← q3] at v3
   have Q3 := Lib.hid q3
   clear q3
   by_cases q4 : z1.qe = z2.qe
   rotate_left
   ·have e1 : (z1.qe == z2.qe) = false := by simpa using q4
    have e2 : (z1.qe != z2.qe) = true := by simpa using q4
    go_wp2_with (fail)
    go_quiet (fail)
    go_wp2
    go_ret
    exact ⟨ret_bool (by rw [HN.out]), below_drewN hb.out _⟩
   rw [← q4] at v4
   have Q4 := Lib.hid q4
   clear q4
   by_cases q5 : z1.qn = z2.qn
   rotate_left
   ·have e1 : (z1.qn == z2.qn) = false := by simpa using q5
    have e2 : (z1.qn != z2.qn) = true := by simpa using q5
    go_wp2_with (fail)
    go_quiet (fail)
    go_wp2
    go_ret
    exact ⟨ret_bool (by rw [HN.out]), below_drewN hb.out _⟩
   rw [← q5] at v5
   have Q5 := Lib.hid q5
   clear q5
   exfalso
   exact HZ.out (by
    have e0 := Q0.out
    have e1 := Q1.out
    have e2 := Q2.out
    have e3 := Q3.out
    have e4 := Q4.out
    have e5 := Q5.out
    cases z1
    cases z2
    simp_all)
 ·have hke : k = n := by omega
  subst hke
  go_wp2
  go_ret
  refine ⟨ret_bool ?_, hb.out⟩
  rw [decide_eq_true]
  have := hT.out
  rwa [List.take_of_length_le (by have := LX.out; omega), List.take_of_length_le (by have := LY.out; omega)] at this) : p := h
theorem rp7 {p : Prop} (h : p := by
 (have HX := Lib.hid (upOk_no (u := u) (r := false) (fun h => by unfold upOkP at h; simp at h; omega)); go_enter Tryz.func312, Tryz.ntmps312; go_wp2_with (fail); go_ret; exact ⟨by rw [← HX.out]; rfl, by repeat (first | with_reducible exact Below.refl _ _ | with_reducible refine Below.setCell ?_ (by first | omega | (simp <;> omega)) _ | with_reducible refine Below.alloc ?_ (by first | omega | (simp <;> omega)) _ | with_reducible refine below_drewN ?_ _ | with_reducible refine Below.drew ?_)⟩)) : p := h
theorem rp8 {p : Prop} (h : p := by
 (have HX := Lib.hid (upOk_no (u := u) (r := true) (fun h => by unfold upOkP at h; simp at h; omega)); go_enter Tryz.func312, Tryz.ntmps312; go_wp2_with (fail); go_ret; exact ⟨by rw [← HX.out]; rfl, by repeat (first | with_reducible exact Below.refl _ _ | with_reducible refine Below.setCell ?_ (by first | omega | (simp <;> omega)) _ | with_reducible refine Below.alloc ?_ (by first | omega | (simp <;> omega)) _ | with_reducible refine below_drewN ?_ _ | with_reducible refine Below.drew ?_)⟩)) : p := h
theorem rp9 {p : Prop} (h : p := by
 go_enter Tryz.func53, Tryz.ntmps53
 go_upto_region 53 with (fail)
 rw [← HW0.out]
 clear HW0
 iterate 1 go_step
 refine wpList_load_row rfl 130 (.tmp 3) rfl w.heap.size rfl 130 x.cells (0, 0) _ M.out.bi Tryz.underlying130 rfl riInfo ?_
 refine wpList_load_row rfl 37 (.tmp 4) rfl (w.heap.size + 1) rfl 37 l.l.cells (0, 0) _ M.out.bl Tryz.underlying37 rfl ltInfo ?_
 go_wp2_with (fail)
 refine MP.out.mono ?_
 rintro e w1 ⟨y, z, rfl, hy, hz, h1, h2, h3⟩
 have HYS := Lib.hid hy
 have HZV := Lib.hid hz
 have bz := M.out.bz.below h3 M.out.bz.lt
 have bw := M.out.bw.below h3 M.out.bw.lt
 have bel := M.out.bel.trans (h3.mono M.out.bel.size)
 have hs1 := bel.size
 have hbw := bw.lt
 clear hy hz h3 MP M R0 L0
 obtain ⟨V1, hV1⟩ : ∃ V1, V1 = w1.setRow (w.heap.size + 2) y.cells := ⟨_, rfl⟩
 obtain ⟨V2, hV2⟩ : ∃ V2, V2 = V1.setRow (w.heap.size + 3) (Lt.cells z.l) := ⟨_, rfl⟩
 have C1 : Chg w1 V1 (fun k => k = w.heap.size + 2) := by rw [hV1]; exact chg_row _ _ _
 have C2 : Chg V1 V2 (fun k => k = w.heap.size + 3) := by rw [hV2]; exact chg_row _ _ _
 have hs2 := C1.size
 have Z1 : Blk V1 (w.heap.size + 2) 130 y.cells := by rw [hV1]; exact setRow_heap _ _ _ _ _ _ bz
 have W1 : Blk V1 (w.heap.size + 3) 37 ZL := C1.blk bw (by omega)
 have Y1 := Lib.hid (C2.blk Z1 (by omega))
 have Y2 : Hid (Blk V2 (w.heap.size + 3) 37 (Lt.cells z.l)) := Lib.hid (by rw [hV2]; exact setRow_heap _ _ _ _ _ _ W1)
 have LV1 := h2.chg C1 (by omega) (fun k e => by omega) (h2.box bz (by decide) (by decide) (by decide))
 have LV2 := Lib.hid (LV1.chg C2 (by omega) (fun k e => by omega) (LV1.box W1 (by decide) (by decide) (by decide)))
 have RV2 := Lib.hid ((h1.below (C1.below (B := B) (by omega) (fun k hk e => by omega))).below (C2.below (B := B) (by omega) (fun k hk e => by omega)))
 have BV2 := Lib.hid ((bel.trans (C1.below (by omega) (fun k hk e => by omega))).trans (C2.below (by omega) (fun k hk e => by omega)))
 have BZ := Lib.hid bz
 have BW := Lib.hid W1
 have HV1 := Lib.hid hV1
 have HV2 := Lib.hid hV2
 clear h1 h2 bz bw bel C1 C2 Z1 W1 LV1 hV1 hV2
 dsimp only
 rename_i hK9
 refine hK9 _ _ ?_
 clear hK9
 iterate 6 go_step
 refine wpList_store_row rfl 130 (.tmp 6) (.tmp 164) rfl (w.heap.size + 2) y.cells rfl rfl 130 #[.slice none 0 0, .int .i64 0] BZ.out riInfo rfl (ri_all _) ?_
 rw [← HV1.out]
 refine wpList_store_row rfl 37 (.tmp 7) (.tmp 165) rfl (w.heap.size + 3) (Lt.cells z.l) rfl rfl 37 ZL BW.out ltInfo rfl (lt_all _) ?_
 rw [← HV2.out]
 clear HV1 HV2 BZ BW
 go_wp2_with (fail)
 refine bodyPost_ret_by (v := .tuple #[.agg y.cells, .agg (Lt.cells z.l)]) (results_two Tryz.results53 _ _ (w.heap.size + 2) (w.heap.size + 3) 130 37 y.cells (Lt.cells z.l) (0, 0) (0, 0) _ _ rfl Y1.out rfl Y2.out Tryz.underlying130 rfl riInfo Tryz.underlying37 rfl ltInfo) rfl ?_
 exact HP.out y z V2 HYS.out HZV.out RV2.out LV2.out BV2.out) : p := h
theorem rp10 {p : Prop} (h : p := by
 go_upto_region 1 with (fail)
 have e0 := HW.out
 simp only [Lt.cells] at e0
 first | rw [← e0] | rw [← HW.out]
 clear e0
 go_wp2_with (fail)
 go_ret
 exact ⟨ret_bool (by first | (simp [a0, a1]; done) | (simp [a0, a1]; omega)), HB.out⟩) : p := h
theorem rp11 {p : Prop} (h : p := by
 go_enter Tryz.func118, Tryz.ntmps118
 go_upto_region 1 with (fail)
 rw [← HW.out]
 go_wp2_with (fail)
 go_ret
 exact ⟨by rw [HN.out]; rfl, HB.out⟩) : p := h
theorem rp12 {p : Prop} (h : p := by
 go_enter Tryz.func11, Tryz.ntmps11
 go_upto_region 1 with (fail)
 rw [← HW.out]
 go_wp2_with (fail)
 go_ret
 exact ⟨by rw [HN.out]; rfl, HB.out⟩) : p := h
theorem rp13 {p : Prop} (h : p := by
 try simp only [Act.put, pS]
 refine tkV 29 rfl ?_
 try simp only [Act.put, pS]
 refine tkV 30 rfl ?_
 try simp only [Act.put, pS]
 refine tkU 31 rfl ?_
 try simp only [Act.put, pS]
 refine tkU 32 rfl ?_
 try simp only [Act.put, pS]
 refine tkU 33 rfl ?_
 try simp only [Act.put, pS]
 refine tkU 34 rfl ?_
 try simp only [Act.put, pS]
 refine tkV 35 rfl ?_
 try simp only [Act.put, pS]
 refine wpAnyH_done (by kernel_rfl) ?_ _
 clear hHeld
 go_wp2_with (fail)
 go_ret
 exact ⟨by rw [HN.out]; rfl, HBB.out.trans (HB1.out.drew.mono hsB)⟩) : p := h
theorem rp14 {p : Prop} (h : p := by
 try simp only [Act.put, pS]
 refine tkV 28 rfl ?_
 try simp only [Act.put, pS]
 refine tkV 29 rfl ?_
 try simp only [Act.put, pS]
 refine tkU 30 rfl ?_
 try simp only [Act.put, pS]
 refine tkU 31 rfl ?_
 try simp only [Act.put, pS]
 refine tkU 32 rfl ?_
 try simp only [Act.put, pS]
 refine tkU 33 rfl ?_
 try simp only [Act.put, pS]
 refine tkV 34 rfl ?_
 try simp only [Act.put, pS]
 refine wpAnyH_done (by kernel_rfl) ?_ _
 clear hHeld
 go_wp2_with (fail)
 go_ret
 exact ⟨by rw [HN.out]; rfl, HB1.out.drew⟩) : p := h
theorem rp15 {p : Prop} (h : p := by
 exact ⟨rfl, by repeat (first | with_reducible exact Below.refl _ _ | with_reducible refine Below.setCell ?_ (by first | omega | (simp <;> omega)) _ | with_reducible refine Below.alloc ?_ (by first | omega | (simp <;> omega)) _ | with_reducible refine below_drewN ?_ _ | with_reducible refine Below.drew ?_)⟩) : p := h
theorem rp16 {p : Prop} (h : p := by
 have hN := Lib.hid (Cf.right_no (x := x) (fun h => by have q1 := h.1; have q2 := h.2.1; have q3 := h.2.2.1; omega))
 go_wp2_with (fail)
 go_ret
 exact ⟨ret_bool hN.out, (Below.refl _ _).alloc (Nat.le_refl _) _⟩) : p := h
theorem rp17 {p : Prop} (h : p := by
 unfold wordP Pm.agg
 clear h hb2
 go_wp2_with (fail)
 refine bodyPost_ret (v := (wordP (.func 194) g1).agg) (by simp [results, Tryz.results115, go_sem, p0, p1, p2, smallP, wordP, plainP, Pm.agg]) rfl ?_
 exact ⟨wordP (.func 194) g1, rfl, ⟨_, rfl, by intro b hb; have h5 := hx.out b hb; refine ⟨?_, h5.2⟩; repeat (first | with_reducible exact h5.1 | with_reducible refine Blk.far ?_ (hne b hb) _)⟩, by repeat (first | with_reducible exact HB2.out | with_reducible refine Below.setCell ?_ (by first | omega | (simp <;> omega) | simp) _)⟩) : p := h
theorem rp18 {p : Prop} (h : p := by
 try simp only [Act.put, pS]
 refine tkT 9 rfl (v := ?_) ?_ ?_
 rotate_left 1
 ·(intro wq hSw; (try dsimp only at hSw); go_simp; (try with_reducible rfl))
 try simp only [Act.put, pS]
 refine tkT 10 rfl (v := ?_) ?_ ?_
 rotate_left 1
 ·(intro wq hSw; (try dsimp only at hSw); go_simp; (try with_reducible rfl))
 try simp only [Act.put, pS]
 refine wpAnyH_take (i := 11) (v := undef) rfl (by kernel_rfl) (by kernel_rfl) (by kernel_rfl) (fun _ _ _ h => h) (Or.inr ⟨by rfl, rfl⟩) (by assumption) ?_
 try simp only [Act.put, pS]
 refine wpAnyH_take (i := 12) (v := undef) rfl (by kernel_rfl) (by kernel_rfl) (by kernel_rfl) (fun _ _ _ h => h) (Or.inr ⟨by rfl, rfl⟩) (by assumption) ?_
 try simp only [Act.put, pS]
 refine wpAnyH_take (i := 13) (v := undef) rfl (by kernel_rfl) (by kernel_rfl) (by kernel_rfl) (fun _ _ _ h => h) (Or.inr ⟨by rfl, rfl⟩) (by assumption) ?_
 try simp only [Act.put, pS]
 refine wpAnyH_take (i := 14) (v := undef) rfl (by kernel_rfl) (by kernel_rfl) (by kernel_rfl) (fun _ _ _ h => h) (Or.inr ⟨by rfl, rfl⟩) (by assumption) ?_
 try simp only [Act.put, pS]
 refine wpAnyH_take (i := 15) (v := undef) rfl (by kernel_rfl) (by kernel_rfl) (by kernel_rfl) (fun _ _ _ h => h) (Or.inr ⟨by rfl, rfl⟩) (by assumption) ?_
 try simp only [Act.put, pS]
 refine tkT 16 rfl (v := ?_) ?_ ?_
 rotate_left 1
 ·(intro wq hSw; (try dsimp only at hSw); go_simp; (try with_reducible rfl))
 try simp only [Act.put, pS]
 refine wpAnyH_done (by kernel_rfl) ?_ _
 go_wp2_with (fail)
 go_ret
 exact ⟨by rw [HCF.out]; rfl, HB.out.trans ((HE.out.1.trans (HQ.out.mono hbs)).mono hsB)⟩) : p := h
theorem rp19 {p : Prop} (h : p := by
 go_upto_region 1 with (fail)
 have e0 := HW.out
 simp only [Lt.cells] at e0
 first | rw [← e0] | rw [← HW.out]
 clear e0
 go_wp2_with (fail)
 go_ret
 exact ⟨ret_bool (by first | (simp [a0]; done) | (simp [a0]; omega)), HB.out⟩) : p := h
theorem rp20 {p : Prop} (h : p := by
 go_enter Tryz.func264, Tryz.ntmps264
 go_upto_region 1 with (fail)
 rw [← HW.out]
 go_wp2_with (fail)
 go_ret
 exact ⟨by rw [HV.out]; rfl, HB.out⟩) : p := h
theorem rp21 {p : Prop} (h : p := by
 go_enter Tryz.func137, Tryz.ntmps137
 go_upto_region 1 with (fail)
 rw [← HW.out]
 go_wp2_with (fail)
 go_ret
 exact ⟨by rw [HV.out]; rfl, HB.out⟩) : p := h
theorem rp22 {p : Prop} (h : p := by
 obtain ⟨W0, hW0, hb0, hbk⟩ := box_all x w; have hl := hbk.lt; have HB := Lib.hid hb0; have HW := Lib.hid hW0; have BK := Lib.hid hbk; clear hb0 hW0 hbk
 go_enter Tryz.func62, Tryz.ntmps62
 go_upto_region 1 with (fail)
 have e0 := HW.out
 simp only [Lt.cells] at e0
 first | rw [← e0] | rw [← HW.out]
 clear e0
 go_wp2_with (fail)
 go_ret
 exact ⟨rfl, HB.out⟩) : p := h
theorem rp23 {p : Prop} (h : p := by
 rintro e w2 ⟨rfl, v', h1, h2⟩
 have H := Lib.hid (PutP.pre HB.out ⟨rfl, v', h1, h2⟩)
 clear h1 h2
 go_wp2_with (fail)
 go_end0
 exact H.out) : p := h
theorem rp24 {p : Prop} (h : p := by
 try simp only [Act.put, pS]
 refine wpAnyH_ready (rs := [17]) (by kernel_rfl) (by simp) ?_
 refine (AllReadyH.cons rfl (fun K hK => ?_) AllReadyH.nil)
 have HBR : Below V.heap.size Va (World.setRow Va V.heap.size q.cells) := below_setRow (Below.refl _ _) (Nat.le_refl _) _
 replace HB : Hid (Below w.heap.size V (World.setRow Va V.heap.size q.cells)) := Lib.hid (HB.out.trans (HBR.mono (by have := MD.out.lt; omega)))
 have HS := HSF.out _ HB.out
 have HCN : Hid (CgN w (World.setRow Va V.heap.size q.cells) y g5 V.heap.size B q) := Lib.hid ⟨⟨MD.out.bz.below HBR (by have := MD.out.lt; omega), MD.out.bw.below HBR (by have := MD.out.lt; omega), MD.out.b5.below HBR h57, MD.out.lt, MD.out.bel.trans (HBR.mono (by have := MD.out.lt; omega))⟩, setRow_heap _ _ _ _ _ _ GB.out, HRD.out.below (HBR.mono (by have := MD.out.lt; omega)), h57⟩
 refine step_store_row rfl 30 (.tmp 7) (.tmp 35) rfl V.heap.size q.cells rfl (by rw [HQ.out]; rfl) 30 #[.int .i64 0, .int .i64 0, .int .u64 0, .int .i64 0] GB.out cmInfo4 rfl (cm_all _) ?_
 refine hK.out _ _ ?_ (fun hHeld => ?_)
 ·first | exact HS | go_keep
 clear hK K
 generalize (World.setRow Va V.heap.size q.cells) = Vb at *
 try simp only [Act.put, pS]
 refine wpAnyH_done (by kernel_rfl) ?_ _
 go_wp2_with (fail)
 go_meet
 case rel => exact ⟨_, rfl, HCN⟩) : p := h
theorem rp25 {p : Prop} (h : p := by
 have HO7 : W7.ownsRow lo 239 6 (.slice z.l.vA z.l.vn z.l.vp) z.l.vn (z.vs.flatMap Vt.row) := L7.out.vt
 have hvn := HE.out.vn
 have hs7 : lo ≤ W7.heap.size := by have := M7.out.bel.size; omega
 refine wpList_append_any _ rfl (.tmp 75) (.tmp 81) _ rfl lo 239 i0 _ 6 48 Tryz.underlying34 hiu hz0 hz1 hz2 rfl (by omega) (.slice z.l.vA z.l.vn z.l.vp) z.l.vn (z.vs.flatMap Vt.row) rfl HO7 W7.heap.size _ 1 1 [.int .i64 (v1.2 : Int), .int .u64 (v2.2 : Int), .int .i64 k, .int .i64 cc, .int .u64 ee, .int .i64 nn] rfl hrd.out (by rw [← HROW.out]; exact vt_oneC _) (by unfold maxLen; omega) (by omega) hs7 ?_
 intro v9 w9 hown hg hat
 obtain ⟨A9, c9, rfl, _, _, _⟩ := own_slice hown
 rw [← HROW.out] at hown
 have HA := Lib.hid (HE.out.step hB hlo rfl M7.out R7.out L7.out HY7.out hown hg hat)
 clear d0 e0 g1 c0 c1 f0 f1 g0 hown hg hat HO7 hrd M7 R7 L7 hs7
 obtain ⟨c0, c1⟩ := ri_cells HA.out.1.bi
 have f0 := HA.out.1.bi.frozen 0
 have f1 := HA.out.1.bi.frozen 1
 have g0 := HA.out.1.bi.lt
 have d0 : w9.cell? ⟨w.heap.size + 1, 22, none⟩ = some (.slice z.l.vA z.l.vn z.l.vp) := HA.out.1.bl.cell 22
 have e0 := HA.out.1.bl.frozen 22
 have g1 := HA.out.1.bl.lt
 go_wp2_with (fail)
 go_roundw
 case rel => exact ⟨j + 1, y7, _, hlt, by go_num, Lib.hid HA.out.2⟩
 case measure => simp [intOf]; omega) : p := h
theorem rp26 {p : Prop} (h : p := by
 obtain ⟨k, hk, rfl, hT, hb⟩ := hrel
 by_cases hlt : k < n
 ·obtain ⟨ad1, z1, rfl, _, hz1, hc1⟩ := reads_int (HX.out.below (hb.out.mono hB)) hlt
  obtain ⟨ad2, z2, rfl, _, hz2, hc2⟩ := reads_int (HY.out.below (hb.out.mono hD)) hlt
  have Z1 := Lib.hid hz1
  have Z2 := Lib.hid hz2
  clear hz1 hz2
  by_cases hz : z1 = z2
  ·have hz' : (z1 != z2) = false := by simp [hz]
   have HZ := Lib.hid hz
   clear hz
   go_wp2_with (fail)
   go_quiet (fail)
   go_wp2
   go_roundw
   case rel =>
    refine ⟨k + 1, by omega, by go_num, Lib.hid ?_, Lib.hid (below_drewN hb.out _)⟩
    rw [List.take_add_one, List.take_add_one, Z1.out, Z2.out, hT.out, HZ.out]
   case measure => simp [intOf]; omega
  ·have hz' : (z1 != z2) = true := by simp [hz]
   have HZ := Lib.hid hz
   clear hz
   go_wp2_with (fail)
   go_quiet (fail)
   go_wp2
   go_ret
   refine ⟨ret_bool ?_, below_drewN hb.out _⟩
   rw [decide_eq_false]
   intro h
   subst h
   have h1 := Z1.out
   rw [Z2.out] at h1
   exact HZ.out (Option.some.inj h1).symm
 ·have hke : k = n := by omega
  subst hke
  go_wp2
  go_ret
  refine ⟨ret_bool ?_, hb.out⟩
  rw [decide_eq_true]
  have := hT.out
  rwa [List.take_of_length_le (by have := LX.out; omega), List.take_of_length_le (by have := LY.out; omega)] at this) : p := h
theorem rp27 {p : Prop} (h : p := by
 have h5 := hx b hb
 have h6 := h5.1
 unfold Blk at h6 hb2
 rw [e, hb2] at h6
 injection h6 with h6
 injection h6 with _ ht _
 exact boxT_ne h5.2 (by decide) (by decide) (by decide) ht.symm) : p := h
theorem rp28 {p : Prop} (h : p := by
 have hke : k = n := by omega
 subst hke
 go_wp2
 go_ret
 refine ⟨ret_bool ?_, hb.out⟩
 rw [decide_eq_true]
 have := hT.out
 rwa [List.take_of_length_le (by have := LX.out; omega), List.take_of_length_le (by have := LY.out; omega)] at this) : p := h
theorem rp29 {p : Prop} (h : p := by
 go_wp2_with (fail)
 go_roundw
 case rel => exact ⟨k + 1, by omega, by go_num, Lib.hid (fun j x hj hx => by
  by_cases hjk : j < k
  ·exact HO.out j x hjk hx
  ·obtain rfl : j = k := by omega
   rw [HV.out] at hx
   injection hx with hx
   subst hx
   exact HVO.out), HBE⟩
 case measure => simp [intOf]; omega) : p := h
theorem rp30 {p : Prop} (h : p := by
 repeat (first | with_reducible exact HY1.out | with_reducible refine RIn.alloc ?_ (by first | omega | (simp; omega)) _ | with_reducible refine RIn.setC ?_ (by first | omega | (simp <;> omega)) _ | with_reducible refine RIn.drewN ?_ _ | with_reducible refine RIn.drew ?_)) : p := h
theorem rp31 {p : Prop} (h : p := by
 rintro e w1 ⟨rfl, h⟩
 have H1 := Lib.hid (HB.out.trans (h.mono HB.out.size))
 clear h
 go_wp2_with (fail)
 go_ret
 exact ⟨rfl, H1.out⟩) : p := h
theorem rp32 {p : Prop} (h : p := by
 go_enter Tryz.func138, Tryz.ntmps138
 have hY := Lib.hid (Cf.right_yes (x := x) ⟨by omega, by omega, by omega, fun q => by rw [hf] at q; first | exact Bool.noConfusion q | omega⟩)
 go_wp2_with (fail)
 refine (stands_at x B _ _ (by simp [Cf.agg, *]) (HX.out.alloc hB _) (by simp; omega) (by omega)).mono ?_
 rintro e w1 ⟨v, rfl, g1, g2⟩
 obtain ⟨A1, c1, rfl, gr, gn1, gm1⟩ := own_slice g1
 have HR := Lib.hid gr
 have H2 := Lib.hid g2
 clear g1 g2 gr
 go_wp2_with (fail)
 refine (refUnlike_any A1 _ c1 _ x.stands _ HR.out gn1 gm1).mono ?_
 rintro e w2 ⟨rfl, g2⟩
 have H3 := Lib.hid (H2.out.trans (g2.mono H2.out.size))
 clear g2
 go_wp2
 go_ret
 exact ⟨ret_bool hY.out, ((Below.refl _ _).alloc (Nat.le_refl _) _).trans (H3.out.mono (by simp))⟩) : p := h
theorem rp33 {p : Prop} (h : p := by
 go_enter Tryz.func231, Tryz.ntmps231
 have hY := Lib.hid (Cf.right_yes (x := x) ⟨by omega, by omega, by omega, fun q => by rw [hf] at q; first | exact Bool.noConfusion q | omega⟩)
 go_wp2_with (fail)
 refine (everybody_at x B _ _ (by simp [Cf.agg, *]) (HX.out.alloc hB _) (by simp; omega) (by omega)).mono ?_
 rintro e w1 ⟨v, rfl, g1, g2⟩
 obtain ⟨A1, c1, rfl, gr, gn1, gm1⟩ := own_slice g1
 have HR := Lib.hid gr
 have H2 := Lib.hid g2
 clear g1 g2 gr
 go_wp2_with (first | (go_at_call 233; refine (unlike_any A1 _ c1 _ x.stands _ HR.out gn1 gm1).mono ?_; rintro e w' ⟨rfl, rfl⟩) | fail)
 go_ret
 exact ⟨ret_bool hY.out, ((Below.refl _ _).alloc (Nat.le_refl _) _).trans (H2.out.mono (by simp))⟩) : p := h
theorem rp34 {p : Prop} (h : p := by
 go_enter Tryz.func205, Tryz.ntmps205
 go_upto_region 1 with (fail)
 rw [← HW.out]
 go_wp2_with (fail)
 go_ret
 exact ⟨by rw [HN.out]; rfl, HB.out⟩) : p := h
theorem rp35 {p : Prop} (h : p := by
 go_enter Tryz.func128, Tryz.ntmps128
 go_upto_region 1 with (fail)
 rw [← HW.out]
 go_wp2_with (fail)
 go_ret
 exact ⟨by rw [HN.out]; rfl, HB.out⟩) : p := h
theorem rp36 {p : Prop} (h : p := by
 go_wp2_with (at_builtin; go_must (refine wpList_append_any _ rfl (.tmp 5) (.tmp 6) _ rfl w.heap.size 5 i0 _ 1 1 Tryz.underlying22 hi hz0 hz1 hz2 rfl (by omega) _ _ _ rfl (World.ownsRow_made w #[] 0 (Nat.le_refl _) (by decide) rfl) B (some ad) n c (b.map (Value.int .u8)) rfl (Reads.alloc HR.out hB _) ?c1 ?c2 ?c3 ?c4 ?_))
 case c1 => exact u8_one b
 case c2 => unfold maxLen; omega
 case c3 => omega
 case c4 => simp
 intro v1 w1 hown hg hat
 have HO := Lib.hid hown
 have HG := Lib.hid hg
 clear hown hg hat hnil
 go_wp2
 go_ret
 refine ⟨_, rfl, by simpa using HO.out, ((Below.refl _ _).alloc (Nat.le_refl _) _).grown HG.out (by simp) (fun k hk => ?_)⟩
 simp [Value.ownBlock] at hk
 omega) : p := h
theorem rp37 {p : Prop} (h : p := by
 (have e5 : (u.kd != 2) = true := (by simpa using h5); have e6 : (u.kd != 3) = true := (by simpa using h6); have HX := Lib.hid (upOk_no (u := u) (r := false) (fun h => by unfold upOkP at h; simp at h; omega)); go_enter Tryz.func312, Tryz.ntmps312; go_wp2_with (fail); go_ret; exact ⟨by rw [← HX.out]; rfl, by repeat (first | with_reducible exact Below.refl _ _ | with_reducible refine Below.setCell ?_ (by first | omega | (simp <;> omega)) _ | with_reducible refine Below.alloc ?_ (by first | omega | (simp <;> omega)) _ | with_reducible refine below_drewN ?_ _ | with_reducible refine Below.drew ?_)⟩)) : p := h
theorem rp38 {p : Prop} (h : p := by
 (have e5 : (u.kd != 2) = true := (by simpa using h5); have e6 : (u.kd != 3) = true := (by simpa using h6); have HX := Lib.hid (upOk_no (u := u) (r := true) (fun h => by unfold upOkP at h; simp at h; omega)); go_enter Tryz.func312, Tryz.ntmps312; go_wp2_with (fail); go_ret; exact ⟨by rw [← HX.out]; rfl, by repeat (first | with_reducible exact Below.refl _ _ | with_reducible refine Below.setCell ?_ (by first | omega | (simp <;> omega)) _ | with_reducible refine Below.alloc ?_ (by first | omega | (simp <;> omega)) _ | with_reducible refine below_drewN ?_ _ | with_reducible refine Below.drew ?_)⟩)) : p := h
theorem rp39 {p : Prop} (h : p := by
 try simp only [Act.put, pS]
 refine tkV 9 rfl ?_
 try simp only [Act.put, pS]
 refine tkV 10 rfl ?_
 try simp only [Act.put, pS]
 refine tkU 11 rfl ?_
 try simp only [Act.put, pS]
 refine tkU 12 rfl ?_
 try simp only [Act.put, pS]
 refine tkU 13 rfl ?_
 try simp only [Act.put, pS]
 refine tkU 14 rfl ?_
 try simp only [Act.put, pS]
 refine tkU 15 rfl ?_
 try simp only [Act.put, pS]
 refine tkV 16 rfl ?_
 try simp only [Act.put, pS]
 refine wpAnyH_done (by kernel_rfl) ?_ _
 clear hHeld
 go_wp2_with (fail)
 go_ret
 exact ⟨rfl, HB.out.drew⟩) : p := h
theorem rp40 {p : Prop} (h : p := by
 go_wp2_with (fail)
 refine bodyPost_ret (v := .tuple #[.agg #[.int .u8 0, .slice none 0 0], .int .i64 0, .int .i64 3]) (by simp [results, Tryz.results111, go_sem, *]) rfl ⟨.slice none 0 0, by rw [HE.out, ZZ.out.1, ZZ.out.2.2]; rfl, by rw [ZZ.out.2.1]; exact World.ownsRow_nil _ _ _ _, ?_, ?_⟩
 ·exact ⟨d, (HT.out.below HB3.out hgl).below (((Below.refl w.heap.size w3).setCell (Nat.le_refl _) _).setCell (Nat.le_refl _) _) hgl⟩
 ·exact Chg.of_below ((HB3.out.setCell (Nat.le_refl _) _).setCell (Nat.le_refl _) _) _) : p := h
theorem rp41 {p : Prop} (h : p := by
 go_upto_region 1 with (fail)
 have e0 := HW.out
 simp only [Lt.cells] at e0
 first | rw [← e0] | rw [← HW.out]
 clear e0
 go_wp2_with (fail)
 refine C.out.mono ?_
 rintro e w1 ⟨rfl, h⟩
 have H1 := Lib.hid (HB.out.trans (h.mono HB.out.size))
 clear h
 by_cases he : er = 0
 ·have heb : (er == 0) = true := by simpa using he
  go_wp2_with (fail)
  go_ret
  exact ⟨ret_bool (by simp [he]), H1.out⟩
 ·have heb : (er == 0) = false := by simpa using he
  go_wp2_with (fail)
  go_ret
  exact ⟨ret_bool (by simp [he]), H1.out⟩) : p := h
theorem rp42 {p : Prop} (h : p := by
 have hN := Lib.hid (Cf.right_no (x := x) (fun h => by have q1 := h.2.2.2 hf; omega))
 go_wp2_with (fail)
 go_ret
 exact ⟨ret_bool hN.out, (Below.refl _ _).alloc (Nat.le_refl _) _⟩) : p := h
theorem rp43 {p : Prop} (h : p := by
 have := HX.out.rd.take (k := k) (by omega)
 rw [← List.map_take] at this
 rw [List.length_take, Nat.min_eq_left (by omega)]
 exact ((this.alloc hB _).alloc (by simp; omega) _).drew) : p := h
theorem rp44 {p : Prop} (h : p := by
 (have HX := Lib.hid (upOk_yes (u := u) (r := false) (by unfold upOkP; simp; omega)); go_enter Tryz.func312, Tryz.ntmps312; go_wp2_with (fail); go_ret; exact ⟨by rw [← HX.out]; rfl, by repeat (first | with_reducible exact Below.refl _ _ | with_reducible refine Below.setCell ?_ (by first | omega | (simp <;> omega)) _ | with_reducible refine Below.alloc ?_ (by first | omega | (simp <;> omega)) _ | with_reducible refine below_drewN ?_ _ | with_reducible refine Below.drew ?_)⟩)) : p := h
theorem rp45 {p : Prop} (h : p := by
 (have HX := Lib.hid (upOk_yes (u := u) (r := true) (by unfold upOkP; simp; omega)); go_enter Tryz.func312, Tryz.ntmps312; go_wp2_with (fail); go_ret; exact ⟨by rw [← HX.out]; rfl, by repeat (first | with_reducible exact Below.refl _ _ | with_reducible refine Below.setCell ?_ (by first | omega | (simp <;> omega)) _ | with_reducible refine Below.alloc ?_ (by first | omega | (simp <;> omega)) _ | with_reducible refine below_drewN ?_ _ | with_reducible refine Below.drew ?_)⟩)) : p := h
theorem rp46 {p : Prop} (h : p := by
 go_wp2_with (fail)
 go_quiet ((go_at_call 235; exact quiet_add_left (refHas_any (some ad) k c B (zs.take k) z _ (HT.out.drewN _) (by unfold maxLen; omega))))
 go_wp2
 go_ret
 exact ⟨ret_bool hi.out, below_drewN (below_drewN (Below.refl _ _) _) _⟩) : p := h
theorem rp47 {p : Prop} (h : p := by
 have hbs := below_setRow (Below.refl w.heap.size W3) (Nat.le_refl _) Lt.zero.cells
 refine ⟨LV.zero, by rw [HD.out]; rfl, ?_, LOwn.zero _ _, ⟨d', HCD3.out.below hbs hcl hgl⟩, ⟨hbs.os.trans HCH3.out.os, hbs.tape.trans HCH3.out.tape, hbs.output.trans HCH3.out.output, Nat.le_trans HCH3.out.size hbs.size, fun k hk hn => (hbs.block k hk).trans (HCH3.out.block k hk hn)⟩⟩
 rw [if_neg (by rw [HD.out]; first | exact hez | omega)]; rfl) : p := h
theorem rp48 {p : Prop} (h : p := by
 go_enter Tryz.func62, Tryz.ntmps62
 go_upto_region 1 with (fail)
 have e0 := HW.out
 simp only [Lt.cells] at e0
 first | rw [← e0] | rw [← HW.out]
 clear e0
 go_wp2_with (fail)
 go_ret
 exact ⟨by first | rfl | simp, HB.out⟩) : p := h
theorem rp49 {p : Prop} (h : p := by
 go_enter Tryz.func202, Tryz.ntmps202
 go_upto_region 1 with (fail)
 rw [← HW.out]
 go_wp2_with (fail)
 go_ret
 exact ⟨by rw [HN.out]; rfl, HB.out⟩) : p := h
theorem rp50 {p : Prop} (h : p := by
 go_enter Tryz.func55, Tryz.ntmps55
 go_upto_region 1 with (fail)
 rw [← HW.out]
 go_wp2_with (fail)
 go_ret
 exact ⟨by rw [HN.out]; rfl, HB.out⟩) : p := h
theorem rp51 {p : Prop} (h : p := by
 intro p W0 hp
 obtain ⟨g0, rfl, _⟩ := hp
 exact ⟨194, rfl, enters_of Tryz.func194 (by kernel_rfl) rfl, fun W hg hB => fineT_any x W⟩) : p := h
theorem rp52 {p : Prop} (h : p := by
 have HX : Hid (false = upOkB u r) := Lib.hid (upOk_no (fun h => by unfold upOkP at h; omega))
 (go_enter Tryz.func139, Tryz.ntmps139; go_wp2_with (fail); go_ret; exact ⟨ret_bool HX.out, HB.out⟩)) : p := h
theorem rp53 {p : Prop} (h : p := by
 repeat (first | with_reducible exact HX.out | with_reducible refine RIn.alloc ?_ (by first | omega | (simp; omega)) _ | with_reducible refine RIn.drewN ?_ _ | with_reducible refine RIn.drew ?_)) : p := h
theorem rp54 {p : Prop} (h : p := by
 clear h1
 go_enter Tryz.func276, Tryz.ntmps276
 go_upto_region 1 with (fail)
 have e0 := HW.out
 simp only [Lt.cells] at e0
 first | rw [← e0] | rw [← HW.out]
 clear e0
 go_wp2_with (fail)
 refine CC.out.mono ?_
 rintro e w1 ⟨rfl, h⟩
 have H1 := Lib.hid (HB2.out.trans (h.mono HB2.out.size))
 clear h
 go_wp2_with (fail)
 go_ret
 exact ⟨by rw [HV.out]; simp, H1.out⟩) : p := h
theorem rp55 {p : Prop} (h : p := by
 go_wp2_with (fail)
 refine bodyPost_ret (v := .tuple #[.agg #[.int .u8 0, .slice none 0 0], .int .i64 0, .int .i64 3]) (by simp [results, Tryz.results120, go_sem, *]) rfl ⟨none, 0, by rw [HE.out, ZZ.out.1, ZZ.out.2.1, ZZ.out.2.2]; rfl, by rw [ZZ.out.2.1]; exact Reads.none_, by rw [ZZ.out.2.1]; exact ⟨Nat.le_refl _, Nat.zero_le _⟩, ?_⟩
 exact HB0.out) : p := h
theorem rp56 {p : Prop} (h : p := by
 (try go_simp)
 refine hK.out _ _ ?_ (fun hHeld => ?_)
 ·go_keep
 clear hK K
 try simp only [Act.put, pS]
 refine tkV 34 rfl ?_
 try simp only [Act.put, pS]
 refine tkV 35 rfl ?_
 try simp only [Act.put, pS]
 refine wpAnyH_done (by kernel_rfl) ?_ _
 clear hHeld
 go_wp2_with (fail)
 go_ret
 exact ⟨by rw [HN.out]; rfl, HBB.out.trans (HBE.out.mono hsB)⟩) : p := h
theorem rp57 {p : Prop} (h : p := by
 go_enter Tryz.func48, Tryz.ntmps48
 go_wp2_with (first | (go_at_call 116; refine (err_any g s B _ HI.out).mono ?_; rintro e w' ⟨rfl, rfl⟩) | fail)
 go_ret
 exact ⟨rfl, rfl⟩) : p := h
theorem rp58 {p : Prop} (h : p := by
 clear h3 h5 h6 h7
 (go_enter Tryz.func139, Tryz.ntmps139; go_wp2_with (fail); go_ret; exact ⟨ret_bool HX.out, HB.out⟩)) : p := h
theorem rp59 {p : Prop} (h : p := by
 refine AllReadyK.last (o := _) rfl (by kernel_rfl) (fun K hK => ?_) AllReadyK.nil
 go_simp
 (try go_simp)
 refine hK.out _ _ ?_
 clear hK K
 try simp only [Act.put, pS]
 refine wpAnyK_done (by kernel_rfl) ?_ _
 go_wp2_with (fail)
 go_roundw
 case rel => exact ⟨j + 1, _, hlt, by go_num, Lib.hid HA.out.2⟩
 case measure => simp [intOf]; omega) : p := h
theorem rp60 {p : Prop} (h : p := by
 clear h3 h5 h7
 (go_enter Tryz.func139, Tryz.ntmps139; go_wp2_with (fail); go_ret; exact ⟨ret_bool HX.out, HB.out⟩)) : p := h
theorem rp61 {p : Prop} (h : p := by
 (try go_simp)
 refine hK.out _ _ ?_ (fun hHeld => ?_)
 ·go_keep
 clear hK K
 try simp only [Act.put, pS]
 refine tkV 33 rfl ?_
 try simp only [Act.put, pS]
 refine tkV 34 rfl ?_
 try simp only [Act.put, pS]
 refine wpAnyH_done (by kernel_rfl) ?_ _
 clear hHeld
 go_wp2_with (fail)
 go_ret
 exact ⟨by rw [HN.out]; rfl, HBE.out⟩) : p := h
theorem rp62 {p : Prop} (h : p := by
 have hx := hb x (by simp)
 have e1 : hd1 [x, y] = (⟨[(y : Int)], 0⟩, x) := by
  unfold hd1 FI.upto FI.next
  have h1 : ¬ 18446744073709551615 < x := by omega
  simp [bI, knownB, numB, h1]
 unfold hd2
 rw [e1]
 unfold FI.upto FI.next
 simp [bI, knownB, FI.fail]) : p := h
theorem rp63 {p : Prop} (h : p := by
 have ho := HE.out.out
 rw [List.take_of_length_le (by have := HUL.out; omega)] at ho
 have HO := Lib.hid ho
 have HS := Lib.hid HE.out.st
 clear ho HE
 go_wp2_with (fail)
 go_end0
 exact ⟨rfl, v', by simpa [List.append_assoc] using HO.out, HS.out⟩) : p := h
theorem rp64 {p : Prop} (h : p := by
 have hx := hb x (by simp)
 have e1 : hd1 [x] = (⟨[], 0⟩, x) := by
  unfold hd1 FI.upto FI.next
  have h1 : ¬ 18446744073709551615 < x := by omega
  simp [bI, knownB, numB, h1]
 unfold hd2
 rw [e1]
 unfold FI.upto FI.next
 simp [knownB, FI.fail]) : p := h
theorem rp65 {p : Prop} (h : p := by
 go_upto_region 1 with (fail)
 have e0 := HW.out
 simp only [Lt.cells] at e0
 first | rw [← e0] | rw [← HW.out]
 clear e0
 go_wp2_with (fail)
 refine C.out.mono ?_
 rintro e w1 ⟨rfl, rfl⟩
 go_wp2_with (fail)
 go_ret
 exact ⟨rfl, HB.out⟩) : p := h
theorem rp66 {p : Prop} (h : p := by
 exact H1.out.below (((Below.refl w.heap.size w6).setCell (Nat.le_refl _) _).setCell (Nat.le_refl _) _) (by omega) (by omega)) : p := h
theorem rp67 {p : Prop} (h : p := by
 clear h1 CC
 go_enter Tryz.func276, Tryz.ntmps276
 go_upto_region 1 with (fail)
 have e0 := HW.out
 simp only [Lt.cells] at e0
 first | rw [← e0] | rw [← HW.out]
 clear e0
 go_wp2_with (fail)
 go_ret
 exact ⟨by rw [HV.out]; rfl, HB2.out⟩) : p := h
theorem rp68 {p : Prop} (h : p := by
 obtain rfl : j = n := by omega
 have hltF : decide ((j : Int) < (j : Int)) = false := decide_eq_false (by omega)
 obtain ⟨r, hr⟩ : ∃ r, r = z.l := ⟨_, rfl⟩
 obtain ⟨W9, hW9⟩ : ∃ W9, W9 = wr := ⟨_, rfl⟩
 have HM : Hid (RdM w W9 y r) := Lib.hid (by rw [hW9, hr]; exact HE.out.m)
 have hR9 : RIn W9 B y := by rw [hW9]; exact HE.out.rin
 have HL9 : Hid (RLet W9 B lo z) := Lib.hid (by rw [hW9]; exact HE.out.rl)
 have hb9 := HM.out.bel.size
 have HBX := Lib.hid (fun g e => And.intro (HL9.out.box HM.out.bz (by decide) (by decide) (by decide) g e) (HL9.out.box HM.out.bw (by decide) (by decide) (by decide) (g + 1) (by omega)))
 have HFIN : Hid (∀ V, Chg W9 V (fun k => k = w.heap.size + 2 ∨ k = w.heap.size + 3) → RIn V B y → Below w.heap.size w V → post (.returned (.tuple #[.agg y.cells, .agg (Lt.cells r)])) V) := Lib.hid (fun V hc h1 h2 => by
  rw [hr]
  exact HP.out y z V (by rw [HST.out]; exact HE.out.ys) (by rw [HST.out]; exact HE.out.val) h1 (HL9.out.chg hc (by omega) (fun k e => by omega) (fun k e => by
   rcases e with e | e
   ·exact (HBX.out k e).1
   ·have := (HBX.out (w.heap.size + 2) rfl).2; rw [e]; exact this)) h2)
 have HW9 := Lib.hid hW9
 clear hr hW9 HE HP HST HL9 HBX
 exact rp2) : p := h
theorem rp69 {p : Prop} (h : p := by
 clear hey
 obtain ⟨r, hr⟩ : ∃ r, r = z.l := ⟨_, rfl⟩
 obtain ⟨W9, hW9⟩ : ∃ W9, W9 = wr := ⟨_, rfl⟩
 have HM : Hid (RdM w W9 y r) := Lib.hid (by rw [hW9, hr]; exact HE.out.m)
 have hR9 : RIn W9 B y := by rw [hW9]; exact HE.out.rin
 have HL9 : Hid (RLet W9 B lo z) := Lib.hid (by rw [hW9]; exact HE.out.rl)
 have hb9 := HM.out.bel.size
 have HBX := Lib.hid (fun g e => And.intro (HL9.out.box HM.out.bz (by decide) (by decide) (by decide) g e) (HL9.out.box HM.out.bw (by decide) (by decide) (by decide) (g + 1) (by omega)))
 have HFIN : Hid (∀ V, Chg W9 V (fun k => k = w.heap.size + 2 ∨ k = w.heap.size + 3) → RIn V B y → Below w.heap.size w V → post (.returned (.tuple #[.agg y.cells, .agg (Lt.cells r)])) V) := Lib.hid (fun V hc h1 h2 => by
  rw [hr]
  exact HP.out y z V (by rw [HST2.out]; exact HE.out.ys) (by rw [HST2.out]; exact HE.out.val) h1 (HL9.out.chg hc (by omega) (fun k e => by omega) (fun k e => by
   rcases e with e | e
   ·exact (HBX.out k e).1
   ·have := (HBX.out (w.heap.size + 2) rfl).2; rw [e]; exact this)) h2)
 have HW9 := Lib.hid hW9
 clear hr hW9 HE HP HST HST2 HL9 HBX
 exact rp2) : p := h
theorem rp70 {p : Prop} (h : p := by
 try simp only [Act.put, pS]
 refine tkV 7 rfl ?_
 try simp only [Act.put, pS]
 refine tkV 8 rfl ?_
 try simp only [Act.put, pS]
 refine tkU 9 rfl ?_
 try simp only [Act.put, pS]
 refine tkU 10 rfl ?_
 try simp only [Act.put, pS]
 refine tkU 11 rfl ?_
 try simp only [Act.put, pS]
 refine tkU 12 rfl ?_
 try simp only [Act.put, pS]
 refine tkU 13 rfl ?_
 try simp only [Act.put, pS]
 refine tkU 14 rfl ?_
 try simp only [Act.put, pS]
 refine tkU 15 rfl ?_
 try simp only [Act.put, pS]
 refine tkU 16 rfl ?_
 try simp only [Act.put, pS]
 refine tkU 17 rfl ?_
 try simp only [Act.put, pS]
 refine tkU 18 rfl ?_
 try simp only [Act.put, pS]
 refine tkU 19 rfl ?_
 try simp only [Act.put, pS]
 refine tkU 20 rfl ?_
 try simp only [Act.put, pS]
 refine tkU 21 rfl ?_
 try simp only [Act.put, pS]
 refine tkU 22 rfl ?_
 try simp only [Act.put, pS]
 refine tkV 23 rfl ?_
 try simp only [Act.put, pS]
 refine tkV 24 rfl ?_
 try simp only [Act.put, pS]
 refine tkU 25 rfl ?_
 try simp only [Act.put, pS]
 refine tkU 26 rfl ?_
 try simp only [Act.put, pS]
 refine tkU 27 rfl ?_
 try simp only [Act.put, pS]
 refine tkU 28 rfl ?_
 exact rp13) : p := h
theorem rp71 {p : Prop} (h : p := by
 try simp only [Act.put, pS]
 refine tkV 7 rfl ?_
 try simp only [Act.put, pS]
 refine tkV 8 rfl ?_
 try simp only [Act.put, pS]
 refine tkU 9 rfl ?_
 try simp only [Act.put, pS]
 refine tkU 10 rfl ?_
 try simp only [Act.put, pS]
 refine tkU 11 rfl ?_
 try simp only [Act.put, pS]
 refine tkU 12 rfl ?_
 try simp only [Act.put, pS]
 refine tkU 13 rfl ?_
 try simp only [Act.put, pS]
 refine tkU 14 rfl ?_
 try simp only [Act.put, pS]
 refine tkU 15 rfl ?_
 try simp only [Act.put, pS]
 refine tkU 16 rfl ?_
 try simp only [Act.put, pS]
 refine tkU 17 rfl ?_
 try simp only [Act.put, pS]
 refine tkU 18 rfl ?_
 try simp only [Act.put, pS]
 refine tkU 19 rfl ?_
 try simp only [Act.put, pS]
 refine tkU 20 rfl ?_
 try simp only [Act.put, pS]
 refine tkU 21 rfl ?_
 try simp only [Act.put, pS]
 refine tkV 22 rfl ?_
 try simp only [Act.put, pS]
 refine tkV 23 rfl ?_
 try simp only [Act.put, pS]
 refine tkU 24 rfl ?_
 try simp only [Act.put, pS]
 refine tkU 25 rfl ?_
 try simp only [Act.put, pS]
 refine tkU 26 rfl ?_
 try simp only [Act.put, pS]
 refine tkU 27 rfl ?_
 exact rp14) : p := h
theorem rp72 {p : Prop} (h : p := by
 rintro e w1 ⟨y, rfl, hy, h1, h2⟩
 have HY := Lib.hid hy
 have HY1 := Lib.hid h1
 have HB1 := Lib.hid (box2_below h2)
 have hrs := (blk_at (w.alloc (.cells x.cells 130)) 130 (RI.nil 0).cells (w.heap.size + 1) (by simp)).below h2 (by simp)
 obtain ⟨r0, r1⟩ := ri_cells hrs
 have f0 := hrs.frozen 0
 have f1 := hrs.frozen 1
 have q6 := hrs.lt
 clear hy h1 h2 hrs
 dsimp only [RI.nil] at r0 r1
 go_wp2
 refine bodyPost_ret (v := .tuple #[y.agg, .slice none 0 0]) (by simp [results, Tryz.results224, go_sem, r0, r1, q6]) rfl ⟨y, none, 0, rfl, HY.out, ?_, Reads.none_, ⟨Nat.le_refl _, Nat.zero_le _⟩, ?_⟩
 ·exact (HY1.out.set2 (by omega) _ _)
 ·exact rp4) : p := h
theorem rp73 {p : Prop} (h : p := by
 rintro e w1 ⟨y, rfl, hy, h1, h2⟩
 have HY := Lib.hid hy
 have HY1 := Lib.hid h1
 have HB1 := Lib.hid (box2_below h2)
 have hrs := (blk_at (w.alloc (.cells x.cells 130)) 130 (RI.nil 0).cells (w.heap.size + 1) (by simp)).below h2 (by simp)
 obtain ⟨r0, r1⟩ := ri_cells hrs
 have f0 := hrs.frozen 0
 have f1 := hrs.frozen 1
 have q6 := hrs.lt
 clear hy h1 h2 hrs
 dsimp only [RI.nil] at r0 r1
 go_wp2
 refine bodyPost_ret (v := .tuple #[y.agg, .slice none 0 0]) (by simp [results, Tryz.results224, go_sem, r0, r1, q6]) rfl ⟨y, none, 0, rfl, HY.out, ?_, Reads.none_, ?_⟩
 ·exact (HY1.out.set2 (by omega) _ _)
 ·exact rp4) : p := h
theorem rp74 {p : Prop} (h : p := by
 try simp only [Act.put, pS]
 refine tkV 22 rfl ?_
 try simp only [Act.put, pS]
 refine tkV 23 rfl ?_
 try simp only [Act.put, pS]
 refine tkV 24 rfl ?_
 try simp only [Act.put, pS]
 refine tkV 25 rfl ?_
 try simp only [Act.put, pS]
 refine tkV 26 rfl ?_
 try simp only [Act.put, pS]
 refine wpAnyH_ready (rs := [27]) (by kernel_rfl) (by simp) ?_
 refine AllReadyH.cons (o := _) rfl (fun K hK => ?_) AllReadyH.nil
 go_simp
 refine (IS.out _).mono ?_; rintro e w2 ⟨rfl, rfl⟩
 (try go_simp)
 refine hK.out _ _ ?_ (fun hHeld => ?_)
 ·go_keep
 clear hK K
 try simp only [Act.put, pS]
 refine tkV 28 rfl ?_
 exact rp13) : p := h
theorem rp75 {p : Prop} (h : p := by
 try simp only [Act.put, pS]
 refine tkV 21 rfl ?_
 try simp only [Act.put, pS]
 refine tkV 22 rfl ?_
 try simp only [Act.put, pS]
 refine tkV 23 rfl ?_
 try simp only [Act.put, pS]
 refine tkV 24 rfl ?_
 try simp only [Act.put, pS]
 refine tkV 25 rfl ?_
 try simp only [Act.put, pS]
 refine wpAnyH_ready (rs := [26]) (by kernel_rfl) (by simp) ?_
 refine AllReadyH.cons (o := _) rfl (fun K hK => ?_) AllReadyH.nil
 go_simp
 refine (IS.out _).mono ?_; rintro e w2 ⟨rfl, rfl⟩
 (try go_simp)
 refine hK.out _ _ ?_ (fun hHeld => ?_)
 ·go_keep
 clear hK K
 try simp only [Act.put, pS]
 refine tkV 27 rfl ?_
 exact rp14) : p := h
theorem rp76 {p : Prop} (h : p := by
 have HV : Hid (cmdE k c e n = 4) := Lib.hid (by unfold cmdE; rw [if_neg (by have := HA1.out; omega), if_neg (by have := HA2.out; omega), if_pos (by omega)])
 exact rp20) : p := h
theorem rp77 {p : Prop} (h : p := by
 go_upto_region 1 with (fail)
 have e0 := HW.out
 simp only [Lt.cells] at e0
 first | rw [← e0] | rw [← HW.out]
 clear e0
 go_wp2_with (fail)
 refine C.out.mono ?_
 exact rp31) : p := h
theorem rp78 {p : Prop} (h : p := by
 have HV : Hid (cmdE k c e n = 4) := Lib.hid (by unfold cmdE; rw [if_neg (by have := HA1.out; omega), if_neg (by have := HA2.out; omega), if_pos (by omega)])
 exact rp21) : p := h
theorem rp79 {p : Prop} (h : p := by
 go_upto_region 1 with (fail)
 have e0 := HW.out
 simp only [Lt.cells] at e0
 rw [← e0]
 clear e0
 go_wp2_with (fail)
 refine C.out.mono ?_
 exact rp23) : p := h
end Go.Proofs.YtmpedblelnpjdaaGreatDoor
