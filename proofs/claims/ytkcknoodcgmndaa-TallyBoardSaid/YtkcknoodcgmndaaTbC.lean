/- TallyBoard: a round. -/
import Derived.Test.YtkcknoodcgmndaaTbA
namespace Go.Proofs.Ytkcknoodcgmndaa
open Go.Conc Go.RowKit
set_option linter.unusedVariables false
set_option linter.unusedSimpArgs false
set_option maxRecDepth 100000
set_option maxHeartbeats 4000000














noncomputable def bodyB : Code := match (Try.f3.body.getD .skip) with
  | .seq _ (.seq _ (.seq _ (.seq (.seq _ (.block _ (.loop c))) _))) => c
  | _ => .skip
noncomputable def endB : Code := match (Try.f3.body.getD .skip) with
  | .seq _ (.seq _ (.seq _ (.seq _ c))) => c
  | _ => .skip
noncomputable def r6B : Code := match bodyB with
  | .seq _ (.seq (.block _ (.seq c _)) _) => c
  | _ => .skip
theorem reg6 {c6 : Code} (hc6 : c6 = r6B) (lA : Option Addr) (len cap : Nat) (sb so j : Nat) (kj nj : Int) (w2 : World) (hlA : lA = some ⟨sb, so, none⟩) (hl : j < len) (hk : w2.cell? ⟨sb, so + j * 2, none⟩ = some (.int .i64 kj)) (hn : w2.cell? ⟨sb, so + j * 2 + 1, none⟩ = some (.int .i64 nj))
    {v1 v2 v3 v4 v6 v7 v8 v9 v10 v11 v12 v13 v14 v15 v16 v17 v18 v19 v20 v21 v22 v23 v24 v25 v26 v27 v28 v29 v30 v31 v32 v33 v34 v35 v36 v37 v38 v39 v40 v41 v42 v43 v44 v45 v46 v47 v48 v49 v50 v51 v52 v53 v54 v55 v56 v57 v58 v59 v60 v61 v62 v63 v64 v65 v66 v67 v68 v69 v70 v71 v72 v73 v74 v75 v76 v77 v78 v79 v80 v81 v82 v83 v84 v85 v86 v87 v88 v89 v90 v91 v92 v93 v94 v95 v96 v97 v98 v99 v100 : Value} :
    CodeW Try.prog true AtRel (DP0 (blkS (fun _ => False))) 3 c6 (fun e a' w' => e = .normal ∧ ∃ u22 u23 u24 u25, a' = ⟨(List.toArray (.slice lA len cap :: v1 :: v2 :: v3 :: v4 :: .int .i64 j :: .pointer (some ⟨w2.heap.size, 0, none⟩) :: v7 :: v8 :: v9 :: v10 :: v11 :: v12 :: v13 :: v14 :: v15 :: v16 :: v17 :: v18 :: v19 :: v20 :: v21 :: u22 :: u23 :: u24 :: u25 :: v26 :: v27 :: v28 :: v29 :: v30 :: v31 :: v32 :: v33 :: v34 :: v35 :: v36 :: v37 :: v38 :: v39 :: v40 :: v41 :: v42 :: v43 :: v44 :: v45 :: v46 :: v47 :: v48 :: v49 :: v50 :: v51 :: v52 :: v53 :: v54 :: v55 :: v56 :: v57 :: v58 :: v59 :: v60 :: v61 :: v62 :: v63 :: v64 :: v65 :: v66 :: v67 :: v68 :: v69 :: v70 :: v71 :: v72 :: v73 :: v74 :: v75 :: v76 :: v77 :: v78 :: v79 :: v80 :: v81 :: v82 :: v83 :: v84 :: v85 :: v86 :: v87 :: v88 :: v89 :: v90 :: v91 :: v92 :: v93 :: v94 :: v95 :: v96 :: v97 :: v98 :: v99 :: v100 :: [])), []⟩ ∧ AtRel (((w2.alloc (.cells #[.int .i64 0, .int .i64 0] 27)).setCell ⟨w2.heap.size, 0, none⟩ (.int .i64 kj)).setCell ⟨w2.heap.size, 1, none⟩ (.int .i64 nj)) w') ⟨(List.toArray (.slice lA len cap :: v1 :: v2 :: v3 :: v4 :: .int .i64 j :: v6 :: v7 :: v8 :: v9 :: v10 :: v11 :: v12 :: v13 :: v14 :: v15 :: v16 :: v17 :: v18 :: v19 :: v20 :: v21 :: v22 :: v23 :: v24 :: v25 :: v26 :: v27 :: v28 :: v29 :: v30 :: v31 :: v32 :: v33 :: v34 :: v35 :: v36 :: v37 :: v38 :: v39 :: v40 :: v41 :: v42 :: v43 :: v44 :: v45 :: v46 :: v47 :: v48 :: v49 :: v50 :: v51 :: v52 :: v53 :: v54 :: v55 :: v56 :: v57 :: v58 :: v59 :: v60 :: v61 :: v62 :: v63 :: v64 :: v65 :: v66 :: v67 :: v68 :: v69 :: v70 :: v71 :: v72 :: v73 :: v74 :: v75 :: v76 :: v77 :: v78 :: v79 :: v80 :: v81 :: v82 :: v83 :: v84 :: v85 :: v86 :: v87 :: v88 :: v89 :: v90 :: v91 :: v92 :: v93 :: v94 :: v95 :: v96 :: v97 :: v98 :: v99 :: v100 :: [])), []⟩ w2 := by
  have T9 := termsP (blkS (fun _ => False))
  have hS : ∀ l, ¬ blkS (fun _ => False) l := fun l ⟨_, _, h⟩ => h
  subst hlA
  rw [hc6, show r6B = _ from (by unfold r6B bodyB; simp only [Try.f3, Option.getD_some]; try rfl)]
  have hF := atRel_refl w2
  have q1 : (j : Int) < (len : Int) := by omega
  (refine codeW_region T9 ?_; simp only [List.size_toArray, List.length_cons, List.length_nil, Nat.reduceAdd, Nat.zero_add, List.range, List.range.loop])
  repeat (refine opsW_cons rfl (by rfl) ?_; intro _ hR K hK; replace hF := atRel_trans _ _ _ hF hR; clear hR; have hs9 := atRel_size hF; go_simp; refine hK _ _ ⟨?_, ?_⟩; (· rw [listed_nil (by simp [go_sem, *])]; exact dp0_nil); clear hK K hs9; try walk_nrm)
  (refine opsW_cons rfl (by rfl) ?_; intro _ hR K hK; replace hF := atRel_trans _ _ _ hF hR; clear hR; have hl9 := (atRel_cell hF _).trans hk; have hm9 := (atRel_cell hF _).trans hn; go_simp; refine hK _ _ ⟨?_, ?_⟩; (· intro e he; have hm := mem_listed he; simp [go_sem, hl9, hm9] at hm; rcases hm with rfl | rfl <;> exact evP_cell _ (hS _)); clear hK K hl9 hm9; try walk_nrm)
  (refine opsW_cons rfl (by rfl) ?_; intro _ hR K hK; replace hF := atRel_trans _ _ _ hF hR; clear hR; have hs9 := atRel_size hF; go_simp; refine hK _ _ ⟨?_, ?_⟩; (· rw [listed_nil (by simp [go_sem, *])]; exact dp0_nil); clear hK K hs9; try walk_nrm)
  replace hF := atRel_alloc hF (.cells #[.int .i64 0, .int .i64 0] 27)
  have hA0 : (w2.alloc (.cells #[.int .i64 0, .int .i64 0] 27)).heap[w2.heap.size]? = some (.cells #[.int .i64 0, .int .i64 0] 27) := alloc_new w2 _
  have b0 : (w2.alloc (.cells #[.int .i64 0, .int .i64 0] 27)).cell? ⟨w2.heap.size, 0, none⟩ = some (.int .i64 0) := by simp only [World.cell?, hA0]; rfl
  have b1 : (w2.alloc (.cells #[.int .i64 0, .int .i64 0] 27)).cell? ⟨w2.heap.size, 1, none⟩ = some (.int .i64 0) := by simp only [World.cell?, hA0]; rfl
  have z0 : (w2.alloc (.cells #[.int .i64 0, .int .i64 0] 27)).frozen? ⟨w2.heap.size, 0, none⟩ = false := by simp only [World.frozen?, hA0]; rfl
  have z1 : (w2.alloc (.cells #[.int .i64 0, .int .i64 0] 27)).frozen? ⟨w2.heap.size, 1, none⟩ = false := by simp only [World.frozen?, hA0]; rfl
  clear hA0
  generalize w2.alloc (.cells #[.int .i64 0, .int .i64 0] 27) = w3 at *
  (refine opsW_cons rfl (by rfl) ?_; intro _ hR K hK; replace hF := atRel_trans _ _ _ hF hR; clear hR; have c0 := (atRel_cell hF _).trans b0; have c1 := (atRel_cell hF _).trans b1; have d0 := (atRel_frozen hF _).trans z0; have d1 := (atRel_frozen hF _).trans z1; go_simp)
  (refine hK _ _ ⟨?_, ?_⟩; (· intro e he; have hm := mem_listed he; simp [go_sem, storedEv, *] at hm; rcases hm with rfl | rfl <;> exact evP_cell _ (hS _)); clear hK K c0 c1 d0 d1; try walk_nrm)
  replace hF := atRel_set (atRel_set hF ⟨w2.heap.size, 0, none⟩ (.int .i64 kj)) ⟨w2.heap.size, 1, none⟩ (.int .i64 nj)
  refine opsW_nil T9 ?_
  exact ⟨rfl, _, _, _, _, rfl, hF⟩
noncomputable def r9B : Code := match bodyB with
  | .seq _ (.seq (.block _ (.seq _ (.seq _ (.seq (.seq _ (.cond _ c _)) _)))) _) => c
  | _ => .skip
theorem opC_k {P : Program} {R : World → World → Prop} {D : World → World → Array Event → Prop} {fn : FuncId} {ops : Array Oper} {i : Nat} {o : Oper} {a : Act} {w : World} {M : Act → World → Prop} (ho : ops[i]? = some o) (hw : Region.wanted o (yielded ops a.tmps) = true)
    (h : ∀ w₁, R w w₁ → ∀ K : Act → World → Prop, (∀ a' w', D w₁ w' (listed P fn a o w₁) ∧ M a' w' → K a' w') → uponK o a K ((execOp a.eval o).run P w₁)) : OpC P R D fn ops i M a w := by
  unfold OpC
  simp only [ho, hw, if_true]
  exact fun w₁ h₁ => h w₁ h₁ _ fun _ _ x => x
theorem reg9 {c9 : Code} (hc9 : c9 = r9B) (g B : Nat) (kj nj hv : Int) (w3 : World) (h0 : 0 ≤ kj) (h1 : kj < 16) (b0 : w3.cell? ⟨B, 0, none⟩ = some (.int .i64 kj)) (b1 : w3.cell? ⟨B, 1, none⟩ = some (.int .i64 nj)) (hgB : g ≠ B)
    (hc : w3.cell? ⟨g, kj.toNat, none⟩ = some (.int .i64 hv)) (hz : w3.frozen? ⟨g, kj.toNat, none⟩ = false)
    {v0 v1 v2 v3 v5 v7 v8 v9 v10 v11 v12 v13 v14 v15 v16 v17 v18 v19 v20 v21 v22 v23 v24 v25 v26 v27 v28 v29 v30 v31 v32 v33 v34 v35 v36 v37 v38 v39 v40 v41 v42 v43 v44 v45 v46 v47 v48 v49 v50 v51 v52 v53 v54 v55 v56 v57 v58 v59 v60 v61 v62 v63 v64 v65 v66 v67 v68 v69 v70 v71 v72 v73 v74 v75 v76 v77 v78 v79 v80 v81 v82 v83 v84 v85 v86 v87 v88 v89 v90 v91 v92 v93 v94 v95 v96 v97 v98 v99 v100 : Value} :
    CodeW Try.prog true AtRel (DP0 (blkS (fun _ => False))) 3 c9 (fun e a' w' => e = .normal ∧ (∃ u35 u36 u37 u38 u39 u40 u41 u42 u43 u44, a' = ⟨(List.toArray (v0 :: v1 :: v2 :: v3 :: .pointer (some ⟨g, 0, none⟩) :: v5 :: .pointer (some ⟨B, 0, none⟩) :: v7 :: v8 :: v9 :: v10 :: v11 :: v12 :: v13 :: v14 :: v15 :: v16 :: v17 :: v18 :: v19 :: v20 :: v21 :: v22 :: v23 :: v24 :: v25 :: v26 :: v27 :: v28 :: v29 :: v30 :: v31 :: v32 :: v33 :: v34 :: u35 :: u36 :: u37 :: u38 :: u39 :: u40 :: u41 :: u42 :: u43 :: u44 :: v45 :: v46 :: v47 :: v48 :: v49 :: v50 :: v51 :: v52 :: v53 :: v54 :: v55 :: v56 :: v57 :: v58 :: v59 :: v60 :: v61 :: v62 :: v63 :: v64 :: v65 :: v66 :: v67 :: v68 :: v69 :: v70 :: v71 :: v72 :: v73 :: v74 :: v75 :: v76 :: v77 :: v78 :: v79 :: v80 :: v81 :: v82 :: v83 :: v84 :: v85 :: v86 :: v87 :: v88 :: v89 :: v90 :: v91 :: v92 :: v93 :: v94 :: v95 :: v96 :: v97 :: v98 :: v99 :: v100 :: [])), []⟩) ∧ AtRel (w3.setCell ⟨g, kj.toNat, none⟩ (.int .i64 (IntKind.i64.wrap (hv + nj)))) w') ⟨(List.toArray (v0 :: v1 :: v2 :: v3 :: .pointer (some ⟨g, 0, none⟩) :: v5 :: .pointer (some ⟨B, 0, none⟩) :: v7 :: v8 :: v9 :: v10 :: v11 :: v12 :: v13 :: v14 :: v15 :: v16 :: v17 :: v18 :: v19 :: v20 :: v21 :: v22 :: v23 :: v24 :: v25 :: v26 :: v27 :: v28 :: v29 :: v30 :: v31 :: v32 :: v33 :: v34 :: v35 :: v36 :: v37 :: v38 :: v39 :: v40 :: v41 :: v42 :: v43 :: v44 :: v45 :: v46 :: v47 :: v48 :: v49 :: v50 :: v51 :: v52 :: v53 :: v54 :: v55 :: v56 :: v57 :: v58 :: v59 :: v60 :: v61 :: v62 :: v63 :: v64 :: v65 :: v66 :: v67 :: v68 :: v69 :: v70 :: v71 :: v72 :: v73 :: v74 :: v75 :: v76 :: v77 :: v78 :: v79 :: v80 :: v81 :: v82 :: v83 :: v84 :: v85 :: v86 :: v87 :: v88 :: v89 :: v90 :: v91 :: v92 :: v93 :: v94 :: v95 :: v96 :: v97 :: v98 :: v99 :: v100 :: [])), []⟩ w3 := by
  have T9 := termsP (blkS (fun _ => False))
  have hS : ∀ l, ¬ blkS (fun _ => False) l := fun l ⟨_, _, h⟩ => h
  have ad9 : (if kj.toNat = 0 then (⟨g, 0, none⟩ : Addr) else ⟨g, kj.toNat, none⟩) = ⟨g, kj.toNat, none⟩ := by
    by_cases h : kj.toNat = 0
    · rw [h]; rfl
    · exact if_neg h
  have evi0 := fun (w : World) => events_indexAt_array (P := Try.prog) (w := w) (es := #[]) 25 _ 16 ⟨g, 0, none⟩ .i64 kj Try.underlying25 (by omega)
  rw [hc9, show r9B = _ from (by unfold r9B bodyB; simp only [Try.f3, Option.getD_some]; try rfl)]
  refine codeW_of T9 atRel_refl (wpC_region_held (S := fun W => W.cell? ⟨B, 0, none⟩ = some (.int .i64 kj) ∧ W.cell? ⟨B, 1, none⟩ = some (.int .i64 nj)) T9 (letsDraw_P _) (by rfl) (fun w₁ h₁ => ?_))
  have hF : AtRel w3 { w₁ with drawn := w₁.drawn + 1 } := atRel_draw (n := w₁.drawn + 1) h₁
  clear h₁
  generalize { w₁ with drawn := w₁.drawn + 1 } = w4 at hF ⊢
  have hSw : w4.cell? ⟨B, 0, none⟩ = some (.int .i64 kj) ∧ w4.cell? ⟨B, 1, none⟩ = some (.int .i64 nj) := ⟨(atRel_cell hF _).trans b0, (atRel_cell hF _).trans b1⟩
  simp only [List.size_toArray, List.length_cons, List.length_nil, Nat.reduceAdd, Nat.zero_add]
  (refine anyCH_take T9 (fun _ _ h r => ⟨(atRel_cell r _).trans h.1, (atRel_cell r _).trans h.2⟩) (fun _ _ _ h r => ⟨h.1, h.2.1, atRel_trans _ _ _ h.2.2 r⟩) (i := 0) (v := .pointer (some ⟨B, 0, none⟩)) rfl (by kernel_rfl) (by kernel_rfl) (by kernel_rfl) (.inl ⟨by rfl, fun W hW => ⟨?run0, ?guar0⟩⟩) hSw ?rest0; (case run0 => (obtain ⟨x0, x1⟩ := hW; refine run_eq_of fun K hK => ?_; go_simp; exact hK)); (case guar0 => (rw [listed_nil (by simp [go_sem, *])]; exact dp0_nil)); try walk_nrm)
  (refine anyCH_take T9 (fun _ _ h r => ⟨(atRel_cell r _).trans h.1, (atRel_cell r _).trans h.2⟩) (fun _ _ _ h r => ⟨h.1, h.2.1, atRel_trans _ _ _ h.2.2 r⟩) (i := 1) (v := .int .i64 kj) rfl (by kernel_rfl) (by kernel_rfl) (by kernel_rfl) (.inl ⟨by rfl, fun W hW => ⟨?run1, ?guar1⟩⟩) hSw ?rest1; (case run1 => (obtain ⟨x0, x1⟩ := hW; refine run_eq_of fun K hK => ?_; go_simp; exact hK)); (case guar1 => (obtain ⟨x0, x1⟩ := hW; intro e he; have hm := mem_listed he; simp [go_sem, x0, x1] at hm; rw [hm]; exact evP_cell _ (hS _))); try walk_nrm)
  (refine anyCH_take T9 (fun _ _ h r => ⟨(atRel_cell r _).trans h.1, (atRel_cell r _).trans h.2⟩) (fun _ _ _ h r => ⟨h.1, h.2.1, atRel_trans _ _ _ h.2.2 r⟩) (i := 2) (v := .pointer (some ⟨B, 0, none⟩)) rfl (by kernel_rfl) (by kernel_rfl) (by kernel_rfl) (.inl ⟨by rfl, fun W hW => ⟨?run2, ?guar2⟩⟩) hSw ?rest2; (case run2 => (obtain ⟨x0, x1⟩ := hW; refine run_eq_of fun K hK => ?_; go_simp; exact hK)); (case guar2 => (rw [listed_nil (by simp [go_sem, *])]; exact dp0_nil)); try walk_nrm)
  (refine anyCH_take T9 (fun _ _ h r => ⟨(atRel_cell r _).trans h.1, (atRel_cell r _).trans h.2⟩) (fun _ _ _ h r => ⟨h.1, h.2.1, atRel_trans _ _ _ h.2.2 r⟩) (i := 3) (v := .int .i64 kj) rfl (by kernel_rfl) (by kernel_rfl) (by kernel_rfl) (.inl ⟨by rfl, fun W hW => ⟨?run3, ?guar3⟩⟩) hSw ?rest3; (case run3 => (obtain ⟨x0, x1⟩ := hW; refine run_eq_of fun K hK => ?_; go_simp; exact hK)); (case guar3 => (obtain ⟨x0, x1⟩ := hW; intro e he; have hm := mem_listed he; simp [go_sem, x0, x1] at hm; rw [hm]; exact evP_cell _ (hS _))); try walk_nrm)
  (refine anyCH_take T9 (fun _ _ h r => ⟨(atRel_cell r _).trans h.1, (atRel_cell r _).trans h.2⟩) (fun _ _ _ h r => ⟨h.1, h.2.1, atRel_trans _ _ _ h.2.2 r⟩) (i := 4) (v := .pointer (some ⟨g, kj.toNat, none⟩)) rfl (by kernel_rfl) (by kernel_rfl) (by kernel_rfl) (.inl ⟨by rfl, fun W hW => ⟨?run4, ?guar4⟩⟩) hSw ?rest4; (case run4 => (obtain ⟨x0, x1⟩ := hW; refine run_eq_of fun K hK => ?_; go_simp; exact hK)); (case guar4 => (rw [listed_nil (by simp [go_sem, *])]; exact dp0_nil)); try walk_nrm)
  (refine anyCH_take T9 (fun _ _ h r => ⟨(atRel_cell r _).trans h.1, (atRel_cell r _).trans h.2⟩) (fun _ _ _ h r => ⟨h.1, h.2.1, atRel_trans _ _ _ h.2.2 r⟩) (i := 6) (v := .pointer (some ⟨B, 1, none⟩)) rfl (by kernel_rfl) (by kernel_rfl) (by kernel_rfl) (.inl ⟨by rfl, fun W hW => ⟨?run6, ?guar6⟩⟩) hSw ?rest6; (case run6 => (obtain ⟨x0, x1⟩ := hW; refine run_eq_of fun K hK => ?_; go_simp; exact hK)); (case guar6 => (rw [listed_nil (by simp [go_sem, *])]; exact dp0_nil)); try walk_nrm)
  (refine anyCH_take T9 (fun _ _ h r => ⟨(atRel_cell r _).trans h.1, (atRel_cell r _).trans h.2⟩) (fun _ _ _ h r => ⟨h.1, h.2.1, atRel_trans _ _ _ h.2.2 r⟩) (i := 7) (v := .int .i64 nj) rfl (by kernel_rfl) (by kernel_rfl) (by kernel_rfl) (.inl ⟨by rfl, fun W hW => ⟨?run7, ?guar7⟩⟩) hSw ?rest7; (case run7 => (obtain ⟨x0, x1⟩ := hW; refine run_eq_of fun K hK => ?_; go_simp; exact hK)); (case guar7 => (obtain ⟨x0, x1⟩ := hW; intro e he; have hm := mem_listed he; simp [go_sem, x0, x1] at hm; rw [hm]; exact evP_cell _ (hS _))); try walk_nrm)
  refine anyCH_all (rs := [5]) (by kernel_rfl) (by simp) ?_
  intro i hi
  simp only [List.mem_cons, List.not_mem_nil, or_false] at hi
  subst hi
  refine opC_k rfl (by rfl) ?_
  intro w5 hR K hK
  replace hF := atRel_trans _ _ _ hF hR
  clear hR hSw
  have hl9 := (atRel_cell hF _).trans hc
  have hSw : w5.cell? ⟨B, 0, none⟩ = some (.int .i64 kj) ∧ w5.cell? ⟨B, 1, none⟩ = some (.int .i64 nj) := ⟨(atRel_cell hF _).trans b0, (atRel_cell hF _).trans b1⟩
  go_simp
  refine hK _ _ ⟨?_, hSw, ?_⟩
  · intro e he
    have hm := mem_listed he
    simp [go_sem, hl9] at hm
    rw [hm]
    exact evP_cell _ (hS _)
  clear hK K hl9
  try walk_nrm
  (refine anyCH_take T9 (fun _ _ h r => ⟨(atRel_cell r _).trans h.1, (atRel_cell r _).trans h.2⟩) (fun _ _ _ h r => ⟨h.1, h.2.1, atRel_trans _ _ _ h.2.2 r⟩) (i := 8) (v := .int .i64 (IntKind.i64.wrap (hv + nj))) rfl (by kernel_rfl) (by kernel_rfl) (by kernel_rfl) (.inl ⟨by rfl, fun W hW => ⟨?run8, ?guar8⟩⟩) hSw ?rest8; (case run8 => (obtain ⟨x0, x1⟩ := hW; refine run_eq_of fun K hK => ?_; go_simp; exact hK)); (case guar8 => (rw [listed_nil (by simp [go_sem, *])]; exact dp0_nil)); try walk_nrm)
  (refine anyCH_take T9 (fun _ _ h r => ⟨(atRel_cell r _).trans h.1, (atRel_cell r _).trans h.2⟩) (fun _ _ _ h r => ⟨h.1, h.2.1, atRel_trans _ _ _ h.2.2 r⟩) (i := 9) (v := .pointer (some ⟨g, kj.toNat, none⟩)) rfl (by kernel_rfl) (by kernel_rfl) (by kernel_rfl) (.inl ⟨by rfl, fun W hW => ⟨?run9, ?guar9⟩⟩) hSw ?rest9; (case run9 => (obtain ⟨x0, x1⟩ := hW; refine run_eq_of fun K hK => ?_; go_simp; exact hK)); (case guar9 => (rw [listed_nil (by simp [go_sem, *])]; exact dp0_nil)); try walk_nrm)
  refine anyCH_all (rs := [10]) (by kernel_rfl) (by simp) ?_
  intro i hi
  simp only [List.mem_cons, List.not_mem_nil, or_false] at hi
  subst hi
  refine opC_k rfl (by rfl) ?_
  intro w6 hR K hK
  replace hF := atRel_trans _ _ _ hF hR
  clear hR hSw
  have hl9 := (atRel_cell hF _).trans hc
  have hz9 := (atRel_frozen hF _).trans hz
  have hn0 : (w6.setCell ⟨g, kj.toNat, none⟩ (.int .i64 (IntKind.i64.wrap (hv + nj)))).cell? ⟨B, 0, none⟩ = some (.int .i64 kj) := (cell_set9 _ (Ne.symm hgB)).trans ((atRel_cell hF _).trans b0)
  have hn1 : (w6.setCell ⟨g, kj.toNat, none⟩ (.int .i64 (IntKind.i64.wrap (hv + nj)))).cell? ⟨B, 1, none⟩ = some (.int .i64 nj) := (cell_set9 _ (Ne.symm hgB)).trans ((atRel_cell hF _).trans b1)
  go_simp
  refine hK _ _ ⟨?_, ⟨hn0, hn1⟩, ?_⟩
  · intro e he
    have hm := mem_listed he
    simp [go_sem, storedEv, hl9, hz9] at hm
    rw [hm]
    exact evP_cell _ (hS _)
  clear hK K hl9 hz9
  try walk_nrm
  refine anyCH_done (by kernel_rfl) ?_ _
  exact ⟨rfl, ⟨_, _, _, _, _, _, _, _, _, _, rfl⟩, atRel_set hF _ _⟩
end Go.Proofs.Ytkcknoodcgmndaa
