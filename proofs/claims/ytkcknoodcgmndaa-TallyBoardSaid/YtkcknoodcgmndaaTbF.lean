/- TallyBoard: the law's end. -/
import Derived.Test.YtkcknoodcgmndaaTbE
import Derived.Test.YtkcknoodcgmndaaTbD
namespace Go.Proofs.Ytkcknoodcgmndaa
open Go.Conc Go.RowKit
set_option linter.unusedVariables false
set_option linter.unusedSimpArgs false
set_option maxRecDepth 100000
set_option maxHeartbeats 8000000

















noncomputable def end2B : Code := match endB with
  | .seq _ (.seq _ c) => c
  | _ => .skip
theorem wsum0 : ∀ n, wsum (fun _ => 0) n = 0
  | 0 => rfl
  | n + 1 => by unfold wsum; rw [wsum0 n]; rfl
theorem boardEnd2 {Post : Value → World → Prop} (f : Nat → Int) (w w1 : World) (T : Array Value) (hT : T.size = 101) (t3 : T[3]? = some (.pointer (some ⟨w.heap.size, 0, none⟩))) (t8 : T[8]? = some (.int .i64 (wsum f 16))) (hb : BdAt w f f w1) :
    CodeX Try.prog Post 3 end2B (fun e a w' x => bodyPostC Try.prog Try.f3 (fun v w3 => v = .bool true ∧ Below w.heap.size w w3) e a w') ⟨T, []⟩ w1 ⟨blkS (fun _ => False), 1⟩ := by
  have T9 := termsP (blkS (fun _ => False))
  obtain ⟨v0, v1, v2, v3, v4, v5, v6, v7, v8, v9, v10, v11, v12, v13, v14, v15, v16, v17, v18, v19, v20, v21, v22, v23, v24, v25, v26, v27, v28, v29, v30, v31, v32, v33, v34, v35, v36, v37, v38, v39, v40, v41, v42, v43, v44, v45, v46, v47, v48, v49, v50, v51, v52, v53, v54, v55, v56, v57, v58, v59, v60, v61, v62, v63, v64, v65, v66, v67, v68, v69, v70, v71, v72, v73, v74, v75, v76, v77, v78, v79, v80, v81, v82, v83, v84, v85, v86, v87, v88, v89, v90, v91, v92, v93, v94, v95, v96, v97, v98, v99, v100, rfl⟩ := arr101 T hT
  simp only [List.getElem?_toArray, List.getElem?_cons_succ, List.getElem?_cons_zero, Option.some.injEq] at t3 t8
  subst t3 t8
  clear hT
  have hF := atRel_refl w1
  rw [show end2B = _ from (by unfold end2B endB; simp only [Try.f3, Option.getD_some]; try rfl)]
  replace hb : RowKit.Hid _ := hb
  generalize hs : wsum f 16 = s
  replace hs : RowKit.Hid _ := hs
  (refine codeX_seq ?_)
  refine codeX_of ?_
  (repeat (first | (refine codeW_seq T9 ?_) | (refine codeW_region T9 ?_; simp only [List.size_toArray, List.length_cons, List.length_nil, Nat.reduceAdd, Nat.zero_add, List.range, List.range.loop]) | (refine opsW_nil T9 ?_; simp only [Exit.then, Exit.inBlock, Exit.thenX]) | (refine codeW_skip T9 ?_; simp only [Exit.then, Exit.inBlock, Exit.thenX]) | ((first | refine codeW_cond T9 (t := true) rfl ?_ | refine codeW_cond T9 (t := false) rfl ?_); simp only [if_true, if_false, Bool.false_eq_true, ↓reduceIte]) | (refine opsW_unwanted T9 rfl (by rfl) ?_; try walk_nrm) | (refine opsW_cons rfl (by rfl) ?_; intro _ hR K hK; replace hF := atRel_trans _ _ _ hF hR; clear hR; have hs9 := atRel_size hF; go_simp; refine hK _ _ ⟨?_, ?_⟩; (· rw [listed_nil (by simp [go_sem, *])]; exact dp0_nil); clear hK K hs9; try walk_nrm) | (refine codeW_block T9 ?_)))
  (refine codeX_seq ?_)
  refine codeX_region ?_
  simp only [List.size_toArray, List.length_cons, List.length_nil, Nat.reduceAdd, Nat.zero_add, List.range, List.range.loop]
  (repeat (first | (refine opsX_unwanted rfl (by rfl) ?_; try walk_nrm) | (refine opsX_cons rfl (by rfl) ?_; intro _ hR K hK; replace hF := atRel_trans _ _ _ hF hR; clear hR; have hs9 := atRel_size hF; go_simp; refine hK _ _ ⟨?_, ?_⟩; (· rw [listed_nil (by simp [go_sem, *])]; exact dp0_nil); clear hK K hs9; try walk_nrm)))
  co_apply opsX_callW rfl (by rfl) rfl
  · walk_nrm
    exact total11_W _ f _ (fun j hj w' hr => at10_W _ _ (f j) _ (by omega) (by omega) ((atRel_cell hr _).trans ((atRel_cell hF _).trans (by simpa using hb.out.b j hj))))
  rintro _ w' ⟨rfl, hF'⟩
  rw [hs.out]
  replace hF := atRel_trans _ _ _ hF hF'
  clear hF'
  walk_nrm
  (repeat (first | (refine opsX_unwanted rfl (by rfl) ?_; try walk_nrm) | (refine opsX_cons rfl (by rfl) ?_; intro _ hR K hK; replace hF := atRel_trans _ _ _ hF hR; clear hR; have hs9 := atRel_size hF; go_simp; refine hK _ _ ⟨?_, ?_⟩; (· rw [listed_nil (by simp [go_sem, *])]; exact dp0_nil); clear hK K hs9; try walk_nrm)))
  co_apply opsX_callW rfl (by rfl) rfl
  · walk_nrm
    exact at10Off_W _ _ _ (.inr (.inl (by decide)))
  rintro _ w' ⟨rfl, hF'⟩
  replace hF := atRel_trans _ _ _ hF hF'
  clear hF'
  walk_nrm
  (repeat (first | (refine opsX_unwanted rfl (by rfl) ?_; try walk_nrm) | (refine opsX_cons rfl (by rfl) ?_; intro _ hR K hK; replace hF := atRel_trans _ _ _ hF hR; clear hR; have hs9 := atRel_size hF; go_simp; refine hK _ _ ⟨?_, ?_⟩; (· rw [listed_nil (by simp [go_sem, *])]; exact dp0_nil); clear hK K hs9; try walk_nrm)))
  co_apply opsX_callW rfl (by rfl) rfl
  · walk_nrm
    exact at10Off_W _ _ _ (.inr (.inr (by decide)))
  rintro _ w' ⟨rfl, hF'⟩
  replace hF := atRel_trans _ _ _ hF hF'
  clear hF'
  walk_nrm
  (repeat (first | (refine opsX_unwanted rfl (by rfl) ?_; try walk_nrm) | (refine opsX_cons rfl (by rfl) ?_; intro _ hR K hK; replace hF := atRel_trans _ _ _ hF hR; clear hR; have hs9 := atRel_size hF; go_simp; refine hK _ _ ⟨?_, ?_⟩; (· rw [listed_nil (by simp [go_sem, *])]; exact dp0_nil); clear hK K hs9; try walk_nrm)))
  co_apply opsX_callW rfl (by rfl) rfl
  · walk_nrm
    exact add9Off_W _ _ _ _ (.inl rfl)
  rintro _ w' ⟨rfl, hF'⟩
  replace hF := atRel_trans _ _ _ hF hF'
  clear hF'
  walk_nrm
  (repeat (first | (refine opsX_unwanted rfl (by rfl) ?_; try walk_nrm) | (refine opsX_cons rfl (by rfl) ?_; intro _ hR K hK; replace hF := atRel_trans _ _ _ hF hR; clear hR; have hs9 := atRel_size hF; go_simp; refine hK _ _ ⟨?_, ?_⟩; (· rw [listed_nil (by simp [go_sem, *])]; exact dp0_nil); clear hK K hs9; try walk_nrm)))
  co_apply opsX_callW rfl (by rfl) rfl
  · walk_nrm
    exact at10Off_W _ _ _ (.inl rfl)
  rintro _ w' ⟨rfl, hF'⟩
  replace hF := atRel_trans _ _ _ hF hF'
  clear hF'
  walk_nrm
  (repeat (first | (refine opsX_unwanted rfl (by rfl) ?_; try walk_nrm) | (refine opsX_cons rfl (by rfl) ?_; intro _ hR K hK; replace hF := atRel_trans _ _ _ hF hR; clear hR; have hs9 := atRel_size hF; go_simp; refine hK _ _ ⟨?_, ?_⟩; (· rw [listed_nil (by simp [go_sem, *])]; exact dp0_nil); clear hK K hs9; try walk_nrm)))
  co_apply opsX_callW rfl (by rfl) rfl
  · walk_nrm
    exact total11_W _ (fun _ => 0) _ (fun j hj w' hr => at10Off_W _ _ _ (.inl rfl))
  rintro _ w' ⟨rfl, hF'⟩
  rw [wsum0]
  replace hF := atRel_trans _ _ _ hF hF'
  clear hF'
  walk_nrm
  (repeat (first | (refine opsX_unwanted rfl (by rfl) ?_; try walk_nrm) | (refine opsX_cons rfl (by rfl) ?_; intro _ hR K hK; replace hF := atRel_trans _ _ _ hF hR; clear hR; have hs9 := atRel_size hF; go_simp; refine hK _ _ ⟨?_, ?_⟩; (· rw [listed_nil (by simp [go_sem, *])]; exact dp0_nil); clear hK K hs9; try walk_nrm)))
  obtain ⟨q, rfl⟩ := hF
  have hb2 : Below w.heap.size w (w1.at q) := ⟨hb.out.bel.os, hb.out.bel.tape, hb.out.bel.output, hb.out.bel.size, hb.out.bel.block⟩
  have hsz : 0 < (w1.at q).heap.size := by have := hb.out.size; show 0 < w1.heap.size; omega
  refine opsX_call (Pos := fun v w' x' => v = .bool true ∧ Below w.heap.size w w') rfl (by rfl) rfl ?_ ?_
  · walk_nrm
    obtain ⟨fnn, cd, h1, h2, h3, h4⟩ := awakeX (Post := Post) (fun _ => False) 1 (w1.at q) (by omega) (fun b h => h.elim)
    refine ⟨fnn, cd, h1, h2, h3, codeX_mono h4 fun e a w3 x3 y => ?_⟩
    cases e <;> first | exact ⟨y.1, y.2.choose, y.2.choose_spec.1, y.2.choose_spec.2.1, hb2.trans ⟨y.2.choose_spec.2.2.os, y.2.choose_spec.2.2.tape, y.2.choose_spec.2.2.output, y.2.choose_spec.2.2.size, fun g hg => y.2.choose_spec.2.2.block g (Nat.lt_of_lt_of_le hg hb.out.bel.size)⟩⟩ | exact y
  rintro _ w' x' ⟨rfl, hbf⟩
  have hF := atRel_refl w'
  clear T9
  have T9 := termsP x'.S
  walk_nrm
  (repeat (first | (refine opsX_unwanted rfl (by rfl) ?_; try walk_nrm) | (refine opsX_cons rfl (by rfl) ?_; intro _ hR K hK; replace hF := atRel_trans _ _ _ hF hR; clear hR; have hs9 := atRel_size hF; go_simp; refine hK _ _ ⟨?_, ?_⟩; (· rw [listed_nil (by simp [go_sem, *])]; exact dp0_nil); clear hK K hs9; try walk_nrm)))
  refine opsX_nil ?_
  simp only [Exit.thenX]
  refine codeX_of (codeW_ret T9 ?_)
  obtain ⟨q2, rfl⟩ := hF
  exact ⟨rfl, _, resultsC_tmp rfl _, rfl, ⟨hbf.os, hbf.tape, hbf.output, hbf.size, hbf.block⟩⟩
end Go.Proofs.Ytkcknoodcgmndaa
