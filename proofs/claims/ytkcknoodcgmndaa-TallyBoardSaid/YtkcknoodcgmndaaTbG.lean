/- TallyBoard: the second loop. -/
import Derived.Test.YtkcknoodcgmndaaTbF
namespace Go.Proofs.Ytkcknoodcgmndaa
open Go.Conc Go.RowKit
set_option linter.unusedVariables false
set_option linter.unusedSimpArgs false
set_option maxRecDepth 100000
set_option maxHeartbeats 8000000














theorem boardEnd {Post : Value → World → Prop} (f : Nat → Int) (w w1 : World) (T : Array Value) (hT : T.size = 101) (t3 : T[3]? = some (.pointer (some ⟨w.heap.size, 0, none⟩))) (t4 : T[4]? = some (.pointer (some ⟨w.heap.size + 1, 0, none⟩))) (hb : BdAt w f f w1) :
    CodeX Try.prog Post 3 endB (fun e a w' x => bodyPostC Try.prog Try.f3 (fun v w3 => v = .bool true ∧ Below w.heap.size w w3) e a w') ⟨T, []⟩ w1 ⟨blkS (fun _ => False), 1⟩ := by
  have T9 := termsP (blkS (fun _ => False))
  have hS : ∀ l, ¬ blkS (fun _ => False) l := fun l ⟨_, _, h⟩ => h
  obtain ⟨v0, v1, v2, v3, v4, v5, v6, v7, v8, v9, v10, v11, v12, v13, v14, v15, v16, v17, v18, v19, v20, v21, v22, v23, v24, v25, v26, v27, v28, v29, v30, v31, v32, v33, v34, v35, v36, v37, v38, v39, v40, v41, v42, v43, v44, v45, v46, v47, v48, v49, v50, v51, v52, v53, v54, v55, v56, v57, v58, v59, v60, v61, v62, v63, v64, v65, v66, v67, v68, v69, v70, v71, v72, v73, v74, v75, v76, v77, v78, v79, v80, v81, v82, v83, v84, v85, v86, v87, v88, v89, v90, v91, v92, v93, v94, v95, v96, v97, v98, v99, v100, rfl⟩ := arr101 T hT
  simp only [List.getElem?_toArray, List.getElem?_cons_succ, List.getElem?_cons_zero, Option.some.injEq] at t3 t4
  subst t3 t4
  clear hT
  have hF := atRel_refl w1
  rw [show endB = _ from (by unfold endB; simp only [Try.f3, Option.getD_some]; try rfl)]
  replace hb : RowKit.Hid _ := hb
  (refine codeX_seq ?_)
  refine codeX_of ?_
  (repeat (first | (refine codeW_seq T9 ?_) | (refine codeW_region T9 ?_; simp only [List.size_toArray, List.length_cons, List.length_nil, Nat.reduceAdd, Nat.zero_add, List.range, List.range.loop]) | (refine opsW_nil T9 ?_; simp only [Exit.then, Exit.inBlock, Exit.thenX]) | (refine codeW_skip T9 ?_; simp only [Exit.then, Exit.inBlock, Exit.thenX]) | ((first | refine codeW_cond T9 (t := true) rfl ?_ | refine codeW_cond T9 (t := false) rfl ?_); simp only [if_true, if_false, Bool.false_eq_true, ↓reduceIte]) | (refine opsW_unwanted T9 rfl (by rfl) ?_; try walk_nrm) | (refine opsW_cons rfl (by rfl) ?_; intro _ hR K hK; replace hF := atRel_trans _ _ _ hF hR; clear hR; have hs9 := atRel_size hF; go_simp; refine hK _ _ ⟨?_, ?_⟩; (· rw [listed_nil (by simp [go_sem, *])]; exact dp0_nil); clear hK K hs9; try walk_nrm) | (refine codeW_block T9 ?_)))
  (refine codeX_seq ?_)
  refine codeX_of ?_
  (repeat (first | (refine codeW_seq T9 ?_) | (refine codeW_region T9 ?_; simp only [List.size_toArray, List.length_cons, List.length_nil, Nat.reduceAdd, Nat.zero_add, List.range, List.range.loop]) | (refine opsW_nil T9 ?_; simp only [Exit.then, Exit.inBlock, Exit.thenX]) | (refine codeW_skip T9 ?_; simp only [Exit.then, Exit.inBlock, Exit.thenX]) | ((first | refine codeW_cond T9 (t := true) rfl ?_ | refine codeW_cond T9 (t := false) rfl ?_); simp only [if_true, if_false, Bool.false_eq_true, ↓reduceIte]) | (refine opsW_unwanted T9 rfl (by rfl) ?_; try walk_nrm) | (refine opsW_cons rfl (by rfl) ?_; intro _ hR K hK; replace hF := atRel_trans _ _ _ hF hR; clear hR; have hs9 := atRel_size hF; go_simp; refine hK _ _ ⟨?_, ?_⟩; (· rw [listed_nil (by simp [go_sem, *])]; exact dp0_nil); clear hK K hs9; try walk_nrm) | (refine codeW_block T9 ?_)))
  refine codeW_loop T9 (fun a' w' => ∃ (T : Array Value) (j : Nat), a' = ⟨T, []⟩ ∧ T.size = 101 ∧ T[3]? = some (.pointer (some ⟨w.heap.size, 0, none⟩)) ∧ T[4]? = some (.pointer (some ⟨w.heap.size + 1, 0, none⟩)) ∧ T[8]? = some (.int .i64 (wsum f j)) ∧ T[9]? = some (.int .i64 j) ∧ j ≤ 16 ∧ BdAt w f f w')
    (fun a _ => match a.tmps.getD 9 undef with | .int _ i => ((16 : Int) - i).toNat | _ => 0) ⟨_, 0, rfl, rfl, rfl, rfl, rfl, rfl, Nat.zero_le _, hb.out.at hF⟩ ?_
  clear hF hb
  rintro _ w2 ⟨T, j, rfl, hT, t3, t4, t8, t9, hj, hck⟩
  obtain ⟨v0, v1, v2, v3, v4, v5, v6, v7, v8, v9, v10, v11, v12, v13, v14, v15, v16, v17, v18, v19, v20, v21, v22, v23, v24, v25, v26, v27, v28, v29, v30, v31, v32, v33, v34, v35, v36, v37, v38, v39, v40, v41, v42, v43, v44, v45, v46, v47, v48, v49, v50, v51, v52, v53, v54, v55, v56, v57, v58, v59, v60, v61, v62, v63, v64, v65, v66, v67, v68, v69, v70, v71, v72, v73, v74, v75, v76, v77, v78, v79, v80, v81, v82, v83, v84, v85, v86, v87, v88, v89, v90, v91, v92, v93, v94, v95, v96, v97, v98, v99, v100, rfl⟩ := arr101 T hT
  simp only [List.getElem?_toArray, List.getElem?_cons_succ, List.getElem?_cons_zero, Option.some.injEq] at t3 t4 t8 t9
  subst t3 t4 t8 t9
  clear hT
  have hF := atRel_refl w2
  replace hck : RowKit.Hid _ := hck
  by_cases hl : j < 16
  · have e9 : decide ((j : Int) < 16) = true := decide_eq_true (by omega)
    have hj9 : (j : Int) < 16 := by omega
    have ad9 : (if j = 0 then (⟨w.heap.size + 1, 0, none⟩ : Addr) else ⟨w.heap.size + 1, j, none⟩) = ⟨w.heap.size + 1, j, none⟩ := by
      by_cases h : j = 0
      · rw [h]; rfl
      · exact if_neg h
    have evi0 := fun (w9 : World) => events_indexAt_array (P := Try.prog) (w := w9) (es := #[]) 25 _ 16 ⟨w.heap.size + 1, 0, none⟩ .i64 (j : Int) Try.underlying25 (by omega)
    have d7 : IntKind.i64.wrap ((j : Int) + 1) = (j : Int) + 1 := by rw [IntKind.wrap_i64]; omega
    have d6 : IntKind.i64.wrap (wsum f j + f j) = wsum f (j + 1) := rfl
    (repeat (first | (refine codeW_seq T9 ?_) | (refine codeW_region T9 ?_; simp only [List.size_toArray, List.length_cons, List.length_nil, Nat.reduceAdd, Nat.zero_add, List.range, List.range.loop]) | (refine opsW_nil T9 ?_; simp only [Exit.then, Exit.inBlock, Exit.thenX]) | (refine codeW_skip T9 ?_; simp only [Exit.then, Exit.inBlock, Exit.thenX]) | ((first | refine codeW_cond T9 (t := true) rfl ?_ | refine codeW_cond T9 (t := false) rfl ?_); simp only [if_true, if_false, Bool.false_eq_true, ↓reduceIte]) | (refine opsW_unwanted T9 rfl (by rfl) ?_; try walk_nrm) | (refine opsW_cons rfl (by rfl) ?_; intro _ hR K hK; replace hF := atRel_trans _ _ _ hF hR; clear hR; have hs9 := atRel_size hF; go_simp; refine hK _ _ ⟨?_, ?_⟩; (· rw [listed_nil (by simp [go_sem, *])]; exact dp0_nil); clear hK K hs9; try walk_nrm) | (refine codeW_block T9 ?_)))
    have hc1 := hck.out.n j hl
    (refine opsW_cons rfl (by rfl) ?_; intro _ hR K hK; replace hF := atRel_trans _ _ _ hF hR; clear hR; have hl9 := (atRel_cell hF _).trans hc1; go_simp; refine hK _ _ ⟨?_, ?_⟩; (· intro e he; have hm := mem_listed he; simp [go_sem, hl9] at hm; rw [hm]; exact evP_cell _ (hS _)); clear hK K hl9; try walk_nrm)
    clear hc1
    repeat (first | (refine opsW_unwanted T9 rfl (by rfl) ?_; try walk_nrm) | (refine opsW_cons rfl (by rfl) ?_; intro _ hR K hK; replace hF := atRel_trans _ _ _ hF hR; clear hR; have hs9 := atRel_size hF; go_simp; refine hK _ _ ⟨?_, ?_⟩; (· rw [listed_nil (by simp [go_sem, *])]; exact dp0_nil); clear hK K hs9; try walk_nrm))
    (refine opsW_nil T9 ?_; simp only [Exit.then, Exit.inBlock, Exit.thenX])
    (refine codeW_seq T9 ?_)
    refine codeW_mono (reg17 (by kernel_rfl) w.heap.size (w.heap.size + 1) j (f j) _ hl ((atRel_cell hF _).trans (hck.out.b j hl)) ((atRel_cell hF _).trans (hck.out.n j hl))) ?_
    rintro e a'' w'' ⟨rfl, ⟨u62, u63, u64, u65, u66, u67, rfl⟩, hF'⟩
    simp only [Exit.then]
    replace hF := atRel_trans _ _ _ hF hF'
    clear hF'
    (repeat (first | (refine codeW_seq T9 ?_) | (refine codeW_region T9 ?_; simp only [List.size_toArray, List.length_cons, List.length_nil, Nat.reduceAdd, Nat.zero_add, List.range, List.range.loop]) | (refine opsW_nil T9 ?_; simp only [Exit.then, Exit.inBlock, Exit.thenX]) | (refine codeW_skip T9 ?_; simp only [Exit.then, Exit.inBlock, Exit.thenX]) | ((first | refine codeW_cond T9 (t := true) rfl ?_ | refine codeW_cond T9 (t := false) rfl ?_); simp only [if_true, if_false, Bool.false_eq_true, ↓reduceIte]) | (refine opsW_unwanted T9 rfl (by rfl) ?_; try walk_nrm) | (refine opsW_cons rfl (by rfl) ?_; intro _ hR K hK; replace hF := atRel_trans _ _ _ hF hR; clear hR; have hs9 := atRel_size hF; go_simp; refine hK _ _ ⟨?_, ?_⟩; (· rw [listed_nil (by simp [go_sem, *])]; exact dp0_nil); clear hK K hs9; try walk_nrm) | (refine codeW_block T9 ?_)))
    refine ⟨⟨_, j + 1, rfl, rfl, rfl, rfl, rfl, rfl, by omega, hck.out.at hF⟩, ?_⟩
    simp
    omega
  · have e9 : decide ((j : Int) < 16) = false := decide_eq_false (by omega)
    obtain rfl : j = 16 := by omega
    (repeat (first | (refine codeW_seq T9 ?_) | (refine codeW_region T9 ?_; simp only [List.size_toArray, List.length_cons, List.length_nil, Nat.reduceAdd, Nat.zero_add, List.range, List.range.loop]) | (refine opsW_nil T9 ?_; simp only [Exit.then, Exit.inBlock, Exit.thenX]) | (refine codeW_skip T9 ?_; simp only [Exit.then, Exit.inBlock, Exit.thenX]) | ((first | refine codeW_cond T9 (t := true) rfl ?_ | refine codeW_cond T9 (t := false) rfl ?_); simp only [if_true, if_false, Bool.false_eq_true, ↓reduceIte]) | (refine opsW_unwanted T9 rfl (by rfl) ?_; try walk_nrm) | (refine opsW_cons rfl (by rfl) ?_; intro _ hR K hK; replace hF := atRel_trans _ _ _ hF hR; clear hR; have hs9 := atRel_size hF; go_simp; refine hK _ _ ⟨?_, ?_⟩; (· rw [listed_nil (by simp [go_sem, *])]; exact dp0_nil); clear hK K hs9; try walk_nrm) | (refine codeW_block T9 ?_)))
    (refine codeW_exit T9 ?_; simp only [Exit.then, Exit.inBlock, Exit.thenX, if_true, if_false, reduceIte, Nat.reduceEqDiff])
    exact boardEnd2 f w _ _ rfl rfl rfl (hck.out.at hF)
end Go.Proofs.Ytkcknoodcgmndaa
