/- TallyMarks: the law's end; NewMarks where it refuses; the memory where the loop begins. -/
import Derived.Test.YtkcknoodcgmndaaZMqA
import Derived.Test.YtkcknoodcgmndaaZTbA
namespace Go.Proofs.Ytkcknoodcgmndaa
open Go.Conc Go.RowKit
set_option linter.unusedVariables false
set_option linter.unusedSimpArgs false
set_option maxRecDepth 100000
set_option maxHeartbeats 8000000



















section
variable {Shun : Loc → Prop}
theorem newMarksErr_W (n : Int) (hn : n < 0 ∨ 65536 < n) (w : World) : CW Shun 13 #[.int .i64 n] w (fun r w' => r = .tuple #[.pointer none, .int .i64 1] ∧ AtRel w w') := by
  have T9 := termsP Shun
  refine callsW_enter Try.func13 (by kernel_rfl) rfl ?_
  simp only [Try.ntmps13]
  walk_nrm
  have hF := atRel_refl w
  by_cases h0 : n < 0
  · have e8 : decide (n < 0) = true := decide_eq_true h0
    (repeat (first | (refine codeW_seq T9 ?_) | (refine codeW_region T9 ?_; simp only [List.size_toArray, List.length_cons, List.length_nil, Nat.reduceAdd, Nat.zero_add, List.range, List.range.loop]) | (refine opsW_nil T9 ?_; simp only [Exit.then, Exit.inBlock]) | (refine codeW_skip T9 ?_; simp only [Exit.then, Exit.inBlock]) | ((first | refine codeW_cond T9 (t := true) rfl ?_ | refine codeW_cond T9 (t := false) rfl ?_); simp only [if_true, if_false, Bool.false_eq_true, ↓reduceIte]) | (refine opsW_unwanted T9 rfl (by rfl) ?_; try walk_nrm) | (refine opsW_cons rfl (by rfl) ?_; intro _ hR K hK; replace hF := atRel_trans _ _ _ hF hR; clear hR; have hs9 := atRel_size hF; go_simp; refine hK _ _ ⟨?_, ?_⟩; (· rw [listed_nil (by simp [go_sem, *])]; exact dp0_nil); clear hK K hs9; try walk_nrm) | (refine codeW_block T9 ?_)))
    (refine codeW_ret T9 ?_)
    exact ⟨rfl, _, resultsC_tmp2 rfl _, rfl, hF⟩
  · have e8 : decide (n < 0) = false := decide_eq_false h0
    have e9 : decide ((65536 : Int) < n) = true := decide_eq_true (by omega)
    (repeat (first | (refine codeW_seq T9 ?_) | (refine codeW_region T9 ?_; simp only [List.size_toArray, List.length_cons, List.length_nil, Nat.reduceAdd, Nat.zero_add, List.range, List.range.loop]) | (refine opsW_nil T9 ?_; simp only [Exit.then, Exit.inBlock]) | (refine codeW_skip T9 ?_; simp only [Exit.then, Exit.inBlock]) | ((first | refine codeW_cond T9 (t := true) rfl ?_ | refine codeW_cond T9 (t := false) rfl ?_); simp only [if_true, if_false, Bool.false_eq_true, ↓reduceIte]) | (refine opsW_unwanted T9 rfl (by rfl) ?_; try walk_nrm) | (refine opsW_cons rfl (by rfl) ?_; intro _ hR K hK; replace hF := atRel_trans _ _ _ hF hR; clear hR; have hs9 := atRel_size hF; go_simp; refine hK _ _ ⟨?_, ?_⟩; (· rw [listed_nil (by simp [go_sem, *])]; exact dp0_nil); clear hK K hs9; try walk_nrm) | (refine codeW_block T9 ?_)))
    (refine codeW_ret T9 ?_)
    exact ⟨rfl, _, resultsC_tmp2 rfl _, rfl, hF⟩
end
theorem KAt.new (w : World) (n : Nat) (hn : n ≤ 65536) : KAt w n (List.replicate ((n + 63) / 64) 0) (.slice none 0 0) ((w.alloc (.cells (Array.replicate ((n + 63) / 64) (.int .u64 0)) 78)).alloc (.cells #[.int .i64 n, .slice (some ⟨w.heap.size, 0, none⟩) ((n + 63) / 64) ((n + 63) / 64)] 74)) where
  bel := below_alloc9 (below_alloc9 (below_self _ w) (Nat.le_refl _) _) (Nat.le_refl _) _
  mm := by
    refine ⟨?_, ?_, by omega, ?_, ?_, hn, ?_⟩
    · have := alloc_new (w.alloc (.cells (Array.replicate ((n + 63) / 64) (.int .u64 0)) 78)) (.cells #[.int .i64 n, .slice (some ⟨w.heap.size, 0, none⟩) ((n + 63) / 64) ((n + 63) / 64)] 74)
      rw [List.length_replicate]
      simpa using this
    · rw [Below.heap_alloc _ _ _ (by simp), alloc_new w _]
      rw [List.map_replicate, List.toArray_replicate]
      rfl
    · intro v hv
      rw [List.eq_of_mem_replicate hv]
      decide
    · rw [List.length_replicate]; omega
    · rw [List.length_replicate]; omega
  own := by
    rw [markL_zero]
    exact World.ownsRow_nil _ _ _ _
  size := by simp
  clean := fun k _ => bitW_zero _ _
noncomputable def endM : Code := match (Try.f6.body.getD .skip) with
  | .seq _ (.seq _ (.seq _ (.seq _ (.seq _ (.seq _ c))))) => c
  | _ => .skip
theorem marksEnd {Post : Value → World → Prop} (n : Nat) (w w1 : World) (ws : List Nat) (v : Value) (T : Array Value) (hT : T.size = 128) (t0 : T[0]? = some (.int .i64 n)) (t5 : T[5]? = some (.pointer (some ⟨w.heap.size + 1, 0, none⟩))) (t6 : T[6]? = some (.int .i64 0)) (hk : KAt w n ws v w1) :
    CodeX Try.prog Post 6 endM (fun e a w' x => bodyPostC Try.prog Try.f6 (fun v w3 => v = .bool true ∧ Below w.heap.size w w3) e a w') ⟨T, []⟩ w1 ⟨blkS (fun _ => False), 1⟩ := by
  have T9 := termsP (blkS (fun _ => False))
  have hS : ∀ l, ¬ blkS (fun _ => False) l := fun l ⟨_, _, h⟩ => h
  revert t0 t5 t6
  apply arr128E hT
  intro v0 v1 v2 v3 v4 v5 v6 v7 v8 v9 v10 v11 v12 v13 v14 v15 v16 v17 v18 v19 v20 v21 v22 v23 v24 v25 v26 v27 v28 v29 v30 v31 v32 v33 v34 v35 v36 v37 v38 v39 v40 v41 v42 v43 v44 v45 v46 v47 v48 v49 v50 v51 v52 v53 v54 v55 v56 v57 v58 v59 v60 v61 v62 v63 v64 v65 v66 v67 v68 v69 v70 v71 v72 v73 v74 v75 v76 v77 v78 v79 v80 v81 v82 v83 v84 v85 v86 v87 v88 v89 v90 v91 v92 v93 v94 v95 v96 v97 v98 v99 v100 v101 v102 v103 v104 v105 v106 v107 v108 v109 v110 v111 v112 v113 v114 v115 v116 v117 v118 v119 v120 v121 v122 v123 v124 v125 v126 v127 t0 t5 t6
  simp only [List.getElem?_toArray, List.getElem?_cons_succ, List.getElem?_cons_zero, Option.some.injEq] at t0 t5 t6
  subst t0 t5 t6
  clear hT
  have hF := atRel_refl w1
  rw [show endM = _ from (by unfold endM; simp only [Try.f6, Option.getD_some]; try rfl)]
  replace hk : RowKit.Hid _ := hk
  (refine codeX_seq ?_)
  refine codeX_region ?_
  simp only [List.size_toArray, List.length_cons, List.length_nil, Nat.reduceAdd, Nat.zero_add, List.range, List.range.loop]
  (repeat (first | (refine opsX_unwanted rfl (by rfl) ?_; try walk_nrm) | (refine opsX_cons rfl (by rfl) ?_; intro _ hR K hK; replace hF := atRel_trans _ _ _ hF hR; clear hR; have hs9 := atRel_size hF; go_simp; refine hK _ _ ⟨?_, ?_⟩; (· rw [listed_nil (by simp [go_sem, *])]; exact dp0_nil); clear hK K hs9; try walk_nrm)))
  co_apply opsX_callW rfl (by rfl) rfl
  · walk_nrm
    exact len29_W (w.heap.size + 1) n _ ((atRel_cell hF _).trans hk.out.mm.c0) (fun o => hS _)
  rintro _ w' ⟨rfl, hF'⟩
  replace hF := atRel_trans _ _ _ hF hF'
  clear hF'
  walk_nrm
  (repeat (first | (refine opsX_unwanted rfl (by rfl) ?_; try walk_nrm) | (refine opsX_cons rfl (by rfl) ?_; intro _ hR K hK; replace hF := atRel_trans _ _ _ hF hR; clear hR; have hs9 := atRel_size hF; go_simp; refine hK _ _ ⟨?_, ?_⟩; (· rw [listed_nil (by simp [go_sem, *])]; exact dp0_nil); clear hK K hs9; try walk_nrm)))
  obtain ⟨q, rfl⟩ := hF
  have hb2 : Below w.heap.size w (w1.at q) := ⟨hk.out.bel.os, hk.out.bel.tape, hk.out.bel.output, hk.out.bel.size, hk.out.bel.block⟩
  refine opsX_call (Pos := fun v w' x' => v = .bool true ∧ Below w.heap.size w w') rfl (by rfl) rfl ?_ ?_
  · walk_nrm
    obtain ⟨fnn, cd, h1, h2, h3, h4⟩ := awakeX (Post := Post) (fun _ => False) 1 (w1.at q) (by omega) (fun b h => h.elim)
    refine ⟨fnn, cd, h1, h2, h3, codeX_mono h4 fun e a w3 x3 y => ?_⟩
    cases e <;> first | exact ⟨y.1, y.2.choose, y.2.choose_spec.1, y.2.choose_spec.2.1, hb2.trans ⟨y.2.choose_spec.2.2.os, y.2.choose_spec.2.2.tape, y.2.choose_spec.2.2.output, y.2.choose_spec.2.2.size, fun g hg => y.2.choose_spec.2.2.block g (Nat.lt_of_lt_of_le hg hk.out.bel.size)⟩⟩ | exact y
  rintro _ w' x' ⟨rfl, hbf⟩
  have hF := atRel_refl w'
  clear T9
  have T9 := termsP x'.S
  walk_nrm
  (repeat (first | (refine opsX_unwanted rfl (by rfl) ?_; try walk_nrm) | (refine opsX_cons rfl (by rfl) ?_; intro _ hR K hK; replace hF := atRel_trans _ _ _ hF hR; clear hR; have hs9 := atRel_size hF; go_simp; refine hK _ _ ⟨?_, ?_⟩; (· rw [listed_nil (by simp [go_sem, *])]; exact dp0_nil); clear hK K hs9; try walk_nrm)))
  refine opsX_nil ?_
  simp only [Exit.thenX]
  refine codeX_of (codeW_ret T9 ?_)
  obtain ⟨q2, rfl⟩ := hF
  exact ⟨rfl, _, resultsC_tmp rfl _, rfl, ⟨hbf.os, hbf.tape, hbf.output, hbf.size, hbf.block⟩⟩
end Go.Proofs.Ytkcknoodcgmndaa
