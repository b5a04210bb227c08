/- TallySweeps: the inner loop's round. -/
import Derived.Test.YtkcknoodcgmndaaZSzB
namespace Go.Proofs.Ytkcknoodcgmndaa
open Go.Conc Go.RowKit
set_option linter.unusedVariables false
set_option linter.unusedSimpArgs false
set_option maxRecDepth 100000
set_option maxHeartbeats 8000000














noncomputable def rest1S : Code := match (Try.f4.body.getD .skip) with
  | .seq _ (.seq _ (.seq _ (.seq _ (.seq _ c)))) => c
  | _ => .skip
noncomputable def body2S : Code := match rest1S with
  | .seq _ (.seq _ (.seq (.seq _ (.block _ (.loop c))) _)) => c
  | _ => .skip
noncomputable def end2S : Code := match rest1S with
  | .seq _ (.seq _ (.seq _ c)) => c
  | _ => .skip
noncomputable def body3S : Code := match body2S with
  | .seq _ (.seq (.block _ (.seq _ (.seq _ (.block _ (.loop c))))) _) => c
  | _ => .skip
theorem round3S {Q : Exit → Act → World → Prop} (n len cap lb lo i k nk pcap pd po c9 : Nat) (x : Int) (w0 w2 : World) (ws ws2 : List Nat) (v : Value) (hk9 : k < nk) (hi9 : i < len) (hnk : nk ≤ 60) (hc9 : c9 ≤ 100000)
    (hcl0 : w2.cell? ⟨lb, lo + i, none⟩ = some (.slice (some ⟨pd, po, none⟩) nk pcap)) (hcd0 : w2.cell? ⟨pd, po + k, none⟩ = some (.int .i64 x)) (hck : KAs w0 n ws ws2 v w2) {v1 v3 v4 v5 v6 v8 v10 v11 v15 v16 v17 v18 v19 v20 v21 v22 v23 v24 v25 v26 v27 v28 v29 v30 v31 v32 v33 v34 v35 v36 v37 v38 v39 v40 v41 v42 v43 v44 v45 v46 v47 v48 v49 v50 v51 v52 v53 v54 v55 v56 v57 v58 v59 v60 v61 v62 v63 v64 v65 v66 v67 v68 v69 v70 v71 v72 v73 v74 v75 v76 v77 v78 v79 v80 v81 v82 v83 v84 v85 v86 v87 v88 v89 v90 v91 v92 v93 v94 v95 v96 v97 v98 v99 v100 v101 v102 v103 v104 v105 v106 v107 v108 v109 v110 v111 v112 v113 v114 v115 v116 v117 v118 v119 v120 v121 v122 v123 v124 v125 v126 v127 v128 v129 v130 v131 v132 v133 v134 v135 v136 v137 v138 v139 v140 v141 v142 v143 v144 v145 v146 v147 v148 v149 v150 : Value}
    (hQ : ∀ (T : Array Value) (ws2' : List Nat) (v' : Value) (w' : World), T.size = 151 → T[0]? = some (.int .i64 n) → T[2]? = some (.slice (some ⟨lb, lo, none⟩) len cap) → T[7]? = some (.pointer (some ⟨w0.heap.size + 1, 0, none⟩)) → T[9]? = some v' → T[11]? = some v11 → T[12]? = some (.int .i64 ((c9 : Int) + 1)) → T[13]? = some (.int .i64 i) → T[14]? = some (.int .i64 ((k : Int) + 1)) → KAs w0 n ws ws2' v' w' → ws2' = (if 0 ≤ x ∧ x < (n : Int) then setB ws2 x.toNat else ws2) → Q .normal ⟨T, []⟩ w') :
    CodeW Try.prog true AtRel (DP0 (blkS (fun _ => False))) 4 body3S Q ⟨List.toArray (.int .i64 n :: v1 :: .slice (some ⟨lb, lo, none⟩) len cap :: v3 :: v4 :: v5 :: v6 :: .pointer (some ⟨w0.heap.size + 1, 0, none⟩) :: v8 :: v :: v10 :: v11 :: .int .i64 c9 :: .int .i64 i :: .int .i64 k :: v15 :: v16 :: v17 :: v18 :: v19 :: v20 :: v21 :: v22 :: v23 :: v24 :: v25 :: v26 :: v27 :: v28 :: v29 :: v30 :: v31 :: v32 :: v33 :: v34 :: v35 :: v36 :: v37 :: v38 :: v39 :: v40 :: v41 :: v42 :: v43 :: v44 :: v45 :: v46 :: v47 :: v48 :: v49 :: v50 :: v51 :: v52 :: v53 :: v54 :: v55 :: v56 :: v57 :: v58 :: v59 :: v60 :: v61 :: v62 :: v63 :: v64 :: v65 :: v66 :: v67 :: v68 :: v69 :: v70 :: v71 :: v72 :: v73 :: v74 :: v75 :: v76 :: v77 :: v78 :: v79 :: v80 :: v81 :: v82 :: v83 :: v84 :: v85 :: v86 :: v87 :: v88 :: v89 :: v90 :: v91 :: v92 :: v93 :: v94 :: v95 :: v96 :: v97 :: v98 :: v99 :: v100 :: v101 :: v102 :: v103 :: v104 :: v105 :: v106 :: v107 :: v108 :: v109 :: v110 :: v111 :: v112 :: v113 :: v114 :: v115 :: v116 :: v117 :: v118 :: v119 :: v120 :: v121 :: v122 :: v123 :: v124 :: v125 :: v126 :: v127 :: v128 :: v129 :: v130 :: v131 :: v132 :: v133 :: v134 :: v135 :: v136 :: v137 :: v138 :: v139 :: v140 :: v141 :: v142 :: v143 :: v144 :: v145 :: v146 :: v147 :: v148 :: v149 :: v150 :: []), []⟩ w2 := by
  have T9 := termsP (blkS (fun _ => False))
  have hS : ∀ l, ¬ blkS (fun _ => False) l := fun l ⟨_, _, h⟩ => h
  have hF := atRel_refl w2
  rw [show body3S = _ from (by unfold body3S body2S rest1S; simp only [Try.f4, Option.getD_some]; try rfl)]
  have e9 : decide ((k : Int) < (nk : Int)) = true := decide_eq_true (by omega)
  have q1 : (i : Int) < (len : Int) := by omega
  have q2 : (k : Int) < (nk : Int) := by omega
  have d7 : IntKind.i64.wrap ((k : Int) + 1) = (k : Int) + 1 := by rw [IntKind.wrap_i64]; omega
  have d6 : IntKind.i64.wrap ((c9 : Int) + 1) = (c9 : Int) + 1 := by rw [IntKind.wrap_i64]; omega
  have hcl : RowKit.Hid _ := hcl0
  have hcd : RowKit.Hid _ := hcd0
  replace hcl := hcl.out
  replace hcd := hcd.out
  clear hcl0 hcd0
  obtain ⟨A, g, c, rfl, hlc, hg, hbg, hsl, hA⟩ := Own.open2 hck.own
  have hln : (markL ws2 n).length ≤ 65536 := Nat.le_trans (markL_len ws2 n) hck.mm.few
  generalize hv : Value.slice A (markL ws2 n).length c = v at *
  replace hv : RowKit.Hid _ := hv
  replace hA : RowKit.Hid _ := hA
  replace hck : RowKit.Hid _ := hck
  (refine codeW_seq T9 ?_)
  (refine codeW_seq T9 ?_)
  (refine codeW_region T9 ?_; simp only [List.size_toArray, List.length_cons, List.length_nil, Nat.reduceAdd, Nat.zero_add, List.range, List.range.loop])
  repeat (first | (refine opsW_unwanted T9 rfl (by rfl) ?_; try walk_nrm) | (refine opsW_cons rfl (by rfl) ?_; intro _ hR K hK; replace hF := atRel_trans _ _ _ hF hR; clear hR; have hs9 := atRel_size hF; go_simp; refine hK _ _ ⟨?_, ?_⟩; (· rw [listed_nil (by simp [go_sem, *])]; exact dp0_nil); clear hK K hs9; try walk_nrm))
  have hc1 := hcl
  (refine opsW_cons rfl (by rfl) ?_; intro _ hR K hK; replace hF := atRel_trans _ _ _ hF hR; clear hR; have hl9 := (atRel_cell hF _).trans hc1; go_simp; refine hK _ _ ⟨?_, ?_⟩; (· intro e he; have hm := mem_listed he; simp [go_sem, hl9] at hm; rw [hm]; exact evP_cell _ (hS _)); clear hK K hl9; try walk_nrm)
  clear hc1
  repeat (first | (refine opsW_unwanted T9 rfl (by rfl) ?_; try walk_nrm) | (refine opsW_cons rfl (by rfl) ?_; intro _ hR K hK; replace hF := atRel_trans _ _ _ hF hR; clear hR; have hs9 := atRel_size hF; go_simp; refine hK _ _ ⟨?_, ?_⟩; (· rw [listed_nil (by simp [go_sem, *])]; exact dp0_nil); clear hK K hs9; try walk_nrm))
  (refine opsW_nil T9 ?_; simp only [Exit.then, Exit.inBlock, Exit.thenX])
  ((first | refine codeW_cond T9 (t := true) rfl ?_ | refine codeW_cond T9 (t := false) rfl ?_); simp only [if_true, if_false, Bool.false_eq_true, ↓reduceIte])
  (refine codeW_skip T9 ?_; simp only [Exit.then, Exit.inBlock, Exit.thenX])
  clear e9
  (refine codeW_seq T9 ?_)
  (refine codeW_block T9 ?_)
  (refine codeW_seq T9 ?_)
  (refine codeW_region T9 ?_; simp only [List.size_toArray, List.length_cons, List.length_nil, Nat.reduceAdd, Nat.zero_add, List.range, List.range.loop])
  repeat (first | (refine opsW_unwanted T9 rfl (by rfl) ?_; try walk_nrm) | (refine opsW_cons rfl (by rfl) ?_; intro _ hR K hK; replace hF := atRel_trans _ _ _ hF hR; clear hR; have hs9 := atRel_size hF; go_simp; refine hK _ _ ⟨?_, ?_⟩; (· rw [listed_nil (by simp [go_sem, *])]; exact dp0_nil); clear hK K hs9; try walk_nrm))
  (refine opsW_nil T9 ?_; simp only [Exit.then, Exit.inBlock, Exit.thenX])
  (refine codeW_seq T9 ?_)
  (refine codeW_region T9 ?_; simp only [List.size_toArray, List.length_cons, List.length_nil, Nat.reduceAdd, Nat.zero_add, List.range, List.range.loop])
  repeat (first | (refine opsW_unwanted T9 rfl (by rfl) ?_; try walk_nrm) | (refine opsW_cons rfl (by rfl) ?_; intro _ hR K hK; replace hF := atRel_trans _ _ _ hF hR; clear hR; have hs9 := atRel_size hF; go_simp; refine hK _ _ ⟨?_, ?_⟩; (· rw [listed_nil (by simp [go_sem, *])]; exact dp0_nil); clear hK K hs9; try walk_nrm))
  have hc1 := hcl
  (refine opsW_cons rfl (by rfl) ?_; intro _ hR K hK; replace hF := atRel_trans _ _ _ hF hR; clear hR; have hl9 := (atRel_cell hF _).trans hc1; go_simp; refine hK _ _ ⟨?_, ?_⟩; (· intro e he; have hm := mem_listed he; simp [go_sem, hl9] at hm; rw [hm]; exact evP_cell _ (hS _)); clear hK K hl9; try walk_nrm)
  clear hc1
  by_cases h0 : 0 ≤ x
  · have e0 : decide (0 ≤ x) = true := decide_eq_true h0
    by_cases h1 : x < (n : Int)
    · have e1 : decide (x < (n : Int)) = true := decide_eq_true h1
      have hr : RowKit.Hid (0 ≤ x ∧ x < (n : Int)) := ⟨h0, h1⟩
      clear h0 h1
      repeat (first | (refine opsW_unwanted T9 rfl (by rfl) ?_; try walk_nrm) | (refine opsW_cons rfl (by rfl) ?_; intro _ hR K hK; replace hF := atRel_trans _ _ _ hF hR; clear hR; have hs9 := atRel_size hF; go_simp; refine hK _ _ ⟨?_, ?_⟩; (· rw [listed_nil (by simp [go_sem, *])]; exact dp0_nil); clear hK K hs9; try walk_nrm))
      have hc1 := hcd
      (refine opsW_cons rfl (by rfl) ?_; intro _ hR K hK; replace hF := atRel_trans _ _ _ hF hR; clear hR; have hl9 := (atRel_cell hF _).trans hc1; go_simp; refine hK _ _ ⟨?_, ?_⟩; (· intro e he; have hm := mem_listed he; simp [go_sem, hl9] at hm; rw [hm]; exact evP_cell _ (hS _)); clear hK K hl9; try walk_nrm)
      clear hc1
      repeat (first | (refine opsW_unwanted T9 rfl (by rfl) ?_; try walk_nrm) | (refine opsW_cons rfl (by rfl) ?_; intro _ hR K hK; replace hF := atRel_trans _ _ _ hF hR; clear hR; have hs9 := atRel_size hF; go_simp; refine hK _ _ ⟨?_, ?_⟩; (· rw [listed_nil (by simp [go_sem, *])]; exact dp0_nil); clear hK K hs9; try walk_nrm))
      have hc1 := hcl
      (refine opsW_cons rfl (by rfl) ?_; intro _ hR K hK; replace hF := atRel_trans _ _ _ hF hR; clear hR; have hl9 := (atRel_cell hF _).trans hc1; go_simp; refine hK _ _ ⟨?_, ?_⟩; (· intro e he; have hm := mem_listed he; simp [go_sem, hl9] at hm; rw [hm]; exact evP_cell _ (hS _)); clear hK K hl9; try walk_nrm)
      clear hc1
      repeat (first | (refine opsW_unwanted T9 rfl (by rfl) ?_; try walk_nrm) | (refine opsW_cons rfl (by rfl) ?_; intro _ hR K hK; replace hF := atRel_trans _ _ _ hF hR; clear hR; have hs9 := atRel_size hF; go_simp; refine hK _ _ ⟨?_, ?_⟩; (· rw [listed_nil (by simp [go_sem, *])]; exact dp0_nil); clear hK K hs9; try walk_nrm))
      have hc1 := hcd
      (refine opsW_cons rfl (by rfl) ?_; intro _ hR K hK; replace hF := atRel_trans _ _ _ hF hR; clear hR; have hl9 := (atRel_cell hF _).trans hc1; go_simp; refine hK _ _ ⟨?_, ?_⟩; (· intro e he; have hm := mem_listed he; simp [go_sem, hl9] at hm; rw [hm]; exact evP_cell _ (hS _)); clear hK K hl9; try walk_nrm)
      clear hc1
      repeat (first | (refine opsW_unwanted T9 rfl (by rfl) ?_; try walk_nrm) | (refine opsW_cons rfl (by rfl) ?_; intro _ hR K hK; replace hF := atRel_trans _ _ _ hF hR; clear hR; have hs9 := atRel_size hF; go_simp; refine hK _ _ ⟨?_, ?_⟩; (· rw [listed_nil (by simp [go_sem, *])]; exact dp0_nil); clear hK K hs9; try walk_nrm))
      (refine opsW_nil T9 ?_; simp only [Exit.then, Exit.inBlock, Exit.thenX])
      ((first | refine codeW_cond T9 (t := true) rfl ?_ | refine codeW_cond T9 (t := false) rfl ?_); simp only [if_true, if_false, Bool.false_eq_true, ↓reduceIte])
      (refine codeW_region T9 ?_; simp only [List.size_toArray, List.length_cons, List.length_nil, Nat.reduceAdd, Nat.zero_add, List.range, List.range.loop])
      repeat (first | (refine opsW_unwanted T9 rfl (by rfl) ?_; try walk_nrm) | (refine opsW_cons rfl (by rfl) ?_; intro _ hR K hK; replace hF := atRel_trans _ _ _ hF hR; clear hR; have hs9 := atRel_size hF; go_simp; refine hK _ _ ⟨?_, ?_⟩; (· rw [listed_nil (by simp [go_sem, *])]; exact dp0_nil); clear hK K hs9; try walk_nrm))
      have hc1 := hcl
      (refine opsW_cons rfl (by rfl) ?_; intro _ hR K hK; replace hF := atRel_trans _ _ _ hF hR; clear hR; have hl9 := (atRel_cell hF _).trans hc1; go_simp; refine hK _ _ ⟨?_, ?_⟩; (· intro e he; have hm := mem_listed he; simp [go_sem, hl9] at hm; rw [hm]; exact evP_cell _ (hS _)); clear hK K hl9; try walk_nrm)
      clear hc1
      repeat (first | (refine opsW_unwanted T9 rfl (by rfl) ?_; try walk_nrm) | (refine opsW_cons rfl (by rfl) ?_; intro _ hR K hK; replace hF := atRel_trans _ _ _ hF hR; clear hR; have hs9 := atRel_size hF; go_simp; refine hK _ _ ⟨?_, ?_⟩; (· rw [listed_nil (by simp [go_sem, *])]; exact dp0_nil); clear hK K hs9; try walk_nrm))
      have hc1 := hcd
      (refine opsW_cons rfl (by rfl) ?_; intro _ hR K hK; replace hF := atRel_trans _ _ _ hF hR; clear hR; have hl9 := (atRel_cell hF _).trans hc1; go_simp; refine hK _ _ ⟨?_, ?_⟩; (· intro e he; have hm := mem_listed he; simp [go_sem, hl9] at hm; rw [hm]; exact evP_cell _ (hS _)); clear hK K hl9; try walk_nrm)
      clear hc1
      obtain ⟨q9, rfl⟩ := hF
      co_apply opsW_call T9 rfl (by rfl) rfl
      · walk_nrm
        rw [← hv.out]
        exact with15_W x (hsl.at ⟨q9, rfl⟩) hA.out hlc hg (fun a _ => hS _) (fun a _ => hS _) (by omega)
      rintro v' w' ht2
      rw [hv.out] at ht2
      have hk2 := (hck.out.at ⟨q9, rfl⟩).with hr.out ht2
      clear ht2 hsl hg
      have hF := atRel_refl w'
      walk_nrm
      (refine opsW_cons rfl (by rfl) ?_; intro _ hR K hK; replace hF := atRel_trans _ _ _ hF hR; clear hR; have hs9 := atRel_size hF; go_simp; refine hK _ _ ⟨?_, ?_⟩; (· rw [listed_nil (by simp [go_sem, *])]; exact dp0_nil); clear hK K hs9; try walk_nrm)
      (refine opsW_nil T9 ?_; simp only [Exit.then, Exit.inBlock, Exit.thenX])
      (refine codeW_region T9 ?_; simp only [List.size_toArray, List.length_cons, List.length_nil, Nat.reduceAdd, Nat.zero_add, List.range, List.range.loop])
      repeat (first | (refine opsW_unwanted T9 rfl (by rfl) ?_; try walk_nrm) | (refine opsW_cons rfl (by rfl) ?_; intro _ hR K hK; replace hF := atRel_trans _ _ _ hF hR; clear hR; have hs9 := atRel_size hF; go_simp; refine hK _ _ ⟨?_, ?_⟩; (· rw [listed_nil (by simp [go_sem, *])]; exact dp0_nil); clear hK K hs9; try walk_nrm))
      exact opsW_nil T9 (hQ _ _ v' _ (by rfl) (by rfl) (by rfl) (by rfl) (by rfl) (by rfl) (by rfl) (by rfl) (by rfl) (hk2.at hF) (by rw [if_pos hr.out]))
    · have e1 : decide (x < (n : Int)) = false := decide_eq_false h1
      have hr : RowKit.Hid (¬ (0 ≤ x ∧ x < (n : Int))) := fun h => h1 h.2
      clear h0 h1
      repeat (first | (refine opsW_unwanted T9 rfl (by rfl) ?_; try walk_nrm) | (refine opsW_cons rfl (by rfl) ?_; intro _ hR K hK; replace hF := atRel_trans _ _ _ hF hR; clear hR; have hs9 := atRel_size hF; go_simp; refine hK _ _ ⟨?_, ?_⟩; (· rw [listed_nil (by simp [go_sem, *])]; exact dp0_nil); clear hK K hs9; try walk_nrm))
      have hc1 := hcd
      (refine opsW_cons rfl (by rfl) ?_; intro _ hR K hK; replace hF := atRel_trans _ _ _ hF hR; clear hR; have hl9 := (atRel_cell hF _).trans hc1; go_simp; refine hK _ _ ⟨?_, ?_⟩; (· intro e he; have hm := mem_listed he; simp [go_sem, hl9] at hm; rw [hm]; exact evP_cell _ (hS _)); clear hK K hl9; try walk_nrm)
      clear hc1
      repeat (first | (refine opsW_unwanted T9 rfl (by rfl) ?_; try walk_nrm) | (refine opsW_cons rfl (by rfl) ?_; intro _ hR K hK; replace hF := atRel_trans _ _ _ hF hR; clear hR; have hs9 := atRel_size hF; go_simp; refine hK _ _ ⟨?_, ?_⟩; (· rw [listed_nil (by simp [go_sem, *])]; exact dp0_nil); clear hK K hs9; try walk_nrm))
      have hc1 := hcl
      (refine opsW_cons rfl (by rfl) ?_; intro _ hR K hK; replace hF := atRel_trans _ _ _ hF hR; clear hR; have hl9 := (atRel_cell hF _).trans hc1; go_simp; refine hK _ _ ⟨?_, ?_⟩; (· intro e he; have hm := mem_listed he; simp [go_sem, hl9] at hm; rw [hm]; exact evP_cell _ (hS _)); clear hK K hl9; try walk_nrm)
      clear hc1
      repeat (first | (refine opsW_unwanted T9 rfl (by rfl) ?_; try walk_nrm) | (refine opsW_cons rfl (by rfl) ?_; intro _ hR K hK; replace hF := atRel_trans _ _ _ hF hR; clear hR; have hs9 := atRel_size hF; go_simp; refine hK _ _ ⟨?_, ?_⟩; (· rw [listed_nil (by simp [go_sem, *])]; exact dp0_nil); clear hK K hs9; try walk_nrm))
      have hc1 := hcd
      (refine opsW_cons rfl (by rfl) ?_; intro _ hR K hK; replace hF := atRel_trans _ _ _ hF hR; clear hR; have hl9 := (atRel_cell hF _).trans hc1; go_simp; refine hK _ _ ⟨?_, ?_⟩; (· intro e he; have hm := mem_listed he; simp [go_sem, hl9] at hm; rw [hm]; exact evP_cell _ (hS _)); clear hK K hl9; try walk_nrm)
      clear hc1
      repeat (first | (refine opsW_unwanted T9 rfl (by rfl) ?_; try walk_nrm) | (refine opsW_cons rfl (by rfl) ?_; intro _ hR K hK; replace hF := atRel_trans _ _ _ hF hR; clear hR; have hs9 := atRel_size hF; go_simp; refine hK _ _ ⟨?_, ?_⟩; (· rw [listed_nil (by simp [go_sem, *])]; exact dp0_nil); clear hK K hs9; try walk_nrm))
      (refine opsW_nil T9 ?_; simp only [Exit.then, Exit.inBlock, Exit.thenX])
      ((first | refine codeW_cond T9 (t := true) rfl ?_ | refine codeW_cond T9 (t := false) rfl ?_); simp only [if_true, if_false, Bool.false_eq_true, ↓reduceIte])
      (refine codeW_skip T9 ?_; simp only [Exit.then, Exit.inBlock, Exit.thenX])
      (refine codeW_region T9 ?_; simp only [List.size_toArray, List.length_cons, List.length_nil, Nat.reduceAdd, Nat.zero_add, List.range, List.range.loop])
      repeat (first | (refine opsW_unwanted T9 rfl (by rfl) ?_; try walk_nrm) | (refine opsW_cons rfl (by rfl) ?_; intro _ hR K hK; replace hF := atRel_trans _ _ _ hF hR; clear hR; have hs9 := atRel_size hF; go_simp; refine hK _ _ ⟨?_, ?_⟩; (· rw [listed_nil (by simp [go_sem, *])]; exact dp0_nil); clear hK K hs9; try walk_nrm))
      exact opsW_nil T9 (hQ _ ws2 v _ (by rfl) (by rfl) (by rfl) (by rfl) (by rfl) (by rfl) (by rfl) (by rfl) (by rfl) (hck.out.at hF) (by rw [if_neg hr.out]))
  · have e0 : decide (0 ≤ x) = false := decide_eq_false h0
    have hr : RowKit.Hid (¬ (0 ≤ x ∧ x < (n : Int))) := fun h => h0 h.1
    clear h0
    repeat (first | (refine opsW_unwanted T9 rfl (by rfl) ?_; try walk_nrm) | (refine opsW_cons rfl (by rfl) ?_; intro _ hR K hK; replace hF := atRel_trans _ _ _ hF hR; clear hR; have hs9 := atRel_size hF; go_simp; refine hK _ _ ⟨?_, ?_⟩; (· rw [listed_nil (by simp [go_sem, *])]; exact dp0_nil); clear hK K hs9; try walk_nrm))
    have hc1 := hcd
    (refine opsW_cons rfl (by rfl) ?_; intro _ hR K hK; replace hF := atRel_trans _ _ _ hF hR; clear hR; have hl9 := (atRel_cell hF _).trans hc1; go_simp; refine hK _ _ ⟨?_, ?_⟩; (· intro e he; have hm := mem_listed he; simp [go_sem, hl9] at hm; rw [hm]; exact evP_cell _ (hS _)); clear hK K hl9; try walk_nrm)
    clear hc1
    repeat (first | (refine opsW_unwanted T9 rfl (by rfl) ?_; try walk_nrm) | (refine opsW_cons rfl (by rfl) ?_; intro _ hR K hK; replace hF := atRel_trans _ _ _ hF hR; clear hR; have hs9 := atRel_size hF; go_simp; refine hK _ _ ⟨?_, ?_⟩; (· rw [listed_nil (by simp [go_sem, *])]; exact dp0_nil); clear hK K hs9; try walk_nrm))
    (refine opsW_nil T9 ?_; simp only [Exit.then, Exit.inBlock, Exit.thenX])
    ((first | refine codeW_cond T9 (t := true) rfl ?_ | refine codeW_cond T9 (t := false) rfl ?_); simp only [if_true, if_false, Bool.false_eq_true, ↓reduceIte])
    (refine codeW_skip T9 ?_; simp only [Exit.then, Exit.inBlock, Exit.thenX])
    (refine codeW_region T9 ?_; simp only [List.size_toArray, List.length_cons, List.length_nil, Nat.reduceAdd, Nat.zero_add, List.range, List.range.loop])
    repeat (first | (refine opsW_unwanted T9 rfl (by rfl) ?_; try walk_nrm) | (refine opsW_cons rfl (by rfl) ?_; intro _ hR K hK; replace hF := atRel_trans _ _ _ hF hR; clear hR; have hs9 := atRel_size hF; go_simp; refine hK _ _ ⟨?_, ?_⟩; (· rw [listed_nil (by simp [go_sem, *])]; exact dp0_nil); clear hK K hs9; try walk_nrm))
    exact opsW_nil T9 (hQ _ ws2 v _ (by rfl) (by rfl) (by rfl) (by rfl) (by rfl) (by rfl) (by rfl) (by rfl) (by rfl) (hck.out.at hF) (by rw [if_neg hr.out]))
end Go.Proofs.Ytkcknoodcgmndaa
