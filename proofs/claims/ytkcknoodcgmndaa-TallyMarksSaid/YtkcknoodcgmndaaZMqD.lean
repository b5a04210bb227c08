/- TallyMarks: a round. -/
import Derived.Test.YtkcknoodcgmndaaZMqB
namespace Go.Proofs.Ytkcknoodcgmndaa
open Go.Conc Go.RowKit
set_option linter.unusedVariables false
set_option linter.unusedSimpArgs false
set_option maxRecDepth 100000
set_option maxHeartbeats 8000000















theorem roundM {Q : Exit → Act → World → Prop} (len cap sb so j n : Nat) (kj x : Int) (w0 w2 : World) (ws : List Nat) (v : Value) (hl : j < len) (h60 : j < 60)
    (hk : w2.cell? ⟨sb, so + j * 2, none⟩ = some (.int .i64 kj)) (hn : w2.cell? ⟨sb, so + j * 2 + 1, none⟩ = some (.int .i64 x)) (hck : KAt w0 n ws v w2) {v2 v3 v4 v6 v9 v10 v11 v12 v13 v14 v15 v16 v17 v18 v19 v20 v21 v22 v23 v24 v25 v26 v27 v28 v29 v30 v31 v32 v33 v34 v35 v36 v37 v38 v39 v40 v41 v42 v43 v44 v45 v46 v47 v48 v49 v50 v51 v52 v53 v54 v55 v56 v57 v58 v59 v60 v61 v62 v63 v64 v65 v66 v67 v68 v69 v70 v71 v72 v73 v74 v75 v76 v77 v78 v79 v80 v81 v82 v83 v84 v85 v86 v87 v88 v89 v90 v91 v92 v93 v94 v95 v96 v97 v98 v99 v100 v101 v102 v103 v104 v105 v106 v107 v108 v109 v110 v111 v112 v113 v114 v115 v116 v117 v118 v119 v120 v121 v122 v123 v124 v125 v126 v127 : Value}
    (hQ : ∀ (T : Array Value) (ws' : List Nat) (v' : Value) (w' : World), T.size = 128 → T[0]? = some (.int .i64 n) → T[1]? = some (.slice (some ⟨sb, so, none⟩) len cap) → T[5]? = some (.pointer (some ⟨w0.heap.size + 1, 0, none⟩)) → T[6]? = some v6 → T[7]? = some v' → T[8]? = some (.int .i64 ((j : Int) + 1)) → KAt w0 n ws' v' w' → Q .normal ⟨T, []⟩ w') :
    CodeW Try.prog true AtRel (DP0 (blkS (fun _ => False))) 6 bodyM Q ⟨List.toArray (.int .i64 n :: .slice (some ⟨sb, so, none⟩) len cap :: v2 :: v3 :: v4 :: .pointer (some ⟨w0.heap.size + 1, 0, none⟩) :: v6 :: v :: .int .i64 j :: v9 :: v10 :: v11 :: v12 :: v13 :: v14 :: v15 :: v16 :: v17 :: v18 :: v19 :: v20 :: v21 :: v22 :: v23 :: v24 :: v25 :: v26 :: v27 :: v28 :: v29 :: v30 :: v31 :: v32 :: v33 :: v34 :: v35 :: v36 :: v37 :: v38 :: v39 :: v40 :: v41 :: v42 :: v43 :: v44 :: v45 :: v46 :: v47 :: v48 :: v49 :: v50 :: v51 :: v52 :: v53 :: v54 :: v55 :: v56 :: v57 :: v58 :: v59 :: v60 :: v61 :: v62 :: v63 :: v64 :: v65 :: v66 :: v67 :: v68 :: v69 :: v70 :: v71 :: v72 :: v73 :: v74 :: v75 :: v76 :: v77 :: v78 :: v79 :: v80 :: v81 :: v82 :: v83 :: v84 :: v85 :: v86 :: v87 :: v88 :: v89 :: v90 :: v91 :: v92 :: v93 :: v94 :: v95 :: v96 :: v97 :: v98 :: v99 :: v100 :: v101 :: v102 :: v103 :: v104 :: v105 :: v106 :: v107 :: v108 :: v109 :: v110 :: v111 :: v112 :: v113 :: v114 :: v115 :: v116 :: v117 :: v118 :: v119 :: v120 :: v121 :: v122 :: v123 :: v124 :: v125 :: v126 :: v127 :: []), []⟩ w2 := by
  have T9 := termsP (blkS (fun _ => False))
  have hS : ∀ l, ¬ blkS (fun _ => False) l := fun l ⟨_, _, h⟩ => h
  have hF := atRel_refl w2
  rw [show bodyM = _ from (by unfold bodyM; simp only [Try.f6, Option.getD_some]; try rfl)]
  have e9 : decide ((j : Int) < (len : Int)) = true := decide_eq_true (by omega)
  have e8 : decide ((j : Int) < 60) = true := decide_eq_true (by omega)
  obtain ⟨A, g, c, rfl, hlc, hg, hbg, hsl, hA⟩ := Own.open2 hck.own
  have hfew := hck.mm.few
  have hln := markL_len ws n
  (refine codeW_seq T9 ?_)
  (refine codeW_seq T9 ?_)
  (refine codeW_region T9 ?_; simp only [List.size_toArray, List.length_cons, List.length_nil, Nat.reduceAdd, Nat.zero_add, List.range, List.range.loop])
  repeat (first | (refine opsW_unwanted T9 rfl (by rfl) ?_; try walk_nrm) | (refine opsW_cons rfl (by rfl) ?_; intro _ hR K hK; replace hF := atRel_trans _ _ _ hF hR; clear hR; have hs9 := atRel_size hF; go_simp; refine hK _ _ ⟨?_, ?_⟩; (· rw [listed_nil (by simp [go_sem, *])]; exact dp0_nil); clear hK K hs9; try walk_nrm))
  (refine opsW_nil T9 ?_; simp only [Exit.then, Exit.inBlock])
  ((first | refine codeW_cond T9 (t := true) rfl ?_ | refine codeW_cond T9 (t := false) rfl ?_); simp only [if_true, if_false, Bool.false_eq_true, ↓reduceIte])
  (refine codeW_skip T9 ?_; simp only [Exit.then, Exit.inBlock])
  clear e9 e8
  obtain ⟨q0, rfl⟩ := hF
  (refine codeW_seq T9 ?_)
  (refine codeW_block T9 ?_)
  (refine codeW_seq T9 ?_)
  refine codeW_mono (reg10 (by kernel_rfl) len cap sb so j kj x (w2.at q0) hl hk hn) ?_
  rintro e a' w' ⟨rfl, u49, u50, u51, u52, rfl, hF'⟩
  simp only [Exit.then]
  have hcl := box2_cells (w2.at q0) 58 (.int .i64 kj) (.int .i64 x) (.int .i64 0) (.int .i64 0)
  have hbw : Below (w2.at q0).heap.size (w2.at q0) w' := below_at (box2_below (w2.at q0) 58 (.int .i64 kj) (.int .i64 x) (.int .i64 0) (.int .i64 0)) hF'
  have b0 : w'.cell? ⟨(w2.at q0).heap.size, 0, none⟩ = some (.int .i64 kj) := (atRel_cell hF' _).trans hcl.1
  have b1 : w'.cell? ⟨(w2.at q0).heap.size, 1, none⟩ = some (.int .i64 x) := (atRel_cell hF' _).trans hcl.2
  have hB : w0.heap.size + 2 ≤ (w2.at q0).heap.size := hck.size
  replace hck : KAt w0 n ws (.slice A (markL ws n).length c) w' := (hck.at ⟨q0, rfl⟩).below hbw
  replace hsl : SlI w' A g (markL ws n) := (hsl.at ⟨q0, rfl⟩).below hbw hg
  clear hcl hbw hF' hg hk hn
  generalize (w2.at q0).heap.size = B at *
  (refine codeW_seq T9 ?_)
  refine codeW_mono (reg11 (by kernel_rfl) n B x w' b1) ?_
  rintro e a' w3 ⟨rfl, u53, u54, u55, u56, u57, u58, u59, u60, u61, rfl, hF⟩
  simp only [Exit.then]
  generalize his : decide (0 ≤ x ∧ x < (n : Int)) = is
  replace his : RowKit.Hid _ := his
  generalize hlm : (markL ws n).length = lm at hck hln hlc ⊢
  replace hlm : RowKit.Hid _ := hlm
  replace hA : RowKit.Hid _ := hA
  (refine codeW_seq T9 ?_)
  (refine codeW_region T9 ?_; simp only [List.size_toArray, List.length_cons, List.length_nil, Nat.reduceAdd, Nat.zero_add, List.range, List.range.loop])
  (refine opsW_cons rfl (by rfl) ?_; intro _ hR K hK; replace hF := atRel_trans _ _ _ hF hR; clear hR; have hs9 := atRel_size hF; go_simp; refine hK _ _ ⟨?_, ?_⟩; (· rw [listed_nil (by simp [go_sem, *])]; exact dp0_nil); clear hK K hs9; try walk_nrm)
  (refine opsW_cons rfl (by rfl) ?_; intro _ hR K hK; replace hF := atRel_trans _ _ _ hF hR; clear hR; have hs9 := atRel_size hF; go_simp; refine hK _ _ ⟨?_, ?_⟩; (· rw [listed_nil (by simp [go_sem, *])]; exact dp0_nil); clear hK K hs9; try walk_nrm)
  have hc1 := b1
  (refine opsW_cons rfl (by rfl) ?_; intro _ hR K hK; replace hF := atRel_trans _ _ _ hF hR; clear hR; have hl9 := (atRel_cell hF _).trans hc1; go_simp; refine hK _ _ ⟨?_, ?_⟩; (· intro e he; have hm := mem_listed he; simp [go_sem, hl9] at hm; rw [hm]; exact evP_cell _ (hS _)); clear hK K hl9; try walk_nrm)
  clear hc1
  co_apply opsW_call T9 rfl (by rfl) rfl
  · walk_nrm
    rw [← hlm.out]
    exact has24_W (hsl.at hF) x (fun o => hS _) (by rw [hlm.out]; omega)
  rintro _ w4 ⟨rfl, hF'⟩
  replace hF := atRel_trans _ _ _ hF hF'
  clear hF'
  generalize hwas : decide (x ∈ markL ws n) = was
  replace hwas : RowKit.Hid _ := hwas
  walk_nrm
  (refine opsW_cons rfl (by rfl) ?_; intro _ hR K hK; replace hF := atRel_trans _ _ _ hF hR; clear hR; have hs9 := atRel_size hF; go_simp; refine hK _ _ ⟨?_, ?_⟩; (· rw [listed_nil (by simp [go_sem, *])]; exact dp0_nil); clear hK K hs9; try walk_nrm)
  (refine opsW_nil T9 ?_; simp only [Exit.then, Exit.inBlock])
  refine codeW_mid T9 (fun a' w' => ∃ (T : Array Value) (ws' : List Nat) (v' : Value), a' = ⟨T, []⟩ ∧ T.size = 128 ∧ T[0]? = some (.int .i64 n) ∧ T[1]? = some (.slice (some ⟨sb, so, none⟩) len cap) ∧ T[5]? = some (.pointer (some ⟨w0.heap.size + 1, 0, none⟩)) ∧ T[6]? = some v6 ∧ T[7]? = some v' ∧ T[8]? = some (.int .i64 j) ∧ T[9]? = some (.pointer (some ⟨B, 0, none⟩)) ∧ KAt w0 n ws' v' w' ∧ w'.cell? ⟨B, 1, none⟩ = some (.int .i64 x)) ?_ ?_
  · (refine codeW_seq T9 ?_)
    (refine codeW_region T9 ?_; simp only [List.size_toArray, List.length_cons, List.length_nil, Nat.reduceAdd, Nat.zero_add, List.range, List.range.loop])
    (refine opsW_cons rfl (by rfl) ?_; intro _ hR K hK; replace hF := atRel_trans _ _ _ hF hR; clear hR; have hs9 := atRel_size hF; go_simp; refine hK _ _ ⟨?_, ?_⟩; (· rw [listed_nil (by simp [go_sem, *])]; exact dp0_nil); clear hK K hs9; try walk_nrm)
    have hc1 := b0
    (refine opsW_cons rfl (by rfl) ?_; intro _ hR K hK; replace hF := atRel_trans _ _ _ hF hR; clear hR; have hl9 := (atRel_cell hF _).trans hc1; go_simp; refine hK _ _ ⟨?_, ?_⟩; (· intro e he; have hm := mem_listed he; simp [go_sem, hl9] at hm; rw [hm]; exact evP_cell _ (hS _)); clear hK K hl9; try walk_nrm)
    clear hc1
    by_cases hk0 : kj = 0
    · have e7 : decide (kj = 0) = true := decide_eq_true hk0
      (refine opsW_cons rfl (by rfl) ?_; intro _ hR K hK; replace hF := atRel_trans _ _ _ hF hR; clear hR; have hs9 := atRel_size hF; go_simp; refine hK _ _ ⟨?_, ?_⟩; (· rw [listed_nil (by simp [go_sem, *])]; exact dp0_nil); clear hK K hs9; try walk_nrm)
      (refine opsW_nil T9 ?_; simp only [Exit.then, Exit.inBlock])
      ((first | refine codeW_cond T9 (t := true) rfl ?_ | refine codeW_cond T9 (t := false) rfl ?_); simp only [if_true, if_false, Bool.false_eq_true, ↓reduceIte])
      refine codeW_mono (partA (by kernel_rfl) w0 _ n ws A c lm B j x (.slice (some ⟨sb, so, none⟩) len cap) is was (hck.at hF) ((atRel_cell hF _).trans b1) hB his.out.symm hwas.out.symm) ?_
      rintro e a' w5 ⟨rfl, q⟩
      simp only [Exit.then]
      exact q
    · have e7 : (kj == 0) = false := by simpa using hk0
      replace hk0 : RowKit.Hid _ := hk0
      (refine opsW_cons rfl (by rfl) ?_; intro _ hR K hK; replace hF := atRel_trans _ _ _ hF hR; clear hR; have hs9 := atRel_size hF; go_simp; refine hK _ _ ⟨?_, ?_⟩; (· rw [listed_nil (by simp [go_sem, *])]; exact dp0_nil); clear hK K hs9; try walk_nrm)
      (refine opsW_nil T9 ?_; simp only [Exit.then, Exit.inBlock])
      ((first | refine codeW_cond T9 (t := true) rfl ?_ | refine codeW_cond T9 (t := false) rfl ?_); simp only [if_true, if_false, Bool.false_eq_true, ↓reduceIte])
      refine codeW_mono (partB (by kernel_rfl) w0 _ n ws A c lm B j x (.slice (some ⟨sb, so, none⟩) len cap) was (hck.at hF) ((atRel_cell hF _).trans b1) hB hwas.out.symm) ?_
      rintro e a' w5 ⟨rfl, q⟩
      simp only [Exit.then]
      exact q
  clear hF hck hsl b0 b1 hlm hln hlc hA his hwas
  rintro _ w5 ⟨T, ws', v', rfl, hT, t0, t1, t5, t6, t7, t8, t9, hk5, hx5⟩
  revert t0 t1 t5 t6 t7 t8 t9
  apply arr128E hT
  intro z0 z1 z2 z3 z4 z5 z6 z7 z8 z9 z10 z11 z12 z13 z14 z15 z16 z17 z18 z19 z20 z21 z22 z23 z24 z25 z26 z27 z28 z29 z30 z31 z32 z33 z34 z35 z36 z37 z38 z39 z40 z41 z42 z43 z44 z45 z46 z47 z48 z49 z50 z51 z52 z53 z54 z55 z56 z57 z58 z59 z60 z61 z62 z63 z64 z65 z66 z67 z68 z69 z70 z71 z72 z73 z74 z75 z76 z77 z78 z79 z80 z81 z82 z83 z84 z85 z86 z87 z88 z89 z90 z91 z92 z93 z94 z95 z96 z97 z98 z99 z100 z101 z102 z103 z104 z105 z106 z107 z108 z109 z110 z111 z112 z113 z114 z115 z116 z117 z118 z119 z120 z121 z122 z123 z124 z125 z126 z127 t0 t1 t5 t6 t7 t8 t9
  simp only [List.getElem?_toArray, List.getElem?_cons_succ, List.getElem?_cons_zero, Option.some.injEq] at t0 t1 t5 t6 t7 t8 t9
  subst t0 t1 t5 t6 t8 t9
  obtain ⟨A', g', c', e1, hlc', hg', hbg', hsl', hA'⟩ := Own.open2 hk5.own
  rw [e1] at t7
  subst t7
  generalize hlm : (markL ws' n).length = lm
  replace hlm : RowKit.Hid _ := hlm
  (refine codeW_seq T9 ?_)
  refine codeW_mono (reg21 (by kernel_rfl) w5 (w0.heap.size + 1) w0.heap.size n ((n + 63) / 64) B ws' A' g' c' lm x (markL ws' n) rfl hlm.out hk5.mm hk5.clean hsl' hg' hx5) ?_
  rintro e a' w6 ⟨rfl, ⟨y94, y95, y96, y97, y98, y99, y100, y101, y102, y103, y104, y105, y106, y107, y108, y109, y110, y111, y112, y113, y114, y115, rfl⟩, hb6⟩
  simp only [Exit.then]
  have hk6 : RowKit.Hid (KAt w0 n ws' v' w6) := hk5.below hb6
  have hv' : RowKit.Hid (v' = .slice A' lm c') := by show v' = _; rw [e1, hlm.out]
  have d7 : IntKind.i64.wrap ((j : Int) + 1) = (j : Int) + 1 := by rw [IntKind.wrap_i64]; omega
  clear hsl' hA' hk5 hx5 hb6 e1 hg' hlc'
  have hF := atRel_refl w6
  try walk_nrm
  ((first | refine codeW_cond T9 (t := true) rfl ?_ | refine codeW_cond T9 (t := false) rfl ?_); simp only [if_true, if_false, Bool.false_eq_true, ↓reduceIte])
  (refine codeW_skip T9 ?_; simp only [Exit.then, Exit.inBlock])
  (refine codeW_region T9 ?_; simp only [List.size_toArray, List.length_cons, List.length_nil, Nat.reduceAdd, Nat.zero_add, List.range, List.range.loop])
  repeat (first | (refine opsW_unwanted T9 rfl (by rfl) ?_; try walk_nrm) | (refine opsW_cons rfl (by rfl) ?_; intro _ hR K hK; replace hF := atRel_trans _ _ _ hF hR; clear hR; have hs9 := atRel_size hF; go_simp; refine hK _ _ ⟨?_, ?_⟩; (· rw [listed_nil (by simp [go_sem, *])]; exact dp0_nil); clear hK K hs9; try walk_nrm))
  exact opsW_nil T9 (hQ _ ws' v' _ (by rfl) (by rfl) (by rfl) (by rfl) (by rfl) (by rw [hv'.out]; rfl) (by rfl) (hk6.out.at hF))
end Go.Proofs.Ytkcknoodcgmndaa
