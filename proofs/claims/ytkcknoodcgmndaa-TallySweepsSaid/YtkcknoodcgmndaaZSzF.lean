/- TallySweeps: the second loop, walked. -/
import Derived.Test.YtkcknoodcgmndaaZSzE
namespace Go.Proofs.Ytkcknoodcgmndaa
open Go.Conc Go.RowKit
open Go.ConcN (sumTo)
set_option linter.unusedVariables false
set_option linter.unusedSimpArgs false
set_option maxRecDepth 100000
set_option maxHeartbeats 8000000

















theorem rest1X {Post : Value → World → Prop} (n : Nat) (l : List (List Int)) (A : Option Addr) (cap lb lo : Nat) (pA : Nat → Option Addr) (pd po pc : Nat → Nat) (w0 w1 : World) (ws : List Nat) (v : Value) (T : Array Value) (hin : LsIn w0 l A lb lo pA pd po pc) (h8 : l.length ≤ 8) (hk : KAs w0 n ws ws v w1)
    (hT : T.size = 151) (t0 : T[0]? = some (.int .i64 n)) (t2 : T[2]? = some (.slice A l.length cap)) (t7 : T[7]? = some (.pointer (some ⟨w0.heap.size + 1, 0, none⟩))) (t9 : T[9]? = some v) :
    CodeX Try.prog Post 4 rest1S (fun e a w' x => bodyPostC Try.prog Try.f4 (fun v w3 => v = .bool true ∧ Below w0.heap.size w0 w3) e a w') ⟨T, []⟩ w1 ⟨blkS (fun _ => False), 1⟩ := by
  have T9 := termsP (blkS (fun _ => False))
  have hS : ∀ l, ¬ blkS (fun _ => False) l := fun l ⟨_, _, h⟩ => h
  revert t0 t2 t7 t9
  apply arr151E hT
  intro v0 v1 v2 v3 v4 v5 v6 v7 v8 v9 v10 v11 v12 v13 v14 v15 v16 v17 v18 v19 v20 v21 v22 v23 v24 v25 v26 v27 v28 v29 v30 v31 v32 v33 v34 v35 v36 v37 v38 v39 v40 v41 v42 v43 v44 v45 v46 v47 v48 v49 v50 v51 v52 v53 v54 v55 v56 v57 v58 v59 v60 v61 v62 v63 v64 v65 v66 v67 v68 v69 v70 v71 v72 v73 v74 v75 v76 v77 v78 v79 v80 v81 v82 v83 v84 v85 v86 v87 v88 v89 v90 v91 v92 v93 v94 v95 v96 v97 v98 v99 v100 v101 v102 v103 v104 v105 v106 v107 v108 v109 v110 v111 v112 v113 v114 v115 v116 v117 v118 v119 v120 v121 v122 v123 v124 v125 v126 v127 v128 v129 v130 v131 v132 v133 v134 v135 v136 v137 v138 v139 v140 v141 v142 v143 v144 v145 v146 v147 v148 v149 v150 t0 t2 t7 t9
  simp only [List.getElem?_toArray, List.getElem?_cons_succ, List.getElem?_cons_zero, Option.some.injEq] at t0 t2 t7 t9
  obtain ⟨A', g, c, e1, _, _, _, _, _⟩ := Own.open2 hk.own
  subst e1
  subst t0 t2 t7 t9
  have hF := atRel_refl w1
  rw [show rest1S = _ from (by unfold rest1S; simp only [Try.f4, Option.getD_some]; try rfl)]
  generalize hwl : (markL ws n).length = wl at *
  replace hwl : RowKit.Hid _ := hwl
  generalize hll : l.length = ll at *
  replace hll : RowKit.Hid _ := hll
  replace hk : RowKit.Hid _ := hk
  (refine codeX_seq ?_)
  refine codeX_of ?_
  (repeat (first | (refine codeW_seq T9 ?_) | (refine codeW_region T9 ?_; simp only [List.size_toArray, List.length_cons, List.length_nil, Nat.reduceAdd, Nat.zero_add, List.range, List.range.loop]) | (refine opsW_nil T9 ?_; simp only [Exit.then, Exit.inBlock, Exit.thenX, Exit.inBlockX]) | (refine codeW_skip T9 ?_; simp only [Exit.then, Exit.inBlock, Exit.thenX, Exit.inBlockX]) | ((first | refine codeW_cond T9 (t := true) rfl ?_ | refine codeW_cond T9 (t := false) rfl ?_); simp only [if_true, if_false, Bool.false_eq_true, ↓reduceIte]) | (refine opsW_unwanted T9 rfl (by rfl) ?_; try walk_nrm) | (refine opsW_cons rfl (by rfl) ?_; intro _ hR K hK; replace hF := atRel_trans _ _ _ hF hR; clear hR; have hs9 := atRel_size hF; go_simp; refine hK _ _ ⟨?_, ?_⟩; (· rw [listed_nil (by simp [go_sem, *])]; exact dp0_nil); clear hK K hs9; try walk_nrm) | (refine codeW_block T9 ?_)))
  (refine codeX_seq ?_)
  refine codeX_of ?_
  (repeat (first | (refine codeW_seq T9 ?_) | (refine codeW_region T9 ?_; simp only [List.size_toArray, List.length_cons, List.length_nil, Nat.reduceAdd, Nat.zero_add, List.range, List.range.loop]) | (refine opsW_nil T9 ?_; simp only [Exit.then, Exit.inBlock, Exit.thenX, Exit.inBlockX]) | (refine codeW_skip T9 ?_; simp only [Exit.then, Exit.inBlock, Exit.thenX, Exit.inBlockX]) | ((first | refine codeW_cond T9 (t := true) rfl ?_ | refine codeW_cond T9 (t := false) rfl ?_); simp only [if_true, if_false, Bool.false_eq_true, ↓reduceIte]) | (refine opsW_unwanted T9 rfl (by rfl) ?_; try walk_nrm) | (refine opsW_cons rfl (by rfl) ?_; intro _ hR K hK; replace hF := atRel_trans _ _ _ hF hR; clear hR; have hs9 := atRel_size hF; go_simp; refine hK _ _ ⟨?_, ?_⟩; (· rw [listed_nil (by simp [go_sem, *])]; exact dp0_nil); clear hK K hs9; try walk_nrm) | (refine codeW_block T9 ?_)))
  (refine codeX_seq ?_)
  (refine codeX_seq ?_)
  refine codeX_of ?_
  (repeat (first | (refine codeW_seq T9 ?_) | (refine codeW_region T9 ?_; simp only [List.size_toArray, List.length_cons, List.length_nil, Nat.reduceAdd, Nat.zero_add, List.range, List.range.loop]) | (refine opsW_nil T9 ?_; simp only [Exit.then, Exit.inBlock, Exit.thenX, Exit.inBlockX]) | (refine codeW_skip T9 ?_; simp only [Exit.then, Exit.inBlock, Exit.thenX, Exit.inBlockX]) | ((first | refine codeW_cond T9 (t := true) rfl ?_ | refine codeW_cond T9 (t := false) rfl ?_); simp only [if_true, if_false, Bool.false_eq_true, ↓reduceIte]) | (refine opsW_unwanted T9 rfl (by rfl) ?_; try walk_nrm) | (refine opsW_cons rfl (by rfl) ?_; intro _ hR K hK; replace hF := atRel_trans _ _ _ hF hR; clear hR; have hs9 := atRel_size hF; go_simp; refine hK _ _ ⟨?_, ?_⟩; (· rw [listed_nil (by simp [go_sem, *])]; exact dp0_nil); clear hK K hs9; try walk_nrm) | (refine codeW_block T9 ?_)))
  refine codeX_block ?_
  refine codeX_loop (fun a' w' => ∃ (T : Array Value) (i : Nat) (ws2 : List Nat) (v : Value), a' = ⟨T, []⟩ ∧ T.size = 151 ∧ T[0]? = some (.int .i64 n) ∧ T[2]? = some (.slice A ll cap) ∧ T[7]? = some (.pointer (some ⟨w0.heap.size + 1, 0, none⟩)) ∧ T[9]? = some v ∧ T[11]? = some (.int .i64 (wl : Int)) ∧ T[12]? = some (.int .i64 ((sumTo i (fun j => (l.getD j []).length) : Nat) : Int)) ∧ T[13]? = some (.int .i64 i) ∧ i ≤ ll ∧ KAs w0 n ws ws2 v w' ∧ MR n l ws ws2 i 0 ∧ sumTo i (fun j => (l.getD j []).length) ≤ 60 * i)
    (fun a _ => match a.tmps.getD 13 undef with | .int _ i => ((ll : Int) - i).toNat | _ => 0) ⟨_, 0, ws, _, rfl, rfl, rfl, rfl, rfl, rfl, rfl, rfl, rfl, Nat.zero_le _, hk.out.at hF, MR.start n l ws, Nat.zero_le _⟩ ?_
  clear hF hk
  rintro _ w2 ⟨T, i, ws2, v, rfl, hT, t0, t2, t7, t9, t11, t12, t13, hi, hk, hmr, hsum⟩
  revert t0 t2 t7 t9 t11 t12 t13
  apply arr151E hT
  intro v0 v1 v2 v3 v4 v5 v6 v7 v8 v9 v10 v11 v12 v13 v14 v15 v16 v17 v18 v19 v20 v21 v22 v23 v24 v25 v26 v27 v28 v29 v30 v31 v32 v33 v34 v35 v36 v37 v38 v39 v40 v41 v42 v43 v44 v45 v46 v47 v48 v49 v50 v51 v52 v53 v54 v55 v56 v57 v58 v59 v60 v61 v62 v63 v64 v65 v66 v67 v68 v69 v70 v71 v72 v73 v74 v75 v76 v77 v78 v79 v80 v81 v82 v83 v84 v85 v86 v87 v88 v89 v90 v91 v92 v93 v94 v95 v96 v97 v98 v99 v100 v101 v102 v103 v104 v105 v106 v107 v108 v109 v110 v111 v112 v113 v114 v115 v116 v117 v118 v119 v120 v121 v122 v123 v124 v125 v126 v127 v128 v129 v130 v131 v132 v133 v134 v135 v136 v137 v138 v139 v140 v141 v142 v143 v144 v145 v146 v147 v148 v149 v150 t0 t2 t7 t9 t11 t12 t13
  simp only [List.getElem?_toArray, List.getElem?_cons_succ, List.getElem?_cons_zero, Option.some.injEq] at t0 t2 t7 t9 t11 t12 t13
  subst t0 t2 t7 t11 t12 t13
  subst t9
  have hF := atRel_refl w2
  replace hk : RowKit.Hid _ := hk
  by_cases hl : i < ll
  · have e9 : decide ((i : Int) < (ll : Int)) = true := decide_eq_true (by omega)
    have q1 : (i : Int) < (ll : Int) := by omega
    have d7 : IntKind.i64.wrap ((i : Int) + 1) = (i : Int) + 1 := by rw [IntKind.wrap_i64]; omega
    obtain ⟨hlA, hlb⟩ := hin.lA (by rw [hll.out]; omega)
    subst hlA
    have hcl := (cell_same (hk.out.bel.block lb hlb) _).trans (hin.list i (by rw [hll.out]; exact hl))
    generalize hnk : (l.getD i []).length = nk at hcl
    replace hnk : RowKit.Hid _ := hnk
    generalize hs0 : sumTo i (fun j => (l.getD j []).length) = s0 at *
    replace hs0 : RowKit.Hid _ := hs0
    (refine codeX_seq ?_)
    (refine codeX_seq ?_)
    refine codeX_of ?_
    (repeat (first | (refine codeW_seq T9 ?_) | (refine codeW_region T9 ?_; simp only [List.size_toArray, List.length_cons, List.length_nil, Nat.reduceAdd, Nat.zero_add, List.range, List.range.loop]) | (refine opsW_nil T9 ?_; simp only [Exit.then, Exit.inBlock, Exit.thenX, Exit.inBlockX]) | (refine codeW_skip T9 ?_; simp only [Exit.then, Exit.inBlock, Exit.thenX, Exit.inBlockX]) | ((first | refine codeW_cond T9 (t := true) rfl ?_ | refine codeW_cond T9 (t := false) rfl ?_); simp only [if_true, if_false, Bool.false_eq_true, ↓reduceIte]) | (refine opsW_unwanted T9 rfl (by rfl) ?_; try walk_nrm) | (refine opsW_cons rfl (by rfl) ?_; intro _ hR K hK; replace hF := atRel_trans _ _ _ hF hR; clear hR; have hs9 := atRel_size hF; go_simp; refine hK _ _ ⟨?_, ?_⟩; (· rw [listed_nil (by simp [go_sem, *])]; exact dp0_nil); clear hK K hs9; try walk_nrm) | (refine codeW_block T9 ?_)))
    refine codeX_cond (t := true) rfl ?_
    simp only [↓reduceIte]
    refine codeX_of ?_
    (refine codeW_skip T9 ?_; simp only [Exit.then, Exit.inBlock, Exit.thenX, Exit.inBlockX])
    clear e9
    (refine codeX_seq ?_)
    refine codeX_block ?_
    (refine codeX_seq ?_)
    (refine codeX_seq ?_)
    refine codeX_of ?_
    (refine codeW_region T9 ?_; simp only [List.size_toArray, List.length_cons, List.length_nil, Nat.reduceAdd, Nat.zero_add, List.range, List.range.loop])
    repeat (first | (refine opsW_unwanted T9 rfl (by rfl) ?_; try walk_nrm) | (refine opsW_cons rfl (by rfl) ?_; intro _ hR K hK; replace hF := atRel_trans _ _ _ hF hR; clear hR; have hs9 := atRel_size hF; go_simp; refine hK _ _ ⟨?_, ?_⟩; (· rw [listed_nil (by simp [go_sem, *])]; exact dp0_nil); clear hK K hs9; try walk_nrm))
    have hc1 := hcl
    (refine opsW_cons rfl (by rfl) ?_; intro _ hR K hK; replace hF := atRel_trans _ _ _ hF hR; clear hR; have hl9 := (atRel_cell hF _).trans hc1; go_simp; refine hK _ _ ⟨?_, ?_⟩; (· intro e he; have hm := mem_listed he; simp [go_sem, hl9] at hm; rw [hm]; exact evP_cell _ (hS _)); clear hK K hl9; try walk_nrm)
    clear hc1
    by_cases h60 : nk ≤ 60
    · have e6 : decide (60 < (nk : Int)) = false := decide_eq_false (by omega)
      repeat (first | (refine opsW_unwanted T9 rfl (by rfl) ?_; try walk_nrm) | (refine opsW_cons rfl (by rfl) ?_; intro _ hR K hK; replace hF := atRel_trans _ _ _ hF hR; clear hR; have hs9 := atRel_size hF; go_simp; refine hK _ _ ⟨?_, ?_⟩; (· rw [listed_nil (by simp [go_sem, *])]; exact dp0_nil); clear hK K hs9; try walk_nrm))
      (refine opsW_nil T9 ?_; simp only [Exit.then, Exit.inBlock, Exit.thenX, Exit.inBlockX])
      refine codeX_cond (t := false) rfl ?_
      simp only [Bool.false_eq_true, ↓reduceIte]
      refine codeX_of ?_
      (refine codeW_skip T9 ?_; simp only [Exit.then, Exit.inBlock, Exit.thenX, Exit.inBlockX])
      clear e6
      refine codeX_of ?_
      (refine codeW_seq T9 ?_)
      (refine codeW_region T9 ?_; simp only [List.size_toArray, List.length_cons, List.length_nil, Nat.reduceAdd, Nat.zero_add, List.range, List.range.loop])
      repeat (first | (refine opsW_unwanted T9 rfl (by rfl) ?_; try walk_nrm) | (refine opsW_cons rfl (by rfl) ?_; intro _ hR K hK; replace hF := atRel_trans _ _ _ hF hR; clear hR; have hs9 := atRel_size hF; go_simp; refine hK _ _ ⟨?_, ?_⟩; (· rw [listed_nil (by simp [go_sem, *])]; exact dp0_nil); clear hK K hs9; try walk_nrm))
      (refine opsW_nil T9 ?_; simp only [Exit.then, Exit.inBlock, Exit.thenX, Exit.inBlockX])
      (refine codeW_block T9 ?_)
      have hkF := hk.out.at hF
      refine codeW_loop T9 (fun a' w' => ∃ (T : Array Value) (k : Nat) (ws3 : List Nat) (v : Value), a' = ⟨T, []⟩ ∧ T.size = 151 ∧ T[0]? = some (.int .i64 n) ∧ T[2]? = some (.slice (some ⟨lb, lo, none⟩) ll cap) ∧ T[7]? = some (.pointer (some ⟨w0.heap.size + 1, 0, none⟩)) ∧ T[9]? = some v ∧ T[11]? = some (.int .i64 (wl : Int)) ∧ T[12]? = some (.int .i64 ((s0 + k : Nat) : Int)) ∧ T[13]? = some (.int .i64 i) ∧ T[14]? = some (.int .i64 k) ∧ k ≤ nk ∧ KAs w0 n ws ws3 v w' ∧ MR n l ws ws3 i k)
        (fun a _ => match a.tmps.getD 14 undef with | .int _ i => ((nk : Int) - i).toNat | _ => 0) ⟨_, 0, ws2, _, rfl, rfl, rfl, rfl, rfl, rfl, rfl, rfl, rfl, rfl, Nat.zero_le _, hkF, hmr⟩ ?_
      clear hF hkF hk hmr hcl
      rintro _ w3 ⟨T, k, ws3, v, rfl, hT, t0, t2, t7, t9, t11, t12, t13, t14, hkn, hk, hmr⟩
      revert t0 t2 t7 t9 t11 t12 t13 t14
      apply arr151E hT
      intro z0 z1 z2 z3 z4 z5 z6 z7 z8 z9 z10 z11 z12 z13 z14 z15 z16 z17 z18 z19 z20 z21 z22 z23 z24 z25 z26 z27 z28 z29 z30 z31 z32 z33 z34 z35 z36 z37 z38 z39 z40 z41 z42 z43 z44 z45 z46 z47 z48 z49 z50 z51 z52 z53 z54 z55 z56 z57 z58 z59 z60 z61 z62 z63 z64 z65 z66 z67 z68 z69 z70 z71 z72 z73 z74 z75 z76 z77 z78 z79 z80 z81 z82 z83 z84 z85 z86 z87 z88 z89 z90 z91 z92 z93 z94 z95 z96 z97 z98 z99 z100 z101 z102 z103 z104 z105 z106 z107 z108 z109 z110 z111 z112 z113 z114 z115 z116 z117 z118 z119 z120 z121 z122 z123 z124 z125 z126 z127 z128 z129 z130 z131 z132 z133 z134 z135 z136 z137 z138 z139 z140 z141 z142 z143 z144 z145 z146 z147 z148 z149 z150 t0 t2 t7 t9 t11 t12 t13 t14
      simp only [List.getElem?_toArray, List.getElem?_cons_succ, List.getElem?_cons_zero, Option.some.injEq] at t0 t2 t7 t9 t11 t12 t13 t14
      subst t0 t2 t7 t11 t12 t13 t14
      subst t9
      have hcl := (cell_same (hk.bel.block lb hlb) _).trans (hin.list i (by rw [hll.out]; exact hl))
      rw [hnk.out] at hcl
      by_cases hkl : k < nk
      · obtain ⟨x, hx⟩ := getq (xs := l.getD i []) (q := k) (by rw [hnk.out]; exact hkl)
        have hne : l.getD i [] ≠ [] := by intro e; rw [e] at hx; simp at hx
        obtain ⟨hpd, hpA⟩ := hin.part i hne
        rw [hpA] at hcl
        have hcd := (cell_same (hk.bel.block (pd i) hpd) _).trans (hin.data i k x hx)
        have hstep := hmr.step hx (by have := hk.mm.room; have := hk.len2; omega)
        refine codeW_mono (round3S (Q := Exit.then _ _) n ll cap lb lo i k nk (pc i) (pd i) (po i) (s0 + k) x w0 w3 ws ws3 z9 hkl hl h60 (by omega) hcl hcd hk ?_) (fun _ _ _ q => q)
        intro T ws' v' w' hT t0 t2 t7 t9 t11 t12 t13 t14 hk' hws
        simp only [Exit.then]
        subst hws
        refine ⟨⟨T, k + 1, _, v', rfl, hT, t0, t2, t7, t9, t11, by rw [t12]; norm_cast, t13, by rw [t14]; norm_cast, by omega, hk', hstep⟩, ?_⟩
        rw [show T.getD 14 undef = .int .i64 ((k : Int) + 1) from by rw [Array.getD_eq_getD_getElem?, t14]; rfl]
        simp
        omega
      · have e8 : decide ((k : Int) < (nk : Int)) = false := decide_eq_false (by omega)
        obtain rfl : k = nk := by omega
        have hmr' := (show MR n l ws ws3 i (l.getD i []).length from by rw [hnk.out]; exact hmr).next
        have hF := atRel_refl w3
        replace hk : RowKit.Hid _ := hk
        have hs1 : RowKit.Hid (sumTo (i + 1) (fun j => (l.getD j []).length) = s0 + k) := by
          show sumTo i (fun j => (l.getD j []).length) + (l.getD i []).length = s0 + k
          rw [hs0.out, hnk.out]
        (refine codeW_seq T9 ?_)
        (refine codeW_seq T9 ?_)
        (refine codeW_region T9 ?_; simp only [List.size_toArray, List.length_cons, List.length_nil, Nat.reduceAdd, Nat.zero_add, List.range, List.range.loop])
        repeat (first | (refine opsW_unwanted T9 rfl (by rfl) ?_; try walk_nrm) | (refine opsW_cons rfl (by rfl) ?_; intro _ hR K hK; replace hF := atRel_trans _ _ _ hF hR; clear hR; have hs9 := atRel_size hF; go_simp; refine hK _ _ ⟨?_, ?_⟩; (· rw [listed_nil (by simp [go_sem, *])]; exact dp0_nil); clear hK K hs9; try walk_nrm))
        have hc1 := hcl
        (refine opsW_cons rfl (by rfl) ?_; intro _ hR K hK; replace hF := atRel_trans _ _ _ hF hR; clear hR; have hl9 := (atRel_cell hF _).trans hc1; go_simp; refine hK _ _ ⟨?_, ?_⟩; (· intro e he; have hm := mem_listed he; simp [go_sem, hl9] at hm; rw [hm]; exact evP_cell _ (hS _)); clear hK K hl9; try walk_nrm)
        clear hc1
        repeat (first | (refine opsW_unwanted T9 rfl (by rfl) ?_; try walk_nrm) | (refine opsW_cons rfl (by rfl) ?_; intro _ hR K hK; replace hF := atRel_trans _ _ _ hF hR; clear hR; have hs9 := atRel_size hF; go_simp; refine hK _ _ ⟨?_, ?_⟩; (· rw [listed_nil (by simp [go_sem, *])]; exact dp0_nil); clear hK K hs9; try walk_nrm))
        (refine opsW_nil T9 ?_; simp only [Exit.then, Exit.inBlock, Exit.thenX, Exit.inBlockX])
        ((first | refine codeW_cond T9 (t := true) rfl ?_ | refine codeW_cond T9 (t := false) rfl ?_); simp only [if_true, if_false, Bool.false_eq_true, ↓reduceIte])
        (refine codeW_exit T9 ?_; simp only [Exit.then, Exit.inBlock, Exit.thenX, Exit.inBlockX, if_true, if_false, reduceIte, Nat.reduceEqDiff])
        refine codeX_of ?_
        (refine codeW_region T9 ?_; simp only [List.size_toArray, List.length_cons, List.length_nil, Nat.reduceAdd, Nat.zero_add, List.range, List.range.loop])
        repeat (first | (refine opsW_unwanted T9 rfl (by rfl) ?_; try walk_nrm) | (refine opsW_cons rfl (by rfl) ?_; intro _ hR K hK; replace hF := atRel_trans _ _ _ hF hR; clear hR; have hs9 := atRel_size hF; go_simp; refine hK _ _ ⟨?_, ?_⟩; (· rw [listed_nil (by simp [go_sem, *])]; exact dp0_nil); clear hK K hs9; try walk_nrm))
        refine opsW_nil T9 ?_
        simp only [Exit.thenX]
        refine ⟨trivial, ⟨_, i + 1, ws3, z9, rfl, rfl, rfl, rfl, rfl, rfl, rfl, (by rw [hs1.out]; rfl), rfl, by omega, hk.out.at hF, hmr', by rw [hs1.out]; omega⟩, ?_⟩
        simp
        omega
    · have e6 : decide (60 < (nk : Int)) = true := decide_eq_true (by omega)
      repeat (first | (refine opsW_unwanted T9 rfl (by rfl) ?_; try walk_nrm) | (refine opsW_cons rfl (by rfl) ?_; intro _ hR K hK; replace hF := atRel_trans _ _ _ hF hR; clear hR; have hs9 := atRel_size hF; go_simp; refine hK _ _ ⟨?_, ?_⟩; (· rw [listed_nil (by simp [go_sem, *])]; exact dp0_nil); clear hK K hs9; try walk_nrm))
      (refine opsW_nil T9 ?_; simp only [Exit.then, Exit.inBlock, Exit.thenX, Exit.inBlockX])
      refine codeX_cond (t := true) rfl ?_
      simp only [↓reduceIte]
      (refine codeX_seq ?_)
      refine codeX_region ?_
      simp only [List.size_toArray, List.length_cons, List.length_nil, Nat.reduceAdd, Nat.zero_add, List.range, List.range.loop]
      obtain ⟨q4, rfl⟩ := hF
      have hb4 : Below w0.heap.size w0 (w2.at q4) := ⟨hk.out.bel.os, hk.out.bel.tape, hk.out.bel.output, hk.out.bel.size, hk.out.bel.block⟩
      refine opsX_call (Pos := fun v w' x' => v = .bool true ∧ Below w0.heap.size w0 w') rfl (by rfl) rfl ?_ ?_
      · walk_nrm
        obtain ⟨fnn, cd, h1, h2, h3, h4⟩ := awakeX (Post := Post) (fun _ => False) 1 (w2.at q4) (by omega) (fun b h => h.elim)
        refine ⟨fnn, cd, h1, h2, h3, codeX_mono h4 fun e a w5 x3 y => ?_⟩
        cases e <;> first | exact ⟨y.1, y.2.choose, y.2.choose_spec.1, y.2.choose_spec.2.1, hb4.trans ⟨y.2.choose_spec.2.2.os, y.2.choose_spec.2.2.tape, y.2.choose_spec.2.2.output, y.2.choose_spec.2.2.size, fun g hg => y.2.choose_spec.2.2.block g (Nat.lt_of_lt_of_le hg hb4.size)⟩⟩ | exact y
      rintro _ w' x' ⟨rfl, hbf⟩
      have hF := atRel_refl w'
      clear T9
      have T9 := termsP x'.S
      walk_nrm
      (repeat (first | (refine opsX_unwanted rfl (by rfl) ?_; try walk_nrm) | (refine opsX_cons rfl (by rfl) ?_; intro _ hR K hK; replace hF := atRel_trans _ _ _ hF hR; clear hR; have hs9 := atRel_size hF; go_simp; refine hK _ _ ⟨?_, ?_⟩; (· rw [listed_nil (by simp [go_sem, *])]; exact dp0_nil); clear hK K hs9; try walk_nrm)))
      refine opsX_nil ?_
      simp only [Exit.thenX]
      refine codeX_of (codeW_ret T9 ?_)
      obtain ⟨q5, rfl⟩ := hF
      exact ⟨rfl, _, resultsC_tmp rfl _, rfl, ⟨hbf.os, hbf.tape, hbf.output, hbf.size, hbf.block⟩⟩
  · have e9 : decide ((i : Int) < (ll : Int)) = false := decide_eq_false (by omega)
    obtain rfl : i = ll := by omega
    (refine codeX_seq ?_)
    (refine codeX_seq ?_)
    refine codeX_of ?_
    (repeat (first | (refine codeW_seq T9 ?_) | (refine codeW_region T9 ?_; simp only [List.size_toArray, List.length_cons, List.length_nil, Nat.reduceAdd, Nat.zero_add, List.range, List.range.loop]) | (refine opsW_nil T9 ?_; simp only [Exit.then, Exit.inBlock, Exit.thenX, Exit.inBlockX]) | (refine codeW_skip T9 ?_; simp only [Exit.then, Exit.inBlock, Exit.thenX, Exit.inBlockX]) | ((first | refine codeW_cond T9 (t := true) rfl ?_ | refine codeW_cond T9 (t := false) rfl ?_); simp only [if_true, if_false, Bool.false_eq_true, ↓reduceIte]) | (refine opsW_unwanted T9 rfl (by rfl) ?_; try walk_nrm) | (refine opsW_cons rfl (by rfl) ?_; intro _ hR K hK; replace hF := atRel_trans _ _ _ hF hR; clear hR; have hs9 := atRel_size hF; go_simp; refine hK _ _ ⟨?_, ?_⟩; (· rw [listed_nil (by simp [go_sem, *])]; exact dp0_nil); clear hK K hs9; try walk_nrm) | (refine codeW_block T9 ?_)))
    refine codeX_cond (t := false) rfl ?_
    simp only [Bool.false_eq_true, ↓reduceIte]
    refine codeX_of ?_
    (refine codeW_exit T9 ?_; simp only [Exit.then, Exit.inBlock, Exit.thenX, Exit.inBlockX, if_true, if_false, reduceIte, Nat.reduceEqDiff])
    obtain rfl := hll.out
    obtain rfl := hwl.out
    exact sweepsEnd n l A cap lb lo pA pd po pc w0 _ ws ws2 v9 _ hin h8 (hk.out.at hF) hmr.fin rfl rfl rfl rfl rfl rfl rfl
end Go.Proofs.Ytkcknoodcgmndaa
