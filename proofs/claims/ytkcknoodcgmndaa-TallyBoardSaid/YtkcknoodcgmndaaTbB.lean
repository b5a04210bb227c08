/- TallyBoard: the law's walk. -/
import Derived.Test.YtkcknoodcgmndaaTbG
namespace Go.Proofs.Ytkcknoodcgmndaa
open Go.Conc Go.RowKit
set_option linter.unusedVariables false
set_option linter.unusedSimpArgs false
set_option maxRecDepth 100000
set_option maxHeartbeats 4000000













theorem boardX {Post : Value → World → Prop} (lA : Option Addr) (len cap : Nat) (k n : Nat → Int) (sb so : Nat) (w : World) (h : PlIn w lA len k n sb so) :
    CallX Try.prog Post 3 #[.slice lA len cap] w ⟨blkS (fun _ => False), 1⟩ (fun v w' x' => v = .bool true ∧ Below w.heap.size w w') := by
  have T9 := termsP (blkS (fun _ => False))
  have hS : ∀ l, ¬ blkS (fun _ => False) l := fun l ⟨_, _, h⟩ => h
  refine ⟨_, _, Try.func3, by kernel_rfl, rfl, ?_⟩
  simp only [Try.ntmps3]
  walk_nrm
  have hF := atRel_refl w
  (refine codeX_seq ?_)
  refine codeX_of ?_
  (repeat (first | (refine codeW_seq T9 ?_) | (refine codeW_region T9 ?_; simp only [List.size_toArray, List.length_cons, List.length_nil, Nat.reduceAdd, Nat.zero_add, List.range, List.range.loop]) | (refine opsW_nil T9 ?_; simp only [Exit.then, Exit.inBlock, Exit.thenX]) | (refine codeW_skip T9 ?_; simp only [Exit.then, Exit.inBlock, Exit.thenX]) | ((first | refine codeW_cond T9 (t := true) rfl ?_ | refine codeW_cond T9 (t := false) rfl ?_); simp only [if_true, if_false, Bool.false_eq_true, ↓reduceIte]) | (refine opsW_unwanted T9 rfl (by rfl) ?_; try walk_nrm) | (refine opsW_cons rfl (by rfl) ?_; intro _ hR K hK; replace hF := atRel_trans _ _ _ hF hR; clear hR; have hs9 := atRel_size hF; go_simp; refine hK _ _ ⟨?_, ?_⟩; (· rw [listed_nil (by simp [go_sem, *])]; exact dp0_nil); clear hK K hs9; try walk_nrm) | (refine codeW_block T9 ?_)))
  (refine codeX_seq ?_)
  refine codeX_of ?_
  (repeat (first | (refine codeW_seq T9 ?_) | (refine codeW_region T9 ?_; simp only [List.size_toArray, List.length_cons, List.length_nil, Nat.reduceAdd, Nat.zero_add, List.range, List.range.loop]) | (refine opsW_nil T9 ?_; simp only [Exit.then, Exit.inBlock, Exit.thenX]) | (refine codeW_skip T9 ?_; simp only [Exit.then, Exit.inBlock, Exit.thenX]) | ((first | refine codeW_cond T9 (t := true) rfl ?_ | refine codeW_cond T9 (t := false) rfl ?_); simp only [if_true, if_false, Bool.false_eq_true, ↓reduceIte]) | (refine opsW_unwanted T9 rfl (by rfl) ?_; try walk_nrm) | (refine opsW_cons rfl (by rfl) ?_; intro _ hR K hK; replace hF := atRel_trans _ _ _ hF hR; clear hR; have hs9 := atRel_size hF; go_simp; refine hK _ _ ⟨?_, ?_⟩; (· rw [listed_nil (by simp [go_sem, *])]; exact dp0_nil); clear hK K hs9; try walk_nrm) | (refine codeW_block T9 ?_)))
  co_apply opsW_call T9 rfl (by rfl) rfl
  · walk_nrm
    exact newBoard_W _
  rintro _ w' ⟨rfl, hF'⟩
  obtain ⟨q1, rfl⟩ := hF
  obtain ⟨q2, rfl⟩ := hF'
  walk_nrm
  have hF := atRel_refl ((((w.at q1).alloc (.cells (boardC 0 0) 70)).at q2))
  (repeat (first | (refine codeW_seq T9 ?_) | (refine codeW_region T9 ?_; simp only [List.size_toArray, List.length_cons, List.length_nil, Nat.reduceAdd, Nat.zero_add, List.range, List.range.loop]) | (refine opsW_nil T9 ?_; simp only [Exit.then, Exit.inBlock, Exit.thenX]) | (refine codeW_skip T9 ?_; simp only [Exit.then, Exit.inBlock, Exit.thenX]) | ((first | refine codeW_cond T9 (t := true) rfl ?_ | refine codeW_cond T9 (t := false) rfl ?_); simp only [if_true, if_false, Bool.false_eq_true, ↓reduceIte]) | (refine opsW_unwanted T9 rfl (by rfl) ?_; try walk_nrm) | (refine opsW_cons rfl (by rfl) ?_; intro _ hR K hK; replace hF := atRel_trans _ _ _ hF hR; clear hR; have hs9 := atRel_size hF; go_simp; refine hK _ _ ⟨?_, ?_⟩; (· rw [listed_nil (by simp [go_sem, *])]; exact dp0_nil); clear hK K hs9; try walk_nrm) | (refine codeW_block T9 ?_)))
  (refine codeX_seq ?_)
  refine codeX_of ?_
  (repeat (first | (refine codeW_seq T9 ?_) | (refine codeW_region T9 ?_; simp only [List.size_toArray, List.length_cons, List.length_nil, Nat.reduceAdd, Nat.zero_add, List.range, List.range.loop]) | (refine opsW_nil T9 ?_; simp only [Exit.then, Exit.inBlock, Exit.thenX]) | (refine codeW_skip T9 ?_; simp only [Exit.then, Exit.inBlock, Exit.thenX]) | ((first | refine codeW_cond T9 (t := true) rfl ?_ | refine codeW_cond T9 (t := false) rfl ?_); simp only [if_true, if_false, Bool.false_eq_true, ↓reduceIte]) | (refine opsW_unwanted T9 rfl (by rfl) ?_; try walk_nrm) | (refine opsW_cons rfl (by rfl) ?_; intro _ hR K hK; replace hF := atRel_trans _ _ _ hF hR; clear hR; have hs9 := atRel_size hF; go_simp; refine hK _ _ ⟨?_, ?_⟩; (· rw [listed_nil (by simp [go_sem, *])]; exact dp0_nil); clear hK K hs9; try walk_nrm) | (refine codeW_block T9 ?_)))
  obtain ⟨q3, rfl⟩ := hF
  have hz1 : RowKit.Hid (BdAt w (fun _ => 0) (fun _ => 0) (((((w.at q1).alloc (.cells (boardC 0 0) 70)).at q2).at q3).alloc (.cells (boardC 0 0) 25))) := by
    have z := BdAt.new w 70 25
    exact ⟨⟨z.bel.os, z.bel.tape, z.bel.output, z.bel.size, z.bel.block⟩, z.size, z.b, z.bz, z.n, z.nz⟩
  rw [show (((w.at q1).alloc (.cells (boardC 0 0) 70)).at q2).heap.size = w.heap.size + 1 from by simp [World.at], show (w.at q1).heap.size = w.heap.size from rfl]
  change CodeX _ _ _ _ _ _ (((((w.at q1).alloc (.cells (boardC 0 0) 70)).at q2).at q3).alloc (.cells (boardC 0 0) 25)) _
  generalize (((((w.at q1).alloc (.cells (boardC 0 0) 70)).at q2).at q3).alloc (.cells (boardC 0 0) 25)) = w1 at hz1 ⊢
  have hF := atRel_refl w1
  (refine codeX_seq ?_)
  refine codeX_of ?_
  (repeat (first | (refine codeW_seq T9 ?_) | (refine codeW_region T9 ?_; simp only [List.size_toArray, List.length_cons, List.length_nil, Nat.reduceAdd, Nat.zero_add, List.range, List.range.loop]) | (refine opsW_nil T9 ?_; simp only [Exit.then, Exit.inBlock, Exit.thenX]) | (refine codeW_skip T9 ?_; simp only [Exit.then, Exit.inBlock, Exit.thenX]) | ((first | refine codeW_cond T9 (t := true) rfl ?_ | refine codeW_cond T9 (t := false) rfl ?_); simp only [if_true, if_false, Bool.false_eq_true, ↓reduceIte]) | (refine opsW_unwanted T9 rfl (by rfl) ?_; try walk_nrm) | (refine opsW_cons rfl (by rfl) ?_; intro _ hR K hK; replace hF := atRel_trans _ _ _ hF hR; clear hR; have hs9 := atRel_size hF; go_simp; refine hK _ _ ⟨?_, ?_⟩; (· rw [listed_nil (by simp [go_sem, *])]; exact dp0_nil); clear hK K hs9; try walk_nrm) | (refine codeW_block T9 ?_)))
  replace hz1 := hz1.out.at hF
  refine codeW_loop T9 (fun a' w' => ∃ (T : Array Value) (j : Nat) (f : Nat → Int), a' = ⟨T, []⟩ ∧ T.size = 101 ∧ T[0]? = some (.slice lA len cap) ∧ T[3]? = some (.pointer (some ⟨w.heap.size, 0, none⟩)) ∧ T[4]? = some (.pointer (some ⟨w.heap.size + 1, 0, none⟩)) ∧ T[5]? = some (.int .i64 j) ∧ j ≤ len ∧ j ≤ 60 ∧ BdAt w f f w')
    (fun a _ => match a.tmps.getD 5 undef with | .int _ i => ((60 : Int) - i).toNat | _ => 0) ⟨_, 0, _, rfl, rfl, rfl, rfl, rfl, rfl, Nat.zero_le _, Nat.zero_le _, hz1⟩ ?_
  clear hF hz1
  rintro _ w2 ⟨T, j, f, rfl, hT, t0, t3, t4, t5, hj, hj6, hck⟩
  obtain ⟨v0, v1, v2, v3, v4, v5, v6, v7, v8, v9, v10, v11, v12, v13, v14, v15, v16, v17, v18, v19, v20, v21, v22, v23, v24, v25, v26, v27, v28, v29, v30, v31, v32, v33, v34, v35, v36, v37, v38, v39, v40, v41, v42, v43, v44, v45, v46, v47, v48, v49, v50, v51, v52, v53, v54, v55, v56, v57, v58, v59, v60, v61, v62, v63, v64, v65, v66, v67, v68, v69, v70, v71, v72, v73, v74, v75, v76, v77, v78, v79, v80, v81, v82, v83, v84, v85, v86, v87, v88, v89, v90, v91, v92, v93, v94, v95, v96, v97, v98, v99, v100, rfl⟩ := arr101 T hT
  simp only [List.getElem?_toArray, List.getElem?_cons_succ, List.getElem?_cons_zero, Option.some.injEq] at t0 t3 t4 t5
  subst t0 t3 t4 t5
  clear hT
  have hF := atRel_refl w2
  replace hck : RowKit.Hid _ := hck
  by_cases hl : j < len
  · have e9 : decide ((j : Int) < (len : Int)) = true := decide_eq_true (by omega)
    by_cases h60 : j < 60
    · have e8 : decide ((j : Int) < 60) = true := decide_eq_true (by omega)
      have q1 : (j : Int) < (len : Int) := by omega
      have hlA := h.at_ (by omega)
      have hk0 : w2.cell? ⟨sb, so + j * 2, none⟩ = some (.int .i64 (k j)) := by
        rw [cell_same (hck.out.bel.block sb (h.lt (by omega)))]
        exact h.k j hl
      have hn0 : w2.cell? ⟨sb, so + j * 2 + 1, none⟩ = some (.int .i64 (n j)) := by
        rw [cell_same (hck.out.bel.block sb (h.lt (by omega)))]
        exact h.n j hl
      refine codeW_mono (roundB (Q := Exit.then _ _) lA len cap sb so j (k j) (n j) f w w2 hlA hl h60 hk0 hn0 hck.out ?_) (fun _ _ _ q => q)
      intro T f' w' hT t0 t3 t4 t5 hb
      simp only [Exit.then]
      refine ⟨⟨T, j + 1, f', rfl, hT, t0, t3, t4, t5, by omega, by omega, hb⟩, ?_⟩
      rw [show T.getD 5 undef = .int .i64 ((j : Int) + 1) from by rw [Array.getD_eq_getD_getElem?, t5]; rfl]
      simp
      omega
    · have e8 : decide ((j : Int) < 60) = false := decide_eq_false (by omega)
      (repeat (first | (refine codeW_seq T9 ?_) | (refine codeW_region T9 ?_; simp only [List.size_toArray, List.length_cons, List.length_nil, Nat.reduceAdd, Nat.zero_add, List.range, List.range.loop]) | (refine opsW_nil T9 ?_; simp only [Exit.then, Exit.inBlock, Exit.thenX]) | (refine codeW_skip T9 ?_; simp only [Exit.then, Exit.inBlock, Exit.thenX]) | ((first | refine codeW_cond T9 (t := true) rfl ?_ | refine codeW_cond T9 (t := false) rfl ?_); simp only [if_true, if_false, Bool.false_eq_true, ↓reduceIte]) | (refine opsW_unwanted T9 rfl (by rfl) ?_; try walk_nrm) | (refine opsW_cons rfl (by rfl) ?_; intro _ hR K hK; replace hF := atRel_trans _ _ _ hF hR; clear hR; have hs9 := atRel_size hF; go_simp; refine hK _ _ ⟨?_, ?_⟩; (· rw [listed_nil (by simp [go_sem, *])]; exact dp0_nil); clear hK K hs9; try walk_nrm) | (refine codeW_block T9 ?_)))
      (refine codeW_exit T9 ?_; simp only [Exit.then, Exit.inBlock, Exit.thenX, if_true, if_false, reduceIte, Nat.reduceEqDiff])
      exact boardEnd f w _ _ rfl rfl rfl (hck.out.at hF)
  · have e9 : decide ((j : Int) < (len : Int)) = false := decide_eq_false (by omega)
    (repeat (first | (refine codeW_seq T9 ?_) | (refine codeW_region T9 ?_; simp only [List.size_toArray, List.length_cons, List.length_nil, Nat.reduceAdd, Nat.zero_add, List.range, List.range.loop]) | (refine opsW_nil T9 ?_; simp only [Exit.then, Exit.inBlock, Exit.thenX]) | (refine codeW_skip T9 ?_; simp only [Exit.then, Exit.inBlock, Exit.thenX]) | ((first | refine codeW_cond T9 (t := true) rfl ?_ | refine codeW_cond T9 (t := false) rfl ?_); simp only [if_true, if_false, Bool.false_eq_true, ↓reduceIte]) | (refine opsW_unwanted T9 rfl (by rfl) ?_; try walk_nrm) | (refine opsW_cons rfl (by rfl) ?_; intro _ hR K hK; replace hF := atRel_trans _ _ _ hF hR; clear hR; have hs9 := atRel_size hF; go_simp; refine hK _ _ ⟨?_, ?_⟩; (· rw [listed_nil (by simp [go_sem, *])]; exact dp0_nil); clear hK K hs9; try walk_nrm) | (refine codeW_block T9 ?_)))
    (refine codeW_exit T9 ?_; simp only [Exit.then, Exit.inBlock, Exit.thenX, if_true, if_false, reduceIte, Nat.reduceEqDiff])
    exact boardEnd f w _ _ rfl rfl rfl (hck.out.at hF)
end Go.Proofs.Ytkcknoodcgmndaa
