/- tally's All, in general. -/
import Derived.Test.YtkcknoodcgmndaaZMpA
namespace Go.Proofs.Ytkcknoodcgmndaa
open Go.Conc Go.RowKit
set_option linter.unusedVariables false
set_option linter.unusedSimpArgs false
set_option maxRecDepth 100000
set_option maxHeartbeats 4000000













section
variable {Shun : Loc → Prop}
theorem iterAll_W {w0 W : World} {Mb Wb n cap : Nat} {ws : List Nat} {F v0 : Value} (hSo : ∀ r, ¬ Shun (.obj r)) (hSn : ∀ a : Addr, w0.heap.size ≤ a.block → ¬ Shun (.cell a)) (hSm : ∀ o, ¬ Shun (.cell ⟨Mb, o, none⟩))
    (h : AllG w0 Mb Wb n cap ws (recA w0.heap.size F) v0 W) (hown : W.ownsRow (w0.heap.size + 4) 3 1 v0 0 []) :
    CW Shun 64 #[.func (.yield (w0.heap.size + 3)) #[] #[], .pointer (some ⟨w0.heap.size, 0, none⟩)] W (fun _ w' => ∃ v', AllG w0 Mb Wb n cap ws (recA w0.heap.size F) v' w' ∧ w'.ownsRow (w0.heap.size + 4) 3 1 v' (markL ws n).length ((markL ws n).map (Value.int .i64))) := by
  have T9 := termsP Shun
  refine callsW_enter Try.func64 (by kernel_rfl) rfl ?_
  simp only [Try.ntmps64]
  walk_nrm
  have hF := atRel_refl W
  have hS := hSn ⟨w0.heap.size, 0, none⟩ (Nat.le_refl _)
  (refine codeW_seq T9 ?_)
  (refine codeW_region T9 ?_; simp only [List.size_toArray, List.length_cons, List.length_nil, Nat.reduceAdd, Nat.zero_add, List.range, List.range.loop])
  have hc1 := box_cell h.mbox
  (refine opsW_cons rfl (by rfl) ?_; intro _ hR K hK; replace hF := atRel_trans _ _ _ hF hR; clear hR; have hl9 := (atRel_cell hF _).trans hc1; go_simp; refine hK _ _ ⟨?_, ?_⟩; (· intro e he; have hm := mem_listed he; simp [go_sem, hl9] at hm; rw [hm]; exact evP_cell _ hS); clear hK K hl9; try walk_nrm)
  clear hc1
  co_apply opsW_call T9 rfl (by rfl) rfl
  · walk_nrm
    exact len29_W Mb n _ ((atRel_cell hF _).trans h.mm.c0) hSm
  rintro _ w' ⟨rfl, hF'⟩
  replace hF := atRel_trans _ _ _ hF hF'
  clear hF'
  walk_nrm
  (repeat (first | (refine codeW_seq T9 ?_) | (refine codeW_region T9 ?_; simp only [List.size_toArray, List.length_cons, List.length_nil, Nat.reduceAdd, Nat.zero_add, List.range, List.range.loop]) | (refine opsW_nil T9 ?_; simp only [Exit.then, Exit.inBlock]) | (refine codeW_skip T9 ?_; simp only [Exit.then, Exit.inBlock]) | ((first | refine codeW_cond T9 (t := true) rfl ?_ | refine codeW_cond T9 (t := false) rfl ?_); simp only [if_true, if_false, Bool.false_eq_true, ↓reduceIte]) | (refine opsW_unwanted T9 rfl (by rfl) ?_; try walk_nrm) | (refine opsW_cons rfl (by rfl) ?_; intro _ hR K hK; replace hF := atRel_trans _ _ _ hF hR; clear hR; have hs9 := atRel_size hF; go_simp; refine hK _ _ ⟨?_, ?_⟩; (· rw [listed_nil (by simp [go_sem, *])]; exact dp0_nil); clear hK K hs9; try walk_nrm) | (refine codeW_block T9 ?_)))
  refine codeW_loop T9 (fun a' w' => ∃ (i : Nat) (v v2 v3 v4 v7 v8 v9 v10 v11 v12 v13 v14 v15 v16 v17 v18 : Value), a' = ⟨#[.func (.yield (w0.heap.size + 3)) #[] #[], .pointer (some ⟨w0.heap.size, 0, none⟩), v2, v3, v4, .int .i64 n, .int .i64 i, v7, v8, v9, v10, v11, v12, v13, v14, v15, v16, v17, v18], []⟩ ∧ i ≤ n ∧ AllG w0 Mb Wb n cap ws (recA w0.heap.size F) v w' ∧ w'.ownsRow (w0.heap.size + 4) 3 1 v (markL ws i).length ((markL ws i).map (Value.int .i64)))
    (fun a _ => match a.tmps.getD 6 undef with | .int _ i => ((n : Int) - i).toNat | _ => 0) ⟨0, _, _, _, _, _, _, _, _, _, _, _, _, _, _, _, _, rfl, Nat.zero_le _, h.at hF, ownsRow_at hF hown⟩ ?_
  clear hF h hown
  rintro _ w2 ⟨i, v, v2, v3, v4, v7, v8, v9, v10, v11, v12, v13, v14, v15, v16, v17, v18, rfl, hi, h, hown⟩
  have hF := atRel_refl w2
  by_cases hl : i < n
  · have e9 : decide ((i : Int) < (n : Int)) = true := decide_eq_true (by omega)
    have hfew := h.mm.few
    have d7 : IntKind.i64.wrap ((i : Int) + 1) = (i : Int) + 1 := by rw [IntKind.wrap_i64]; omega
    have hlen := markL_len ws i
    (repeat (first | (refine codeW_seq T9 ?_) | (refine codeW_region T9 ?_; simp only [List.size_toArray, List.length_cons, List.length_nil, Nat.reduceAdd, Nat.zero_add, List.range, List.range.loop]) | (refine opsW_nil T9 ?_; simp only [Exit.then, Exit.inBlock]) | (refine codeW_skip T9 ?_; simp only [Exit.then, Exit.inBlock]) | ((first | refine codeW_cond T9 (t := true) rfl ?_ | refine codeW_cond T9 (t := false) rfl ?_); simp only [if_true, if_false, Bool.false_eq_true, ↓reduceIte]) | (refine opsW_unwanted T9 rfl (by rfl) ?_; try walk_nrm) | (refine opsW_cons rfl (by rfl) ?_; intro _ hR K hK; replace hF := atRel_trans _ _ _ hF hR; clear hR; have hs9 := atRel_size hF; go_simp; refine hK _ _ ⟨?_, ?_⟩; (· rw [listed_nil (by simp [go_sem, *])]; exact dp0_nil); clear hK K hs9; try walk_nrm) | (refine codeW_block T9 ?_)))
    have hc1 := box_cell h.mbox
    (refine opsW_cons rfl (by rfl) ?_; intro _ hR K hK; replace hF := atRel_trans _ _ _ hF hR; clear hR; have hl9 := (atRel_cell hF _).trans hc1; go_simp; refine hK _ _ ⟨?_, ?_⟩; (· intro e he; have hm := mem_listed he; simp [go_sem, hl9] at hm; rw [hm]; exact evP_cell _ hS); clear hK K hl9; try walk_nrm)
    clear hc1
    repeat (first | (refine opsW_unwanted T9 rfl (by rfl) ?_; try walk_nrm) | (refine opsW_cons rfl (by rfl) ?_; intro _ hR K hK; replace hF := atRel_trans _ _ _ hF hR; clear hR; have hs9 := atRel_size hF; go_simp; refine hK _ _ ⟨?_, ?_⟩; (· rw [listed_nil (by simp [go_sem, *])]; exact dp0_nil); clear hK K hs9; try walk_nrm))
    co_apply opsW_call T9 rfl (by rfl) rfl
    · walk_nrm
      exact has27_W (h.mm.at hF) (i : Int) hSm
    rw [show (decide (0 ≤ (i : Int) ∧ (i : Int) < (n : Int)) && bitW ws (i : Int).toNat) = bitW ws i from by
      rw [decide_eq_true ⟨by omega, by omega⟩, Bool.true_and]; rfl]
    rintro _ w' ⟨rfl, hF'⟩
    replace hF := atRel_trans _ _ _ hF hF'
    clear hF'
    walk_nrm
    have hsucc := markL_succ ws i
    generalize hb : bitW ws i = bb at hsucc ⊢
    replace hb : RowKit.Hid _ := hb
    cases bb
    · simp only [Bool.false_eq_true, if_false, List.append_nil] at hsucc
      (repeat (first | (refine codeW_seq T9 ?_) | (refine codeW_region T9 ?_; simp only [List.size_toArray, List.length_cons, List.length_nil, Nat.reduceAdd, Nat.zero_add, List.range, List.range.loop]) | (refine opsW_nil T9 ?_; simp only [Exit.then, Exit.inBlock]) | (refine codeW_skip T9 ?_; simp only [Exit.then, Exit.inBlock]) | ((first | refine codeW_cond T9 (t := true) rfl ?_ | refine codeW_cond T9 (t := false) rfl ?_); simp only [if_true, if_false, Bool.false_eq_true, ↓reduceIte]) | (refine opsW_unwanted T9 rfl (by rfl) ?_; try walk_nrm) | (refine opsW_cons rfl (by rfl) ?_; intro _ hR K hK; replace hF := atRel_trans _ _ _ hF hR; clear hR; have hs9 := atRel_size hF; go_simp; refine hK _ _ ⟨?_, ?_⟩; (· rw [listed_nil (by simp [go_sem, *])]; exact dp0_nil); clear hK K hs9; try walk_nrm) | (refine codeW_block T9 ?_)))
      refine ⟨⟨i + 1, v, _, _, _, _, _, _, _, _, _, _, _, _, _, _, _, rfl, by omega, h.at hF, ?_⟩, ?_⟩
      · rw [hsucc]; exact ownsRow_at hF hown
      · simp
        omega
    · simp only [if_true] at hsucc
      repeat (first | (refine opsW_unwanted T9 rfl (by rfl) ?_; try walk_nrm) | (refine opsW_cons rfl (by rfl) ?_; intro _ hR K hK; replace hF := atRel_trans _ _ _ hF hR; clear hR; have hs9 := atRel_size hF; go_simp; refine hK _ _ ⟨?_, ?_⟩; (· rw [listed_nil (by simp [go_sem, *])]; exact dp0_nil); clear hK K hs9; try walk_nrm))
      refine opsW_yield (l := w0.heap.size + 3) (t := 7) (r := recA w0.heap.size F) (Pos := fun w' => ∃ v', AllG w0 Mb Wb n cap ws (recA w0.heap.size F) v' w' ∧ w'.ownsRow (w0.heap.size + 4) 3 1 v' (markL ws i ++ [(i : Int)]).length ((markL ws i ++ [(i : Int)]).map (Value.int .i64))) hSo rfl (by rfl) rfl rfl (h.at hF).loop rfl rfl ?_ ?_
      · exact roundA hSn (i : Int) (h.at hF) (ownsRow_at hF hown) (by omega)
      rintro w5 ⟨v', h5, hown5⟩
      rw [← hsucc] at hown5
      clear hF h hown
      have hF := atRel_refl w5
      walk_nrm
      (repeat (first | (refine codeW_seq T9 ?_) | (refine codeW_region T9 ?_; simp only [List.size_toArray, List.length_cons, List.length_nil, Nat.reduceAdd, Nat.zero_add, List.range, List.range.loop]) | (refine opsW_nil T9 ?_; simp only [Exit.then, Exit.inBlock]) | (refine codeW_skip T9 ?_; simp only [Exit.then, Exit.inBlock]) | ((first | refine codeW_cond T9 (t := true) rfl ?_ | refine codeW_cond T9 (t := false) rfl ?_); simp only [if_true, if_false, Bool.false_eq_true, ↓reduceIte]) | (refine opsW_unwanted T9 rfl (by rfl) ?_; try walk_nrm) | (refine opsW_cons rfl (by rfl) ?_; intro _ hR K hK; replace hF := atRel_trans _ _ _ hF hR; clear hR; have hs9 := atRel_size hF; go_simp; refine hK _ _ ⟨?_, ?_⟩; (· rw [listed_nil (by simp [go_sem, *])]; exact dp0_nil); clear hK K hs9; try walk_nrm) | (refine codeW_block T9 ?_)))
      refine ⟨⟨i + 1, v', _, _, _, _, _, _, _, _, _, _, _, _, _, _, _, rfl, by omega, h5.at hF, ownsRow_at hF hown5⟩, ?_⟩
      simp
      omega
  · have e9 : decide ((i : Int) < (n : Int)) = false := decide_eq_false (by omega)
    obtain rfl : i = n := by omega
    (repeat (first | (refine codeW_seq T9 ?_) | (refine codeW_region T9 ?_; simp only [List.size_toArray, List.length_cons, List.length_nil, Nat.reduceAdd, Nat.zero_add, List.range, List.range.loop]) | (refine opsW_nil T9 ?_; simp only [Exit.then, Exit.inBlock]) | (refine codeW_skip T9 ?_; simp only [Exit.then, Exit.inBlock]) | ((first | refine codeW_cond T9 (t := true) rfl ?_ | refine codeW_cond T9 (t := false) rfl ?_); simp only [if_true, if_false, Bool.false_eq_true, ↓reduceIte]) | (refine opsW_unwanted T9 rfl (by rfl) ?_; try walk_nrm) | (refine opsW_cons rfl (by rfl) ?_; intro _ hR K hK; replace hF := atRel_trans _ _ _ hF hR; clear hR; have hs9 := atRel_size hF; go_simp; refine hK _ _ ⟨?_, ?_⟩; (· rw [listed_nil (by simp [go_sem, *])]; exact dp0_nil); clear hK K hs9; try walk_nrm) | (refine codeW_block T9 ?_)))
    (refine codeW_exit T9 ?_; simp only [Exit.then, Exit.inBlock, Exit.thenX, if_true, if_false, reduceIte, Nat.reduceEqDiff])
    exact ⟨rfl, _, resultsC_none rfl _, v, h.at hF, ownsRow_at hF hown⟩
end
end Go.Proofs.Ytkcknoodcgmndaa
