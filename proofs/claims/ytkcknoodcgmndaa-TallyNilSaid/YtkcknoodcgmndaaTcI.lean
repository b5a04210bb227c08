/- tally's marks that are nil. -/
import Derived.Test.YtkcknoodcgmndaaTcE
namespace Go.Proofs.Ytkcknoodcgmndaa
open Go.Conc Go.RowKit
set_option linter.unusedVariables false
set_option linter.unusedSimpArgs false
set_option maxRecDepth 100000
set_option maxHeartbeats 4000000













section
variable {Shun : Loc → Prop}
theorem one44Nil_W (i : Int) (w : World) : CW Shun 44 #[.pointer none, .int .i64 i] w (fun r w' => r = .bool false ∧ AtRel w w') := by
  have T9 := termsP Shun
  have ev9 := fun (p : Option Addr) (w : World) => ev_eq_nil (P := Try.prog) Try.underlying35 p w
  have ev8 := fun (p : Option Addr) (w : World) => ev_neq_nil (P := Try.prog) Try.underlying35 p w
  refine callsW_enter Try.func44 (by kernel_rfl) rfl ?_
  simp only [Try.ntmps44]
  walk_nrm
  have hF := atRel_refl w
  (repeat (first | (refine codeW_seq T9 ?_) | (refine codeW_region T9 ?_; simp only [List.size_toArray, List.length_cons, List.length_nil, Nat.reduceAdd, Nat.zero_add, List.range, List.range.loop]) | (refine opsW_nil T9 ?_; simp only [Exit.then, Exit.inBlock]) | (refine codeW_skip T9 ?_; simp only [Exit.then, Exit.inBlock]) | ((first | refine codeW_cond T9 (t := true) rfl ?_ | refine codeW_cond T9 (t := false) rfl ?_); simp only [if_true, if_false, Bool.false_eq_true, ↓reduceIte]) | (refine opsW_unwanted T9 rfl (by rfl) ?_; try walk_nrm) | (refine opsW_cons rfl (by rfl) ?_; intro _ hR K hK; replace hF := atRel_trans _ _ _ hF hR; clear hR; have hs9 := atRel_size hF; go_simp; refine hK _ _ ⟨?_, ?_⟩; (· rw [listed_nil (by simp [go_sem, *])]; exact dp0_nil); clear hK K hs9; try walk_nrm) | (refine codeW_block T9 ?_)))
  (refine codeW_ret T9 ?_)
  exact ⟨rfl, _, resultsC_tmp rfl _, rfl, hF⟩
theorem words45Nil_W (w : World) : CW Shun 45 #[.pointer none] w (fun r w' => r = .int .i64 0 ∧ AtRel w w') := by
  have T9 := termsP Shun
  have ev9 := fun (p : Option Addr) (w : World) => ev_eq_nil (P := Try.prog) Try.underlying35 p w
  have ev8 := fun (p : Option Addr) (w : World) => ev_neq_nil (P := Try.prog) Try.underlying35 p w
  refine callsW_enter Try.func45 (by kernel_rfl) rfl ?_
  simp only [Try.ntmps45]
  walk_nrm
  have hF := atRel_refl w
  (repeat (first | (refine codeW_seq T9 ?_) | (refine codeW_region T9 ?_; simp only [List.size_toArray, List.length_cons, List.length_nil, Nat.reduceAdd, Nat.zero_add, List.range, List.range.loop]) | (refine opsW_nil T9 ?_; simp only [Exit.then, Exit.inBlock]) | (refine codeW_skip T9 ?_; simp only [Exit.then, Exit.inBlock]) | ((first | refine codeW_cond T9 (t := true) rfl ?_ | refine codeW_cond T9 (t := false) rfl ?_); simp only [if_true, if_false, Bool.false_eq_true, ↓reduceIte]) | (refine opsW_unwanted T9 rfl (by rfl) ?_; try walk_nrm) | (refine opsW_cons rfl (by rfl) ?_; intro _ hR K hK; replace hF := atRel_trans _ _ _ hF hR; clear hR; have hs9 := atRel_size hF; go_simp; refine hK _ _ ⟨?_, ?_⟩; (· rw [listed_nil (by simp [go_sem, *])]; exact dp0_nil); clear hK K hs9; try walk_nrm) | (refine codeW_block T9 ?_)))
  (refine codeW_ret T9 ?_)
  exact ⟨rfl, _, resultsC_tmp rfl _, rfl, hF⟩
theorem len29Nil_W (w : World) : CW Shun 29 #[.pointer none] w (fun r w' => r = .int .i64 0 ∧ AtRel w w') := by
  have T9 := termsP Shun
  have ev9 := fun (p : Option Addr) (w : World) => ev_eq_nil (P := Try.prog) Try.underlying35 p w
  have ev8 := fun (p : Option Addr) (w : World) => ev_neq_nil (P := Try.prog) Try.underlying35 p w
  refine callsW_enter Try.func29 (by kernel_rfl) rfl ?_
  simp only [Try.ntmps29]
  walk_nrm
  have hF := atRel_refl w
  (repeat (first | (refine codeW_seq T9 ?_) | (refine codeW_region T9 ?_; simp only [List.size_toArray, List.length_cons, List.length_nil, Nat.reduceAdd, Nat.zero_add, List.range, List.range.loop]) | (refine opsW_nil T9 ?_; simp only [Exit.then, Exit.inBlock]) | (refine codeW_skip T9 ?_; simp only [Exit.then, Exit.inBlock]) | ((first | refine codeW_cond T9 (t := true) rfl ?_ | refine codeW_cond T9 (t := false) rfl ?_); simp only [if_true, if_false, Bool.false_eq_true, ↓reduceIte]) | (refine opsW_unwanted T9 rfl (by rfl) ?_; try walk_nrm) | (refine opsW_cons rfl (by rfl) ?_; intro _ hR K hK; replace hF := atRel_trans _ _ _ hF hR; clear hR; have hs9 := atRel_size hF; go_simp; refine hK _ _ ⟨?_, ?_⟩; (· rw [listed_nil (by simp [go_sem, *])]; exact dp0_nil); clear hK K hs9; try walk_nrm) | (refine codeW_block T9 ?_)))
  (refine codeW_ret T9 ?_)
  exact ⟨rfl, _, resultsC_tmp rfl _, rfl, hF⟩
theorem turn33Nil_W (i : Int) (b : Bool) (w : World) : CW Shun 33 #[.pointer none, .int .i64 i, .bool b] w (fun r w' => r = .bool false ∧ AtRel w w') := by
  have T9 := termsP Shun
  refine callsW_enter Try.func33 (by kernel_rfl) rfl ?_
  simp only [Try.ntmps33]
  walk_nrm
  have hF := atRel_refl w
  (repeat (first | (refine codeW_seq T9 ?_) | (refine codeW_region T9 ?_; simp only [List.size_toArray, List.length_cons, List.length_nil, Nat.reduceAdd, Nat.zero_add, List.range, List.range.loop]) | (refine opsW_nil T9 ?_; simp only [Exit.then, Exit.inBlock]) | (refine codeW_skip T9 ?_; simp only [Exit.then, Exit.inBlock]) | ((first | refine codeW_cond T9 (t := true) rfl ?_ | refine codeW_cond T9 (t := false) rfl ?_); simp only [if_true, if_false, Bool.false_eq_true, ↓reduceIte]) | (refine opsW_unwanted T9 rfl (by rfl) ?_; try walk_nrm) | (refine opsW_cons rfl (by rfl) ?_; intro _ hR K hK; replace hF := atRel_trans _ _ _ hF hR; clear hR; have hs9 := atRel_size hF; go_simp; refine hK _ _ ⟨?_, ?_⟩; (· rw [listed_nil (by simp [go_sem, *])]; exact dp0_nil); clear hK K hs9; try walk_nrm) | (refine codeW_block T9 ?_)))
  co_apply opsW_call T9 rfl (by rfl) rfl
  · walk_nrm
    exact one44Nil_W _ _
  rintro _ w' ⟨rfl, hF'⟩
  replace hF := atRel_trans _ _ _ hF hF'
  walk_nrm
  (repeat (first | (refine codeW_seq T9 ?_) | (refine codeW_region T9 ?_; simp only [List.size_toArray, List.length_cons, List.length_nil, Nat.reduceAdd, Nat.zero_add, List.range, List.range.loop]) | (refine opsW_nil T9 ?_; simp only [Exit.then, Exit.inBlock]) | (refine codeW_skip T9 ?_; simp only [Exit.then, Exit.inBlock]) | ((first | refine codeW_cond T9 (t := true) rfl ?_ | refine codeW_cond T9 (t := false) rfl ?_); simp only [if_true, if_false, Bool.false_eq_true, ↓reduceIte]) | (refine opsW_unwanted T9 rfl (by rfl) ?_; try walk_nrm) | (refine opsW_cons rfl (by rfl) ?_; intro _ hR K hK; replace hF := atRel_trans _ _ _ hF hR; clear hR; have hs9 := atRel_size hF; go_simp; refine hK _ _ ⟨?_, ?_⟩; (· rw [listed_nil (by simp [go_sem, *])]; exact dp0_nil); clear hK K hs9; try walk_nrm) | (refine codeW_block T9 ?_)))
  (refine codeW_ret T9 ?_)
  exact ⟨rfl, _, resultsC_tmp rfl _, rfl, hF⟩
theorem claim14Nil_W (i : Int) (w : World) : CW Shun 14 #[.pointer none, .int .i64 i] w (fun r w' => r = .bool false ∧ AtRel w w') := by
  have T9 := termsP Shun
  refine callsW_enter Try.func14 (by kernel_rfl) rfl ?_
  simp only [Try.ntmps14]
  walk_nrm
  have hF := atRel_refl w
  (repeat (first | (refine codeW_seq T9 ?_) | (refine codeW_region T9 ?_; simp only [List.size_toArray, List.length_cons, List.length_nil, Nat.reduceAdd, Nat.zero_add, List.range, List.range.loop]) | (refine opsW_nil T9 ?_; simp only [Exit.then, Exit.inBlock]) | (refine codeW_skip T9 ?_; simp only [Exit.then, Exit.inBlock]) | ((first | refine codeW_cond T9 (t := true) rfl ?_ | refine codeW_cond T9 (t := false) rfl ?_); simp only [if_true, if_false, Bool.false_eq_true, ↓reduceIte]) | (refine opsW_unwanted T9 rfl (by rfl) ?_; try walk_nrm) | (refine opsW_cons rfl (by rfl) ?_; intro _ hR K hK; replace hF := atRel_trans _ _ _ hF hR; clear hR; have hs9 := atRel_size hF; go_simp; refine hK _ _ ⟨?_, ?_⟩; (· rw [listed_nil (by simp [go_sem, *])]; exact dp0_nil); clear hK K hs9; try walk_nrm) | (refine codeW_block T9 ?_)))
  co_apply opsW_call T9 rfl (by rfl) rfl
  · walk_nrm
    exact turn33Nil_W _ _ _
  rintro _ w' ⟨rfl, hF'⟩
  replace hF := atRel_trans _ _ _ hF hF'
  walk_nrm
  (repeat (first | (refine codeW_seq T9 ?_) | (refine codeW_region T9 ?_; simp only [List.size_toArray, List.length_cons, List.length_nil, Nat.reduceAdd, Nat.zero_add, List.range, List.range.loop]) | (refine opsW_nil T9 ?_; simp only [Exit.then, Exit.inBlock]) | (refine codeW_skip T9 ?_; simp only [Exit.then, Exit.inBlock]) | ((first | refine codeW_cond T9 (t := true) rfl ?_ | refine codeW_cond T9 (t := false) rfl ?_); simp only [if_true, if_false, Bool.false_eq_true, ↓reduceIte]) | (refine opsW_unwanted T9 rfl (by rfl) ?_; try walk_nrm) | (refine opsW_cons rfl (by rfl) ?_; intro _ hR K hK; replace hF := atRel_trans _ _ _ hF hR; clear hR; have hs9 := atRel_size hF; go_simp; refine hK _ _ ⟨?_, ?_⟩; (· rw [listed_nil (by simp [go_sem, *])]; exact dp0_nil); clear hK K hs9; try walk_nrm) | (refine codeW_block T9 ?_)))
  (refine codeW_ret T9 ?_)
  exact ⟨rfl, _, resultsC_tmp rfl _, rfl, hF⟩
theorem free26Nil_W (i : Int) (w : World) : CW Shun 26 #[.pointer none, .int .i64 i] w (fun r w' => r = .bool false ∧ AtRel w w') := by
  have T9 := termsP Shun
  refine callsW_enter Try.func26 (by kernel_rfl) rfl ?_
  simp only [Try.ntmps26]
  walk_nrm
  have hF := atRel_refl w
  (repeat (first | (refine codeW_seq T9 ?_) | (refine codeW_region T9 ?_; simp only [List.size_toArray, List.length_cons, List.length_nil, Nat.reduceAdd, Nat.zero_add, List.range, List.range.loop]) | (refine opsW_nil T9 ?_; simp only [Exit.then, Exit.inBlock]) | (refine codeW_skip T9 ?_; simp only [Exit.then, Exit.inBlock]) | ((first | refine codeW_cond T9 (t := true) rfl ?_ | refine codeW_cond T9 (t := false) rfl ?_); simp only [if_true, if_false, Bool.false_eq_true, ↓reduceIte]) | (refine opsW_unwanted T9 rfl (by rfl) ?_; try walk_nrm) | (refine opsW_cons rfl (by rfl) ?_; intro _ hR K hK; replace hF := atRel_trans _ _ _ hF hR; clear hR; have hs9 := atRel_size hF; go_simp; refine hK _ _ ⟨?_, ?_⟩; (· rw [listed_nil (by simp [go_sem, *])]; exact dp0_nil); clear hK K hs9; try walk_nrm) | (refine codeW_block T9 ?_)))
  co_apply opsW_call T9 rfl (by rfl) rfl
  · walk_nrm
    exact turn33Nil_W _ _ _
  rintro _ w' ⟨rfl, hF'⟩
  replace hF := atRel_trans _ _ _ hF hF'
  walk_nrm
  (repeat (first | (refine codeW_seq T9 ?_) | (refine codeW_region T9 ?_; simp only [List.size_toArray, List.length_cons, List.length_nil, Nat.reduceAdd, Nat.zero_add, List.range, List.range.loop]) | (refine opsW_nil T9 ?_; simp only [Exit.then, Exit.inBlock]) | (refine codeW_skip T9 ?_; simp only [Exit.then, Exit.inBlock]) | ((first | refine codeW_cond T9 (t := true) rfl ?_ | refine codeW_cond T9 (t := false) rfl ?_); simp only [if_true, if_false, Bool.false_eq_true, ↓reduceIte]) | (refine opsW_unwanted T9 rfl (by rfl) ?_; try walk_nrm) | (refine opsW_cons rfl (by rfl) ?_; intro _ hR K hK; replace hF := atRel_trans _ _ _ hF hR; clear hR; have hs9 := atRel_size hF; go_simp; refine hK _ _ ⟨?_, ?_⟩; (· rw [listed_nil (by simp [go_sem, *])]; exact dp0_nil); clear hK K hs9; try walk_nrm) | (refine codeW_block T9 ?_)))
  (refine codeW_ret T9 ?_)
  exact ⟨rfl, _, resultsC_tmp rfl _, rfl, hF⟩
theorem has27Nil_W (i : Int) (w : World) : CW Shun 27 #[.pointer none, .int .i64 i] w (fun r w' => r = .bool false ∧ AtRel w w') := by
  have T9 := termsP Shun
  refine callsW_enter Try.func27 (by kernel_rfl) rfl ?_
  simp only [Try.ntmps27]
  walk_nrm
  have hF := atRel_refl w
  (repeat (first | (refine codeW_seq T9 ?_) | (refine codeW_region T9 ?_; simp only [List.size_toArray, List.length_cons, List.length_nil, Nat.reduceAdd, Nat.zero_add, List.range, List.range.loop]) | (refine opsW_nil T9 ?_; simp only [Exit.then, Exit.inBlock]) | (refine codeW_skip T9 ?_; simp only [Exit.then, Exit.inBlock]) | ((first | refine codeW_cond T9 (t := true) rfl ?_ | refine codeW_cond T9 (t := false) rfl ?_); simp only [if_true, if_false, Bool.false_eq_true, ↓reduceIte]) | (refine opsW_unwanted T9 rfl (by rfl) ?_; try walk_nrm) | (refine opsW_cons rfl (by rfl) ?_; intro _ hR K hK; replace hF := atRel_trans _ _ _ hF hR; clear hR; have hs9 := atRel_size hF; go_simp; refine hK _ _ ⟨?_, ?_⟩; (· rw [listed_nil (by simp [go_sem, *])]; exact dp0_nil); clear hK K hs9; try walk_nrm) | (refine codeW_block T9 ?_)))
  co_apply opsW_call T9 rfl (by rfl) rfl
  · walk_nrm
    exact one44Nil_W _ _
  rintro _ w' ⟨rfl, hF'⟩
  replace hF := atRel_trans _ _ _ hF hF'
  walk_nrm
  (repeat (first | (refine codeW_seq T9 ?_) | (refine codeW_region T9 ?_; simp only [List.size_toArray, List.length_cons, List.length_nil, Nat.reduceAdd, Nat.zero_add, List.range, List.range.loop]) | (refine opsW_nil T9 ?_; simp only [Exit.then, Exit.inBlock]) | (refine codeW_skip T9 ?_; simp only [Exit.then, Exit.inBlock]) | ((first | refine codeW_cond T9 (t := true) rfl ?_ | refine codeW_cond T9 (t := false) rfl ?_); simp only [if_true, if_false, Bool.false_eq_true, ↓reduceIte]) | (refine opsW_unwanted T9 rfl (by rfl) ?_; try walk_nrm) | (refine opsW_cons rfl (by rfl) ?_; intro _ hR K hK; replace hF := atRel_trans _ _ _ hF hR; clear hR; have hs9 := atRel_size hF; go_simp; refine hK _ _ ⟨?_, ?_⟩; (· rw [listed_nil (by simp [go_sem, *])]; exact dp0_nil); clear hK K hs9; try walk_nrm) | (refine codeW_block T9 ?_)))
  (refine codeW_ret T9 ?_)
  exact ⟨rfl, _, resultsC_tmp rfl _, rfl, hF⟩
theorem count28Nil_W (w : World) : CW Shun 28 #[.pointer none] w (fun r w' => r = .int .i64 0 ∧ AtRel w w') := by
  have T9 := termsP Shun
  refine callsW_enter Try.func28 (by kernel_rfl) rfl ?_
  simp only [Try.ntmps28]
  walk_nrm
  have hF := atRel_refl w
  (repeat (first | (refine codeW_seq T9 ?_) | (refine codeW_region T9 ?_; simp only [List.size_toArray, List.length_cons, List.length_nil, Nat.reduceAdd, Nat.zero_add, List.range, List.range.loop]) | (refine opsW_nil T9 ?_; simp only [Exit.then, Exit.inBlock]) | (refine codeW_skip T9 ?_; simp only [Exit.then, Exit.inBlock]) | ((first | refine codeW_cond T9 (t := true) rfl ?_ | refine codeW_cond T9 (t := false) rfl ?_); simp only [if_true, if_false, Bool.false_eq_true, ↓reduceIte]) | (refine opsW_unwanted T9 rfl (by rfl) ?_; try walk_nrm) | (refine opsW_cons rfl (by rfl) ?_; intro _ hR K hK; replace hF := atRel_trans _ _ _ hF hR; clear hR; have hs9 := atRel_size hF; go_simp; refine hK _ _ ⟨?_, ?_⟩; (· rw [listed_nil (by simp [go_sem, *])]; exact dp0_nil); clear hK K hs9; try walk_nrm) | (refine codeW_block T9 ?_)))
  co_apply opsW_call T9 rfl (by rfl) rfl
  · walk_nrm
    exact words45Nil_W _
  rintro _ w' ⟨rfl, hF'⟩
  replace hF := atRel_trans _ _ _ hF hF'
  clear hF'
  walk_nrm
  (repeat (first | (refine codeW_seq T9 ?_) | (refine codeW_region T9 ?_; simp only [List.size_toArray, List.length_cons, List.length_nil, Nat.reduceAdd, Nat.zero_add, List.range, List.range.loop]) | (refine opsW_nil T9 ?_; simp only [Exit.then, Exit.inBlock]) | (refine codeW_skip T9 ?_; simp only [Exit.then, Exit.inBlock]) | ((first | refine codeW_cond T9 (t := true) rfl ?_ | refine codeW_cond T9 (t := false) rfl ?_); simp only [if_true, if_false, Bool.false_eq_true, ↓reduceIte]) | (refine opsW_unwanted T9 rfl (by rfl) ?_; try walk_nrm) | (refine opsW_cons rfl (by rfl) ?_; intro _ hR K hK; replace hF := atRel_trans _ _ _ hF hR; clear hR; have hs9 := atRel_size hF; go_simp; refine hK _ _ ⟨?_, ?_⟩; (· rw [listed_nil (by simp [go_sem, *])]; exact dp0_nil); clear hK K hs9; try walk_nrm) | (refine codeW_block T9 ?_)))
  refine codeW_loop T9 (fun a' w2 => a' = _ ∧ AtRel _ w2) (fun _ _ => 0) ⟨rfl, hF⟩ ?_
  clear hF
  rintro _ w2 ⟨rfl, hF⟩
  (repeat (first | (refine codeW_seq T9 ?_) | (refine codeW_region T9 ?_; simp only [List.size_toArray, List.length_cons, List.length_nil, Nat.reduceAdd, Nat.zero_add, List.range, List.range.loop]) | (refine opsW_nil T9 ?_; simp only [Exit.then, Exit.inBlock]) | (refine codeW_skip T9 ?_; simp only [Exit.then, Exit.inBlock]) | ((first | refine codeW_cond T9 (t := true) rfl ?_ | refine codeW_cond T9 (t := false) rfl ?_); simp only [if_true, if_false, Bool.false_eq_true, ↓reduceIte]) | (refine opsW_unwanted T9 rfl (by rfl) ?_; try walk_nrm) | (refine opsW_cons rfl (by rfl) ?_; intro _ hR K hK; replace hF := atRel_trans _ _ _ hF hR; clear hR; have hs9 := atRel_size hF; go_simp; refine hK _ _ ⟨?_, ?_⟩; (· rw [listed_nil (by simp [go_sem, *])]; exact dp0_nil); clear hK K hs9; try walk_nrm) | (refine codeW_block T9 ?_)))
  (refine codeW_exit T9 ?_; simp only [Exit.then, Exit.inBlock, if_true, if_false, reduceIte, Nat.reduceEqDiff])
  (repeat (first | (refine codeW_seq T9 ?_) | (refine codeW_region T9 ?_; simp only [List.size_toArray, List.length_cons, List.length_nil, Nat.reduceAdd, Nat.zero_add, List.range, List.range.loop]) | (refine opsW_nil T9 ?_; simp only [Exit.then, Exit.inBlock]) | (refine codeW_skip T9 ?_; simp only [Exit.then, Exit.inBlock]) | ((first | refine codeW_cond T9 (t := true) rfl ?_ | refine codeW_cond T9 (t := false) rfl ?_); simp only [if_true, if_false, Bool.false_eq_true, ↓reduceIte]) | (refine opsW_unwanted T9 rfl (by rfl) ?_; try walk_nrm) | (refine opsW_cons rfl (by rfl) ?_; intro _ hR K hK; replace hF := atRel_trans _ _ _ hF hR; clear hR; have hs9 := atRel_size hF; go_simp; refine hK _ _ ⟨?_, ?_⟩; (· rw [listed_nil (by simp [go_sem, *])]; exact dp0_nil); clear hK K hs9; try walk_nrm) | (refine codeW_block T9 ?_)))
  (refine codeW_ret T9 ?_)
  exact ⟨rfl, _, resultsC_tmp rfl _, rfl, hF⟩
end
end Go.Proofs.Ytkcknoodcgmndaa
