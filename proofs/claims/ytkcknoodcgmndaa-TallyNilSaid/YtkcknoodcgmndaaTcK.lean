/- tally's board: Add. -/
import Derived.Test.YtkcknoodcgmndaaTcC
namespace Go.Proofs.Ytkcknoodcgmndaa
open Go.Conc Go.RowKit
set_option linter.unusedVariables false
set_option linter.unusedSimpArgs false
set_option maxRecDepth 100000
set_option maxHeartbeats 4000000












section
variable {Shun : Loc → Prop}
theorem add31_W (g o : Nat) (v d : Int) (w : World) (hc : w.cell? ⟨g, o, none⟩ = some (.int .i64 v)) (hz : w.frozen? ⟨g, o, none⟩ = false) : CW Shun 31 #[.pointer (some ⟨g, o, none⟩), .int .i64 d] w (fun r w' => r = .int .i64 (IntKind.i64.wrap (v + d)) ∧ AtRel (w.setCell ⟨g, o, none⟩ (.int .i64 (IntKind.i64.wrap (v + d)))) w') := by
  have T9 := termsP Shun
  refine callsW_enter Try.func31 (by kernel_rfl) rfl ?_
  simp only [Try.ntmps31]
  walk_nrm
  have hF := atRel_refl w
  ((refine codeW_seq T9 ?_); (refine codeW_region T9 ?_; simp only [List.size_toArray, List.length_cons, List.length_nil, Nat.reduceAdd, Nat.zero_add, List.range, List.range.loop]); (repeat (refine opsW_cons rfl (by rfl) ?_; intro _ hR K hK; replace hF := atRel_trans _ _ _ hF hR; clear hR; have hs9 := atRel_size hF; go_simp; refine hK _ _ ⟨?_, ?_⟩; (· rw [listed_nil (by simp [go_sem, *])]; exact dp0_nil); clear hK K hs9; try walk_nrm)); (refine opsW_nil T9 ?_; simp only [Exit.then]))
  (refine codeW_seq T9 ?_)
  (refine codeW_region T9 ?_; simp only [List.size_toArray, List.length_cons, List.length_nil, Nat.reduceAdd, Nat.zero_add, List.range, List.range.loop])
  repeat (refine opsW_cons rfl (by rfl) ?_; intro _ hR K hK; replace hF := atRel_trans _ _ _ hF hR; clear hR; have hs9 := atRel_size hF; go_simp; refine hK _ _ ⟨?_, ?_⟩; (· rw [listed_nil (by simp [go_sem, *])]; exact dp0_nil); clear hK K hs9; try walk_nrm)
  refine opsW_step rfl (fun w₁ h₁ => ?_)
  replace hF := atRel_trans _ _ _ hF h₁
  clear h₁
  refine ⟨_, _, _, fun b k cs hb hk => stepG_add_atomic rfl rfl hk rfl Try.func47 (by kernel_rfl) (by kernel_rfl) (by kernel_rfl) .i64 (by rfl) rfl rfl ((atRel_cell hF _).trans hc) ((atRel_frozen hF _).trans hz), ?_, ?_⟩
  · intro e he
    simp at he
    rcases he with rfl | rfl <;> exact evP_sync _ _ _
  replace hF := atRel_set hF ⟨g, o, none⟩ (.int .i64 (IntKind.i64.wrap (v + d)))
  walk_nrm
  (refine opsW_cons rfl (by rfl) ?_; intro _ hR K hK; replace hF := atRel_trans _ _ _ hF hR; clear hR; have hs9 := atRel_size hF; go_simp; refine hK _ _ ⟨?_, ?_⟩; (· rw [listed_nil (by simp [go_sem, *])]; exact dp0_nil); clear hK K hs9; try walk_nrm)
  (refine opsW_nil T9 ?_; simp only [Exit.then])
  (refine codeW_ret T9 ?_)
  exact ⟨rfl, _, resultsC_tmp rfl _, rfl, hF⟩
theorem on30Off_W (p : Option Addr) (i : Int) (w : World) (h : p = none ∨ i < 0 ∨ 16 ≤ i) : CW Shun 30 #[.pointer p, .int .i64 i] w (fun r w' => r = .bool false ∧ AtRel w w') := by
  have T9 := termsP Shun
  have ev9 := fun (p : Option Addr) (w : World) => ev_neq_nil (P := Try.prog) Try.underlying23 p w
  cases p with
  | none =>
    clear h
    refine callsW_enter Try.func30 (by kernel_rfl) rfl ?_
    simp only [Try.ntmps30]
    walk_nrm
    have hF := atRel_refl w
    (repeat (first | (refine codeW_seq T9 ?_) | (refine codeW_region T9 ?_; simp only [List.size_toArray, List.length_cons, List.length_nil, Nat.reduceAdd, Nat.zero_add, List.range, List.range.loop]) | (refine opsW_nil T9 ?_; simp only [Exit.then]) | (refine codeW_skip T9 ?_; simp only [Exit.then]) | ((first | refine codeW_cond T9 (t := true) rfl ?_ | refine codeW_cond T9 (t := false) rfl ?_); simp only [if_true, if_false, Bool.false_eq_true, ↓reduceIte]) | (refine opsW_unwanted T9 rfl (by rfl) ?_; try walk_nrm) | (refine opsW_cons rfl (by rfl) ?_; intro _ hR K hK; replace hF := atRel_trans _ _ _ hF hR; clear hR; have hs9 := atRel_size hF; go_simp; refine hK _ _ ⟨?_, ?_⟩; (· rw [listed_nil (by simp [go_sem, *])]; exact dp0_nil); clear hK K hs9; try walk_nrm) | (refine codeW_block T9 ?_)))
    (refine codeW_ret T9 ?_)
    exact ⟨rfl, _, resultsC_tmp rfl _, rfl, hF⟩
  | some ad =>
    by_cases h0 : 0 ≤ i
    · have e8 : decide (0 ≤ i) = true := decide_eq_true h0
      have e9 : decide (i < 16) = false := decide_eq_false (by rcases h with h | h | h; cases h; omega; omega)
      clear h h0
      refine callsW_enter Try.func30 (by kernel_rfl) rfl ?_
      simp only [Try.ntmps30]
      walk_nrm
      have hF := atRel_refl w
      (repeat (first | (refine codeW_seq T9 ?_) | (refine codeW_region T9 ?_; simp only [List.size_toArray, List.length_cons, List.length_nil, Nat.reduceAdd, Nat.zero_add, List.range, List.range.loop]) | (refine opsW_nil T9 ?_; simp only [Exit.then]) | (refine codeW_skip T9 ?_; simp only [Exit.then]) | ((first | refine codeW_cond T9 (t := true) rfl ?_ | refine codeW_cond T9 (t := false) rfl ?_); simp only [if_true, if_false, Bool.false_eq_true, ↓reduceIte]) | (refine opsW_unwanted T9 rfl (by rfl) ?_; try walk_nrm) | (refine opsW_cons rfl (by rfl) ?_; intro _ hR K hK; replace hF := atRel_trans _ _ _ hF hR; clear hR; have hs9 := atRel_size hF; go_simp; refine hK _ _ ⟨?_, ?_⟩; (· rw [listed_nil (by simp [go_sem, *])]; exact dp0_nil); clear hK K hs9; try walk_nrm) | (refine codeW_block T9 ?_)))
      (refine codeW_ret T9 ?_)
      exact ⟨rfl, _, resultsC_tmp rfl _, rfl, hF⟩
    · have e8 : decide (0 ≤ i) = false := decide_eq_false h0
      clear h h0
      refine callsW_enter Try.func30 (by kernel_rfl) rfl ?_
      simp only [Try.ntmps30]
      walk_nrm
      have hF := atRel_refl w
      (repeat (first | (refine codeW_seq T9 ?_) | (refine codeW_region T9 ?_; simp only [List.size_toArray, List.length_cons, List.length_nil, Nat.reduceAdd, Nat.zero_add, List.range, List.range.loop]) | (refine opsW_nil T9 ?_; simp only [Exit.then]) | (refine codeW_skip T9 ?_; simp only [Exit.then]) | ((first | refine codeW_cond T9 (t := true) rfl ?_ | refine codeW_cond T9 (t := false) rfl ?_); simp only [if_true, if_false, Bool.false_eq_true, ↓reduceIte]) | (refine opsW_unwanted T9 rfl (by rfl) ?_; try walk_nrm) | (refine opsW_cons rfl (by rfl) ?_; intro _ hR K hK; replace hF := atRel_trans _ _ _ hF hR; clear hR; have hs9 := atRel_size hF; go_simp; refine hK _ _ ⟨?_, ?_⟩; (· rw [listed_nil (by simp [go_sem, *])]; exact dp0_nil); clear hK K hs9; try walk_nrm) | (refine codeW_block T9 ?_)))
      (refine codeW_ret T9 ?_)
      exact ⟨rfl, _, resultsC_tmp rfl _, rfl, hF⟩
theorem at10Off_W (p : Option Addr) (i : Int) (w : World) (h : p = none ∨ i < 0 ∨ 16 ≤ i) : CW Shun 10 #[.pointer p, .int .i64 i] w (fun r w' => r = .int .i64 0 ∧ AtRel w w') := by
  have T9 := termsP Shun
  refine callsW_enter Try.func10 (by kernel_rfl) rfl ?_
  simp only [Try.ntmps10]
  walk_nrm
  have hF := atRel_refl w
  (repeat (first | (refine codeW_seq T9 ?_) | (refine codeW_region T9 ?_; simp only [List.size_toArray, List.length_cons, List.length_nil, Nat.reduceAdd, Nat.zero_add, List.range, List.range.loop]) | (refine opsW_nil T9 ?_; simp only [Exit.then]) | (refine codeW_skip T9 ?_; simp only [Exit.then]) | ((first | refine codeW_cond T9 (t := true) rfl ?_ | refine codeW_cond T9 (t := false) rfl ?_); simp only [if_true, if_false, Bool.false_eq_true, ↓reduceIte]) | (refine opsW_unwanted T9 rfl (by rfl) ?_; try walk_nrm) | (refine opsW_cons rfl (by rfl) ?_; intro _ hR K hK; replace hF := atRel_trans _ _ _ hF hR; clear hR; have hs9 := atRel_size hF; go_simp; refine hK _ _ ⟨?_, ?_⟩; (· rw [listed_nil (by simp [go_sem, *])]; exact dp0_nil); clear hK K hs9; try walk_nrm) | (refine codeW_block T9 ?_)))
  co_apply opsW_call T9 rfl (by rfl) rfl
  · walk_nrm
    exact on30Off_W _ _ _ h
  rintro _ w' ⟨rfl, hF'⟩
  replace hF := atRel_trans _ _ _ hF hF'
  clear hF'
  walk_nrm
  (repeat (first | (refine codeW_seq T9 ?_) | (refine codeW_region T9 ?_; simp only [List.size_toArray, List.length_cons, List.length_nil, Nat.reduceAdd, Nat.zero_add, List.range, List.range.loop]) | (refine opsW_nil T9 ?_; simp only [Exit.then]) | (refine codeW_skip T9 ?_; simp only [Exit.then]) | ((first | refine codeW_cond T9 (t := true) rfl ?_ | refine codeW_cond T9 (t := false) rfl ?_); simp only [if_true, if_false, Bool.false_eq_true, ↓reduceIte]) | (refine opsW_unwanted T9 rfl (by rfl) ?_; try walk_nrm) | (refine opsW_cons rfl (by rfl) ?_; intro _ hR K hK; replace hF := atRel_trans _ _ _ hF hR; clear hR; have hs9 := atRel_size hF; go_simp; refine hK _ _ ⟨?_, ?_⟩; (· rw [listed_nil (by simp [go_sem, *])]; exact dp0_nil); clear hK K hs9; try walk_nrm) | (refine codeW_block T9 ?_)))
  (refine codeW_ret T9 ?_)
  exact ⟨rfl, _, resultsC_tmp rfl _, rfl, hF⟩
theorem add9Off_W (p : Option Addr) (i d : Int) (w : World) (h : p = none ∨ i < 0 ∨ 16 ≤ i) : CW Shun 9 #[.pointer p, .int .i64 i, .int .i64 d] w (fun r w' => r = .bool false ∧ AtRel w w') := by
  have T9 := termsP Shun
  refine callsW_enter Try.func9 (by kernel_rfl) rfl ?_
  simp only [Try.ntmps9]
  walk_nrm
  have hF := atRel_refl w
  (repeat (first | (refine codeW_seq T9 ?_) | (refine codeW_region T9 ?_; simp only [List.size_toArray, List.length_cons, List.length_nil, Nat.reduceAdd, Nat.zero_add, List.range, List.range.loop]) | (refine opsW_nil T9 ?_; simp only [Exit.then]) | (refine codeW_skip T9 ?_; simp only [Exit.then]) | ((first | refine codeW_cond T9 (t := true) rfl ?_ | refine codeW_cond T9 (t := false) rfl ?_); simp only [if_true, if_false, Bool.false_eq_true, ↓reduceIte]) | (refine opsW_unwanted T9 rfl (by rfl) ?_; try walk_nrm) | (refine opsW_cons rfl (by rfl) ?_; intro _ hR K hK; replace hF := atRel_trans _ _ _ hF hR; clear hR; have hs9 := atRel_size hF; go_simp; refine hK _ _ ⟨?_, ?_⟩; (· rw [listed_nil (by simp [go_sem, *])]; exact dp0_nil); clear hK K hs9; try walk_nrm) | (refine codeW_block T9 ?_)))
  co_apply opsW_call T9 rfl (by rfl) rfl
  · walk_nrm
    exact on30Off_W _ _ _ h
  rintro _ w' ⟨rfl, hF'⟩
  replace hF := atRel_trans _ _ _ hF hF'
  clear hF'
  walk_nrm
  (repeat (first | (refine codeW_seq T9 ?_) | (refine codeW_region T9 ?_; simp only [List.size_toArray, List.length_cons, List.length_nil, Nat.reduceAdd, Nat.zero_add, List.range, List.range.loop]) | (refine opsW_nil T9 ?_; simp only [Exit.then]) | (refine codeW_skip T9 ?_; simp only [Exit.then]) | ((first | refine codeW_cond T9 (t := true) rfl ?_ | refine codeW_cond T9 (t := false) rfl ?_); simp only [if_true, if_false, Bool.false_eq_true, ↓reduceIte]) | (refine opsW_unwanted T9 rfl (by rfl) ?_; try walk_nrm) | (refine opsW_cons rfl (by rfl) ?_; intro _ hR K hK; replace hF := atRel_trans _ _ _ hF hR; clear hR; have hs9 := atRel_size hF; go_simp; refine hK _ _ ⟨?_, ?_⟩; (· rw [listed_nil (by simp [go_sem, *])]; exact dp0_nil); clear hK K hs9; try walk_nrm) | (refine codeW_block T9 ?_)))
  (refine codeW_ret T9 ?_)
  exact ⟨rfl, _, resultsC_tmp rfl _, rfl, hF⟩
theorem add9_W (g : Nat) (i v d : Int) (w : World) (h0 : 0 ≤ i) (h1 : i < 16) (hc : w.cell? ⟨g, i.toNat, none⟩ = some (.int .i64 v)) (hz : w.frozen? ⟨g, i.toNat, none⟩ = false) :
    CW Shun 9 #[.pointer (some ⟨g, 0, none⟩), .int .i64 i, .int .i64 d] w (fun r w' => r = .bool true ∧ AtRel (w.setCell ⟨g, i.toNat, none⟩ (.int .i64 (IntKind.i64.wrap (v + d)))) w') := by
  have T9 := termsP Shun
  refine callsW_enter Try.func9 (by kernel_rfl) rfl ?_
  simp only [Try.ntmps9]
  walk_nrm
  have hF := atRel_refl w
  have ad9 : (if i.toNat = 0 then (⟨g, 0, none⟩ : Addr) else ⟨g, i.toNat, none⟩) = ⟨g, i.toNat, none⟩ := by
    by_cases h : i.toNat = 0
    · rw [h]; rfl
    · exact if_neg h
  have evi0 := fun (w : World) => events_indexAt_array (P := Try.prog) (w := w) (es := #[]) 68 _ 16 ⟨g, 0, none⟩ .i64 i Try.underlying68 (by omega)
  (repeat (first | (refine codeW_seq T9 ?_) | (refine codeW_region T9 ?_; simp only [List.size_toArray, List.length_cons, List.length_nil, Nat.reduceAdd, Nat.zero_add, List.range, List.range.loop]) | (refine opsW_nil T9 ?_; simp only [Exit.then]) | (refine codeW_skip T9 ?_; simp only [Exit.then]) | ((first | refine codeW_cond T9 (t := true) rfl ?_ | refine codeW_cond T9 (t := false) rfl ?_); simp only [if_true, if_false, Bool.false_eq_true, ↓reduceIte]) | (refine opsW_unwanted T9 rfl (by rfl) ?_; try walk_nrm) | (refine opsW_cons rfl (by rfl) ?_; intro _ hR K hK; replace hF := atRel_trans _ _ _ hF hR; clear hR; have hs9 := atRel_size hF; go_simp; refine hK _ _ ⟨?_, ?_⟩; (· rw [listed_nil (by simp [go_sem, *])]; exact dp0_nil); clear hK K hs9; try walk_nrm) | (refine codeW_block T9 ?_)))
  co_apply opsW_call T9 rfl (by rfl) rfl
  · walk_nrm
    exact on30_W _ _ _ h0 h1
  rintro _ w' ⟨rfl, hF'⟩
  replace hF := atRel_trans _ _ _ hF hF'
  clear hF'
  walk_nrm
  (repeat (first | (refine codeW_seq T9 ?_) | (refine codeW_region T9 ?_; simp only [List.size_toArray, List.length_cons, List.length_nil, Nat.reduceAdd, Nat.zero_add, List.range, List.range.loop]) | (refine opsW_nil T9 ?_; simp only [Exit.then]) | (refine codeW_skip T9 ?_; simp only [Exit.then]) | ((first | refine codeW_cond T9 (t := true) rfl ?_ | refine codeW_cond T9 (t := false) rfl ?_); simp only [if_true, if_false, Bool.false_eq_true, ↓reduceIte]) | (refine opsW_unwanted T9 rfl (by rfl) ?_; try walk_nrm) | (refine opsW_cons rfl (by rfl) ?_; intro _ hR K hK; replace hF := atRel_trans _ _ _ hF hR; clear hR; have hs9 := atRel_size hF; go_simp; refine hK _ _ ⟨?_, ?_⟩; (· rw [listed_nil (by simp [go_sem, *])]; exact dp0_nil); clear hK K hs9; try walk_nrm) | (refine codeW_block T9 ?_)))
  co_apply opsW_call T9 rfl (by rfl) rfl
  · walk_nrm
    exact add31_W _ _ _ _ _ ((atRel_cell hF _).trans hc) ((atRel_frozen hF _).trans hz)
  rintro _ w' ⟨rfl, hF'⟩
  replace hF := atRel_trans _ _ _ (atRel_set hF _ _) hF'
  walk_nrm
  (repeat (first | (refine codeW_seq T9 ?_) | (refine codeW_region T9 ?_; simp only [List.size_toArray, List.length_cons, List.length_nil, Nat.reduceAdd, Nat.zero_add, List.range, List.range.loop]) | (refine opsW_nil T9 ?_; simp only [Exit.then]) | (refine codeW_skip T9 ?_; simp only [Exit.then]) | ((first | refine codeW_cond T9 (t := true) rfl ?_ | refine codeW_cond T9 (t := false) rfl ?_); simp only [if_true, if_false, Bool.false_eq_true, ↓reduceIte]) | (refine opsW_unwanted T9 rfl (by rfl) ?_; try walk_nrm) | (refine opsW_cons rfl (by rfl) ?_; intro _ hR K hK; replace hF := atRel_trans _ _ _ hF hR; clear hR; have hs9 := atRel_size hF; go_simp; refine hK _ _ ⟨?_, ?_⟩; (· rw [listed_nil (by simp [go_sem, *])]; exact dp0_nil); clear hK K hs9; try walk_nrm) | (refine codeW_block T9 ?_)))
  (refine codeW_ret T9 ?_)
  exact ⟨rfl, _, resultsC_tmp rfl _, rfl, hF⟩
end
end Go.Proofs.Ytkcknoodcgmndaa
