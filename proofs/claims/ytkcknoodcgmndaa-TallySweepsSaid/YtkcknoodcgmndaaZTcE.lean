/- tally's marks: Count. -/
import Derived.Test.YtkcknoodcgmndaaZTcD
namespace Go.Proofs.Ytkcknoodcgmndaa
open Go.Conc Go.RowKit
open Go.ConcN (sumTo)
set_option linter.unusedVariables false
set_option linter.unusedSimpArgs false
set_option maxRecDepth 100000
set_option maxHeartbeats 4000000














theorem sumPc_le {f : Nat → Nat} (h : ∀ j, f j ≤ 64) : ∀ j, sumTo j f ≤ 64 * j
  | 0 => by simp [sumTo]
  | j + 1 => by
    have := sumPc_le h j
    have := h j
    simp only [sumTo]
    omega
section
variable {Shun : Loc → Prop}
theorem count28_W (Mb Wb c : Nat) (ws : List Nat) (pc : Nat → Nat) (w : World) (hc1 : w.cell? ⟨Mb, 1, none⟩ = some (.slice (some ⟨Wb, 0, none⟩) ws.length c)) (hS : ∀ o, ¬ Shun (.cell ⟨Mb, o, none⟩))
    (hw : ∀ j x, ws[j]? = some x → w.cell? ⟨Wb, j, none⟩ = some (.int .u64 (x : Nat))) (hl : ws.length ≤ 100000) (hp : ∀ v, pc v ≤ 64)
    (ho : ∀ v ∈ ws, ∀ w, CW Shun 46 #[.int .u64 v] w (fun r w' => r = .int .i64 (pc v) ∧ AtRel w w')) :
    CW Shun 28 #[.pointer (some ⟨Mb, 0, none⟩)] w (fun r w' => r = .int .i64 (sumTo ws.length (fun j => pc (ws.getD j 0)) : Nat) ∧ AtRel w w') := by
  have T9 := termsP Shun
  refine callsW_enter Try.func28 (by kernel_rfl) rfl ?_
  simp only [Try.ntmps28]
  walk_nrm
  have hF := atRel_refl w
  (repeat (first | (refine codeW_seq T9 ?_) | (refine codeW_region T9 ?_; simp only [List.size_toArray, List.length_cons, List.length_nil, Nat.reduceAdd, Nat.zero_add, List.range, List.range.loop]) | (refine opsW_nil T9 ?_; simp only [Exit.then]) | (refine codeW_skip T9 ?_; simp only [Exit.then]) | ((first | refine codeW_cond T9 (t := true) rfl ?_ | refine codeW_cond T9 (t := false) rfl ?_); simp only [if_true, if_false, Bool.false_eq_true, ↓reduceIte]) | (refine opsW_unwanted T9 rfl (by rfl) ?_; try walk_nrm) | (refine opsW_cons rfl (by rfl) ?_; intro _ hR K hK; replace hF := atRel_trans _ _ _ hF hR; clear hR; have hs9 := atRel_size hF; go_simp; refine hK _ _ ⟨?_, ?_⟩; (· rw [listed_nil (by simp [go_sem, *])]; exact dp0_nil); clear hK K hs9; try walk_nrm) | (refine codeW_block T9 ?_)))
  co_apply opsW_call T9 rfl (by rfl) rfl
  · walk_nrm
    exact words45_W _ _ _ _ _ ((atRel_cell hF _).trans hc1) hS
  rintro _ w' ⟨rfl, hF'⟩
  replace hF := atRel_trans _ _ _ hF hF'
  clear hF'
  walk_nrm
  (repeat (first | (refine codeW_seq T9 ?_) | (refine codeW_region T9 ?_; simp only [List.size_toArray, List.length_cons, List.length_nil, Nat.reduceAdd, Nat.zero_add, List.range, List.range.loop]) | (refine opsW_nil T9 ?_; simp only [Exit.then]) | (refine codeW_skip T9 ?_; simp only [Exit.then]) | ((first | refine codeW_cond T9 (t := true) rfl ?_ | refine codeW_cond T9 (t := false) rfl ?_); simp only [if_true, if_false, Bool.false_eq_true, ↓reduceIte]) | (refine opsW_unwanted T9 rfl (by rfl) ?_; try walk_nrm) | (refine opsW_cons rfl (by rfl) ?_; intro _ hR K hK; replace hF := atRel_trans _ _ _ hF hR; clear hR; have hs9 := atRel_size hF; go_simp; refine hK _ _ ⟨?_, ?_⟩; (· rw [listed_nil (by simp [go_sem, *])]; exact dp0_nil); clear hK K hs9; try walk_nrm) | (refine codeW_block T9 ?_)))
  generalize hf : (fun j => pc (ws.getD j 0)) = f
  have hf9 : ∀ j, f j ≤ 64 := fun j => by rw [← hf]; exact hp _
  refine codeW_loop T9 (fun a' w' => ∃ (j : Nat) (v4 v8 v9 v10 v11 v12 v13 v14 v15 v16 v17 v18 v19 v20 v21 : Value), j ≤ ws.length ∧ a' = ⟨#[.pointer (some ⟨Mb, 0, none⟩), undef, .int .i64 0, .int .i64 ((sumTo j f : Nat) : Int), v4, .pointer (some ⟨Mb, 0, none⟩), .int .i64 (ws.length : Int), .int .i64 (j : Int), v8, v9, v10, v11, v12, v13, v14, v15, v16, v17, v18, v19, v20, v21], []⟩ ∧ AtRel w w')
    (fun a _ => match a.tmps.getD 7 undef with | .int _ i => ((ws.length : Int) - i).toNat | _ => 0) ⟨0, _, _, _, _, _, _, _, _, _, _, _, _, _, _, _, Nat.zero_le _, rfl, hF⟩ ?_
  clear hF
  rintro _ w2 ⟨j, v4, v8, v9, v10, v11, v12, v13, v14, v15, v16, v17, v18, v19, v20, v21, hj, rfl, hF⟩
  by_cases h : j < ws.length
  · have e9 : decide ((j : Int) < (ws.length : Int)) = true := decide_eq_true (by omega)
    have q1 : (j : Int) < (ws.length : Int) := by omega
    have ad9 : (if j = 0 then (⟨Wb, 0, none⟩ : Addr) else ⟨Wb, j, none⟩) = ⟨Wb, j, none⟩ := by
      by_cases h : j = 0
      · subst h; rfl
      · exact if_neg h
    have s1 := sumPc_le hf9 j
    have s2 := hf9 j
    have d7 : IntKind.i64.wrap ((j : Int) + 1) = (j : Int) + 1 := by rw [IntKind.wrap_i64]; omega
    have d6 : IntKind.i64.wrap (((sumTo j f : Nat) : Int) + ((f j : Nat) : Int)) = ((sumTo (j + 1) f : Nat) : Int) := by
      rw [IntKind.wrap_i64]
      simp only [sumTo]
      omega
    obtain ⟨x, hx⟩ : ∃ x, RowKit.Hid (ws[j]? = some x) := ⟨ws[j], List.getElem?_eq_getElem h⟩
    have hfj : f j = pc x := by
      rw [← hf]
      show pc (ws.getD j 0) = pc x
      rw [List.getD_eq_getElem?_getD, hx.out]
      rfl
    have hcx := hw j x hx.out
    have hox := ho x (List.mem_of_getElem? hx.out)
    rw [hfj] at d6
    clear s1 s2 hfj hw ho
    (repeat (first | (refine codeW_seq T9 ?_) | (refine codeW_region T9 ?_; simp only [List.size_toArray, List.length_cons, List.length_nil, Nat.reduceAdd, Nat.zero_add, List.range, List.range.loop]) | (refine opsW_nil T9 ?_; simp only [Exit.then]) | (refine codeW_skip T9 ?_; simp only [Exit.then]) | ((first | refine codeW_cond T9 (t := true) rfl ?_ | refine codeW_cond T9 (t := false) rfl ?_); simp only [if_true, if_false, Bool.false_eq_true, ↓reduceIte]) | (refine opsW_unwanted T9 rfl (by rfl) ?_; try walk_nrm) | (refine opsW_cons rfl (by rfl) ?_; intro _ hR K hK; replace hF := atRel_trans _ _ _ hF hR; clear hR; have hs9 := atRel_size hF; go_simp; refine hK _ _ ⟨?_, ?_⟩; (· rw [listed_nil (by simp [go_sem, *])]; exact dp0_nil); clear hK K hs9; try walk_nrm) | (refine codeW_block T9 ?_)))
    (refine opsW_cons rfl (by rfl) ?_; intro _ hR K hK; replace hF := atRel_trans _ _ _ hF hR; clear hR; have hl9 := (atRel_cell hF _).trans hc1; go_simp; refine hK _ _ ⟨?_, ?_⟩; (· intro e he; have hm := mem_listed he; simp [go_sem, hl9] at hm; rw [hm]; exact evP_cell _ (hS _)); clear hK K hl9; try walk_nrm)
    (repeat (first | (refine codeW_seq T9 ?_) | (refine codeW_region T9 ?_; simp only [List.size_toArray, List.length_cons, List.length_nil, Nat.reduceAdd, Nat.zero_add, List.range, List.range.loop]) | (refine opsW_nil T9 ?_; simp only [Exit.then]) | (refine codeW_skip T9 ?_; simp only [Exit.then]) | ((first | refine codeW_cond T9 (t := true) rfl ?_ | refine codeW_cond T9 (t := false) rfl ?_); simp only [if_true, if_false, Bool.false_eq_true, ↓reduceIte]) | (refine opsW_unwanted T9 rfl (by rfl) ?_; try walk_nrm) | (refine opsW_cons rfl (by rfl) ?_; intro _ hR K hK; replace hF := atRel_trans _ _ _ hF hR; clear hR; have hs9 := atRel_size hF; go_simp; refine hK _ _ ⟨?_, ?_⟩; (· rw [listed_nil (by simp [go_sem, *])]; exact dp0_nil); clear hK K hs9; try walk_nrm) | (refine codeW_block T9 ?_)))
    co_apply opsW_call T9 rfl (by rfl) rfl
    · walk_nrm
      exact load42_W _ _ _ _ ((atRel_cell hF _).trans hcx)
    rintro _ w3 ⟨rfl, hF'⟩
    replace hF := atRel_trans _ _ _ hF hF'
    clear hF'
    walk_nrm
    co_apply opsW_call T9 rfl (by rfl) rfl
    · walk_nrm
      exact hox _
    rintro _ w4 ⟨rfl, hF'⟩
    replace hF := atRel_trans _ _ _ hF hF'
    clear hF'
    walk_nrm
    repeat (refine opsW_cons rfl (by rfl) ?_; intro _ hR K hK; replace hF := atRel_trans _ _ _ hF hR; clear hR; have hs9 := atRel_size hF; go_simp; refine hK _ _ ⟨?_, ?_⟩; (· rw [listed_nil (by simp [go_sem, *])]; exact dp0_nil); clear hK K hs9; try walk_nrm)
    (refine opsW_nil T9 ?_; simp only [Exit.then, Exit.inBlock])
    (repeat (first | (refine codeW_seq T9 ?_) | (refine codeW_region T9 ?_; simp only [List.size_toArray, List.length_cons, List.length_nil, Nat.reduceAdd, Nat.zero_add, List.range, List.range.loop]) | (refine opsW_nil T9 ?_; simp only [Exit.then]) | (refine codeW_skip T9 ?_; simp only [Exit.then]) | ((first | refine codeW_cond T9 (t := true) rfl ?_ | refine codeW_cond T9 (t := false) rfl ?_); simp only [if_true, if_false, Bool.false_eq_true, ↓reduceIte]) | (refine opsW_unwanted T9 rfl (by rfl) ?_; try walk_nrm) | (refine opsW_cons rfl (by rfl) ?_; intro _ hR K hK; replace hF := atRel_trans _ _ _ hF hR; clear hR; have hs9 := atRel_size hF; go_simp; refine hK _ _ ⟨?_, ?_⟩; (· rw [listed_nil (by simp [go_sem, *])]; exact dp0_nil); clear hK K hs9; try walk_nrm) | (refine codeW_block T9 ?_)))
    refine ⟨⟨j + 1, _, _, _, _, _, _, _, _, _, _, _, _, _, _, _, by omega, rfl, hF⟩, ?_⟩
    simp
    omega
  · have e9 : decide ((j : Int) < (ws.length : Int)) = false := decide_eq_false (by omega)
    obtain rfl : j = ws.length := by omega
    (repeat (first | (refine codeW_seq T9 ?_) | (refine codeW_region T9 ?_; simp only [List.size_toArray, List.length_cons, List.length_nil, Nat.reduceAdd, Nat.zero_add, List.range, List.range.loop]) | (refine opsW_nil T9 ?_; simp only [Exit.then]) | (refine codeW_skip T9 ?_; simp only [Exit.then]) | ((first | refine codeW_cond T9 (t := true) rfl ?_ | refine codeW_cond T9 (t := false) rfl ?_); simp only [if_true, if_false, Bool.false_eq_true, ↓reduceIte]) | (refine opsW_unwanted T9 rfl (by rfl) ?_; try walk_nrm) | (refine opsW_cons rfl (by rfl) ?_; intro _ hR K hK; replace hF := atRel_trans _ _ _ hF hR; clear hR; have hs9 := atRel_size hF; go_simp; refine hK _ _ ⟨?_, ?_⟩; (· rw [listed_nil (by simp [go_sem, *])]; exact dp0_nil); clear hK K hs9; try walk_nrm) | (refine codeW_block T9 ?_)))
    (refine codeW_exit T9 ?_; simp only [Exit.then, Exit.inBlock, if_true, if_false, reduceIte, Nat.reduceEqDiff])
    (repeat (first | (refine codeW_seq T9 ?_) | (refine codeW_region T9 ?_; simp only [List.size_toArray, List.length_cons, List.length_nil, Nat.reduceAdd, Nat.zero_add, List.range, List.range.loop]) | (refine opsW_nil T9 ?_; simp only [Exit.then]) | (refine codeW_skip T9 ?_; simp only [Exit.then]) | ((first | refine codeW_cond T9 (t := true) rfl ?_ | refine codeW_cond T9 (t := false) rfl ?_); simp only [if_true, if_false, Bool.false_eq_true, ↓reduceIte]) | (refine opsW_unwanted T9 rfl (by rfl) ?_; try walk_nrm) | (refine opsW_cons rfl (by rfl) ?_; intro _ hR K hK; replace hF := atRel_trans _ _ _ hF hR; clear hR; have hs9 := atRel_size hF; go_simp; refine hK _ _ ⟨?_, ?_⟩; (· rw [listed_nil (by simp [go_sem, *])]; exact dp0_nil); clear hK K hs9; try walk_nrm) | (refine codeW_block T9 ?_)))
    (refine codeW_ret T9 ?_)
    exact ⟨rfl, _, resultsC_tmp rfl _, rfl, hF⟩
end
end Go.Proofs.Ytkcknoodcgmndaa
