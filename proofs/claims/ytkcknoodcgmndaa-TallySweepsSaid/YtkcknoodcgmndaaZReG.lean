/- The document's lists of numbers: With, called. -/
import Derived.Test.YtkcknoodcgmndaaZReF
namespace Go.Proofs.Ytkcknoodcgmndaa
open Go.Conc Go.RowKit
set_option linter.unusedVariables false
set_option linter.unusedSimpArgs false
set_option maxRecDepth 100000
set_option maxHeartbeats 4000000














section
variable {Shun : Loc → Prop}
theorem with15_W {w : World} {A : Option Addr} {g c : Nat} {xs : List Int} (x : Int) (h : SlI w A g xs) (hA : (A = none ∧ c = 0 ∧ xs = []) ∨ A = some ⟨g, 0, none⟩) (hlc : xs.length ≤ c) (hg : 0 < xs.length → g < w.heap.size)
    (hS0 : ∀ a : Addr, a.block = g → ¬ Shun (.cell a)) (hSn : ∀ a : Addr, w.heap.size ≤ a.block → ¬ Shun (.cell a)) (hlen : xs.length ≤ 100000) :
    CW Shun 15 #[.slice A xs.length c, .int .i64 x] w (fun v w' => (x ∈ xs ∧ v = .slice A xs.length c ∧ AtRel w w') ∨ (x ∉ xs ∧ WithOut w x xs v w')) := by
  have T9 := termsP Shun
  refine callsW_enter Try.func15 (by kernel_rfl) rfl ?_
  simp only [Try.ntmps15]
  walk_nrm
  have hF := atRel_refl w
  (refine codeW_seq T9 ?_)
  (refine codeW_region T9 ?_; simp only [List.size_toArray, List.length_cons, List.length_nil, Nat.reduceAdd, Nat.zero_add, List.range, List.range.loop])
  (refine opsW_cons rfl (by rfl) ?_; intro _ hR K hK; replace hF := atRel_trans _ _ _ hF hR; clear hR; have hs9 := atRel_size hF; go_simp; refine hK _ _ ⟨?_, ?_⟩; (· rw [listed_nil (by simp [go_sem, *])]; exact dp0_nil); clear hK K hs9; try walk_nrm)
  (refine opsW_nil T9 ?_; simp only [Exit.then, Exit.inBlock])
  (refine codeW_seq T9 ?_)
  (refine codeW_seq T9 ?_)
  (refine codeW_region T9 ?_; simp only [List.size_toArray, List.length_cons, List.length_nil, Nat.reduceAdd, Nat.zero_add, List.range, List.range.loop])
  (refine opsW_cons rfl (by rfl) ?_; intro _ hR K hK; replace hF := atRel_trans _ _ _ hF hR; clear hR; have hs9 := atRel_size hF; go_simp; refine hK _ _ ⟨?_, ?_⟩; (· rw [listed_nil (by simp [go_sem, *])]; exact dp0_nil); clear hK K hs9; try walk_nrm)
  (refine opsW_cons rfl (by rfl) ?_; intro _ hR K hK; replace hF := atRel_trans _ _ _ hF hR; clear hR; have hs9 := atRel_size hF; go_simp; refine hK _ _ ⟨?_, ?_⟩; (· rw [listed_nil (by simp [go_sem, *])]; exact dp0_nil); clear hK K hs9; try walk_nrm)
  co_apply opsW_call T9 rfl (by rfl) rfl
  · walk_nrm
    exact has24_W (h.at hF) x (fun o => hS0 _ rfl) (by omega)
  rintro _ w' ⟨rfl, hF'⟩
  replace hF := atRel_trans _ _ _ hF hF'
  clear hF'
  walk_nrm
  (refine opsW_nil T9 ?_; simp only [Exit.then, Exit.inBlock])
  by_cases hx : x ∈ xs
  · rw [decide_eq_true hx]
    ((first | refine codeW_cond T9 (t := true) rfl ?_ | refine codeW_cond T9 (t := false) rfl ?_); simp only [if_true, if_false, Bool.false_eq_true, ↓reduceIte])
    (repeat (first | (refine codeW_seq T9 ?_) | (refine codeW_region T9 ?_; simp only [List.size_toArray, List.length_cons, List.length_nil, Nat.reduceAdd, Nat.zero_add, List.range, List.range.loop]) | (refine opsW_nil T9 ?_; simp only [Exit.then, Exit.inBlock]) | (refine codeW_skip T9 ?_; simp only [Exit.then, Exit.inBlock]) | ((first | refine codeW_cond T9 (t := true) rfl ?_ | refine codeW_cond T9 (t := false) rfl ?_); simp only [if_true, if_false, Bool.false_eq_true, ↓reduceIte]) | (refine opsW_unwanted T9 rfl (by rfl) ?_; try walk_nrm) | (refine opsW_cons rfl (by rfl) ?_; intro _ hR K hK; replace hF := atRel_trans _ _ _ hF hR; clear hR; have hs9 := atRel_size hF; go_simp; refine hK _ _ ⟨?_, ?_⟩; (· rw [listed_nil (by simp [go_sem, *])]; exact dp0_nil); clear hK K hs9; try walk_nrm) | (refine codeW_block T9 ?_)))
    (refine codeW_ret T9 ?_)
    exact ⟨rfl, _, resultsC_tmp (t := 4) rfl _, .inl ⟨hx, rfl, hF⟩⟩
  rw [decide_eq_false hx]
  ((first | refine codeW_cond T9 (t := true) rfl ?_ | refine codeW_cond T9 (t := false) rfl ?_); simp only [if_true, if_false, Bool.false_eq_true, ↓reduceIte])
  (refine codeW_skip T9 ?_; simp only [Exit.then, Exit.inBlock])
  generalize hn : xs.length = len
  replace hn : RowKit.Hid _ := hn
  replace hx : RowKit.Hid _ := hx
  (refine codeW_seq T9 ?_)
  (refine codeW_region T9 ?_; simp only [List.size_toArray, List.length_cons, List.length_nil, Nat.reduceAdd, Nat.zero_add, List.range, List.range.loop])
  (refine opsW_cons rfl (by rfl) ?_; intro _ hR K hK; replace hF := atRel_trans _ _ _ hF hR; clear hR; have hs9 := atRel_size hF; go_simp; refine hK _ _ ⟨?_, ?_⟩; (· rw [listed_nil (by simp [go_sem, *])]; exact dp0_nil); clear hK K hs9; try walk_nrm)
  (refine opsW_nil T9 ?_; simp only [Exit.then, Exit.inBlock])
  (refine codeW_seq T9 ?_)
  (refine codeW_block T9 ?_)
  have key : ∀ e a w2, (bodyPostC Try.prog Try.f15 (fun v w' => WithOut w x xs v w')) e a w2 → (bodyPostC Try.prog Try.f15 (fun v w' => (x ∈ xs ∧ v = .slice A len c ∧ AtRel w w') ∨ (x ∉ xs ∧ WithOut w x xs v w'))) e a w2 := by
    intro e a w2 q
    cases e <;> first | exact ⟨q.1, q.2.choose, q.2.choose_spec.1, .inr ⟨hx.out, q.2.choose_spec.2⟩⟩ | exact q
  replace key : RowKit.Hid _ := key
  refine codeW_loop T9 (fun a' w' => ∃ (i : Nat) (v2 v3 v4 v6 v7 v8 v9 v10 v11 v12 v13 v14 v15 v16 v17 v18 v19 v20 v21 v22 v23 v24 v25 v26 v27 v28 v29 v30 v31 v32 v33 v34 v35 v36 : Value), a' = ⟨#[.slice A len c, .int .i64 x, v2, v3, v4, .int .i64 i, v6, v7, v8, v9, v10, v11, v12, v13, v14, v15, v16, v17, v18, v19, v20, v21, v22, v23, v24, v25, v26, v27, v28, v29, v30, v31, v32, v33, v34, v35, v36], []⟩ ∧ i ≤ len ∧ AtRel w w' ∧ ∀ q y, q < i → xs[q]? = some y → y < x)
    (fun a _ => match a.tmps.getD 5 undef with | .int _ i => ((len : Int) - i).toNat | _ => 0) ⟨0, _, _, _, _, _, _, _, _, _, _, _, _, _, _, _, _, _, _, _, _, _, _, _, _, _, _, _, _, _, _, _, _, _, _, rfl, Nat.zero_le _, hF, fun q y h => absurd h (by omega)⟩ ?_
  clear hF
  rintro _ w2 ⟨i, v2, v3, v4, v6, v7, v8, v9, v10, v11, v12, v13, v14, v15, v16, v17, v18, v19, v20, v21, v22, v23, v24, v25, v26, v27, v28, v29, v30, v31, v32, v33, v34, v35, v36, rfl, hi, hF, hlt⟩
  by_cases hl : i < len
  · have e9 : decide ((i : Int) < (len : Int)) = true := decide_eq_true (by omega)
    have q1 : (i : Int) < (len : Int) := by omega
    have hln := hn.out
    have hA2 := h.at_ (by omega)
    obtain ⟨y, hy⟩ := getq (xs := xs) (q := i) (by omega)
    have hcy := h.cell i y hy
    replace hy : RowKit.Hid _ := hy
    have hS := hS0 ⟨g, i, none⟩ rfl
    have ad9 : (if i = 0 then (⟨g, 0, none⟩ : Addr) else ⟨g, i, none⟩) = ⟨g, i, none⟩ := by
      by_cases h : i = 0
      · rw [h]; rfl
      · exact if_neg h
    have d7 : IntKind.i64.wrap ((i : Int) + 1) = (i : Int) + 1 := by rw [IntKind.wrap_i64]; omega
    clear hln
    replace hlt : RowKit.Hid _ := hlt
    replace hA : RowKit.Hid _ := hA
    (refine codeW_seq T9 ?_)
    (refine codeW_seq T9 ?_)
    (refine codeW_region T9 ?_; simp only [List.size_toArray, List.length_cons, List.length_nil, Nat.reduceAdd, Nat.zero_add, List.range, List.range.loop])
    repeat (first | (refine opsW_unwanted T9 rfl (by rfl) ?_; try walk_nrm) | (refine opsW_cons rfl (by rfl) ?_; intro _ hR K hK; replace hF := atRel_trans _ _ _ hF hR; clear hR; have hs9 := atRel_size hF; go_simp; refine hK _ _ ⟨?_, ?_⟩; (· rw [listed_nil (by simp [go_sem, *])]; exact dp0_nil); clear hK K hs9; try walk_nrm))
    have hc1 := hcy
    (refine opsW_cons rfl (by rfl) ?_; intro _ hR K hK; replace hF := atRel_trans _ _ _ hF hR; clear hR; have hl9 := (atRel_cell hF _).trans hc1; go_simp; refine hK _ _ ⟨?_, ?_⟩; (· intro e he; have hm := mem_listed he; simp [go_sem, hl9] at hm; rw [hm]; exact evP_cell _ hS); clear hK K hl9; try walk_nrm)
    clear hc1
    by_cases hxy : y < x
    · have e8 : decide (y < x) = true := decide_eq_true hxy
      replace hxy : RowKit.Hid _ := hxy
      (repeat (first | (refine codeW_seq T9 ?_) | (refine codeW_region T9 ?_; simp only [List.size_toArray, List.length_cons, List.length_nil, Nat.reduceAdd, Nat.zero_add, List.range, List.range.loop]) | (refine opsW_nil T9 ?_; simp only [Exit.then, Exit.inBlock]) | (refine codeW_skip T9 ?_; simp only [Exit.then, Exit.inBlock]) | ((first | refine codeW_cond T9 (t := true) rfl ?_ | refine codeW_cond T9 (t := false) rfl ?_); simp only [if_true, if_false, Bool.false_eq_true, ↓reduceIte]) | (refine opsW_unwanted T9 rfl (by rfl) ?_; try walk_nrm) | (refine opsW_cons rfl (by rfl) ?_; intro _ hR K hK; replace hF := atRel_trans _ _ _ hF hR; clear hR; have hs9 := atRel_size hF; go_simp; refine hK _ _ ⟨?_, ?_⟩; (· rw [listed_nil (by simp [go_sem, *])]; exact dp0_nil); clear hK K hs9; try walk_nrm) | (refine codeW_block T9 ?_)))
      refine ⟨⟨i + 1, _, _, _, _, _, _, _, _, _, _, _, _, _, _, _, _, _, _, _, _, _, _, _, _, _, _, _, _, _, _, _, _, _, _, by rw [hA2]; rfl, by omega, hF, fun q z hq hz => ?_⟩, ?_⟩
      · by_cases hqi : q < i
        · exact hlt.out q z hqi hz
        · obtain rfl : q = i := by omega
          rw [hy.out] at hz
          injection hz with hz
          rw [← hz]
          exact hxy.out
      · simp
        omega
    · have e8 : decide (y < x) = false := decide_eq_false hxy
      replace hxy : RowKit.Hid _ := hxy
      (repeat (first | (refine codeW_seq T9 ?_) | (refine codeW_region T9 ?_; simp only [List.size_toArray, List.length_cons, List.length_nil, Nat.reduceAdd, Nat.zero_add, List.range, List.range.loop]) | (refine opsW_nil T9 ?_; simp only [Exit.then, Exit.inBlock]) | (refine codeW_skip T9 ?_; simp only [Exit.then, Exit.inBlock]) | ((first | refine codeW_cond T9 (t := true) rfl ?_ | refine codeW_cond T9 (t := false) rfl ?_); simp only [if_true, if_false, Bool.false_eq_true, ↓reduceIte]) | (refine opsW_unwanted T9 rfl (by rfl) ?_; try walk_nrm) | (refine opsW_cons rfl (by rfl) ?_; intro _ hR K hK; replace hF := atRel_trans _ _ _ hF hR; clear hR; have hs9 := atRel_size hF; go_simp; refine hK _ _ ⟨?_, ?_⟩; (· rw [listed_nil (by simp [go_sem, *])]; exact dp0_nil); clear hK K hs9; try walk_nrm) | (refine codeW_block T9 ?_)))
      (refine codeW_exit T9 ?_; simp only [Exit.then, Exit.inBlock, Exit.thenX, if_true, if_false, reduceIte, Nat.reduceEqDiff])
      obtain rfl := hn.out
      rw [← hA2]
      refine codeW_mono (tail15_W (by kernel_rfl) x h hA.out hlc hg hS0 hSn hlen (by omega) hF hlt.out (fun z hz => ?_)) key.out
      rw [hy.out] at hz
      injection hz with hz
      have h8 : ¬ y < x := hxy.out
      omega
  · have e9 : decide ((i : Int) < (len : Int)) = false := decide_eq_false (by omega)
    replace hlt : RowKit.Hid _ := hlt
    replace hA : RowKit.Hid _ := hA
    (repeat (first | (refine codeW_seq T9 ?_) | (refine codeW_region T9 ?_; simp only [List.size_toArray, List.length_cons, List.length_nil, Nat.reduceAdd, Nat.zero_add, List.range, List.range.loop]) | (refine opsW_nil T9 ?_; simp only [Exit.then, Exit.inBlock]) | (refine codeW_skip T9 ?_; simp only [Exit.then, Exit.inBlock]) | ((first | refine codeW_cond T9 (t := true) rfl ?_ | refine codeW_cond T9 (t := false) rfl ?_); simp only [if_true, if_false, Bool.false_eq_true, ↓reduceIte]) | (refine opsW_unwanted T9 rfl (by rfl) ?_; try walk_nrm) | (refine opsW_cons rfl (by rfl) ?_; intro _ hR K hK; replace hF := atRel_trans _ _ _ hF hR; clear hR; have hs9 := atRel_size hF; go_simp; refine hK _ _ ⟨?_, ?_⟩; (· rw [listed_nil (by simp [go_sem, *])]; exact dp0_nil); clear hK K hs9; try walk_nrm) | (refine codeW_block T9 ?_)))
    (refine codeW_exit T9 ?_; simp only [Exit.then, Exit.inBlock, Exit.thenX, if_true, if_false, reduceIte, Nat.reduceEqDiff])
    obtain rfl := hn.out
    refine codeW_mono (tail15_W (by kernel_rfl) x h hA.out hlc hg hS0 hSn hlen hi hF hlt.out (fun z hz => ?_)) key.out
    have := (List.getElem?_eq_some_iff.1 hz).1
    omega
end
end Go.Proofs.Ytkcknoodcgmndaa
