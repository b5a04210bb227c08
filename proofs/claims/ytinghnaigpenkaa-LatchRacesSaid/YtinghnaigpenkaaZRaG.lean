/- Seat 05: is a number among some (the document's word), by goroutine 0. -/
import Derived.Test.YtinghnaigpenkaaZLwU
namespace Go.Proofs.Ytinghnaigpenkaa
open Go.Conc Go.RowKit
set_option linter.unusedVariables false
set_option linter.unusedSimpArgs false
set_option maxRecDepth 100000
set_option maxHeartbeats 4000000













structure SlU (w : World) (A : Option Addr) (g o : Nat) (xs : List Int) : Prop where
  at_ : 0 < xs.length → A = some ⟨g, o, none⟩
  cell : ∀ q x, xs[q]? = some x → w.cell? ⟨g, o + q, none⟩ = some (.int .u64 x)
theorem SlU.at {w w' : World} {A : Option Addr} {g o : Nat} {xs : List Int} (h : SlU w A g o xs) (r : AtRel w w') : SlU w' A g o xs := ⟨h.at_, fun q x hx => (atRel_cell r _).trans (h.cell q x hx)⟩
theorem getq {xs : List Int} {q : Nat} (h : q < xs.length) : ∃ y, xs[q]? = some y := ⟨xs[q], List.getElem?_eq_getElem h⟩
section
variable {Shun : Loc → Prop}
theorem among_W {w : World} {A : Option Addr} {g o c : Nat} {xs : List Int} (h : SlU w A g o xs) (x : Int) (hS0 : ∀ o, ¬ Shun (.cell ⟨g, o, none⟩)) (hlen : xs.length ≤ 1000000) :
    CW Shun 20 #[.slice A xs.length c, .int .u64 x] w (fun r w' => r = .bool (decide (x ∈ xs)) ∧ AtRel w w') := by
  have T9 := termsP Shun
  refine callsW_enter Try.func20 (by kernel_rfl) rfl ?_
  simp only [Try.ntmps20]
  walk_nrm
  have hF := atRel_refl w
  generalize hn : xs.length = len
  replace hn : RowKit.Hid _ := hn
  (repeat (first | (refine codeW_seq T9 ?_) | (refine codeW_region T9 ?_; simp only [List.size_toArray, List.length_cons, List.length_nil, Nat.reduceAdd, Nat.zero_add, List.range, List.range.loop]) | (refine opsW_nil T9 ?_; simp only [Exit.then, Exit.inBlock]) | (refine codeW_skip T9 ?_; simp only [Exit.then, Exit.inBlock]) | ((first | refine codeW_cond T9 (t := true) rfl ?_ | refine codeW_cond T9 (t := false) rfl ?_); simp only [if_true, if_false, Bool.false_eq_true, ↓reduceIte]) | (refine opsW_unwanted T9 rfl (by rfl) ?_; try walk_nrm) | (refine opsW_cons rfl (by rfl) ?_; intro _ hR K hK; replace hF := atRel_trans _ _ _ hF hR; clear hR; have hs9 := atRel_size hF; go_simp; refine hK _ _ ⟨?_, ?_⟩; (· rw [listed_nil (by simp [go_sem, *])]; exact dp0_nil); clear hK K hs9; try walk_nrm) | (refine codeW_block T9 ?_)))
  refine codeW_loop T9 (fun a' w' => ∃ (i : Nat) (v2 v3 v4 v6 v7 v8 v9 v10 v11 v12 v13 v14 v15 v16 v17 : Value), a' = ⟨#[.slice A len c, .int .u64 x, v2, v3, v4, .int .i64 i, v6, v7, v8, v9, v10, v11, v12, v13, v14, v15, v16, v17], []⟩ ∧ i ≤ len ∧ AtRel w w' ∧ ∀ q, q < i → xs[q]? ≠ some x)
    (fun a _ => match a.tmps.getD 5 undef with | .int _ i => ((len : Int) - i).toNat | _ => 0) ⟨0, _, _, _, _, _, _, _, _, _, _, _, _, _, _, _, rfl, Nat.zero_le _, hF, fun q h => absurd h (by omega)⟩ ?_
  clear hF
  rintro _ w2 ⟨i, v2, v3, v4, v6, v7, v8, v9, v10, v11, v12, v13, v14, v15, v16, v17, rfl, hi, hF, hno⟩
  by_cases hl : i < len
  · have e9 : decide ((i : Int) < (len : Int)) = true := decide_eq_true (by omega)
    have q1 : (i : Int) < (len : Int) := by omega
    have hln := hn.out
    have hA := h.at_ (by omega)
    obtain ⟨y, hy⟩ := getq (xs := xs) (q := i) (by omega)
    have hcy := h.cell i y hy
    replace hy : RowKit.Hid _ := hy
    have hS := hS0 (o + i)
    have ad9 : (if i = 0 then (⟨g, o, none⟩ : Addr) else ⟨g, o + i, none⟩) = ⟨g, o + i, none⟩ := by
      by_cases h : i = 0
      · rw [h]; rfl
      · exact if_neg h
    have d7 : IntKind.i64.wrap ((i : Int) + 1) = (i : Int) + 1 := by rw [IntKind.wrap_i64]; omega
    clear hln
    replace hno : RowKit.Hid _ := hno
    (repeat (first | (refine codeW_seq T9 ?_) | (refine codeW_region T9 ?_; simp only [List.size_toArray, List.length_cons, List.length_nil, Nat.reduceAdd, Nat.zero_add, List.range, List.range.loop]) | (refine opsW_nil T9 ?_; simp only [Exit.then, Exit.inBlock]) | (refine codeW_skip T9 ?_; simp only [Exit.then, Exit.inBlock]) | ((first | refine codeW_cond T9 (t := true) rfl ?_ | refine codeW_cond T9 (t := false) rfl ?_); simp only [if_true, if_false, Bool.false_eq_true, ↓reduceIte]) | (refine opsW_unwanted T9 rfl (by rfl) ?_; try walk_nrm) | (refine opsW_cons rfl (by rfl) ?_; intro _ hR K hK; replace hF := atRel_trans _ _ _ hF hR; clear hR; have hs9 := atRel_size hF; go_simp; refine hK _ _ ⟨?_, ?_⟩; (· rw [listed_nil (by simp [go_sem, *])]; exact dp0_nil); clear hK K hs9; try walk_nrm) | (refine codeW_block T9 ?_)))
    have hc1 := hcy
    (refine opsW_cons rfl (by rfl) ?_; intro _ hR K hK; replace hF := atRel_trans _ _ _ hF hR; clear hR; have hl9 := (atRel_cell hF _).trans hc1; go_simp; refine hK _ _ ⟨?_, ?_⟩; (· intro e he; have hm := mem_listed he; simp [go_sem, hl9] at hm; rw [hm]; exact evP_cell _ hS); clear hK K hl9; try walk_nrm)
    clear hc1
    by_cases hxy : y = x
    · subst hxy
      (repeat (first | (refine codeW_seq T9 ?_) | (refine codeW_region T9 ?_; simp only [List.size_toArray, List.length_cons, List.length_nil, Nat.reduceAdd, Nat.zero_add, List.range, List.range.loop]) | (refine opsW_nil T9 ?_; simp only [Exit.then, Exit.inBlock]) | (refine codeW_skip T9 ?_; simp only [Exit.then, Exit.inBlock]) | ((first | refine codeW_cond T9 (t := true) rfl ?_ | refine codeW_cond T9 (t := false) rfl ?_); simp only [if_true, if_false, Bool.false_eq_true, ↓reduceIte]) | (refine opsW_unwanted T9 rfl (by rfl) ?_; try walk_nrm) | (refine opsW_cons rfl (by rfl) ?_; intro _ hR K hK; replace hF := atRel_trans _ _ _ hF hR; clear hR; have hs9 := atRel_size hF; go_simp; refine hK _ _ ⟨?_, ?_⟩; (· rw [listed_nil (by simp [go_sem, *])]; exact dp0_nil); clear hK K hs9; try walk_nrm) | (refine codeW_block T9 ?_)))
      (refine codeW_ret T9 ?_)
      exact ⟨rfl, _, resultsC_tmp (t := 4) rfl _, by rw [decide_eq_true (List.mem_of_getElem? hy.out)]; rfl, hF⟩
    · have e8 : (y == x) = false := by simpa using hxy
      replace hxy : RowKit.Hid _ := hxy
      (repeat (first | (refine codeW_seq T9 ?_) | (refine codeW_region T9 ?_; simp only [List.size_toArray, List.length_cons, List.length_nil, Nat.reduceAdd, Nat.zero_add, List.range, List.range.loop]) | (refine opsW_nil T9 ?_; simp only [Exit.then, Exit.inBlock]) | (refine codeW_skip T9 ?_; simp only [Exit.then, Exit.inBlock]) | ((first | refine codeW_cond T9 (t := true) rfl ?_ | refine codeW_cond T9 (t := false) rfl ?_); simp only [if_true, if_false, Bool.false_eq_true, ↓reduceIte]) | (refine opsW_unwanted T9 rfl (by rfl) ?_; try walk_nrm) | (refine opsW_cons rfl (by rfl) ?_; intro _ hR K hK; replace hF := atRel_trans _ _ _ hF hR; clear hR; have hs9 := atRel_size hF; go_simp; refine hK _ _ ⟨?_, ?_⟩; (· rw [listed_nil (by simp [go_sem, *])]; exact dp0_nil); clear hK K hs9; try walk_nrm) | (refine codeW_block T9 ?_)))
      refine ⟨⟨i + 1, _, _, _, _, _, _, _, _, _, _, _, _, _, _, _, by rw [hA]; rfl, by omega, hF, fun q hq => ?_⟩, ?_⟩
      · by_cases hqi : q < i
        · exact hno.out q hqi
        · obtain rfl : q = i := by omega
          rw [hy.out]
          exact fun e => hxy.out (by injection e)
      · simp
        omega
  · have e9 : decide ((i : Int) < (len : Int)) = false := decide_eq_false (by omega)
    (repeat (first | (refine codeW_seq T9 ?_) | (refine codeW_region T9 ?_; simp only [List.size_toArray, List.length_cons, List.length_nil, Nat.reduceAdd, Nat.zero_add, List.range, List.range.loop]) | (refine opsW_nil T9 ?_; simp only [Exit.then, Exit.inBlock]) | (refine codeW_skip T9 ?_; simp only [Exit.then, Exit.inBlock]) | ((first | refine codeW_cond T9 (t := true) rfl ?_ | refine codeW_cond T9 (t := false) rfl ?_); simp only [if_true, if_false, Bool.false_eq_true, ↓reduceIte]) | (refine opsW_unwanted T9 rfl (by rfl) ?_; try walk_nrm) | (refine opsW_cons rfl (by rfl) ?_; intro _ hR K hK; replace hF := atRel_trans _ _ _ hF hR; clear hR; have hs9 := atRel_size hF; go_simp; refine hK _ _ ⟨?_, ?_⟩; (· rw [listed_nil (by simp [go_sem, *])]; exact dp0_nil); clear hK K hs9; try walk_nrm) | (refine codeW_block T9 ?_)))
    (refine codeW_exit T9 ?_; simp only [Exit.then, Exit.inBlock, Exit.thenX, if_true, if_false, reduceIte, Nat.reduceEqDiff])
    (repeat (first | (refine codeW_seq T9 ?_) | (refine codeW_region T9 ?_; simp only [List.size_toArray, List.length_cons, List.length_nil, Nat.reduceAdd, Nat.zero_add, List.range, List.range.loop]) | (refine opsW_nil T9 ?_; simp only [Exit.then, Exit.inBlock]) | (refine codeW_skip T9 ?_; simp only [Exit.then, Exit.inBlock]) | ((first | refine codeW_cond T9 (t := true) rfl ?_ | refine codeW_cond T9 (t := false) rfl ?_); simp only [if_true, if_false, Bool.false_eq_true, ↓reduceIte]) | (refine opsW_unwanted T9 rfl (by rfl) ?_; try walk_nrm) | (refine opsW_cons rfl (by rfl) ?_; intro _ hR K hK; replace hF := atRel_trans _ _ _ hF hR; clear hR; have hs9 := atRel_size hF; go_simp; refine hK _ _ ⟨?_, ?_⟩; (· rw [listed_nil (by simp [go_sem, *])]; exact dp0_nil); clear hK K hs9; try walk_nrm) | (refine codeW_block T9 ?_)))
    (refine codeW_ret T9 ?_)
    refine ⟨rfl, _, resultsC_tmp (t := 4) rfl _, ?_, hF⟩
    rw [decide_eq_false fun hm => ?_]
    · rfl
    · obtain ⟨q, hq, e⟩ := List.getElem_of_mem hm
      have := hn.out
      exact hno q (by omega) (by rw [List.getElem?_eq_getElem hq, e])
end
end Go.Proofs.Ytinghnaigpenkaa
