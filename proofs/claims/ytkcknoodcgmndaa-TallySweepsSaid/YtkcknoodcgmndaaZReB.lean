/- The document's lists of numbers: Same. -/
import Derived.Test.YtkcknoodcgmndaaZReA
namespace Go.Proofs.Ytkcknoodcgmndaa
open Go.Conc Go.RowKit
set_option linter.unusedVariables false
set_option linter.unusedSimpArgs false
set_option maxRecDepth 100000
set_option maxHeartbeats 4000000














section
variable {Shun : Loc → Prop}
theorem same17_W {w : World} {A B : Option Addr} {g g2 c c2 : Nat} {xs ys : List Int} (h : SlI w A g xs) (h2 : SlI w B g2 ys) (hS0 : ∀ o, ¬ Shun (.cell ⟨g, o, none⟩)) (hS02 : ∀ o, ¬ Shun (.cell ⟨g2, o, none⟩)) (hlen : xs.length ≤ 1000000) :
    CW Shun 17 #[.slice A xs.length c, .slice B ys.length c2] w (fun r w' => r = .bool (decide (xs = ys)) ∧ AtRel w w') := by
  have T9 := termsP Shun
  refine callsW_enter Try.func17 (by kernel_rfl) rfl ?_
  simp only [Try.ntmps17]
  walk_nrm
  have hF := atRel_refl w
  by_cases hlen2 : xs.length = ys.length
  rotate_left
  · have e9 : ((xs.length : Int) != (ys.length : Int)) = true := by simpa using (by omega : ¬ (xs.length : Int) = (ys.length : Int))
    (repeat (first | (refine codeW_seq T9 ?_) | (refine codeW_region T9 ?_; simp only [List.size_toArray, List.length_cons, List.length_nil, Nat.reduceAdd, Nat.zero_add, List.range, List.range.loop]) | (refine opsW_nil T9 ?_; simp only [Exit.then, Exit.inBlock]) | (refine codeW_skip T9 ?_; simp only [Exit.then, Exit.inBlock]) | ((first | refine codeW_cond T9 (t := true) rfl ?_ | refine codeW_cond T9 (t := false) rfl ?_); simp only [if_true, if_false, Bool.false_eq_true, ↓reduceIte]) | (refine opsW_unwanted T9 rfl (by rfl) ?_; try walk_nrm) | (refine opsW_cons rfl (by rfl) ?_; intro _ hR K hK; replace hF := atRel_trans _ _ _ hF hR; clear hR; have hs9 := atRel_size hF; go_simp; refine hK _ _ ⟨?_, ?_⟩; (· rw [listed_nil (by simp [go_sem, *])]; exact dp0_nil); clear hK K hs9; try walk_nrm) | (refine codeW_block T9 ?_)))
    (refine codeW_ret T9 ?_)
    refine ⟨rfl, _, resultsC_tmp (t := 4) rfl _, ?_, hF⟩
    rw [decide_eq_false (fun e => hlen2 (by rw [e]))]
    rfl
  rw [← hlen2]
  generalize hn : xs.length = len at *
  replace hn : RowKit.Hid _ := hn
  replace hlen2 : RowKit.Hid _ := hlen2
  (repeat (first | (refine codeW_seq T9 ?_) | (refine codeW_region T9 ?_; simp only [List.size_toArray, List.length_cons, List.length_nil, Nat.reduceAdd, Nat.zero_add, List.range, List.range.loop]) | (refine opsW_nil T9 ?_; simp only [Exit.then, Exit.inBlock]) | (refine codeW_skip T9 ?_; simp only [Exit.then, Exit.inBlock]) | ((first | refine codeW_cond T9 (t := true) rfl ?_ | refine codeW_cond T9 (t := false) rfl ?_); simp only [if_true, if_false, Bool.false_eq_true, ↓reduceIte]) | (refine opsW_unwanted T9 rfl (by rfl) ?_; try walk_nrm) | (refine opsW_cons rfl (by rfl) ?_; intro _ hR K hK; replace hF := atRel_trans _ _ _ hF hR; clear hR; have hs9 := atRel_size hF; go_simp; refine hK _ _ ⟨?_, ?_⟩; (· rw [listed_nil (by simp [go_sem, *])]; exact dp0_nil); clear hK K hs9; try walk_nrm) | (refine codeW_block T9 ?_)))
  refine codeW_loop T9 (fun a' w' => ∃ (i : Nat) (v2 v3 v4 v6 v7 v8 v9 v10 v11 v12 v13 v14 v15 v16 v17 v18 v19 v20 v21 v22 v23 v24 v25 : Value), a' = ⟨#[.slice A len c, .slice B len c2, v2, v3, v4, .int .i64 i, v6, v7, v8, v9, v10, v11, v12, v13, v14, v15, v16, v17, v18, v19, v20, v21, v22, v23, v24, v25], []⟩ ∧ i ≤ len ∧ AtRel w w' ∧ ∀ q, q < i → xs[q]? = ys[q]?)
    (fun a _ => match a.tmps.getD 5 undef with | .int _ i => ((len : Int) - i).toNat | _ => 0) ⟨0, _, _, _, _, _, _, _, _, _, _, _, _, _, _, _, _, _, _, _, _, _, _, _, rfl, Nat.zero_le _, hF, fun q h => absurd h (by omega)⟩ ?_
  clear hF
  rintro _ w2 ⟨i, v2, v3, v4, v6, v7, v8, v9, v10, v11, v12, v13, v14, v15, v16, v17, v18, v19, v20, v21, v22, v23, v24, v25, rfl, hi, hF, hno⟩
  by_cases hl : i < len
  · have e9 : decide ((i : Int) < (len : Int)) = true := decide_eq_true (by omega)
    have q1 : (i : Int) < (len : Int) := by omega
    have hln := hn.out
    have hln2 := hlen2.out
    have hA := h.at_ (by omega)
    have hB := h2.at_ (by omega)
    obtain ⟨y, hy⟩ := getq (xs := xs) (q := i) (by omega)
    obtain ⟨z, hz⟩ := getq (xs := ys) (q := i) (by omega)
    have hc1 := h.cell i y hy
    have hc2 := h2.cell i z hz
    replace hy : RowKit.Hid _ := hy
    replace hz : RowKit.Hid _ := hz
    have hS := hS0 i
    have hS2 := hS02 i
    have ad9 : (if i = 0 then (⟨g, 0, none⟩ : Addr) else ⟨g, i, none⟩) = ⟨g, i, none⟩ := by
      by_cases h : i = 0
      · rw [h]; rfl
      · exact if_neg h
    have ad8 : (if i = 0 then (⟨g2, 0, none⟩ : Addr) else ⟨g2, i, none⟩) = ⟨g2, i, none⟩ := by
      by_cases h : i = 0
      · rw [h]; rfl
      · exact if_neg h
    have d7 : IntKind.i64.wrap ((i : Int) + 1) = (i : Int) + 1 := by rw [IntKind.wrap_i64]; omega
    clear hln hln2
    replace hno : RowKit.Hid _ := hno
    (refine codeW_seq T9 ?_)
    (refine codeW_seq T9 ?_)
    (refine codeW_region T9 ?_; simp only [List.size_toArray, List.length_cons, List.length_nil, Nat.reduceAdd, Nat.zero_add, List.range, List.range.loop])
    repeat (first | (refine opsW_unwanted T9 rfl (by rfl) ?_; try walk_nrm) | (refine opsW_cons rfl (by rfl) ?_; intro _ hR K hK; replace hF := atRel_trans _ _ _ hF hR; clear hR; have hs9 := atRel_size hF; go_simp; refine hK _ _ ⟨?_, ?_⟩; (· rw [listed_nil (by simp [go_sem, *])]; exact dp0_nil); clear hK K hs9; try walk_nrm))
    (refine opsW_nil T9 ?_; simp only [Exit.then, Exit.inBlock])
    ((first | refine codeW_cond T9 (t := true) rfl ?_ | refine codeW_cond T9 (t := false) rfl ?_); simp only [if_true, if_false, Bool.false_eq_true, ↓reduceIte])
    (refine codeW_skip T9 ?_; simp only [Exit.then, Exit.inBlock])
    (refine codeW_seq T9 ?_)
    (refine codeW_block T9 ?_)
    (refine codeW_seq T9 ?_)
    refine codeW_of T9 atRel_refl (wpC_region_held (S := fun W => AtRel w W) T9 (letsDraw_P _) (by rfl) (fun w₁ h₁ => ?_))
    replace hF : AtRel w { w₁ with drawn := w₁.drawn + 1 } := atRel_draw (n := w₁.drawn + 1) (atRel_trans _ _ _ hF h₁)
    clear h₁
    generalize { w₁ with drawn := w₁.drawn + 1 } = w4 at hF ⊢
    simp only [List.size_toArray, List.length_cons, List.length_nil, Nat.reduceAdd, Nat.zero_add]
    co_applyP anyCH_take T9 (fun _ _ h r => atRel_trans _ _ _ h r) (fun _ _ _ h r => codeW_rely T9 h r) (i := 0) rfl (by kernel_rfl) (by kernel_rfl) (by kernel_rfl) (.inl ⟨by rfl, fun W hW => ⟨run_eq_of ?run0, ?guar0⟩⟩) hF ?rest0
    case run0 => (intro K hK; have m1 := (atRel_cell hW _).trans hc1; have m2 := (atRel_cell hW _).trans hc2; go_simp; exact hK)
    case guar0 => (have m1 := (atRel_cell hW _).trans hc1; have m2 := (atRel_cell hW _).trans hc2; (rw [listed_nil (by simp [go_sem, *])]; exact dp0_nil))
    try walk_nrm
    co_applyP anyCH_take T9 (fun _ _ h r => atRel_trans _ _ _ h r) (fun _ _ _ h r => codeW_rely T9 h r) (i := 1) rfl (by kernel_rfl) (by kernel_rfl) (by kernel_rfl) (.inl ⟨by rfl, fun W hW => ⟨run_eq_of ?run1, ?guar1⟩⟩) hF ?rest1
    case run1 => (intro K hK; have m1 := (atRel_cell hW _).trans hc1; have m2 := (atRel_cell hW _).trans hc2; go_simp; exact hK)
    case guar1 => (have m1 := (atRel_cell hW _).trans hc1; have m2 := (atRel_cell hW _).trans hc2; (rw [listed_nil (by simp [go_sem, *])]; exact dp0_nil))
    try walk_nrm
    co_applyP anyCH_take T9 (fun _ _ h r => atRel_trans _ _ _ h r) (fun _ _ _ h r => codeW_rely T9 h r) (i := 2) rfl (by kernel_rfl) (by kernel_rfl) (by kernel_rfl) (.inl ⟨by rfl, fun W hW => ⟨run_eq_of ?run2, ?guar2⟩⟩) hF ?rest2
    case run2 => (intro K hK; have m1 := (atRel_cell hW _).trans hc1; have m2 := (atRel_cell hW _).trans hc2; go_simp; exact hK)
    case guar2 => (have m1 := (atRel_cell hW _).trans hc1; have m2 := (atRel_cell hW _).trans hc2; (rw [listed_nil (by simp [go_sem, *])]; exact dp0_nil))
    try walk_nrm
    co_applyP anyCH_take T9 (fun _ _ h r => atRel_trans _ _ _ h r) (fun _ _ _ h r => codeW_rely T9 h r) (i := 3) rfl (by kernel_rfl) (by kernel_rfl) (by kernel_rfl) (.inl ⟨by rfl, fun W hW => ⟨run_eq_of ?run3, ?guar3⟩⟩) hF ?rest3
    case run3 => (intro K hK; have m1 := (atRel_cell hW _).trans hc1; have m2 := (atRel_cell hW _).trans hc2; go_simp; exact hK)
    case guar3 => (have m1 := (atRel_cell hW _).trans hc1; have m2 := (atRel_cell hW _).trans hc2; (intro e he; have hm := mem_listed he; simp [go_sem, m1] at hm; rw [hm]; exact evP_cell _ hS))
    try walk_nrm
    co_applyP anyCH_take T9 (fun _ _ h r => atRel_trans _ _ _ h r) (fun _ _ _ h r => codeW_rely T9 h r) (i := 4) rfl (by kernel_rfl) (by kernel_rfl) (by kernel_rfl) (.inl ⟨by rfl, fun W hW => ⟨run_eq_of ?run4, ?guar4⟩⟩) hF ?rest4
    case run4 => (intro K hK; have m1 := (atRel_cell hW _).trans hc1; have m2 := (atRel_cell hW _).trans hc2; go_simp; exact hK)
    case guar4 => (have m1 := (atRel_cell hW _).trans hc1; have m2 := (atRel_cell hW _).trans hc2; (rw [listed_nil (by simp [go_sem, *])]; exact dp0_nil))
    try walk_nrm
    co_applyP anyCH_take T9 (fun _ _ h r => atRel_trans _ _ _ h r) (fun _ _ _ h r => codeW_rely T9 h r) (i := 5) rfl (by kernel_rfl) (by kernel_rfl) (by kernel_rfl) (.inl ⟨by rfl, fun W hW => ⟨run_eq_of ?run5, ?guar5⟩⟩) hF ?rest5
    case run5 => (intro K hK; have m1 := (atRel_cell hW _).trans hc1; have m2 := (atRel_cell hW _).trans hc2; go_simp; exact hK)
    case guar5 => (have m1 := (atRel_cell hW _).trans hc1; have m2 := (atRel_cell hW _).trans hc2; (rw [listed_nil (by simp [go_sem, *])]; exact dp0_nil))
    try walk_nrm
    co_applyP anyCH_take T9 (fun _ _ h r => atRel_trans _ _ _ h r) (fun _ _ _ h r => codeW_rely T9 h r) (i := 6) rfl (by kernel_rfl) (by kernel_rfl) (by kernel_rfl) (.inl ⟨by rfl, fun W hW => ⟨run_eq_of ?run6, ?guar6⟩⟩) hF ?rest6
    case run6 => (intro K hK; have m1 := (atRel_cell hW _).trans hc1; have m2 := (atRel_cell hW _).trans hc2; go_simp; exact hK)
    case guar6 => (have m1 := (atRel_cell hW _).trans hc1; have m2 := (atRel_cell hW _).trans hc2; (rw [listed_nil (by simp [go_sem, *])]; exact dp0_nil))
    try walk_nrm
    co_applyP anyCH_take T9 (fun _ _ h r => atRel_trans _ _ _ h r) (fun _ _ _ h r => codeW_rely T9 h r) (i := 7) rfl (by kernel_rfl) (by kernel_rfl) (by kernel_rfl) (.inl ⟨by rfl, fun W hW => ⟨run_eq_of ?run7, ?guar7⟩⟩) hF ?rest7
    case run7 => (intro K hK; have m1 := (atRel_cell hW _).trans hc1; have m2 := (atRel_cell hW _).trans hc2; go_simp; exact hK)
    case guar7 => (have m1 := (atRel_cell hW _).trans hc1; have m2 := (atRel_cell hW _).trans hc2; (intro e he; have hm := mem_listed he; simp [go_sem, m2] at hm; rw [hm]; exact evP_cell _ hS2))
    try walk_nrm
    co_applyP anyCH_take T9 (fun _ _ h r => atRel_trans _ _ _ h r) (fun _ _ _ h r => codeW_rely T9 h r) (i := 8) rfl (by kernel_rfl) (by kernel_rfl) (by kernel_rfl) (.inl ⟨by rfl, fun W hW => ⟨run_eq_of ?run8, ?guar8⟩⟩) hF ?rest8
    case run8 => (intro K hK; have m1 := (atRel_cell hW _).trans hc1; have m2 := (atRel_cell hW _).trans hc2; go_simp; exact hK)
    case guar8 => (have m1 := (atRel_cell hW _).trans hc1; have m2 := (atRel_cell hW _).trans hc2; (rw [listed_nil (by simp [go_sem, *])]; exact dp0_nil))
    try walk_nrm
    refine anyCH_done (by kernel_rfl) ?_ _
    simp only [Exit.then]
    by_cases hxy : y = z
    · subst hxy
      have e8 : (y != y) = false := by simp
      simp only [e8]
      (repeat (first | (refine codeW_seq T9 ?_) | (refine codeW_region T9 ?_; simp only [List.size_toArray, List.length_cons, List.length_nil, Nat.reduceAdd, Nat.zero_add, List.range, List.range.loop]) | (refine opsW_nil T9 ?_; simp only [Exit.then, Exit.inBlock]) | (refine codeW_skip T9 ?_; simp only [Exit.then, Exit.inBlock]) | ((first | refine codeW_cond T9 (t := true) rfl ?_ | refine codeW_cond T9 (t := false) rfl ?_); simp only [if_true, if_false, Bool.false_eq_true, ↓reduceIte]) | (refine opsW_unwanted T9 rfl (by rfl) ?_; try walk_nrm) | (refine opsW_cons rfl (by rfl) ?_; intro _ hR K hK; replace hF := atRel_trans _ _ _ hF hR; clear hR; have hs9 := atRel_size hF; go_simp; refine hK _ _ ⟨?_, ?_⟩; (· rw [listed_nil (by simp [go_sem, *])]; exact dp0_nil); clear hK K hs9; try walk_nrm) | (refine codeW_block T9 ?_)))
      refine ⟨⟨i + 1, _, _, _, _, _, _, _, _, _, _, _, _, _, _, _, _, _, _, _, _, _, _, _, by rw [hA, hB]; rfl, by omega, hF, fun q hq => ?_⟩, ?_⟩
      · by_cases hqi : q < i
        · exact hno.out q hqi
        · obtain rfl : q = i := by omega
          rw [hy.out, hz.out]
      · simp
        omega
    · have e8 : (y != z) = true := by simpa using hxy
      replace hxy : RowKit.Hid _ := hxy
      simp only [e8]
      (repeat (first | (refine codeW_seq T9 ?_) | (refine codeW_region T9 ?_; simp only [List.size_toArray, List.length_cons, List.length_nil, Nat.reduceAdd, Nat.zero_add, List.range, List.range.loop]) | (refine opsW_nil T9 ?_; simp only [Exit.then, Exit.inBlock]) | (refine codeW_skip T9 ?_; simp only [Exit.then, Exit.inBlock]) | ((first | refine codeW_cond T9 (t := true) rfl ?_ | refine codeW_cond T9 (t := false) rfl ?_); simp only [if_true, if_false, Bool.false_eq_true, ↓reduceIte]) | (refine opsW_unwanted T9 rfl (by rfl) ?_; try walk_nrm) | (refine opsW_cons rfl (by rfl) ?_; intro _ hR K hK; replace hF := atRel_trans _ _ _ hF hR; clear hR; have hs9 := atRel_size hF; go_simp; refine hK _ _ ⟨?_, ?_⟩; (· rw [listed_nil (by simp [go_sem, *])]; exact dp0_nil); clear hK K hs9; try walk_nrm) | (refine codeW_block T9 ?_)))
      (refine codeW_ret T9 ?_)
      refine ⟨rfl, _, resultsC_tmp (t := 4) rfl _, ?_, hF⟩
      rw [decide_eq_false (fun e => hxy.out (by have h9 := hy.out; rw [e, hz.out] at h9; injection h9 with h9; exact h9.symm))]
      rfl
  · have e9 : decide ((i : Int) < (len : Int)) = false := decide_eq_false (by omega)
    (repeat (first | (refine codeW_seq T9 ?_) | (refine codeW_region T9 ?_; simp only [List.size_toArray, List.length_cons, List.length_nil, Nat.reduceAdd, Nat.zero_add, List.range, List.range.loop]) | (refine opsW_nil T9 ?_; simp only [Exit.then, Exit.inBlock]) | (refine codeW_skip T9 ?_; simp only [Exit.then, Exit.inBlock]) | ((first | refine codeW_cond T9 (t := true) rfl ?_ | refine codeW_cond T9 (t := false) rfl ?_); simp only [if_true, if_false, Bool.false_eq_true, ↓reduceIte]) | (refine opsW_unwanted T9 rfl (by rfl) ?_; try walk_nrm) | (refine opsW_cons rfl (by rfl) ?_; intro _ hR K hK; replace hF := atRel_trans _ _ _ hF hR; clear hR; have hs9 := atRel_size hF; go_simp; refine hK _ _ ⟨?_, ?_⟩; (· rw [listed_nil (by simp [go_sem, *])]; exact dp0_nil); clear hK K hs9; try walk_nrm) | (refine codeW_block T9 ?_)))
    (refine codeW_exit T9 ?_; simp only [Exit.then, Exit.inBlock, Exit.thenX, if_true, if_false, reduceIte, Nat.reduceEqDiff])
    (repeat (first | (refine codeW_seq T9 ?_) | (refine codeW_region T9 ?_; simp only [List.size_toArray, List.length_cons, List.length_nil, Nat.reduceAdd, Nat.zero_add, List.range, List.range.loop]) | (refine opsW_nil T9 ?_; simp only [Exit.then, Exit.inBlock]) | (refine codeW_skip T9 ?_; simp only [Exit.then, Exit.inBlock]) | ((first | refine codeW_cond T9 (t := true) rfl ?_ | refine codeW_cond T9 (t := false) rfl ?_); simp only [if_true, if_false, Bool.false_eq_true, ↓reduceIte]) | (refine opsW_unwanted T9 rfl (by rfl) ?_; try walk_nrm) | (refine opsW_cons rfl (by rfl) ?_; intro _ hR K hK; replace hF := atRel_trans _ _ _ hF hR; clear hR; have hs9 := atRel_size hF; go_simp; refine hK _ _ ⟨?_, ?_⟩; (· rw [listed_nil (by simp [go_sem, *])]; exact dp0_nil); clear hK K hs9; try walk_nrm) | (refine codeW_block T9 ?_)))
    (refine codeW_ret T9 ?_)
    refine ⟨rfl, _, resultsC_tmp (t := 4) rfl _, ?_, hF⟩
    rw [decide_eq_true (List.ext_getElem? fun q => ?_)]
    · rfl
    · have h8 := hn.out
      have h9 := hlen2.out
      by_cases hq : q < i
      · exact hno q hq
      · rw [List.getElem?_eq_none (by omega), List.getElem?_eq_none (by omega)]
end
end Go.Proofs.Ytkcknoodcgmndaa
