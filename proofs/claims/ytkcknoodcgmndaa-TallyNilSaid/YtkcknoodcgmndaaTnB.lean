/- TallyNil: the law's walk. -/
import Derived.Test.YtkcknoodcgmndaaTnC
namespace Go.Proofs.Ytkcknoodcgmndaa
open Go.Conc Go.RowKit
open Go.ConcN (sumTo)
set_option linter.unusedVariables false
set_option linter.unusedSimpArgs false
set_option maxRecDepth 100000
set_option maxHeartbeats 8000000

















theorem nilX {Post : Value → World → Prop} (i : Int) (l : List (List Int)) (A : Option Addr) (cap lb lo : Nat) (pA : Nat → Option Addr) (pd po pc : Nat → Nat) (w : World) (hin : LsIn w l A lb lo pA pd po pc) (hlen : l.length ≤ 17592186044416) :
    CallX Try.prog Post 7 #[.int .i64 i, .slice A l.length cap] w ⟨blkS (fun _ => False), 1⟩ (fun v w' x' => v = .bool true ∧ Below w.heap.size w w') := by
  have T9 := termsP (blkS (fun _ => False))
  have hS : ∀ l, ¬ blkS (fun _ => False) l := fun l ⟨_, _, h⟩ => h
  refine ⟨_, _, Try.func7, by kernel_rfl, rfl, ?_⟩
  simp only [Try.ntmps7]
  walk_nrm
  have hF := atRel_refl w
  generalize hL : l.length = len
  replace hL : RowKit.Hid _ := hL
  (refine codeX_seq ?_)
  refine codeX_of ?_
  (repeat (first | (refine codeW_seq T9 ?_) | (refine codeW_region T9 ?_; simp only [List.size_toArray, List.length_cons, List.length_nil, Nat.reduceAdd, Nat.zero_add, List.range, List.range.loop]) | (refine opsW_nil T9 ?_; simp only [Exit.then, Exit.inBlock, Exit.thenX]) | (refine codeW_skip T9 ?_; simp only [Exit.then, Exit.inBlock, Exit.thenX]) | ((first | refine codeW_cond T9 (t := true) rfl ?_ | refine codeW_cond T9 (t := false) rfl ?_); simp only [if_true, if_false, Bool.false_eq_true, ↓reduceIte]) | (refine opsW_unwanted T9 rfl (by rfl) ?_; try walk_nrm) | (refine opsW_cons rfl (by rfl) ?_; intro _ hR K hK; replace hF := atRel_trans _ _ _ hF hR; clear hR; have hs9 := atRel_size hF; go_simp; refine hK _ _ ⟨?_, ?_⟩; (· rw [listed_nil (by simp [go_sem, *])]; exact dp0_nil); clear hK K hs9; try walk_nrm) | (refine codeW_block T9 ?_)))
  (refine codeX_seq ?_)
  by_cases h8 : len ≤ 8
  · have e9 : decide (8 < (len : Int)) = false := decide_eq_false (by omega)
    (refine codeX_seq ?_)
    refine codeX_of ?_
    (repeat (first | (refine codeW_seq T9 ?_) | (refine codeW_region T9 ?_; simp only [List.size_toArray, List.length_cons, List.length_nil, Nat.reduceAdd, Nat.zero_add, List.range, List.range.loop]) | (refine opsW_nil T9 ?_; simp only [Exit.then, Exit.inBlock, Exit.thenX]) | (refine codeW_skip T9 ?_; simp only [Exit.then, Exit.inBlock, Exit.thenX]) | ((first | refine codeW_cond T9 (t := true) rfl ?_ | refine codeW_cond T9 (t := false) rfl ?_); simp only [if_true, if_false, Bool.false_eq_true, ↓reduceIte]) | (refine opsW_unwanted T9 rfl (by rfl) ?_; try walk_nrm) | (refine opsW_cons rfl (by rfl) ?_; intro _ hR K hK; replace hF := atRel_trans _ _ _ hF hR; clear hR; have hs9 := atRel_size hF; go_simp; refine hK _ _ ⟨?_, ?_⟩; (· rw [listed_nil (by simp [go_sem, *])]; exact dp0_nil); clear hK K hs9; try walk_nrm) | (refine codeW_block T9 ?_)))
    refine codeX_cond (t := false) rfl ?_
    simp only [Bool.false_eq_true, ↓reduceIte]
    refine codeX_of ?_
    (refine codeW_skip T9 ?_; simp only [Exit.then, Exit.inBlock, Exit.thenX])
    clear e9
    (refine codeX_seq ?_)
    refine codeX_of ?_
    (repeat (first | (refine codeW_seq T9 ?_) | (refine codeW_region T9 ?_; simp only [List.size_toArray, List.length_cons, List.length_nil, Nat.reduceAdd, Nat.zero_add, List.range, List.range.loop]) | (refine opsW_nil T9 ?_; simp only [Exit.then, Exit.inBlock, Exit.thenX]) | (refine codeW_skip T9 ?_; simp only [Exit.then, Exit.inBlock, Exit.thenX]) | ((first | refine codeW_cond T9 (t := true) rfl ?_ | refine codeW_cond T9 (t := false) rfl ?_); simp only [if_true, if_false, Bool.false_eq_true, ↓reduceIte]) | (refine opsW_unwanted T9 rfl (by rfl) ?_; try walk_nrm) | (refine opsW_cons rfl (by rfl) ?_; intro _ hR K hK; replace hF := atRel_trans _ _ _ hF hR; clear hR; have hs9 := atRel_size hF; go_simp; refine hK _ _ ⟨?_, ?_⟩; (· rw [listed_nil (by simp [go_sem, *])]; exact dp0_nil); clear hK K hs9; try walk_nrm) | (refine codeW_block T9 ?_)))
    (refine codeX_seq ?_)
    refine codeX_of ?_
    (repeat (first | (refine codeW_seq T9 ?_) | (refine codeW_region T9 ?_; simp only [List.size_toArray, List.length_cons, List.length_nil, Nat.reduceAdd, Nat.zero_add, List.range, List.range.loop]) | (refine opsW_nil T9 ?_; simp only [Exit.then, Exit.inBlock, Exit.thenX]) | (refine codeW_skip T9 ?_; simp only [Exit.then, Exit.inBlock, Exit.thenX]) | ((first | refine codeW_cond T9 (t := true) rfl ?_ | refine codeW_cond T9 (t := false) rfl ?_); simp only [if_true, if_false, Bool.false_eq_true, ↓reduceIte]) | (refine opsW_unwanted T9 rfl (by rfl) ?_; try walk_nrm) | (refine opsW_cons rfl (by rfl) ?_; intro _ hR K hK; replace hF := atRel_trans _ _ _ hF hR; clear hR; have hs9 := atRel_size hF; go_simp; refine hK _ _ ⟨?_, ?_⟩; (· rw [listed_nil (by simp [go_sem, *])]; exact dp0_nil); clear hK K hs9; try walk_nrm) | (refine codeW_block T9 ?_)))
    (refine codeX_seq ?_)
    refine codeX_of ?_
    (repeat (first | (refine codeW_seq T9 ?_) | (refine codeW_region T9 ?_; simp only [List.size_toArray, List.length_cons, List.length_nil, Nat.reduceAdd, Nat.zero_add, List.range, List.range.loop]) | (refine opsW_nil T9 ?_; simp only [Exit.then, Exit.inBlock, Exit.thenX]) | (refine codeW_skip T9 ?_; simp only [Exit.then, Exit.inBlock, Exit.thenX]) | ((first | refine codeW_cond T9 (t := true) rfl ?_ | refine codeW_cond T9 (t := false) rfl ?_); simp only [if_true, if_false, Bool.false_eq_true, ↓reduceIte]) | (refine opsW_unwanted T9 rfl (by rfl) ?_; try walk_nrm) | (refine opsW_cons rfl (by rfl) ?_; intro _ hR K hK; replace hF := atRel_trans _ _ _ hF hR; clear hR; have hs9 := atRel_size hF; go_simp; refine hK _ _ ⟨?_, ?_⟩; (· rw [listed_nil (by simp [go_sem, *])]; exact dp0_nil); clear hK K hs9; try walk_nrm) | (refine codeW_block T9 ?_)))
    refine codeW_loop T9 (fun a' w' => ∃ (T : Array Value) (j : Nat), a' = ⟨T, []⟩ ∧ T.size = 77 ∧ T[0]? = some (.int .i64 i) ∧ T[1]? = some (.slice A len cap) ∧ T[5]? = some (.pointer none) ∧ T[6]? = some (.int .i64 ((sumTo j (fun j => (l.getD j []).length) : Nat) : Int)) ∧ T[7]? = some (.int .i64 j) ∧ j ≤ len ∧ AtRel w w')
      (fun a _ => match a.tmps.getD 7 undef with | .int _ i => ((len : Int) - i).toNat | _ => 0) ⟨_, 0, rfl, rfl, rfl, rfl, rfl, rfl, rfl, Nat.zero_le _, hF⟩ ?_
    clear hF
    rintro _ w2 ⟨T, j, rfl, hT, t0, t1, t5, t6, t7, hj, hr⟩
    obtain ⟨v0, v1, v2, v3, v4, v5, v6, v7, v8, v9, v10, v11, v12, v13, v14, v15, v16, v17, v18, v19, v20, v21, v22, v23, v24, v25, v26, v27, v28, v29, v30, v31, v32, v33, v34, v35, v36, v37, v38, v39, v40, v41, v42, v43, v44, v45, v46, v47, v48, v49, v50, v51, v52, v53, v54, v55, v56, v57, v58, v59, v60, v61, v62, v63, v64, v65, v66, v67, v68, v69, v70, v71, v72, v73, v74, v75, v76, rfl⟩ := arr77 T hT
    simp only [List.getElem?_toArray, List.getElem?_cons_succ, List.getElem?_cons_zero, Option.some.injEq] at t0 t1 t5 t6 t7
    subst t0 t1 t5 t6 t7
    clear hT
    have hF := atRel_refl w2
    replace hr : RowKit.Hid _ := hr
    by_cases hl : j < len
    · have e9 : decide ((j : Int) < (len : Int)) = true := decide_eq_true (by omega)
      have q1 : (j : Int) < (len : Int) := by omega
      have d7 : IntKind.i64.wrap ((j : Int) + 1) = (j : Int) + 1 := by rw [IntKind.wrap_i64]; omega
      have hlA := (hin.lA (by rw [hL.out]; omega)).1
      have hk := (atRel_cell hr.out _).trans (hin.list j (by rw [hL.out]; exact hl))
      have hsum : sumTo (j + 1) (fun j => (l.getD j []).length) = sumTo j (fun j => (l.getD j []).length) + (l.getD j []).length := rfl
      have hle := sum_le9 (fun j => (l.getD j []).length) _ hin.small (j + 1)
      have hlj := hin.small j
      generalize hnn : (l.getD j []).length = nj at hk hsum hlj
      generalize hs1 : sumTo (j + 1) (fun j => (l.getD j []).length) = s1 at hsum hle
      generalize hs0 : sumTo j (fun j => (l.getD j []).length) = s0 at hsum ⊢
      replace hs1 : RowKit.Hid _ := hs1
      replace hs0 : RowKit.Hid _ := hs0
      replace hnn : RowKit.Hid _ := hnn
      have d6 : IntKind.i64.wrap ((s0 : Int) + (nj : Int)) = (s1 : Int) := by
        have h9 : (j + 1) * 17592186044416 ≤ 8 * 17592186044416 := Nat.mul_le_mul_right _ (by omega)
        rw [IntKind.wrap_i64]; omega
      clear hle hsum hlj
      replace hk : RowKit.Hid _ := hk
      (repeat (first | (refine codeW_seq T9 ?_) | (refine codeW_region T9 ?_; simp only [List.size_toArray, List.length_cons, List.length_nil, Nat.reduceAdd, Nat.zero_add, List.range, List.range.loop]) | (refine opsW_nil T9 ?_; simp only [Exit.then, Exit.inBlock, Exit.thenX]) | (refine codeW_skip T9 ?_; simp only [Exit.then, Exit.inBlock, Exit.thenX]) | ((first | refine codeW_cond T9 (t := true) rfl ?_ | refine codeW_cond T9 (t := false) rfl ?_); simp only [if_true, if_false, Bool.false_eq_true, ↓reduceIte]) | (refine opsW_unwanted T9 rfl (by rfl) ?_; try walk_nrm) | (refine opsW_cons rfl (by rfl) ?_; intro _ hR K hK; replace hF := atRel_trans _ _ _ hF hR; clear hR; have hs9 := atRel_size hF; go_simp; refine hK _ _ ⟨?_, ?_⟩; (· rw [listed_nil (by simp [go_sem, *])]; exact dp0_nil); clear hK K hs9; try walk_nrm) | (refine codeW_block T9 ?_)))
      have hc1 := hk.out
      (refine opsW_cons rfl (by rfl) ?_; intro _ hR K hK; replace hF := atRel_trans _ _ _ hF hR; clear hR; have hl9 := (atRel_cell hF _).trans hc1; go_simp; refine hK _ _ ⟨?_, ?_⟩; (· intro e he; have hm := mem_listed he; simp [go_sem, hl9] at hm; rw [hm]; exact evP_cell _ (hS _)); clear hK K hl9; try walk_nrm)
      clear hc1
      (repeat (first | (refine codeW_seq T9 ?_) | (refine codeW_region T9 ?_; simp only [List.size_toArray, List.length_cons, List.length_nil, Nat.reduceAdd, Nat.zero_add, List.range, List.range.loop]) | (refine opsW_nil T9 ?_; simp only [Exit.then, Exit.inBlock, Exit.thenX]) | (refine codeW_skip T9 ?_; simp only [Exit.then, Exit.inBlock, Exit.thenX]) | ((first | refine codeW_cond T9 (t := true) rfl ?_ | refine codeW_cond T9 (t := false) rfl ?_); simp only [if_true, if_false, Bool.false_eq_true, ↓reduceIte]) | (refine opsW_unwanted T9 rfl (by rfl) ?_; try walk_nrm) | (refine opsW_cons rfl (by rfl) ?_; intro _ hR K hK; replace hF := atRel_trans _ _ _ hF hR; clear hR; have hs9 := atRel_size hF; go_simp; refine hK _ _ ⟨?_, ?_⟩; (· rw [listed_nil (by simp [go_sem, *])]; exact dp0_nil); clear hK K hs9; try walk_nrm) | (refine codeW_block T9 ?_)))
      refine ⟨⟨_, j + 1, rfl, rfl, rfl, (by rw [hlA]; rfl), rfl, (by rw [hs1.out]; rfl), rfl, by omega, atRel_trans _ _ _ hr.out hF⟩, ?_⟩
      simp
      omega
    · have e9 : decide ((j : Int) < (len : Int)) = false := decide_eq_false (by omega)
      obtain rfl : j = len := by omega
      (repeat (first | (refine codeW_seq T9 ?_) | (refine codeW_region T9 ?_; simp only [List.size_toArray, List.length_cons, List.length_nil, Nat.reduceAdd, Nat.zero_add, List.range, List.range.loop]) | (refine opsW_nil T9 ?_; simp only [Exit.then, Exit.inBlock, Exit.thenX]) | (refine codeW_skip T9 ?_; simp only [Exit.then, Exit.inBlock, Exit.thenX]) | ((first | refine codeW_cond T9 (t := true) rfl ?_ | refine codeW_cond T9 (t := false) rfl ?_); simp only [if_true, if_false, Bool.false_eq_true, ↓reduceIte]) | (refine opsW_unwanted T9 rfl (by rfl) ?_; try walk_nrm) | (refine opsW_cons rfl (by rfl) ?_; intro _ hR K hK; replace hF := atRel_trans _ _ _ hF hR; clear hR; have hs9 := atRel_size hF; go_simp; refine hK _ _ ⟨?_, ?_⟩; (· rw [listed_nil (by simp [go_sem, *])]; exact dp0_nil); clear hK K hs9; try walk_nrm) | (refine codeW_block T9 ?_)))
      (refine codeW_exit T9 ?_; simp only [Exit.then, Exit.inBlock, Exit.thenX, if_true, if_false, reduceIte, Nat.reduceEqDiff])
      obtain rfl := hL.out
      exact nilEnd i l A cap lb lo pA pd po pc w _ _ hin h8 (atRel_trans _ _ _ hr.out hF) rfl rfl rfl rfl rfl
  · have e9 : decide (8 < (len : Int)) = true := decide_eq_true (by omega)
    (refine codeX_seq ?_)
    refine codeX_of ?_
    (repeat (first | (refine codeW_seq T9 ?_) | (refine codeW_region T9 ?_; simp only [List.size_toArray, List.length_cons, List.length_nil, Nat.reduceAdd, Nat.zero_add, List.range, List.range.loop]) | (refine opsW_nil T9 ?_; simp only [Exit.then, Exit.inBlock, Exit.thenX]) | (refine codeW_skip T9 ?_; simp only [Exit.then, Exit.inBlock, Exit.thenX]) | ((first | refine codeW_cond T9 (t := true) rfl ?_ | refine codeW_cond T9 (t := false) rfl ?_); simp only [if_true, if_false, Bool.false_eq_true, ↓reduceIte]) | (refine opsW_unwanted T9 rfl (by rfl) ?_; try walk_nrm) | (refine opsW_cons rfl (by rfl) ?_; intro _ hR K hK; replace hF := atRel_trans _ _ _ hF hR; clear hR; have hs9 := atRel_size hF; go_simp; refine hK _ _ ⟨?_, ?_⟩; (· rw [listed_nil (by simp [go_sem, *])]; exact dp0_nil); clear hK K hs9; try walk_nrm) | (refine codeW_block T9 ?_)))
    refine codeX_cond (t := true) rfl ?_
    simp only [↓reduceIte]
    (refine codeX_seq ?_)
    refine codeX_region ?_
    simp only [List.size_toArray, List.length_cons, List.length_nil, Nat.reduceAdd, Nat.zero_add, List.range, List.range.loop]
    obtain ⟨q4, rfl⟩ := hF
    refine opsX_call (Pos := fun v w' x' => v = .bool true ∧ Below w.heap.size w w') rfl (by rfl) rfl ?_ ?_
    · walk_nrm
      obtain ⟨fnn, cd, h1, h2, h3, h4⟩ := awakeX (Post := Post) (fun _ => False) 1 (w.at q4) (by omega) (fun b h => h.elim)
      refine ⟨fnn, cd, h1, h2, h3, codeX_mono h4 fun e a w5 x3 y => ?_⟩
      cases e <;> first | exact ⟨y.1, y.2.choose, y.2.choose_spec.1, y.2.choose_spec.2.1, ⟨y.2.choose_spec.2.2.os, y.2.choose_spec.2.2.tape, y.2.choose_spec.2.2.output, y.2.choose_spec.2.2.size, y.2.choose_spec.2.2.block⟩⟩ | exact y
    rintro _ w' x' ⟨rfl, hbf⟩
    have hF := atRel_refl w'
    clear T9
    have T9 := termsP x'.S
    walk_nrm
    (repeat (first | (refine opsX_unwanted rfl (by rfl) ?_; try walk_nrm) | (refine opsX_cons rfl (by rfl) ?_; intro _ hR K hK; replace hF := atRel_trans _ _ _ hF hR; clear hR; have hs9 := atRel_size hF; go_simp; refine hK _ _ ⟨?_, ?_⟩; (· rw [listed_nil (by simp [go_sem, *])]; exact dp0_nil); clear hK K hs9; try walk_nrm)))
    refine opsX_nil ?_
    simp only [Exit.thenX]
    refine codeX_of (codeW_ret T9 ?_)
    obtain ⟨q5, rfl⟩ := hF
    exact ⟨rfl, _, resultsC_tmp rfl _, rfl, ⟨hbf.os, hbf.tape, hbf.output, hbf.size, hbf.block⟩⟩
end Go.Proofs.Ytkcknoodcgmndaa
