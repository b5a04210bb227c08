import Derived.Test.YtkcknoodcgmndaaZRfB
import Derived.Test.YtkcknoodcgmndaaZRfD
import Derived.Test.YtkcknoodcgmndaaZTcD
import Derived.Test.YtkcknoodcgmndaaZTbA
section
/- A region that draws its order: walked by an invariant over what has come up. -/
namespace Go.Proofs.Ytkcknoodcgmndaa
open Go.Conc
set_option linter.unusedVariables false
set_option linter.unusedSimpArgs false
set_option linter.unusedSectionVars false
def updB (L : Nat → Bool) (i : Nat) : Nat → Bool := fun j => if j = i then true else L j
section
variable {P : Program} {main : Bool} {R : World → World → Prop} {D : World → World → Array Event → Prop} {fn : FuncId} {ops : Array Oper} {Q : Exit → Act → World → Prop}
theorem opW_mono {i : Nat} {K K' : Act → World → Prop} {a : Act} {w : World} (h : OpW P main R D fn ops i K a w) (hk : ∀ a w, K a w → K' a w) : OpW P main R D fn ops i K' a w :=
  fun rest Q' hQ => h rest Q' fun a' w' x => hQ _ _ (hk _ _ x)
theorem anyW_inv {md : Region.Mode} (hback : (List.range ops.size).all (fun i => match ops[i]? with | some o => o.after.all (fun e => decide (e.on < i)) | none => true) = true) (I : (Nat → Bool) → Act → World → Prop)
    (step : ∀ (L : Nat → Bool) a w, I L a w → ∀ i o, ops[i]? = some o → L i = false → (∀ e ∈ o.after, Region.binds md e = true → L e.on = true) → OpW P main R D fn ops i (fun a' w' => I (updB L i) a' w') a w)
    (fin : ∀ (L : Nat → Bool) a w, I L a w → (∀ i, i < ops.size → L i = true) → Q .normal a w) :
    ∀ (fuel : Nat) (listed : Array Bool) (rem : List Nat) (a : Act) (w : World), listed.size = ops.size → (∀ j, j < ops.size → listed.getD j false = false → j ∈ rem) → rem.length ≤ fuel → I (fun j => listed.getD j false) a w → AnyW P main R D fn md ops Q fuel listed a w := by
  have back : ∀ (i : Nat) (o : Oper), ops[i]? = some o → ∀ (e : Edge), e ∈ o.after → e.on < i := by
    intro i o ho e he
    have hi : i < ops.size := (Array.getElem?_eq_some_iff.1 ho).1
    have h1 := List.all_eq_true.1 hback i (List.mem_range.2 hi)
    rw [ho] at h1
    simp only at h1
    have h2 := Array.all_eq_true_iff_forall_mem.1 h1 e he
    simpa using h2
  intro fuel
  induction fuel with
  | zero =>
    intro listed rem a w hs hr hl hI
    obtain rfl : rem = [] := List.length_eq_zero_iff.1 (by omega)
    refine fin _ a w hI fun i hi => ?_
    cases h : listed.getD i false with
    | true => rfl
    | false => exact absurd (hr i hi h) (by simp)
  | succ fuel ih =>
    intro listed rem a w hs hr hl hI
    refine ⟨fun he => fin _ a w hI ?_, fun i hi => ?_⟩
    · have key : ∀ n i, i ≤ n → i < ops.size → listed.getD i false = true := by
        intro n
        induction n using Nat.strongRecOn with
        | _ n ihn =>
          intro i hin hi
          by_cases hlt : i < n
          · exact ihn i hlt i (Nat.le_refl _) hi
          obtain rfl : i = n := by omega
          cases h : listed.getD i false with
          | true => rfl
          | false =>
            exfalso
            have hm : i ∈ Region.ready md ops listed := by
              refine mem_ready.2 ⟨?_, ops[i], Array.getElem?_eq_getElem hi, fun e he' _ => ?_⟩
              · have hlt' : i < listed.size := by omega
                simp [Array.getD, hlt'] at h ⊢
                exact h
              · have := back i _ (Array.getElem?_eq_getElem hi) e he'
                exact ihn e.on this e.on (Nat.le_refl _) (by omega)
            rw [he] at hm
            simp at hm
      exact fun i hi => key i i (Nat.le_refl _) hi
    · obtain ⟨h0, o, ho, hall⟩ := mem_ready.1 hi
      have hilt : i < ops.size := (Array.getElem?_eq_some_iff.1 ho).1
      have hil : i < listed.size := by omega
      have h0' : listed.getD i false = false := by
        simp [Array.getD, hil] at h0 ⊢
        exact h0
      refine opW_mono (step _ a w hI i o ho h0' hall) fun a' w' hI' => ?_
      have hI2 : I (fun j => (listed.setIfInBounds i true).getD j false) a' w' := by
        have e : (fun j => (listed.setIfInBounds i true).getD j false) = updB (fun j => listed.getD j false) i := by
          funext j
          unfold updB
          by_cases hj : j = i
          · subst hj
            simp [Array.getD, hil]
          · rw [if_neg hj, getD_set_ne false (Ne.symm hj)]
        rw [e]
        exact hI'
      refine ih _ (rem.erase i) a' w' (by simpa using hs) (fun j hj hf => ?_) ?_ hI2
      · by_cases hji : j = i
        · subst hji
          exfalso
          simp [Array.getD, hil] at hf
        · rw [getD_set_ne false (Ne.symm hji)] at hf
          exact (List.mem_erase_of_ne hji).2 (hr j hj hf)
      · have := List.length_erase_of_mem (hr i hilt h0')
        omega
/-- one operation, by what it leaves -/
theorem opsW_mid9 {ops : Array Oper} {i : Nat} {rest : List Nat} {o : Oper} {a : Act} {w : World} (M : Value → World → Prop) (ho : ops[i]? = some o) (hw : Region.wanted o (yielded ops a.tmps) = true)
    (h : ∀ w₁, R w w₁ → ∀ K : Act → World → Prop, (∀ v w', D w₁ w' (listed P fn a o w₁) ∧ M v w' → K (a.put o.dst v) w') → uponK o a K ((execOp a.eval o).run P w₁)) (hn : ∀ v w', M v w' → OpsW P main R D fn ops rest Q (a.put o.dst v) w') : OpsW P main R D fn ops (i :: rest) Q a w :=
  opsW_cons ho hw fun w₁ h₁ K hK => h w₁ h₁ K fun v w' x => hK _ _ ⟨x.1, hn v w' x.2⟩
/-- the region, whole -/
theorem codeW_region_inv (T : Terms R D) (hd : LetsDraw D) {id : Nat} (hm : P.follows .mixedOrders = true) {a : Act} {w : World}
    (hback : (List.range ops.size).all (fun i => match ops[i]? with | some o => o.after.all (fun e => decide (e.on < i)) | none => true) = true) (I : (Nat → Bool) → Act → World → Prop)
    (start : ∀ w₁, R w w₁ → I (fun _ => false) a { w₁ with drawn := w₁.drawn + 1 })
    (step : ∀ (L : Nat → Bool) a w, I L a w → ∀ i o, ops[i]? = some o → L i = false → (∀ e ∈ o.after, Region.binds .any e = true → L e.on = true) → OpW P main R D fn ops i (fun a' w' => I (updB L i) a' w') a w)
    (fin : ∀ (L : Nat → Bool) a w, I L a w → (∀ i, i < ops.size → L i = true) → Q .normal a w) : CodeW P main R D fn (.region id ops true) Q a w := by
  refine codeW_region_any T hd hm fun w₁ h₁ => ?_
  have e : (fun j => (Array.replicate ops.size false).getD j false) = (fun _ => false) := by
    funext j
    simp only [Array.getD]
    split
    · simp
    · rfl
  refine anyW_inv hback I step fin ops.size (Array.replicate ops.size false) (List.range ops.size) a _ (by simp) (fun j hj _ => List.mem_range.2 hj) (by simp) ?_
  rw [e]
  exact start w₁ h₁
end
end Go.Proofs.Ytkcknoodcgmndaa

end
section
/- The document's lists of numbers: Has, Same. -/
namespace Go.Proofs.Ytkcknoodcgmndaa
open Go.Conc Go.RowKit
set_option linter.unusedVariables false
set_option linter.unusedSimpArgs false
set_option maxRecDepth 100000
set_option maxHeartbeats 4000000













def Own (base : Nat) (w : World) (v : Value) (xs : List Int) : Prop := w.ownsRow base 3 1 v xs.length (xs.map (Value.int .i64))
structure SlI (w : World) (A : Option Addr) (g : Nat) (xs : List Int) : Prop where
  at_ : 0 < xs.length → A = some ⟨g, 0, none⟩
  cell : ∀ q x, xs[q]? = some x → w.cell? ⟨g, q, none⟩ = some (.int .i64 x)
theorem SlI.at {w w' : World} {A : Option Addr} {g : Nat} {xs : List Int} (h : SlI w A g xs) (r : AtRel w w') : SlI w' A g xs := ⟨h.at_, fun q x hx => (atRel_cell r _).trans (h.cell q x hx)⟩
theorem Own.open {base : Nat} {w : World} {v : Value} {xs : List Int} (h : Own base w v xs) : ∃ A g c, v = .slice A xs.length c ∧ xs.length ≤ c ∧ (0 < xs.length → base ≤ g ∧ g < w.heap.size) ∧ base ≤ g ∧ SlI w A g xs := by
  rcases h.2 with ⟨rfl, h0⟩ | ⟨g, cap, cur, rfl, hb, hg, hn, hm, hs, ht⟩
  · obtain rfl : xs = [] := List.length_eq_zero_iff.1 h0
    exact ⟨none, base, 0, rfl, Nat.le_refl _, fun h => by simp at h, Nat.le_refl _, fun h => by simp at h, fun q x hx => by simp at hx⟩
  · refine ⟨some ⟨g, 0, none⟩, g, cap, rfl, hn, fun _ => ⟨hb, (Array.getElem?_eq_some_iff.1 hg).1⟩, hb, fun _ => rfl, fun q x hx => ?_⟩
    have hq : q < xs.length := (List.getElem?_eq_some_iff.1 hx).1
    have h1 : (cur.toList.take (xs.length * 1))[q]? = some (.int .i64 x) := by
      rw [ht, List.getElem?_map, hx]
      rfl
    rw [List.getElem?_take_of_lt (by omega)] at h1
    simp only [World.cell?, hg]
    simpa using h1
theorem Own.at {base : Nat} {w w' : World} {v : Value} {xs : List Int} (h : Own base w v xs) (r : AtRel w w') : Own base w' v xs := ownsRow_at r h
theorem Own.keep {base : Nat} {w w' : World} {v : Value} {xs : List Int} (h : Own base w v xs) (hb : ∀ g, base ≤ g → g < w.heap.size → w'.heap[g]? = w.heap[g]?) : Own base w' v xs := by
  refine ⟨h.1, ?_⟩
  rcases h.2 with h2 | ⟨g, cap, cur, h1, h2, h3, h4⟩
  · exact .inl h2
  · exact .inr ⟨g, cap, cur, h1, h2, (hb g h2 (Array.getElem?_eq_some_iff.1 h3).1).trans h3, h4⟩
theorem Own.weak {b b' : Nat} {w : World} {v : Value} {xs : List Int} (h : Own b w v xs) (hb : b' ≤ b) : Own b' w v xs := by
  refine ⟨h.1, ?_⟩
  rcases h.2 with h2 | ⟨g, cap, cur, h1, h2, h3⟩
  · exact .inl h2
  · exact .inr ⟨g, cap, cur, h1, Nat.le_trans hb h2, h3⟩
theorem getq {xs : List Int} {q : Nat} (h : q < xs.length) : ∃ y, xs[q]? = some y := ⟨xs[q], List.getElem?_eq_getElem h⟩
section
variable {Shun : Loc → Prop}
theorem has24_W {w : World} {A : Option Addr} {g c : Nat} {xs : List Int} (h : SlI w A g xs) (x : Int) (hS0 : ∀ o, ¬ Shun (.cell ⟨g, o, none⟩)) (hlen : xs.length ≤ 1000000) :
    CW Shun 24 #[.slice A xs.length c, .int .i64 x] w (fun r w' => r = .bool (decide (x ∈ xs)) ∧ AtRel w w') := by
  have T9 := termsP Shun
  refine callsW_enter Try.func24 (by kernel_rfl) rfl ?_
  simp only [Try.ntmps24]
  walk_nrm
  have hF := atRel_refl w
  generalize hn : xs.length = len
  replace hn : RowKit.Hid _ := hn
  (repeat (first | (refine codeW_seq T9 ?_) | (refine codeW_region T9 ?_; simp only [List.size_toArray, List.length_cons, List.length_nil, Nat.reduceAdd, Nat.zero_add, List.range, List.range.loop]) | (refine opsW_nil T9 ?_; simp only [Exit.then, Exit.inBlock]) | (refine codeW_skip T9 ?_; simp only [Exit.then, Exit.inBlock]) | ((first | refine codeW_cond T9 (t := true) rfl ?_ | refine codeW_cond T9 (t := false) rfl ?_); simp only [if_true, if_false, Bool.false_eq_true, ↓reduceIte]) | (refine opsW_unwanted T9 rfl (by rfl) ?_; try walk_nrm) | (refine opsW_cons rfl (by rfl) ?_; intro _ hR K hK; replace hF := atRel_trans _ _ _ hF hR; clear hR; have hs9 := atRel_size hF; go_simp; refine hK _ _ ⟨?_, ?_⟩; (· rw [listed_nil (by simp [go_sem, *])]; exact dp0_nil); clear hK K hs9; try walk_nrm) | (refine codeW_block T9 ?_)))
  refine codeW_loop T9 (fun a' w' => ∃ (i : Nat) (v2 v3 v4 v6 v7 v8 v9 v10 v11 v12 v13 v14 v15 v16 v17 : Value), a' = ⟨#[.slice A len c, .int .i64 x, v2, v3, v4, .int .i64 i, v6, v7, v8, v9, v10, v11, v12, v13, v14, v15, v16, v17], []⟩ ∧ i ≤ len ∧ AtRel w w' ∧ ∀ q, q < i → xs[q]? ≠ some x)
    (fun a _ => match a.tmps.getD 5 undef with | .int _ i => ((len : Int) - i).toNat | _ => 0) ⟨0, _, _, _, _, _, _, _, _, _, _, _, _, _, _, _, rfl, Nat.zero_le _, hF, fun q h => absurd h (by omega)⟩ ?_
  clear hF
  rintro _ w2 ⟨i, v2, v3, v4, v6, v7, v8, v9, v10, v11, v12, v13, v14, v15, v16, v17, rfl, hi, hF, hno⟩
  by_cases hl : i < len
  · have e9 : decide ((i : Int) < (len : Int)) = true := decide_eq_true (by omega)
    have q1 : (i : Int) < (len : Int) := by omega
    have hln := hn.out
    have hA := h.at_ (by omega)
    obtain ⟨y, hy⟩ := getq (xs := xs) (q := i) (by omega)
    have hcy := h.cell i y hy
    replace hy : RowKit.Hid _ := hy
    have hS := hS0 i
    have ad9 : (if i = 0 then (⟨g, 0, none⟩ : Addr) else ⟨g, i, none⟩) = ⟨g, i, none⟩ := by
      by_cases h : i = 0
      · rw [h]; rfl
      · exact if_neg h
    have d7 : IntKind.i64.wrap ((i : Int) + 1) = (i : Int) + 1 := by rw [IntKind.wrap_i64]; omega
    clear hln
    replace hno : RowKit.Hid _ := hno
    (repeat (first | (refine codeW_seq T9 ?_) | (refine codeW_region T9 ?_; simp only [List.size_toArray, List.length_cons, List.length_nil, Nat.reduceAdd, Nat.zero_add, List.range, List.range.loop]) | (refine opsW_nil T9 ?_; simp only [Exit.then, Exit.inBlock]) | (refine codeW_skip T9 ?_; simp only [Exit.then, Exit.inBlock]) | ((first | refine codeW_cond T9 (t := true) rfl ?_ | refine codeW_cond T9 (t := false) rfl ?_); simp only [if_true, if_false, Bool.false_eq_true, ↓reduceIte]) | (refine opsW_unwanted T9 rfl (by rfl) ?_; try walk_nrm) | (refine opsW_cons rfl (by rfl) ?_; intro _ hR K hK; replace hF := atRel_trans _ _ _ hF hR; clear hR; have hs9 := atRel_size hF; go_simp; refine hK _ _ ⟨?_, ?_⟩; (· rw [listed_nil (by simp [go_sem, *])]; exact dp0_nil); clear hK K hs9; try walk_nrm) | (refine codeW_block T9 ?_)))
    have hc1 := hcy
    (refine opsW_cons rfl (by rfl) ?_; intro _ hR K hK; replace hF := atRel_trans _ _ _ hF hR; clear hR; have hl9 := (atRel_cell hF _).trans hc1; go_simp; refine hK _ _ ⟨?_, ?_⟩; (· intro e he; have hm := mem_listed he; simp [go_sem, hl9] at hm; rw [hm]; exact evP_cell _ hS); clear hK K hl9; try walk_nrm)
    clear hc1
    by_cases hxy : y = x
    · subst hxy
      (repeat (first | (refine codeW_seq T9 ?_) | (refine codeW_region T9 ?_; simp only [List.size_toArray, List.length_cons, List.length_nil, Nat.reduceAdd, Nat.zero_add, List.range, List.range.loop]) | (refine opsW_nil T9 ?_; simp only [Exit.then, Exit.inBlock]) | (refine codeW_skip T9 ?_; simp only [Exit.then, Exit.inBlock]) | ((first | refine codeW_cond T9 (t := true) rfl ?_ | refine codeW_cond T9 (t := false) rfl ?_); simp only [if_true, if_false, Bool.false_eq_true, ↓reduceIte]) | (refine opsW_unwanted T9 rfl (by rfl) ?_; try walk_nrm) | (refine opsW_cons rfl (by rfl) ?_; intro _ hR K hK; replace hF := atRel_trans _ _ _ hF hR; clear hR; have hs9 := atRel_size hF; go_simp; refine hK _ _ ⟨?_, ?_⟩; (· rw [listed_nil (by simp [go_sem, *])]; exact dp0_nil); clear hK K hs9; try walk_nrm) | (refine codeW_block T9 ?_)))
      (refine codeW_ret T9 ?_)
      exact ⟨rfl, _, resultsC_tmp (t := 4) rfl _, by rw [decide_eq_true (List.mem_of_getElem? hy.out)]; rfl, hF⟩
    · have e8 : (y == x) = false := by simpa using hxy
      replace hxy : RowKit.Hid _ := hxy
      (repeat (first | (refine codeW_seq T9 ?_) | (refine codeW_region T9 ?_; simp only [List.size_toArray, List.length_cons, List.length_nil, Nat.reduceAdd, Nat.zero_add, List.range, List.range.loop]) | (refine opsW_nil T9 ?_; simp only [Exit.then, Exit.inBlock]) | (refine codeW_skip T9 ?_; simp only [Exit.then, Exit.inBlock]) | ((first | refine codeW_cond T9 (t := true) rfl ?_ | refine codeW_cond T9 (t := false) rfl ?_); simp only [if_true, if_false, Bool.false_eq_true, ↓reduceIte]) | (refine opsW_unwanted T9 rfl (by rfl) ?_; try walk_nrm) | (refine opsW_cons rfl (by rfl) ?_; intro _ hR K hK; replace hF := atRel_trans _ _ _ hF hR; clear hR; have hs9 := atRel_size hF; go_simp; refine hK _ _ ⟨?_, ?_⟩; (· rw [listed_nil (by simp [go_sem, *])]; exact dp0_nil); clear hK K hs9; try walk_nrm) | (refine codeW_block T9 ?_)))
      refine ⟨⟨i + 1, _, _, _, _, _, _, _, _, _, _, _, _, _, _, _, by rw [hA]; rfl, by omega, hF, fun q hq => ?_⟩, ?_⟩
      · by_cases hqi : q < i
        · exact hno.out q hqi
        · obtain rfl : q = i := by omega
          rw [hy.out]
          exact fun e => hxy.out (by injection e)
      · simp
        omega
  · have e9 : decide ((i : Int) < (len : Int)) = false := decide_eq_false (by omega)
    (repeat (first | (refine codeW_seq T9 ?_) | (refine codeW_region T9 ?_; simp only [List.size_toArray, List.length_cons, List.length_nil, Nat.reduceAdd, Nat.zero_add, List.range, List.range.loop]) | (refine opsW_nil T9 ?_; simp only [Exit.then, Exit.inBlock]) | (refine codeW_skip T9 ?_; simp only [Exit.then, Exit.inBlock]) | ((first | refine codeW_cond T9 (t := true) rfl ?_ | refine codeW_cond T9 (t := false) rfl ?_); simp only [if_true, if_false, Bool.false_eq_true, ↓reduceIte]) | (refine opsW_unwanted T9 rfl (by rfl) ?_; try walk_nrm) | (refine opsW_cons rfl (by rfl) ?_; intro _ hR K hK; replace hF := atRel_trans _ _ _ hF hR; clear hR; have hs9 := atRel_size hF; go_simp; refine hK _ _ ⟨?_, ?_⟩; (· rw [listed_nil (by simp [go_sem, *])]; exact dp0_nil); clear hK K hs9; try walk_nrm) | (refine codeW_block T9 ?_)))
    (refine codeW_exit T9 ?_; simp only [Exit.then, Exit.inBlock, Exit.thenX, if_true, if_false, reduceIte, Nat.reduceEqDiff])
    (repeat (first | (refine codeW_seq T9 ?_) | (refine codeW_region T9 ?_; simp only [List.size_toArray, List.length_cons, List.length_nil, Nat.reduceAdd, Nat.zero_add, List.range, List.range.loop]) | (refine opsW_nil T9 ?_; simp only [Exit.then, Exit.inBlock]) | (refine codeW_skip T9 ?_; simp only [Exit.then, Exit.inBlock]) | ((first | refine codeW_cond T9 (t := true) rfl ?_ | refine codeW_cond T9 (t := false) rfl ?_); simp only [if_true, if_false, Bool.false_eq_true, ↓reduceIte]) | (refine opsW_unwanted T9 rfl (by rfl) ?_; try walk_nrm) | (refine opsW_cons rfl (by rfl) ?_; intro _ hR K hK; replace hF := atRel_trans _ _ _ hF hR; clear hR; have hs9 := atRel_size hF; go_simp; refine hK _ _ ⟨?_, ?_⟩; (· rw [listed_nil (by simp [go_sem, *])]; exact dp0_nil); clear hK K hs9; try walk_nrm) | (refine codeW_block T9 ?_)))
    (refine codeW_ret T9 ?_)
    refine ⟨rfl, _, resultsC_tmp (t := 4) rfl _, ?_, hF⟩
    rw [decide_eq_false fun hm => ?_]
    · rfl
    · obtain ⟨q, hq, e⟩ := List.getElem_of_mem hm
      have := hn.out
      exact hno q (by omega) (by rw [List.getElem?_eq_getElem hq, e])
end
end Go.Proofs.Ytkcknoodcgmndaa

end
