/- A region that draws its order: walked by an invariant over what has come up. -/
import Derived.Test.YtinghnaigpenkaaSkX
namespace Go.Proofs.Ytinghnaigpenkaa
open Go.Conc
set_option linter.unusedVariables false
set_option linter.unusedSimpArgs false
set_option linter.unusedSectionVars false
def updB (L : Nat → Bool) (i : Nat) : Nat → Bool := fun j => if j = i then true else L j
section
variable {P : Program} {main : Bool} {R : World → World → Prop} {D : World → World → Array Event → Prop} {fn : FuncId} {ops : Array Oper} {Q : Exit → Act → World → Prop}
theorem opW_mono {i : Nat} {K K' : Act → World → Prop} {a : Act} {w : World} (h : OpW P main R D fn ops i K a w) (hk : ∀ a w, K a w → K' a w) : OpW P main R D fn ops i K' a w :=
  fun rest Q' hQ => h rest Q' fun a' w' x => hQ _ _ (hk _ _ x)
theorem anyW_inv {md : Region.Mode} (hback : (List.range ops.size).all (fun i => match ops[i]? with | some o => o.after.all (fun e => decide (e.on < i)) | none => true) = true) (I : (Nat → Bool) → Act → World → Prop)
    (step : ∀ (L : Nat → Bool) a w, I L a w → ∀ i o, ops[i]? = some o → L i = false → (∀ e ∈ o.after, Region.binds md e = true → L e.on = true) → OpW P main R D fn ops i (fun a' w' => I (updB L i) a' w') a w)
    (fin : ∀ (L : Nat → Bool) a w, I L a w → (∀ i, i < ops.size → L i = true) → Q .normal a w) :
    ∀ (fuel : Nat) (listed : Array Bool) (rem : List Nat) (a : Act) (w : World), listed.size = ops.size → (∀ j, j < ops.size → listed.getD j false = false → j ∈ rem) → rem.length ≤ fuel → I (fun j => listed.getD j false) a w → AnyW P main R D fn md ops Q fuel listed a w := by
  have back : ∀ (i : Nat) (o : Oper), ops[i]? = some o → ∀ (e : Edge), e ∈ o.after → e.on < i := by
    intro i o ho e he
    have hi : i < ops.size := (Array.getElem?_eq_some_iff.1 ho).1
    have h1 := List.all_eq_true.1 hback i (List.mem_range.2 hi)
    rw [ho] at h1
    simp only at h1
    have h2 := Array.all_eq_true_iff_forall_mem.1 h1 e he
    simpa using h2
  intro fuel
  induction fuel with
  | zero =>
    intro listed rem a w hs hr hl hI
    obtain rfl : rem = [] := List.length_eq_zero_iff.1 (by omega)
    refine fin _ a w hI fun i hi => ?_
    cases h : listed.getD i false with
    | true => rfl
    | false => exact absurd (hr i hi h) (by simp)
  | succ fuel ih =>
    intro listed rem a w hs hr hl hI
    refine ⟨fun he => fin _ a w hI ?_, fun i hi => ?_⟩
    · have key : ∀ n i, i ≤ n → i < ops.size → listed.getD i false = true := by
        intro n
        induction n using Nat.strongRecOn with
        | _ n ihn =>
          intro i hin hi
          by_cases hlt : i < n
          · exact ihn i hlt i (Nat.le_refl _) hi
          obtain rfl : i = n := by omega
          cases h : listed.getD i false with
          | true => rfl
          | false =>
            exfalso
            have hm : i ∈ Region.ready md ops listed := by
              refine mem_ready.2 ⟨?_, ops[i], Array.getElem?_eq_getElem hi, fun e he' _ => ?_⟩
              · have hlt' : i < listed.size := by omega
                simp [Array.getD, hlt'] at h ⊢
                exact h
              · have := back i _ (Array.getElem?_eq_getElem hi) e he'
                exact ihn e.on this e.on (Nat.le_refl _) (by omega)
            rw [he] at hm
            simp at hm
      exact fun i hi => key i i (Nat.le_refl _) hi
    · obtain ⟨h0, o, ho, hall⟩ := mem_ready.1 hi
      have hilt : i < ops.size := (Array.getElem?_eq_some_iff.1 ho).1
      have hil : i < listed.size := by omega
      have h0' : listed.getD i false = false := by
        simp [Array.getD, hil] at h0 ⊢
        exact h0
      refine opW_mono (step _ a w hI i o ho h0' hall) fun a' w' hI' => ?_
      have hI2 : I (fun j => (listed.setIfInBounds i true).getD j false) a' w' := by
        have e : (fun j => (listed.setIfInBounds i true).getD j false) = updB (fun j => listed.getD j false) i := by
          funext j
          unfold updB
          by_cases hj : j = i
          · subst hj
            simp [Array.getD, hil]
          · rw [if_neg hj, getD_set_ne false (Ne.symm hj)]
        rw [e]
        exact hI'
      refine ih _ (rem.erase i) a' w' (by simpa using hs) (fun j hj hf => ?_) ?_ hI2
      · by_cases hji : j = i
        · subst hji
          exfalso
          simp [Array.getD, hil] at hf
        · rw [getD_set_ne false (Ne.symm hji)] at hf
          exact (List.mem_erase_of_ne hji).2 (hr j hj hf)
      · have := List.length_erase_of_mem (hr i hilt h0')
        omega
/-- one operation, by what it leaves -/
theorem opsW_mid9 {ops : Array Oper} {i : Nat} {rest : List Nat} {o : Oper} {a : Act} {w : World} (M : Value → World → Prop) (ho : ops[i]? = some o) (hw : Region.wanted o (yielded ops a.tmps) = true)
    (h : ∀ w₁, R w w₁ → ∀ K : Act → World → Prop, (∀ v w', D w₁ w' (listed P fn a o w₁) ∧ M v w' → K (a.put o.dst v) w') → uponK o a K ((execOp a.eval o).run P w₁)) (hn : ∀ v w', M v w' → OpsW P main R D fn ops rest Q (a.put o.dst v) w') : OpsW P main R D fn ops (i :: rest) Q a w :=
  opsW_cons ho hw fun w₁ h₁ K hK => h w₁ h₁ K fun v w' x => hK _ _ ⟨x.1, hn v w' x.2⟩
/-- the region, whole -/
theorem codeW_region_inv (T : Terms R D) (hd : LetsDraw D) {id : Nat} (hm : P.follows .mixedOrders = true) {a : Act} {w : World}
    (hback : (List.range ops.size).all (fun i => match ops[i]? with | some o => o.after.all (fun e => decide (e.on < i)) | none => true) = true) (I : (Nat → Bool) → Act → World → Prop)
    (start : ∀ w₁, R w w₁ → I (fun _ => false) a { w₁ with drawn := w₁.drawn + 1 })
    (step : ∀ (L : Nat → Bool) a w, I L a w → ∀ i o, ops[i]? = some o → L i = false → (∀ e ∈ o.after, Region.binds .any e = true → L e.on = true) → OpW P main R D fn ops i (fun a' w' => I (updB L i) a' w') a w)
    (fin : ∀ (L : Nat → Bool) a w, I L a w → (∀ i, i < ops.size → L i = true) → Q .normal a w) : CodeW P main R D fn (.region id ops true) Q a w := by
  refine codeW_region_any T hd hm fun w₁ h₁ => ?_
  have e : (fun j => (Array.replicate ops.size false).getD j false) = (fun _ => false) := by
    funext j
    simp only [Array.getD]
    split
    · simp
    · rfl
  refine anyW_inv hback I step fin ops.size (Array.replicate ops.size false) (List.range ops.size) a _ (by simp) (fun j hj _ => List.mem_range.2 hj) (by simp) ?_
  rw [e]
  exact start w₁ h₁
end
end Go.Proofs.Ytinghnaigpenkaa
