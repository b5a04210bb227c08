/- Loops and blocks across phases. -/
import Derived.Test.YtkcknoodcgmndaaZRfB
namespace Go.Proofs.Ytkcknoodcgmndaa
open Go.Conc
set_option linter.unusedVariables false
set_option linter.unusedSimpArgs false
def Exit.inBlockX (id : Nat) (Q : Exit → Act → World → XS → Prop) : Exit → Act → World → XS → Prop
  | .exit id', a, w, x => if id' = id then Q .normal a w x else Q (.exit id') a w x
  | e, a, w, x => Q e a w x
section
variable {P : Program} {Post : Value → World → Prop} {fn : FuncId} {Q : Exit → Act → World → XS → Prop} {a : Act} {w : World} {x : XS}
theorem codeX_block {id : Nat} {c : Code} (h : CodeX P Post fn c (Exit.inBlockX id Q) a w x) : CodeX P Post fn (.block id c) Q a w x := by
  intro k cs hc
  have hx : Win P Post x (G ((base fn).at a (.code c :: .inBlock id :: k)) cs) w := by
    refine h (.inBlock id :: k) cs fun e a' w' x' q => ?_
    cases e with
    | normal =>
      have h1 : Win P Post x' (G ((base fn).at a' k) cs) w' := hc .normal a' w' x' q
      exact win_mk rfl fun w₁ h₁ => by rw [stepG_inBlock]; exact ⟨fun e he => by simp at he, h1.rely h₁⟩
    | exit id' =>
      by_cases hid : id' = id
      · subst hid
        have q' : Q .normal a' w' x' := by simpa [Exit.inBlockX] using q
        exact ⟨k, by simp [exitTo], hc .normal a' w' x' q'⟩
      · have q' : Q (.exit id') a' w' x' := by simpa [Exit.inBlockX, hid] using q
        obtain ⟨k', hk, hg⟩ := hc _ a' w' x' q'
        have hne : (id == id') = false := by simpa using fun e => hid e.symm
        exact ⟨k', by simp [exitTo, hne, hk], hg⟩
    | ret => exact hc _ a' w' x' q
    | goto l => exact hc _ a' w' x' q
    | panic ch => exact hc _ a' w' x' q
    | outgrown => exact hc _ a' w' x' q
  exact win_mk rfl fun w₁ h₁ => by rw [stepG_block]; exact ⟨fun e he => by simp at he, hx.rely h₁⟩
theorem codeX_loop {cd : Code} (I : Act → World → Prop) (μ : Act → World → Nat) (h₀ : I a w)
    (round : ∀ a w, I a w → CodeX P Post fn cd (Exit.thenX (fun a' w' x' => x' = x ∧ I a' w' ∧ μ a' w' < μ a w) Q) a w x) : CodeX P Post fn (.loop cd) Q a w x := by
  intro k cs hc
  have key : ∀ M a w, μ a w ≤ M → I a w → Win P Post x (G ((base fn).at a (.code cd :: .inLoop cd :: k)) cs) w := by
    intro M
    induction M with
    | zero =>
      intro a w hm hI
      refine round a w hI (.inLoop cd :: k) cs fun e a' w' x' q => ?_
      by_cases he : e = .normal
      · subst he
        obtain ⟨_, _, hlt⟩ := q
        omega
      · have q' : Q e a' w' x' := by cases e <;> first | exact absurd rfl he | exact q
        exact AfterX.push (y := .inLoop cd) rfl he (hc _ _ _ _ q')
    | succ M ih =>
      intro a w hm hI
      refine round a w hI (.inLoop cd :: k) cs fun e a' w' x' q => ?_
      by_cases he : e = .normal
      · subst he
        obtain ⟨hx, hI', hlt⟩ := q
        have h1 := ih a' w' (by omega) hI'
        rw [hx]
        exact win_mk rfl fun w₁ h₁ => by rw [stepG_inLoop]; exact ⟨fun e he => by simp at he, h1.rely h₁⟩
      · have q' : Q e a' w' x' := by cases e <;> first | exact absurd rfl he | exact q
        exact AfterX.push (y := .inLoop cd) rfl he (hc _ _ _ _ q')
  exact win_mk rfl fun w₁ h₁ => by rw [stepG_loop]; exact ⟨fun e he => by simp at he, (key _ a w (Nat.le_refl _) h₀).rely h₁⟩
end
end Go.Proofs.Ytkcknoodcgmndaa
