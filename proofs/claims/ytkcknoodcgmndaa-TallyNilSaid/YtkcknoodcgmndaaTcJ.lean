/- A sweep without marks: the plain law. -/
import Derived.Test.YtkcknoodcgmndaaSwA
namespace Go.Proofs.Ytkcknoodcgmndaa
open Go.ConcN (sumTo)
theorem nil_plain {l : List (List Int)} {σ : SS} {us : Nat → SU} (h : SJ 0 l ⟨0, 0, []⟩ σ us l.length) (hd : ∀ j, j < l.length → (us j).todo = []) : σ.won = 0 ∧ σ.lost = sumTo l.length (fun j => (l.getD j []).length) := by
  have hp : ∀ j, j < l.length → pend1 (us j) = 0 := fun j hj => by
    have h1 := h.stv j hj
    unfold okSt at h1
    rw [hd j hj] at h1
    cases e : (us j).st with
    | idle => simp [pend1, e]
    | got v => rw [e] at h1; exact h1.elim
    | done b => rw [e] at h1; exact h1.elim
  have z : ∀ (f : Nat → Nat) (n : Nat), (∀ j, j < n → f j = 0) → sumTo n f = 0 := fun f n => by
    induction n with
    | zero => intro _; rfl
    | succ n ih =>
      intro hf
      simp only [sumTo]
      rw [ih (fun j hj => hf j (by omega)), hf n (by omega)]
  have hl : σ.ws = [] := List.length_eq_zero_iff.1 h.len
  have hc := h.cnt
  have ht := h.tot
  rw [hl] at hc
  have p0 : popW [] = 0 := rfl
  rw [z _ _ hp] at hc
  rw [z (fun i => (us i).todo.length) _ (fun j hj => by rw [hd j hj]; rfl)] at ht
  simp only [p0] at hc ht
  exact ⟨by omega, by omega⟩
end Go.Proofs.Ytkcknoodcgmndaa
