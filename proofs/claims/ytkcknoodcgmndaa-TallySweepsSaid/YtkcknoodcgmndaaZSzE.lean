/- TallySweeps: the second loop. -/
import Derived.Test.YtkcknoodcgmndaaZSzD
import Derived.Test.YtkcknoodcgmndaaZSgZ
namespace Go.Proofs.Ytkcknoodcgmndaa
open Go.Conc Go.RowKit
open Go.ConcN (sumTo)
set_option linter.unusedVariables false
set_option linter.unusedSimpArgs false
set_option maxRecDepth 100000
set_option maxHeartbeats 8000000

















/-- what is marked behind i lists and k numbers of the next -/
def MR (n : Nat) (l : List (List Int)) (ws ws2 : List Nat) (i k : Nat) : Prop :=
  ∀ b, b < n → (bitW ws2 b = true ↔ bitW ws b = true ∨ (∃ j, j < i ∧ (b : Int) ∈ l.getD j []) ∨ ∃ q, q < k ∧ (l.getD i [])[q]? = some (b : Int))
theorem MR.start (n : Nat) (l : List (List Int)) (ws : List Nat) : MR n l ws ws 0 0 := by
  intro b hb
  constructor
  · exact .inl
  · rintro (h | ⟨j, hj, _⟩ | ⟨q, hq, _⟩)
    · exact h
    · omega
    · omega
theorem MR.step {n : Nat} {l : List (List Int)} {ws ws2 : List Nat} {i k : Nat} {x : Int} (h : MR n l ws ws2 i k) (hx : (l.getD i [])[k]? = some x) (hq : n ≤ 64 * ws2.length) : MR n l ws (if 0 ≤ x ∧ x < (n : Int) then setB ws2 x.toNat else ws2) i (k + 1) := by
  intro b hb
  have h0 := h b hb
  have key : (∃ q, q < k + 1 ∧ (l.getD i [])[q]? = some (b : Int)) ↔ (x = (b : Int)) ∨ ∃ q, q < k ∧ (l.getD i [])[q]? = some (b : Int) := by
    constructor
    · rintro ⟨q, h1, h2⟩
      by_cases hqk : q = k
      · subst hqk
        rw [hx] at h2
        injection h2 with h2
        exact .inl h2
      · exact .inr ⟨q, by omega, h2⟩
    · rintro (h1 | ⟨q, h1, h2⟩)
      · exact ⟨k, by omega, by rw [hx, h1]⟩
      · exact ⟨q, by omega, h2⟩
  rw [key]
  by_cases hr : 0 ≤ x ∧ x < (n : Int)
  · rw [if_pos hr, bit_setB (by omega), Bool.or_eq_true, h0]
    have : decide (b = x.toNat) = true ↔ x = (b : Int) := by
      rw [decide_eq_true_iff]
      omega
    rw [this]
    constructor
    · rintro (h1 | h1 | h1 | h1)
      · exact .inr (.inr (.inl h1))
      · exact .inl h1
      · exact .inr (.inl h1)
      · exact .inr (.inr (.inr h1))
    · rintro (h1 | h1 | h1 | h1)
      · exact .inr (.inl h1)
      · exact .inr (.inr (.inl h1))
      · exact .inl h1
      · exact .inr (.inr (.inr h1))
  · rw [if_neg hr, h0]
    have : ¬ x = (b : Int) := by omega
    constructor
    · rintro (h1 | h1 | h1)
      · exact .inl h1
      · exact .inr (.inl h1)
      · exact .inr (.inr (.inr h1))
    · rintro (h1 | h1 | h1 | h1)
      · exact .inl h1
      · exact .inr (.inl h1)
      · exact absurd h1 this
      · exact .inr (.inr h1)
theorem MR.next {n : Nat} {l : List (List Int)} {ws ws2 : List Nat} {i : Nat} (h : MR n l ws ws2 i (l.getD i []).length) : MR n l ws ws2 (i + 1) 0 := by
  intro b hb
  rw [h b hb]
  constructor
  · rintro (h1 | ⟨j, h1, h2⟩ | ⟨q, h1, h2⟩)
    · exact .inl h1
    · exact .inr (.inl ⟨j, by omega, h2⟩)
    · exact .inr (.inl ⟨i, by omega, List.mem_of_getElem? h2⟩)
  · rintro (h1 | ⟨j, h1, h2⟩ | ⟨q, h1, _⟩)
    · exact .inl h1
    · by_cases hj : j = i
      · subst hj
        obtain ⟨q, hq, e⟩ := List.getElem_of_mem h2
        exact .inr (.inr ⟨q, hq, by rw [List.getElem?_eq_getElem hq, e]⟩)
      · exact .inr (.inl ⟨j, by omega, h2⟩)
    · omega
theorem MR.fin {n : Nat} {l : List (List Int)} {ws ws2 : List Nat} (h : MR n l ws ws2 l.length 0) : ∀ k, k < n → (bitW ws2 k = true ↔ bitW ws k = true ∨ ∃ j, j < l.length ∧ (k : Int) ∈ l.getD j []) := by
  intro k hk
  rw [h k hk]
  constructor
  · rintro (h1 | h1 | ⟨q, h1, _⟩)
    · exact .inl h1
    · exact .inr h1
    · omega
  · rintro (h1 | h1)
    · exact .inl h1
    · exact .inr (.inl h1)
end Go.Proofs.Ytkcknoodcgmndaa
