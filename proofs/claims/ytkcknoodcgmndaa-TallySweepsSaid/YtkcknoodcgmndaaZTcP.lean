import Derived.Test.YtkcknoodcgmndaaZSwB
section
/- awake's sweep: the plain law. -/
namespace Go.Proofs.Ytkcknoodcgmndaa
open Go.ConcN (sumTo)
theorem awake_plain {σ : SS} {us : Nat → SU} (h : SJ 3 [[0, 1], [1, 2, 5]] ⟨0, 0, [0]⟩ σ us 2) (hd : ∀ j, j < 2 → (us j).todo = []) : σ.won = 3 ∧ σ.lost = 2 ∧ σ.ws = [7] := by
  have hp : ∀ j, j < 2 → pend1 (us j) = 0 := fun j hj => by
    have h1 := h.stv j hj
    unfold okSt at h1
    rw [hd j hj] at h1
    cases e : (us j).st with
    | idle => simp [pend1, e]
    | got v => rw [e] at h1; exact h1.elim
    | done b => rw [e] at h1; exact h1.elim
  obtain ⟨v, hv⟩ : ∃ v, σ.ws = [v] := by
    have hl : σ.ws.length = 1 := h.len
    match hw : σ.ws, hl with
    | [v], _ => exact ⟨v, rfl⟩
  have hr : v < 2 ^ 64 := h.rng v (by rw [hv]; simp)
  have s0 := h.suf 0 (by omega)
  have s1 := h.suf 1 (by omega)
  obtain ⟨p0, e0, q0⟩ := s0
  obtain ⟨p1, e1, q1⟩ := s1
  rw [hd 0 (by omega), List.append_nil] at e0
  rw [hd 1 (by omega), List.append_nil] at e1
  subst e0 e1
  rw [hv] at q0 q1
  have b0 : v.testBit 0 = true := q0 0 (by simp) (by omega) (by omega)
  have b1 : v.testBit 1 = true := q0 1 (by simp) (by omega) (by omega)
  have b2 : v.testBit 2 = true := q1 2 (by simp) (by omega) (by omega)
  have bn : ∀ k, 3 ≤ k → v.testBit k = false := fun k hk => by
    by_cases h64 : k < 64
    · cases e : v.testBit k with
      | false => rfl
      | true =>
        have hb : bitW σ.ws k = true := by
          rw [hv]
          unfold bitW
          rw [Nat.div_eq_of_lt h64, Nat.mod_eq_of_lt h64]
          exact e
        rcases h.new k hb with h1 | ⟨i, hi, y, hy, hy3, rfl⟩
        · exfalso
          unfold bitW at h1
          rw [Nat.div_eq_of_lt h64] at h1
          simp at h1
        · omega
    · exact Nat.testBit_lt_two_pow (Nat.lt_of_lt_of_le hr (Nat.pow_le_pow_right (by omega) (by omega)))
  have h7 : v = 7 := by
    apply Nat.eq_of_testBit_eq
    intro k
    by_cases hk : 3 ≤ k
    · rw [bn k hk]
      exact (Nat.testBit_lt_two_pow (Nat.lt_of_lt_of_le (by omega : 7 < 2 ^ 3) (Nat.pow_le_pow_right (by omega) hk))).symm
    · have hk : k = 0 ∨ k = 1 ∨ k = 2 := by omega
      rcases hk with rfl | rfl | rfl
      · exact b0
      · exact b1
      · exact b2
  subst h7
  have hc := h.cnt
  have ht := h.tot
  rw [hv] at hc
  have z1 : popW [7] = 3 := by decide
  have z0 : popW [0] = 0 := by decide
  have hs : sumTo 2 (fun i => pend1 (us i)) = 0 := by simp [sumTo, hp 0 (by omega), hp 1 (by omega)]
  have hs2 : sumTo 2 (fun i => (us i).todo.length) = 0 := by simp [sumTo, hd 0 (by omega), hd 1 (by omega)]
  have hs3 : sumTo 2 (fun i => (([[0, 1], [1, 2, 5]] : List (List Int)).getD i []).length) = 5 := by decide
  simp only [z1, z0, hs] at hc
  rw [hs2, hs3] at ht
  simp only at ht
  exact ⟨by omega, by omega, hv⟩
end Go.Proofs.Ytkcknoodcgmndaa

end
