/- TallySweeps: plain law: what the workers leave of the marks. -/
import Derived.Test.YtkcknoodcgmndaaZMpA
import Derived.Test.YtkcknoodcgmndaaZSwB
namespace Go.Proofs.Ytkcknoodcgmndaa
open Go.ConcN (sumTo)
set_option linter.unusedVariables false
set_option linter.unusedSimpArgs false
theorem sumTo_ite (p : Nat → Bool) : ∀ m, sumTo m (fun k => if p k then 1 else 0) = ((List.range m).filter p).length
  | 0 => by simp [sumTo]
  | m + 1 => by
    rw [List.range_succ, List.filter_append, List.length_append, ← sumTo_ite p m]
    simp only [sumTo]
    congr 1
    cases h : p m <;> simp [h]
theorem popW_markL {ws : List Nat} {n : Nat} (hc : Clean ws n) (hn : n ≤ 64 * ws.length) : popW ws = (markL ws n).length := by
  unfold popW
  rw [sumTo_ite, ← count_markL hc hn, sum_pop]
theorem sumTo_zero {f : Nat → Nat} : ∀ {m : Nat}, (∀ i, i < m → f i = 0) → sumTo m f = 0
  | 0, _ => rfl
  | m + 1, h => by
    simp only [sumTo]
    rw [sumTo_zero (m := m) fun i hi => h i (by omega), h m (by omega)]
theorem done_idle {n : Nat} {ws : List Nat} {u : SU} (h : okSt n ws u) (ht : u.todo = []) : pend1 u = 0 := by
  obtain ⟨todo, st⟩ := u
  simp only at ht
  subst ht
  cases st with
  | idle => rfl
  | got v => exact h.elim
  | done b => exact h.elim
theorem sweep_plain {n : Nat} {ws ws2 : List Nat} {l : List (List Int)} {σ : SS} {us : Nat → SU} (h : SJ n l ⟨0, 0, ws⟩ σ us l.length) (hd : ∀ j, j < l.length → (us j).todo = []) (hc : Clean ws n) (hc2 : Clean ws2 n) (hn : n ≤ 64 * ws.length) (hl2 : ws2.length = ws.length)
    (hb : ∀ k, k < n → (bitW ws2 k = true ↔ bitW ws k = true ∨ ∃ j, j < l.length ∧ (k : Int) ∈ l.getD j [])) :
    Clean σ.ws n ∧ σ.ws.length = ws.length ∧ markL σ.ws n = markL ws2 n ∧ σ.won + (markL ws n).length = (markL ws2 n).length ∧ σ.won + σ.lost = sumTo l.length (fun i => (l.getD i []).length) := by
  have hcl : Clean σ.ws n := by
    intro k hk
    cases hbk : bitW σ.ws k with
    | false => rfl
    | true =>
      rcases h.new k hbk with h1 | ⟨i, _, y, _, ⟨h1, h2⟩, h3⟩
      · rw [hc k hk] at h1; cases h1
      · omega
  have hlen : σ.ws.length = ws.length := h.len
  have hm : markL σ.ws n = markL ws2 n := by
    refine eq_of_sorted9 (markL_sorted _ _) (markL_sorted _ _) fun x => ?_
    rw [mem_markL, mem_markL]
    refine and_congr_right fun hx => ?_
    have hk : x.toNat < n := by omega
    rw [hb _ hk]
    constructor
    · intro hbk
      rcases h.new _ hbk with h1 | ⟨i, hi, y, hy, ⟨h1, h2⟩, h3⟩
      · exact .inl h1
      · refine .inr ⟨i, hi, ?_⟩
        have : (x.toNat : Int) = y := by omega
        rw [this]
        exact hy
    · rintro (h1 | ⟨j, hj, hm⟩)
      · exact h.old _ h1
      · obtain ⟨p, hp, hall⟩ := h.suf j hj
        rw [hd j hj, List.append_nil] at hp
        rw [hp] at hm
        have := hall _ hm (by omega) (by omega)
        rw [Int.toNat_natCast] at this
        exact this
  refine ⟨hcl, hlen, hm, ?_, ?_⟩
  · have hz : sumTo l.length (fun i => pend1 (us i)) = 0 := sumTo_zero fun i hi => done_idle (h.stv i hi) (hd i hi)
    have hcnt := h.cnt
    rw [hz, popW_markL hcl (by rw [hlen]; exact hn), popW_markL hc hn, hm] at hcnt
    simp only at hcnt
    omega
  · have hz : sumTo l.length (fun i => (us i).todo.length) = 0 := sumTo_zero fun i hi => by rw [hd i hi]; rfl
    have htot := h.tot
    rw [hz] at htot
    simp only at htot
    omega
def setB (ws : List Nat) (y : Nat) : List Nat := if bitW ws y then ws else flipW ws y
theorem bit_setB {ws : List Nat} {y : Nat} (hy : y / 64 < ws.length) (k : Nat) : bitW (setB ws y) k = (decide (k = y) || bitW ws k) := by
  unfold setB
  by_cases h : bitW ws y = true
  · rw [if_pos h]
    by_cases hk : k = y
    · subst hk; rw [h]; simp
    · simp [hk]
  · rw [if_neg h, bit_flip hy]
    by_cases hk : k = y
    · subst hk
      simp [h]
    · simp [hk]
theorem Clean.setB {ws : List Nat} {n y : Nat} (h : Clean ws n) (hy : y < n) (hq : y / 64 < ws.length) : Clean (setB ws y) n := by
  intro k hk
  rw [bit_setB hq, h k hk]
  have : ¬ k = y := by omega
  simp [this]
end Go.Proofs.Ytkcknoodcgmndaa
