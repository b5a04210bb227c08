/- Package fix, plain: bytes that are read as numbers are put as the same bytes. -/
import Derived.Test.YtcmaekkfeilclaaFixH
namespace Go.Proofs.Ytcmaekkfeilclaa
open Go.RowKit
set_option linter.unusedSimpArgs false
set_option linter.unusedVariables false

theorem big_snoc (q j a : Nat) (ha : a < 256) : big (q * 256 + a) (j + 1) = big q j ++ [(a : Int)] := by
  unfold big
  rw [List.range_succ, List.map_append]
  congr 1
  · apply List.map_congr_left
    intro i hi
    have hi := List.mem_range.1 hi
    unfold digit
    have e : j + 1 - 1 - i = (j - 1 - i) + 1 := by omega
    have e2 : (q * 256 + a) / 256 = q := by omega
    rw [e, Nat.pow_succ, Nat.mul_comm (256 ^ (j - 1 - i)) 256, ← Nat.div_div_eq_div_mul, e2]
  · simp [digit]; omega
theorem numB_snoc (m : List Int) (a : Int) : numB (m ++ [a]) = numB m * 256 + a.toNat := by unfold numB; simp
theorem big_numB (t : List Int) (h : bytesB t) : big (numB t) t.length = t := by
  rw [← List.reverse_reverse t] at h ⊢
  generalize t.reverse = m at h ⊢
  induction m with
  | nil => rfl
  | cons a m ih =>
    have h2 := ih (fun z hz => h z (by rw [List.reverse_cons, List.mem_append]; exact .inl hz))
    have h3 := h a (by simp)
    rw [List.reverse_cons, numB_snoc, List.length_append, List.length_singleton, big_snoc _ _ _ (by omega), h2]
    congr 2
    omega

theorem bytesB_take (l : List Int) (k : Nat) (h : bytesB l) : bytesB (l.take k) := fun z hz => h z (List.mem_of_mem_take hz)
theorem get_cases (s : FI) (z : Int) (he : s.e = 0) (hb : bytesB s.l) :
    ((s.upto z 18446744073709551615).1.e ≠ 0 ∧ (s.upto z 18446744073709551615).1.l = [] ∧ (s.upto z 18446744073709551615).2 = 0) ∨
    ∃ j : Nat, z = j ∧ 1 ≤ j ∧ j ≤ 8 ∧ j ≤ s.l.length ∧ s.upto z 18446744073709551615 = (⟨s.l.drop j, 0⟩, numB (s.l.take j)) := by
  cases hk : knownB z
  · left
    have hU : s.upto z 18446744073709551615 = (s.fail 1, 0) := by rw [FI.upto, if_neg (by simp [he]), hk]; rfl
    rw [hU]
    exact ⟨s.fail_e 1 (by decide), rfl, rfl⟩
  · obtain ⟨h1, h8⟩ := (knownB_iff z).1 hk
    obtain ⟨j, rfl⟩ := Int.eq_ofNat_of_zero_le (show 0 ≤ z by omega)
    have hU : s.upto j 18446744073709551615 = if (s.next j).2.2 then (if 18446744073709551615 < numB (s.next j).2.1 then ((s.next j).1.fail 4, 0) else ((s.next j).1, numB (s.next j).2.1)) else ((s.next j).1, 0) := by
      rw [FI.upto, if_neg (by simp [he]), hk, if_pos rfl, Int.toNat_natCast]
    rw [hU]
    by_cases hl : s.l.length < j
    · left
      have hN : s.next j = (s.fail 3, [], false) := by rw [FI.next, if_neg (by simp [he]), if_pos hl]
      rw [hN]
      exact ⟨s.fail_e 3 (by decide), rfl, rfl⟩
    · right
      have hN : s.next j = (⟨s.l.drop j, 0⟩, s.l.take j, true) := by rw [FI.next, if_neg (by simp [he]), if_neg hl]
      refine ⟨j, rfl, by omega, by omega, by omega, ?_⟩
      have hlt := numB_lt (s.l.take j) (bytesB_take _ _ hb)
      have h2 : 256 ^ (s.l.take j).length ≤ 256 ^ 8 := Nat.pow_le_pow_right (by decide) (by rw [List.length_take]; omega)
      rw [hN]
      simp only [if_true]
      rw [if_neg (by omega)]
theorem num_back (s : FO) (t : List Int) (he : s.e = 0) (hb : bytesB t) (h1 : 1 ≤ t.length) (h8 : t.length ≤ 8) (hm : s.l.length + t.length ≤ s.m) : s.num (numB t) t.length = ⟨s.l ++ t, s.m, 0⟩ := by
  have hk : knownB t.length = true := (knownB_iff _).2 ⟨by omega, by omega⟩
  have hf : fitsB (numB t) t.length = true := by rw [fitsB, decide_eq_true_eq]; exact numB_lt t hb
  rw [FO.num, hk, if_pos rfl, Int.toNat_natCast, hf, if_pos rfl, big_numB t hb, FO.put, if_pos he, if_neg (by omega)]
  cases s; simp at he; subst he; rfl
end Go.Proofs.Ytcmaekkfeilclaa
