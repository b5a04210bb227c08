/- What is put is read back: plain. -/
import Derived.Test.YtejjifbjmibapaaFixPuts
import Derived.Test.YtejjifbjmibapaaFixP
namespace Go.Proofs.Ytejjifbjmibapaa
open Go.RowKit
set_option linter.unusedSimpArgs false
set_option linter.unusedVariables false
set_option maxHeartbeats 1000000

theorem numB_big (j n : Nat) (h : n < 256 ^ j) : numB (big n j) = n := by
  induction j generalizing n with
  | zero => have : n = 0 := by simpa using h
            subst this; rfl
  | succ j ih =>
    have hq : n / 256 < 256 ^ j := by
      rw [Nat.pow_succ] at h
      exact Nat.div_lt_of_lt_mul (by omega)
    have e : n = (n / 256) * 256 + n % 256 := by omega
    have hs := big_snoc (n / 256) j (n % 256) (by omega)
    rw [← e] at hs
    rw [hs, numB_snoc, ih _ hq]
    have : ((n % 256 : Nat) : Int).toNat = n % 256 := Int.toNat_natCast _
    rw [this]; omega
theorem big_bytes (n j : Nat) : bytesB (big n j) := by
  intro z hz
  unfold big digit at hz
  rw [List.mem_map] at hz
  obtain ⟨i, _, rfl⟩ := hz
  omega
theorem It.ans_bytes (x : It) (h : bytesB x.b) : bytesB x.ans.1 := by
  have hc : bytesB x.cut := bytesB_take _ _ h
  unfold It.ans
  split
  · unfold It.num
    split
    · split
      · exact big_bytes _ _
      · exact fun z hz => by simp at hz
    · exact fun z hz => by simp at hz
  · split
    · exact hc
    · split
      · intro z hz
        rcases List.mem_append.1 hz with h1 | h1
        · exact big_bytes _ _ z h1
        · exact hc z h1
      · intro z hz
        simp at hz
        subst hz; omega
/-- all bytes of the first k -/
def catN (xs : Nat → It) : Nat → List Int
  | 0 => []
  | k + 1 => catN xs k ++ (xs k).ans.1
theorem catN_len (xs : Nat → It) (k : Nat) (h : ∀ j, (xs j).ans.1.length ≤ 62) : (catN xs k).length ≤ k * 62 := by
  induction k with
  | zero => simp [catN]
  | succ k ih => rw [catN, List.length_append]; have := h k; omega
theorem catN_bytes (xs : Nat → It) (k : Nat) (h : ∀ j, j < k → bytesB (xs j).b) : bytesB (catN xs k) := by
  induction k with
  | zero => exact fun z hz => by simp [catN] at hz
  | succ k ih =>
    intro z hz
    rcases List.mem_append.1 hz with h1 | h1
    · exact ih (fun j hj => h j (by omega)) z h1
    · exact (xs k).ans_bytes (h k (by omega)) z h1
theorem catN_pre (xs : Nat → It) (k n : Nat) (h : k ≤ n) : ∃ l, catN xs n = catN xs k ++ l := by
  induction n with
  | zero => obtain rfl : k = 0 := by omega
            exact ⟨[], by simp⟩
  | succ n ih =>
    by_cases hk : k = n + 1
    · subst hk; exact ⟨[], by simp⟩
    · obtain ⟨l, hl⟩ := ih (by omega)
      exact ⟨l ++ (xs n).ans.1, by rw [catN, hl, List.append_assoc]⟩
theorem catN_step (xs : Nat → It) (k n : Nat) (l : List Int) (hk : k < n) (h : catN xs k ++ l = catN xs n) : ∃ l', l = (xs k).ans.1 ++ l' ∧ catN xs (k + 1) ++ l' = catN xs n := by
  obtain ⟨l', hl⟩ := catN_pre xs (k + 1) n hk
  refine ⟨l', ?_, hl.symm⟩
  rw [hl, catN, List.append_assoc] at h
  exact List.append_cancel_left h

theorem next_app (a l : List Int) : (⟨a ++ l, 0⟩ : FI).next a.length = (⟨l, 0⟩, a, true) := by
  rw [FI.next, if_neg (by simp), if_neg (by simp)]
  simp
theorem upto_num (x : It) (l : List Int) (h0 : x.kd = 0) (he : x.ans.2 = 0) (hn : x.n < 18446744073709551616) : (⟨x.ans.1 ++ l, 0⟩ : FI).upto x.wd 18446744073709551615 = (⟨l, 0⟩, x.n) := by
  rw [It.ans, if_pos h0] at he ⊢
  unfold It.num at he ⊢
  cases hk : knownB x.wd
  · rw [hk] at he; simp at he
  · cases hf : fitsB x.n x.wd.toNat
    · rw [hk, hf] at he; simp at he
    · simp only [if_true]
      have hl : (big x.n x.wd.toNat).length = x.wd.toNat := big_len _ _
      have hN := next_app (big x.n x.wd.toNat) l
      rw [hl] at hN
      have hfn : x.n < 256 ^ x.wd.toNat := by rwa [fitsB, decide_eq_true_eq] at hf
      rw [FI.upto, if_neg (by simp), hk, if_pos rfl, hN]
      simp only [if_true]
      rw [numB_big _ _ hfn, if_neg (by omega)]
theorem raw_cut (x : It) (l : List Int) : (⟨x.cut ++ l, 0⟩ : FI).raw (x.cut.length : Int) = (⟨l, 0⟩, x.cut) := by
  rw [FI.raw, if_neg (by omega), Int.toNat_natCast, next_app]
theorem text_cut (b l : List Int) (h : b.length ≤ 60) : (⟨(big b.length 2 ++ b) ++ l, 0⟩ : FI).text 60 = (⟨l, 0⟩, b) := by
  have hN := next_app (big b.length 2) (b ++ l)
  rw [big_len] at hN
  rw [List.append_assoc, FI.text, hN]
  simp only [if_true]
  rw [numB_big _ _ (by omega), if_neg (by omega), FI.raw, if_neg (by omega), Int.toNat_natCast, next_app]
theorem bool_back (n : Nat) (l : List Int) : (⟨[((n % 2 : Nat) : Int)] ++ l, 0⟩ : FI).upto 1 1 = (⟨l, 0⟩, n % 2) := by
  have hN := next_app [((n % 2 : Nat) : Int)] l
  have hk : knownB 1 = true := rfl
  rw [FI.upto, if_neg (by simp), hk, if_pos rfl]
  have h1 : (1 : Int).toNat = 1 := rfl
  rw [h1]
  simp only [List.length_singleton] at hN
  rw [hN]
  simp only [if_true]
  have : numB [((n % 2 : Nat) : Int)] = n % 2 := by simp [numB]; omega
  rw [this, if_neg (by omega)]
theorem add_cat (xs : Nat → It) (k : Nat) (hk : k < 30) (he : (xs k).ans.2 = 0) : (⟨catN xs k, 5000, 0⟩ : FO).add (xs k).ans = ⟨catN xs (k + 1), 5000, 0⟩ := by
  have h1 := catN_len xs k (fun j => (xs j).ans_len)
  have h2 := (xs k).ans_len
  rw [FO.add_ok _ _ rfl he (by show ¬ ((5000 : Int) - ((catN xs k).length : Nat) < ((xs k).ans.1.length : Nat)); omega)]
  rfl
end Go.Proofs.Ytejjifbjmibapaa
