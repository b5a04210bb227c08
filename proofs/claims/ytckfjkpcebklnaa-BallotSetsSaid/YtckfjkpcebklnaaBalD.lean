/- Contracts of member and Has. -/
import Derived.Test.YtckfjkpcebklnaaBalC
namespace Go.Proofs.Ytckfjkpcebklnaa
open Go.RowKit
set_option linter.unusedSimpArgs false
set_option linter.unusedVariables false

def memberB (i : Int) : Bool := decide (1 ≤ i) && decide (i ≤ 63)
theorem memberB_iff (i : Int) : memberB i = true ↔ 1 ≤ i ∧ i ≤ 63 := by simp [memberB]
def hasB (n : Nat) (i : Int) : Bool := memberB i && n.testBit i.toNat

theorem member_any (i : Int) (w : World) :
    Calls Try.prog 34 #[.int .i64 i] w fun e w' => e = .returned (.bool (memberB i)) ∧ w = w' := by
  unfold memberB
  by_cases h1 : 1 ≤ i
  all_goals by_cases h2 : i ≤ 63
  all_goals
    go_enter Try.func34, Try.ntmps34
    go_wp2
    go_ret
    exact ⟨by simp; omega, rfl⟩

theorem bit_and (n k : Nat) (hn : n < 18446744073709551616) : (bits .and .u64 ((n : Int) / 2 ^ k) 1 == 1) = n.testBit k := by
  have e : ((n : Int) / 2 ^ k) = ((n / 2 ^ k : Nat) : Int) := by simp
  have h := u64_and_nat (n / 2 ^ k) 1 (Nat.lt_of_le_of_lt (Nat.div_le_self _ _) hn) (by omega)
  rw [e, show (1 : Int) = ((1 : Nat) : Int) from rfl, h, nat_mask1, Nat.testBit_eq_decide_div_mod_eq, Bool.eq_iff_iff]
  simp only [beq_iff_eq, decide_eq_true_eq]
  omega
theorem bit_tmod (n k : Nat) : (((n : Int) / 2 ^ k).tmod 2 == 1) = n.testBit k := by
  have e : ((n : Int) / 2 ^ k) = ((n / 2 ^ k : Nat) : Int) := by simp
  rw [e, Int.tmod_eq_emod_of_nonneg (Int.natCast_nonneg _), Nat.testBit_eq_decide_div_mod_eq, Bool.eq_iff_iff]
  simp only [beq_iff_eq, decide_eq_true_eq]
  omega
theorem half (n m : Nat) : (n : Int) / 2 ^ m / 2 = (n : Int) / 2 ^ (m + 1) := by
  rw [Int.pow_succ, Int.ediv_ediv_of_nonneg (by exact Int.pow_nonneg (by decide))]
theorem hasB_in (n k : Nat) (h1 : 1 ≤ k) (h2 : k ≤ 63) : hasB n k = n.testBit k := by
  have : memberB k = true := (memberB_iff k).2 (by omega)
  simp [hasB, this]
theorem hasB_out (n : Nat) (i : Int) (h : ¬ (1 ≤ i ∧ i ≤ 63)) : hasB n i = false := by
  have : memberB i = false := by cases hh : memberB i; rfl; exact absurd ((memberB_iff i).1 hh) h
  simp [hasB, this]

theorem has_any (n : Nat) (hn : n < 18446744073709551616) (i : Int) (w : World) :
    Calls Try.prog 22 #[.int .u64 n, .int .i64 i] w fun e w' => e = .returned (.bool (hasB n i)) ∧ w = w' := by
  by_cases c : 1 ≤ i ∧ i ≤ 63
  · have hm := (memberB_iff i).2 c
    obtain ⟨k, rfl⟩ := Int.eq_ofNat_of_zero_le (show 0 ≤ i by omega)
    go_enter Try.func22, Try.ntmps22
    go_wp2_with (go_at_call 34; refine (member_any _ _).mono ?_; rintro e w' ⟨rfl, rfl⟩)
    go_ret
    exact ⟨ret_bool (by rw [hasB_in n k (by omega) (by omega)]; exact bit_and n k hn), rfl⟩
  · have hm : memberB i = false := by cases h : memberB i; rfl; exact absurd ((memberB_iff i).1 h) c
    go_enter Try.func22, Try.ntmps22
    go_wp2_with (go_at_call 34; refine (member_any _ _).mono ?_; rintro e w' ⟨rfl, rfl⟩)
    go_ret
    exact ⟨ret_bool (by simp [hasB, hm]), rfl⟩

theorem refHas_any (n : Nat) (hn : n < 18446744073709551616) (i : Int) (w : World) :
    Calls Try.prog 23 #[.int .u64 n, .int .i64 i] w fun e w' => e = .returned (.bool (hasB n i)) ∧ w = w' := by
  by_cases c : 1 ≤ i
  · by_cases d : i ≤ 63
    · obtain ⟨k, rfl⟩ := Int.eq_ofNat_of_zero_le (show 0 ≤ i by omega)
      go_enter Try.func23, Try.ntmps23
      go_wp2
      go_loop [0, 5] (fun s j => ∃ m : Nat, m ≤ k ∧ j = .int .i64 m ∧ s = .int .u64 ((n : Int) / 2 ^ m)) (fun _ j => k - (intOf j).toNat)
      case atStart => exact ⟨0, by omega, rfl, by simp⟩
      case round =>
        obtain ⟨m, hm, rfl, rfl⟩ := hrel
        have hge : 0 ≤ (n : Int) / 2 ^ m := Int.ediv_nonneg (by omega) (Int.pow_nonneg (by decide))
        have hlt : (n : Int) / 2 ^ m ≤ n := Int.ediv_le_self _ (by omega)
        by_cases hmk : m < k
        · go_wp2
          go_round
          case rel => exact ⟨m + 1, by omega, by go_num, by rw [half]⟩
          case measure => simp [intOf]; omega
        · obtain rfl : m = k := by omega
          go_wp2
          go_ret
          exact ⟨ret_bool (by rw [hasB_in n m (by omega) (by omega), ← bit_tmod n m, Int.tmod_eq_emod_of_nonneg hge]), rfl⟩
    · go_enter Try.func23, Try.ntmps23
      go_wp2
      go_ret
      exact ⟨ret_bool (hasB_out n i (by omega)).symm, rfl⟩
  · go_enter Try.func23, Try.ntmps23
    go_wp2
    go_ret
    exact ⟨ret_bool (hasB_out n i (by omega)).symm, rfl⟩

end Go.Proofs.Ytckfjkpcebklnaa
