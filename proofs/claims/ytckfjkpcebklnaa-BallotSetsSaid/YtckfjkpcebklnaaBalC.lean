/- Contracts of awake, and the walks of BallotNext and BallotOf. -/
import Derived.Test.YtckfjkpcebklnaaBalB
namespace Go.Proofs.Ytckfjkpcebklnaa
open Go.RowKit
set_option linter.unusedSimpArgs false
set_option linter.unusedVariables false

theorem awake_any (w : World) :
    Calls Try.prog 10 #[] w fun e w' => e = .returned (.bool true) ∧ w = w' := by
  have e1 : ofV 1 3 = 11 := by decide
  have e2 : ofE 1 3 = 0 := by decide
  have e3 : nextV 11 2 = 18 := by decide
  have e4 : nextE 11 2 = 0 := by decide
  go_enter Try.func10, Try.ntmps10
  go_wp2
  go_ret
  exact ⟨rfl, rfl⟩

theorem nextE_zero (b who : Int) (h0 : 0 ≤ b) (h1 : b < 18446744073709551616) (h : nextE b who = 0) :
    b < nextV b who ∧ nextV b who < 18446744073709551616 ∧ whoV (nextV b who) = who := by
  unfold nextE at h
  by_cases c : 1 ≤ who ∧ who ≤ 5
  · rw [if_pos c] at h
    by_cases g : nextR b who < 1152921504606846976
    · have hp := nextR_pos b who
      have hi : isOf (nextR b who) who := ⟨hp, g, c.1, c.2⟩
      have hb : b < 8 * nextR b who + who := by unfold nextR; omega
      rw [nextV, if_pos hi]
      have q1 : (8 * nextR b who + who) / 8 = nextR b who := by omega
      have q2 : (8 * nextR b who + who) % 8 = who := by omega
      refine ⟨hb, by omega, ?_⟩
      have hB : isB (8 * nextR b who + who) = true := by rw [isB, q1, q2]; exact decide_eq_true hi
      rw [whoV, hB, if_pos rfl, q2]
    · rw [if_neg g] at h; omega
  · rw [if_neg c] at h; omega

theorem nextV_nonneg (b who : Int) : 0 ≤ nextV b who := by
  unfold nextV
  split
  · next h => have h1 := h.1; have h2 := h.2.2.1; omega
  · omega
theorem nextV_lt (b who : Int) : nextV b who < 18446744073709551616 := by
  unfold nextV
  split
  · next h => have h1 := h.2.1; have h2 := h.2.2.2; omega
  · omega

theorem ballotNext_law (b who other : Int) (w : World) (h0 : 0 ≤ b) (h1 : b < 18446744073709551616) :
    Calls Try.prog 3 #[.int .u64 b, .int .i64 who, .int .i64 other] w fun e w' => e = .returned (.bool true) ∧ w = w' := by
  have hp := nextV_nonneg b who
  have hq := nextV_lt b who
  by_cases e : nextE b who = 0
  · obtain ⟨z1, z2, z3⟩ := nextE_zero b who h0 h1 e
    have eb : (nextE b who == 0) = true := by simp [e]
    have eb' : (nextE b who != 0) = false := by simp [e]
    have z3' : (whoV (nextV b who) != who) = false := by simp [z3]
    have z1' : decide (nextV b who ≤ b) = false := by simp; omega
    clear e
    by_cases g : nextE b other = 0
    · have gb : (nextE b other != 0) = false := by simp [g]
      by_cases c : who = other
      · have cb : (who == other) = true := by simp [c]
        clear c z3 g z1
        go_enter Try.func3, Try.ntmps3
        go_wp2_with (first | (go_at_call 10; refine (awake_any _).mono ?_; rintro e w' ⟨rfl, rfl⟩) | (go_at_call 7; refine (next_any _ _ _ (by omega) (by omega)).mono ?_; rintro e w' ⟨rfl, rfl⟩) | (go_at_call 8; refine (refNext_any _ _ _ (by omega) (by omega)).mono ?_; rintro e w' ⟨rfl, rfl⟩) | (go_at_call 9; refine (who_any _ _ (by omega) (by omega)).mono ?_; rintro e w' ⟨rfl, rfl⟩))
        go_ret
        exact ⟨rfl, rfl⟩
      · have cb : (who == other) = false := by simp [c]
        obtain ⟨y1, y2, y3⟩ := nextE_zero b other h0 h1 g
        have nb : (nextV b who != nextV b other) = true := by
          simp only [bne_iff_ne]; intro h; rw [h] at z3; omega
        clear c z3 g z1 y1 y2 y3
        go_enter Try.func3, Try.ntmps3
        go_wp2_with (first | (go_at_call 10; refine (awake_any _).mono ?_; rintro e w' ⟨rfl, rfl⟩) | (go_at_call 7; refine (next_any _ _ _ (by omega) (by omega)).mono ?_; rintro e w' ⟨rfl, rfl⟩) | (go_at_call 8; refine (refNext_any _ _ _ (by omega) (by omega)).mono ?_; rintro e w' ⟨rfl, rfl⟩) | (go_at_call 9; refine (who_any _ _ (by omega) (by omega)).mono ?_; rintro e w' ⟨rfl, rfl⟩))
        go_ret
        exact ⟨rfl, rfl⟩
    · have gb : (nextE b other != 0) = true := by simp [g]
      clear g z3 z1
      go_enter Try.func3, Try.ntmps3
      go_wp2_with (first | (go_at_call 10; refine (awake_any _).mono ?_; rintro e w' ⟨rfl, rfl⟩) | (go_at_call 7; refine (next_any _ _ _ (by omega) (by omega)).mono ?_; rintro e w' ⟨rfl, rfl⟩) | (go_at_call 8; refine (refNext_any _ _ _ (by omega) (by omega)).mono ?_; rintro e w' ⟨rfl, rfl⟩) | (go_at_call 9; refine (who_any _ _ (by omega) (by omega)).mono ?_; rintro e w' ⟨rfl, rfl⟩))
      go_ret
      exact ⟨rfl, rfl⟩
  · have eb : (nextE b who == 0) = false := by simp [e]
    have eb' : (nextE b who != 0) = true := by simp [e]
    clear e
    go_enter Try.func3, Try.ntmps3
    go_wp2_with (first | (go_at_call 10; refine (awake_any _).mono ?_; rintro e w' ⟨rfl, rfl⟩) | (go_at_call 7; refine (next_any _ _ _ (by omega) (by omega)).mono ?_; rintro e w' ⟨rfl, rfl⟩) | (go_at_call 8; refine (refNext_any _ _ _ (by omega) (by omega)).mono ?_; rintro e w' ⟨rfl, rfl⟩) | (go_at_call 9; refine (who_any _ _ (by omega) (by omega)).mono ?_; rintro e w' ⟨rfl, rfl⟩))
    go_ret
    exact ⟨rfl, rfl⟩

theorem ballotOf_law (r who b : Int) (w : World) (h0 : 0 ≤ r) (h1 : r < 18446744073709551616) (h2 : 0 ≤ b) (h3 : b < 18446744073709551616) :
    Calls Try.prog 4 #[.int .u64 r, .int .i64 who, .int .u64 b] w fun e w' => e = .returned (.bool true) ∧ w = w' := by
  go_enter Try.func4, Try.ntmps4
  go_wp2_with (first | (go_at_call 10; refine (awake_any _).mono ?_; rintro e w' ⟨rfl, rfl⟩) | (go_at_call 11; refine (of_any _ _ _ (by omega) (by omega)).mono ?_; rintro e w' ⟨rfl, rfl⟩) | (go_at_call 12; refine (refOf_any _ _ _ (by omega) (by omega)).mono ?_; rintro e w' ⟨rfl, rfl⟩) | (go_at_call 13; refine (is_any _ _ (by omega) (by omega)).mono ?_; rintro e w' ⟨rfl, rfl⟩) | (go_at_call 14; refine (refIs_any _ _ (by omega) (by omega)).mono ?_; rintro e w' ⟨rfl, rfl⟩) | (go_at_call 15; refine (round_any _ _ (by omega) (by omega)).mono ?_; rintro e w' ⟨rfl, rfl⟩) | (go_at_call 16; refine (refRound_any _ _ (by omega) (by omega)).mono ?_; rintro e w' ⟨rfl, rfl⟩) | (go_at_call 9; refine (who_any _ _ (by omega) (by omega)).mono ?_; rintro e w' ⟨rfl, rfl⟩) | (go_at_call 17; refine (refWho_any _ _ (by omega) (by omega)).mono ?_; rintro e w' ⟨rfl, rfl⟩))
  go_ret
  exact ⟨rfl, rfl⟩

end Go.Proofs.Ytckfjkpcebklnaa
