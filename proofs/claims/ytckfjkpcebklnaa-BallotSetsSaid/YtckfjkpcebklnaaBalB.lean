/- Contracts of Round, Who and Next of packages ballot and catenaryref07, and of awake. -/
import Derived.Test.YtckfjkpcebklnaaBalA
namespace Go.Proofs.Ytckfjkpcebklnaa
open Go.RowKit
set_option linter.unusedSimpArgs false
set_option linter.unusedVariables false

def roundV (b : Int) : Int := if isB b then b / 8 else 0
def whoV (b : Int) : Int := if isB b then b % 8 else 0

theorem round_any (b : Int) (w : World) (h0 : 0 ≤ b) (h1 : b < 18446744073709551616) :
    Calls Try.prog 15 #[.int .u64 b] w fun e w' => e = .returned (.int .u64 (roundV b)) ∧ w = w' := by
  by_cases a : isB b = true
  all_goals
    go_enter Try.func15, Try.ntmps15
    go_wp2_with (go_at_call 13; refine (is_any _ _ (by omega) (by omega)).mono ?_; rintro e w' ⟨rfl, rfl⟩)
    go_ret
    exact ⟨ret_int (by simp [roundV, a]), rfl⟩

theorem refRound_any (b : Int) (w : World) (h0 : 0 ≤ b) (h1 : b < 18446744073709551616) :
    Calls Try.prog 16 #[.int .u64 b] w fun e w' => e = .returned (.int .u64 (roundV b)) ∧ w = w' := by
  by_cases a : isB b = true
  all_goals
    go_enter Try.func16, Try.ntmps16
    go_wp2_with (go_at_call 14; refine (refIs_any _ _ (by omega) (by omega)).mono ?_; rintro e w' ⟨rfl, rfl⟩)
    go_ret
    exact ⟨ret_int (by simp [roundV, a]), rfl⟩

theorem who_any (b : Int) (w : World) (h0 : 0 ≤ b) (h1 : b < 18446744073709551616) :
    Calls Try.prog 9 #[.int .u64 b] w fun e w' => e = .returned (.int .i64 (whoV b)) ∧ w = w' := by
  by_cases a : isB b = true
  all_goals
    go_enter Try.func9, Try.ntmps9
    go_wp2_with (go_at_call 13; refine (is_any _ _ (by omega) (by omega)).mono ?_; rintro e w' ⟨rfl, rfl⟩)
    go_ret
    exact ⟨ret_int (by simp [whoV, a]), rfl⟩

theorem refWho_any (b : Int) (w : World) (h0 : 0 ≤ b) (h1 : b < 18446744073709551616) :
    Calls Try.prog 17 #[.int .u64 b] w fun e w' => e = .returned (.int .i64 (whoV b)) ∧ w = w' := by
  by_cases a : isB b = true
  all_goals
    go_enter Try.func17, Try.ntmps17
    go_wp2_with (go_at_call 14; refine (refIs_any _ _ (by omega) (by omega)).mono ?_; rintro e w' ⟨rfl, rfl⟩)
    go_ret
    exact ⟨ret_int (by simp [whoV, a]), rfl⟩

/-- the round of the next ballot -/
def nextR (b who : Int) : Int := if 8 * (if b / 8 < 1 then 1 else b / 8) + who ≤ b then (if b / 8 < 1 then 1 else b / 8) + 1 else (if b / 8 < 1 then 1 else b / 8)
def nextV (b who : Int) : Int := if isOf (nextR b who) who then 8 * nextR b who + who else 0
def nextE (b who : Int) : Int := if 1 ≤ who ∧ who ≤ 5 then (if nextR b who < 1152921504606846976 then 0 else 9) else 1
theorem nextR_pos (b who : Int) : 1 ≤ nextR b who := by unfold nextR; omega
theorem nextV_of (b who r : Int) (h : r = nextR b who) : ofV r who = nextV b who := by subst h; rfl
theorem nextE_of (b who r : Int) (c : 1 ≤ who ∧ who ≤ 5) (g : r < 1152921504606846976) (h : r = nextR b who) : ofE r who = nextE b who := by
  have := nextR_pos b who
  subst h; rw [nextE, if_pos c, if_pos g, ofE, if_pos ⟨this, g, c.1, c.2⟩]
theorem nextV_full (b who r : Int) (g : ¬ r < 1152921504606846976) (h : r = nextR b who) : 0 = nextV b who := by
  subst h; rw [nextV, if_neg (fun x => g x.2.1)]
theorem nextE_full (b who r : Int) (c : 1 ≤ who ∧ who ≤ 5) (g : ¬ r < 1152921504606846976) (h : r = nextR b who) : 9 = nextE b who := by
  subst h; rw [nextE, if_pos c, if_neg g]

theorem next_any (b who : Int) (w : World) (h0 : 0 ≤ b) (h1 : b < 18446744073709551616) :
    Calls Try.prog 7 #[.int .u64 b, .int .i64 who] w fun e w' => e = .returned (.tuple #[.int .u64 (nextV b who), .int .i64 (nextE b who)]) ∧ w = w' := by
  by_cases c : 1 ≤ who ∧ who ≤ 5
  · have hm := (masterB_iff who).2 c
    by_cases d : b / 8 < 1
    all_goals by_cases f : 8 * (if b / 8 < 1 then 1 else b / 8) + who ≤ b
    all_goals by_cases g : nextR b who < 1152921504606846976
    all_goals
      simp only [nextR, d, f, if_true, if_false] at g f
      first | (exfalso; omega) | skip
    all_goals
      go_enter Try.func7, Try.ntmps7
      go_wp2_with (first | (go_at_call 32; refine (master_any _ _).mono ?_; rintro e w' ⟨rfl, rfl⟩) | (go_at_call 11; refine (of_any _ _ _ (by omega) (by omega)).mono ?_; rintro e w' ⟨rfl, rfl⟩))
      go_ret2
      first
        | exact ⟨ret_ii (nextV_of b who _ (by unfold nextR; omega)) (nextE_of b who _ c (by omega) (by unfold nextR; omega)), rfl⟩
        | exact ⟨ret_ii (nextV_full b who (b / 8) (by omega) (by unfold nextR; omega)) (nextE_full b who (b / 8) c (by omega) (by unfold nextR; omega)), rfl⟩
        | exact ⟨ret_ii (nextV_full b who (b / 8 + 1) (by omega) (by unfold nextR; omega)) (nextE_full b who (b / 8 + 1) c (by omega) (by unfold nextR; omega)), rfl⟩
  · have hm : masterB who = false := by cases h : masterB who; rfl; exact absurd ((masterB_iff who).1 h) c
    go_enter Try.func7, Try.ntmps7
    go_wp2_with (go_at_call 32; refine (master_any _ _).mono ?_; rintro e w' ⟨rfl, rfl⟩)
    go_ret2
    exact ⟨ret_ii (by rw [nextV, if_neg (fun x => c x.2.2)]) (by rw [nextE, if_neg c]), rfl⟩

def fits (b who : Int) (k : Nat) : Prop := isOf (b / 8 + k) who ∧ b < 8 * (b / 8 + k) + who
instance (b who : Int) (k : Nat) : Decidable (fits b who k) := by unfold fits; infer_instance
theorem fits_yes (b who : Int) (k : Nat) (h : fits b who k) : (ofE (b / 8 + k) who == 0) = true ∧ decide (b < ofV (b / 8 + k) who) = true := by
  rw [ofE, ofV, if_pos h.1, if_pos h.1]; exact ⟨rfl, by have := h.2; simp; omega⟩
theorem fits_no (b who : Int) (k : Nat) (h : ¬ fits b who k) : ((ofE (b / 8 + k) who == 0) && decide (b < ofV (b / 8 + k) who)) = false := by
  unfold fits at h
  by_cases c : isOf (b / 8 + k) who
  · have h2 : ¬ b < 8 * (b / 8 + k) + who := fun x => h ⟨c, x⟩
    rw [ofE, ofV, if_pos c, if_pos c]; simp; omega
  · rw [ofE, ofV, if_neg c, if_neg c]; simp
theorem fits_step (b who : Int) (k : Nat) (hn : ∀ j : Nat, j < k → ¬ fits b who j) (hf : ¬ fits b who k) : ∀ j : Nat, j < k + 1 → ¬ fits b who j := by
  intro j hj
  by_cases e : j = k
  · subst e; exact hf
  · exact hn j (by omega)
theorem next_found (b who : Int) (k : Nat) (hk : k < 3) (h0 : 0 ≤ b) (hn : ∀ j : Nat, j < k → ¬ fits b who j) (h : fits b who k) : ofV (b / 8 + k) who = nextV b who ∧ (0 : Int) = nextE b who := by
  have h' := h
  obtain ⟨⟨a, a1, a2, a3⟩, a4⟩ := h'
  have hr : b / 8 + k = nextR b who := by
    unfold nextR
    have n0 := hn 0
    have n1 := hn 1
    unfold fits isOf at n0 n1
    omega
  refine ⟨nextV_of b who _ hr, ?_⟩
  rw [nextE, if_pos ⟨a2, a3⟩, if_pos (by omega)]
theorem next_none (b who : Int) (h0 : 0 ≤ b) (h1 : b < 18446744073709551616) (c : 1 ≤ who ∧ who ≤ 5) (hn : ∀ j : Nat, j < 3 → ¬ fits b who j) : (0 : Int) = nextV b who ∧ (9 : Int) = nextE b who := by
  have n0 := hn 0 (by omega)
  have n1 := hn 1 (by omega)
  have n2 := hn 2 (by omega)
  unfold fits isOf at n0 n1 n2
  have hr : ¬ nextR b who < 1152921504606846976 := by unfold nextR; omega
  exact ⟨nextV_full b who _ hr rfl, nextE_full b who _ c hr rfl⟩

theorem refNext_any (b who : Int) (w : World) (h0 : 0 ≤ b) (h1 : b < 18446744073709551616) :
    Calls Try.prog 8 #[.int .u64 b, .int .i64 who] w fun e w' => e = .returned (.tuple #[.int .u64 (nextV b who), .int .i64 (nextE b who)]) ∧ w = w' := by
  by_cases c : 1 ≤ who ∧ who ≤ 5
  · have hm := (masterB_iff who).2 c
    go_enter Try.func8, Try.ntmps8
    go_wp2_with (first | (go_at_call 33; refine (refMaster_any _ _).mono ?_; rintro e w' ⟨rfl, rfl⟩))
    go_loop [6] (fun i => ∃ k : Nat, k ≤ 3 ∧ i = .int .u64 k ∧ Hid (∀ j : Nat, j < k → ¬ fits b who j)) (fun i => 3 - (intOf i).toNat)
    case atStart => exact ⟨0, by omega, rfl, Lib.hid (by omega)⟩
    case round =>
      obtain ⟨k, hk, rfl, hn⟩ := hrel
      by_cases hlt : k < 3
      · by_cases hf : fits b who k
        · have h1 := (fits_yes b who k hf).1
          have h2 := (fits_yes b who k hf).2
          go_wp2_with (first | (go_at_call 12; refine (refOf_any _ _ _ (by omega) (by omega)).mono ?_; rintro e w' ⟨rfl, rfl⟩))
          go_ret2
          exact ⟨ret_ii (next_found b who k hlt h0 hn.out hf).1 (next_found b who k hlt h0 hn.out hf).2, rfl⟩
        · have h1 := fits_no b who k hf
          by_cases he : (ofE (b / 8 + k) who == 0) = true
          · have h2 : decide (b < ofV (b / 8 + k) who) = false := by rw [he] at h1; simpa using h1
            clear h1
            go_wp2_with (first | (go_at_call 12; refine (refOf_any _ _ _ (by omega) (by omega)).mono ?_; rintro e w' ⟨rfl, rfl⟩))
            go_round
            case rel => exact ⟨k + 1, by omega, by go_num, Lib.hid (fits_step b who k hn.out hf)⟩
            case measure => simp [intOf]; omega
          · have h2 : (ofE (b / 8 + k) who == 0) = false := by simpa using he
            clear h1 he
            go_wp2_with (first | (go_at_call 12; refine (refOf_any _ _ _ (by omega) (by omega)).mono ?_; rintro e w' ⟨rfl, rfl⟩))
            go_round
            case rel => exact ⟨k + 1, by omega, by go_num, Lib.hid (fits_step b who k hn.out hf)⟩
            case measure => simp [intOf]; omega
      · obtain rfl : k = 3 := by omega
        go_wp2
        go_ret2
        exact ⟨ret_ii (next_none b who h0 h1 c hn.out).1 (next_none b who h0 h1 c hn.out).2, rfl⟩
  · have hm : masterB who = false := by cases h : masterB who; rfl; exact absurd ((masterB_iff who).1 h) c
    go_enter Try.func8, Try.ntmps8
    go_wp2_with (go_at_call 33; refine (refMaster_any _ _).mono ?_; rintro e w' ⟨rfl, rfl⟩)
    go_ret2
    exact ⟨ret_ii (by rw [nextV, if_neg (fun x => c x.2.2)]) (by rw [nextE, if_neg c]), rfl⟩

end Go.Proofs.Ytckfjkpcebklnaa
