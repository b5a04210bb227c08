/- Contracts of Count, Quorum, Enough of packages ballot and catenaryref07; the law BallotMeet's plain part. -/
import Derived.Test.YtckfjkpcebklnaaBalF
namespace Go.Proofs.Ytckfjkpcebklnaa
open Go.RowKit
set_option linter.unusedSimpArgs false
set_option linter.unusedVariables false

theorem listTo_congr (a b k : Nat) (h : ∀ j : Nat, j < k → hasB a j = hasB b j) : listTo a k = listTo b k := by
  induction k with
  | zero => rfl
  | succ k ih => rw [listTo, listTo, ih (fun j hj => h j (by omega)), h k (by omega)]
theorem listTo_cut (a k m : Nat) (hkm : k ≤ m) (h : ∀ j : Nat, k ≤ j → hasB a j = false) : listTo a m = listTo a k := by
  induction m with
  | zero => obtain rfl : k = 0 := by omega
            rfl
  | succ m ih =>
    by_cases e : k = m + 1
    · subst e; rfl
    · rw [listTo_no a m (h m (by omega)), ih (by omega)]
theorem clear_bits : ∀ i < 64, 1 ≤ i → Nat.testBit 18446744073709551614 i = true := by decide +kernel
theorem hasB_clear (n : Nat) (i : Int) : hasB (n &&& 18446744073709551614) i = hasB n i := by
  by_cases c : 1 ≤ i ∧ i ≤ 63
  · obtain ⟨k, rfl⟩ := Int.eq_ofNat_of_zero_le (show 0 ≤ i by omega)
    rw [hasB_in _ k (by omega) (by omega), hasB_in _ k (by omega) (by omega), Nat.testBit_and, clear_bits k (by omega) (by omega), Bool.and_true]
  · rw [hasB_out _ _ c, hasB_out _ _ c]
theorem listTo_pc (n k : Nat) (hk : k ≤ 64) : (listTo (n &&& 18446744073709551614) k).length = pc (n &&& 18446744073709551614) k := by
  induction k with
  | zero => rfl
  | succ k ih =>
    have ih := ih (by omega)
    rw [listTo, pc]
    by_cases h0 : k = 0
    · subst h0
      rw [hasB_out _ _ (by omega)]
      simp [ih, Nat.testBit_and]
    · rw [hasB_in _ k (by omega) (by omega)]
      cases h : (n &&& 18446744073709551614).testBit k <;> simp [ih]
theorem count_eq (n : Nat) : pc (n &&& 18446744073709551614) 64 = (listTo n 64).length := by
  rw [← listTo_pc n 64 (by omega), listTo_congr _ n 64 (fun j _ => hasB_clear n j)]

theorem count_any (n : Nat) (hn : n < 18446744073709551616) (w : World) :
    Calls Try.prog 27 #[.int .u64 n] w fun e w' => e = .returned (.int .i64 ((listTo n 64).length : Nat)) ∧ w = w' := by
  have hx := u64_andNot_nat n 1 hn (by omega)
  have hlt : n &&& 18446744073709551614 < 18446744073709551616 := Nat.lt_of_le_of_lt Nat.and_le_left hn
  simp only [Nat.reduceSub, Int.natCast_one] at hx
  go_enter Try.func27, Try.ntmps27
  go_wp2_with (go_at_call 36; refine (ones_any (n &&& 18446744073709551614) hlt _).mono ?_; rintro e w' ⟨rfl, rfl⟩)
  go_ret
  exact ⟨ret_int (by rw [count_eq]), rfl⟩

def quorumV (n : Int) : Int := if n < 1 then 0 else n / 2 + 1
theorem quorum_any (n : Int) (w : World) (h : n ≤ 9223372036854775807) :
    Calls Try.prog 28 #[.int .i64 n] w fun e w' => e = .returned (.int .i64 (quorumV n)) ∧ w = w' := by
  by_cases c : n < 1
  all_goals
    go_enter Try.func28, Try.ntmps28
    go_wp2
    go_ret
    exact ⟨ret_int (by unfold quorumV; omega), rfl⟩
theorem refQuorum_any (n : Int) (w : World) (h : n ≤ 9223372036854775807) :
    Calls Try.prog 29 #[.int .i64 n] w fun e w' => e = .returned (.int .i64 (quorumV n)) ∧ w = w' := by
  by_cases c : n < 1
  all_goals
    go_enter Try.func29, Try.ntmps29
    go_wp2
    go_ret
    exact ⟨ret_int (by unfold quorumV; omega), rfl⟩

/-- how far Enough looks -/
def lim (k : Int) : Nat := if k < 63 then k.toNat + 1 else 64
def enoughB (n : Nat) (k : Int) : Bool := decide (1 ≤ k) && decide (quorumV k ≤ ((listTo n (lim k)).length : Nat))

theorem lim_spec (k : Int) : (k < 63 ∧ lim k = k.toNat + 1) ∨ (63 ≤ k ∧ lim k = 64) := by
  by_cases h : k < 63
  · exact .inl ⟨h, by rw [lim, if_pos h]⟩
  · exact .inr ⟨by omega, by rw [lim, if_neg h]⟩
theorem enoughB_eq (n : Nat) (k : Int) (L : Nat) (h : 1 ≤ k) (hL : L = (listTo n (lim k)).length) : decide (quorumV k ≤ (L : Nat)) = enoughB n k := by
  rw [enoughB, decide_eq_true h, hL]; rfl
theorem enoughB_no (n : Nat) (k : Int) (h : ¬ 1 ≤ k) : false = enoughB n k := by
  rw [enoughB, decide_eq_false h]; rfl

theorem hasB_mod (n k : Nat) (i : Int) (hi : 0 ≤ i) : hasB (n % 2 ^ k) i = (decide (i < k) && hasB n i) := by
  unfold hasB
  rw [Nat.testBit_mod_two_pow]
  have : decide (i.toNat < k) = decide (i < (k : Int)) := by rw [decide_eq_decide]; omega
  rw [this]
  cases decide (i < (k : Int)) <;> simp
theorem listTo_mod (n k m : Nat) (h : k ≤ m) : listTo (n % 2 ^ k) m = listTo n k := by
  rw [listTo_cut _ k m h (fun j hj => by rw [hasB_mod _ _ _ (by omega), decide_eq_false (by omega)]; rfl)]
  exact listTo_congr _ _ _ (fun j hj => by rw [hasB_mod _ _ _ (by omega), decide_eq_true (by omega)]; rfl)

theorem mask_eq (n m : Nat) (hn : n < 18446744073709551616) (hm : m < 63) : bits .and .u64 (n : Int) (IntKind.u64.wrap (IntKind.u64.wrap (2 ^ (m + 1)) - 1)) = ((n % 2 ^ (m + 1) : Nat) : Int) := by
  have h1 : 2 ^ (m + 1) ≤ 2 ^ 63 := Nat.pow_le_pow_right (by decide) (by omega)
  have h2 : 1 ≤ 2 ^ (m + 1) := Nat.one_le_two_pow
  have e : ((2 : Int) ^ (m + 1)) = ((2 ^ (m + 1) : Nat) : Int) := by simp
  have h3 : IntKind.u64.wrap (IntKind.u64.wrap (2 ^ (m + 1)) - 1) = ((2 ^ (m + 1) - 1 : Nat) : Int) := by
    rw [e, IntKind.wrap_u64, IntKind.wrap_u64]
    generalize 2 ^ (m + 1) = q at *
    omega
  rw [h3, u64_and_nat n _ hn (by generalize 2 ^ (m + 1) = q at *; omega), Nat.and_two_pow_sub_one_eq_mod]

theorem enough_any (n : Nat) (hn : n < 18446744073709551616) (k : Int) (w : World) (h : k ≤ 9223372036854775807) :
    Calls Try.prog 18 #[.int .u64 n, .int .i64 k] w fun e w' => e = .returned (.bool (enoughB n k)) ∧ w = w' := by
  by_cases c : k < 1
  · go_enter Try.func18, Try.ntmps18
    go_wp2
    go_ret
    exact ⟨ret_bool (enoughB_no n k (by omega)), rfl⟩
  · by_cases d : k < 63
    · obtain ⟨m, rfl⟩ := Int.eq_ofNat_of_zero_le (show 0 ≤ k by omega)
      have hm := mask_eq n m hn (by omega)
      have hlt : n % 2 ^ (m + 1) < 18446744073709551616 := Nat.lt_of_le_of_lt (Nat.mod_le _ _) hn
      have HL := Lib.hid (listTo_mod n (m + 1) 64 (by omega))
      go_enter Try.func18, Try.ntmps18
      go_wp2_with (first | (go_at_call 27; refine (count_any (n % 2 ^ (m + 1)) hlt _).mono ?_; rintro e w' ⟨rfl, rfl⟩) | (go_at_call 28; refine (quorum_any _ _ h).mono ?_; rintro e w' ⟨rfl, rfl⟩))
      go_ret
      exact ⟨ret_bool (enoughB_eq n m _ (by omega) (by rw [lim, if_pos (by omega), Int.toNat_natCast, ← HL.out])), rfl⟩
    · go_enter Try.func18, Try.ntmps18
      go_wp2_with (first | (go_at_call 27; refine (count_any n hn _).mono ?_; rintro e w' ⟨rfl, rfl⟩) | (go_at_call 28; refine (quorum_any _ _ h).mono ?_; rintro e w' ⟨rfl, rfl⟩))
      go_ret
      exact ⟨ret_bool (enoughB_eq n k _ (by omega) (by rw [lim, if_neg (by omega)])), rfl⟩

theorem refEnough_any (n : Nat) (hn : n < 18446744073709551616) (k : Int) (w : World) (h : k ≤ 9223372036854775807) :
    Calls Try.prog 30 #[.int .u64 n, .int .i64 k] w fun e w' => e = .returned (.bool (enoughB n k)) ∧ w = w' := by
  have h0 : listTo n 1 = [] := by rw [listTo_no n 0 (hasB_out n 0 (by omega))]; rfl
  have H0 := Lib.hid h0
  clear h0
  go_enter Try.func30, Try.ntmps30
  go_wp2
  go_loop [5, 6] (fun s i => ∃ j : Nat, 1 ≤ j ∧ j ≤ 64 ∧ (j ≤ lim k ∨ j = 1) ∧ i = .int .i64 j ∧ s = .int .i64 ((listTo n j).length : Nat)) (fun _ i => 64 - (intOf i).toNat)
  case atStart => exact ⟨1, by omega, by omega, .inr rfl, rfl, by rw [H0.out]; rfl⟩
  case round =>
    obtain ⟨j, hj1, hj2, hj3, rfl, rfl⟩ := hrel
    have hl := listTo_len n j
    by_cases c : j < 64
    · by_cases d : (j : Int) ≤ k
      · have hd : decide ((j : Int) ≤ k) = true := by simpa using d
        have hlim : j + 1 ≤ lim k := by have := lim_spec k; omega
        cases hh : hasB n j
        · have HH := Lib.hid (listTo_no n j hh)
          go_wp2_with (go_at_call 23; refine (refHas_any n hn _ _).mono ?_; rintro e w' ⟨rfl, rfl⟩)
          go_round
          case rel => exact ⟨j + 1, by omega, by omega, .inl hlim, by go_num, by rw [HH.out]⟩
          case measure => simp [intOf]; omega
        · have HH := Lib.hid (listTo_yes n j hh)
          go_wp2_with (go_at_call 23; refine (refHas_any n hn _ _).mono ?_; rintro e w' ⟨rfl, rfl⟩)
          go_round
          case rel => exact ⟨j + 1, by omega, by omega, .inl hlim, by go_num, by rw [HH.out]; simp⟩
          case measure => simp [intOf]; omega
      · have hd : decide ((j : Int) ≤ k) = false := by simpa using d
        by_cases e : 1 ≤ k
        · have hlim : Hid (lim k = j) := Lib.hid (by have := lim_spec k; omega)
          go_wp2_with (go_at_call 29; refine (refQuorum_any _ _ h).mono ?_; rintro e w' ⟨rfl, rfl⟩)
          go_ret
          exact ⟨ret_bool (enoughB_eq n k _ e (by rw [hlim.out])), rfl⟩
        · go_wp2_with (go_at_call 29; refine (refQuorum_any _ _ h).mono ?_; rintro e w' ⟨rfl, rfl⟩)
          go_ret
          exact ⟨ret_bool (enoughB_no n k (by omega)), rfl⟩
    · have hj : j = 64 := by omega
      have hlim : Hid (lim k = j) := Lib.hid (by have := lim_spec k; omega)
      have e : 1 ≤ k := by have := lim_spec k; omega
      clear hj
      go_wp2_with (go_at_call 29; refine (refQuorum_any _ _ h).mono ?_; rintro e w' ⟨rfl, rfl⟩)
      go_ret
      exact ⟨ret_bool (enoughB_eq n k _ e (by rw [hlim.out])), rfl⟩

/-- two sets that have more than half of k numbers share one -/
theorem len_meet (a b k : Nat) (h : 1 ≤ k) : (listTo a k).length + (listTo b k).length ≤ (listTo (a &&& b) k).length + (k - 1) := by
  induction k with
  | zero => omega
  | succ k ih =>
    by_cases e : k = 0
    · subst e
      rw [listTo_no a 0 (hasB_out a 0 (by omega)), listTo_no b 0 (hasB_out b 0 (by omega)), listTo_no (a &&& b) 0 (hasB_out _ 0 (by omega))]
      simp [listTo]
    · have ih := ih (by omega)
      simp only [listTo, hasB_and]
      cases hasB a k <;> cases hasB b k <;> simp <;> omega
theorem listTo_pre (n k m : Nat) (h : k ≤ m) : ∃ l, listTo n m = listTo n k ++ l := by
  induction m with
  | zero => obtain rfl : k = 0 := by omega
            exact ⟨[], rfl⟩
  | succ m ih =>
    by_cases e : k = m + 1
    · subst e; exact ⟨[], by simp⟩
    · obtain ⟨l, hl⟩ := ih (by omega)
      cases hh : hasB n m
      · exact ⟨l, by rw [listTo_no n m hh, hl]⟩
      · exact ⟨l ++ [(m : Int)], by rw [listTo_yes n m hh, hl, List.append_assoc]⟩
theorem listTo_mem (n k : Nat) : ∀ i ∈ listTo n k, 1 ≤ i ∧ i < k := by
  induction k with
  | zero => simp [listTo]
  | succ k ih =>
    intro i hi
    cases hh : hasB n k
    · rw [listTo_no n k hh] at hi
      have := ih i hi; omega
    · rw [listTo_yes n k hh, List.mem_append] at hi
      rcases hi with hi | hi
      · have := ih i hi; omega
      · have e : i = k := by simpa using hi
        have hm : memberB k = true := by unfold hasB at hh; cases h : memberB k; rw [h] at hh; cases hh; rfl
        have := (memberB_iff k).1 hm; omega

theorem meet_head (a b : Nat) (k : Int) (ha : enoughB a k = true) (hb : enoughB b k = true) :
    ∃ x l, listTo (a &&& b) 64 = x :: l ∧ 1 ≤ x ∧ x ≤ k := by
  unfold enoughB at ha hb
  simp only [Bool.and_eq_true, decide_eq_true_eq] at ha hb
  have hq : quorumV k = k / 2 + 1 := by unfold quorumV; omega
  have hl : 1 ≤ lim k ∧ lim k ≤ 64 ∧ ((lim k : Nat) : Int) - 1 ≤ k ∧ (k < 63 → ((lim k : Nat) : Int) = k + 1) := by have := lim_spec k; omega
  have hm := len_meet a b (lim k) hl.1
  have hal := listTo_len a (lim k)
  have hpos : 0 < (listTo (a &&& b) (lim k)).length := by omega
  obtain ⟨l, hp⟩ := listTo_pre (a &&& b) (lim k) 64 hl.2.1
  cases hc : listTo (a &&& b) (lim k) with
  | nil => rw [hc] at hpos; simp at hpos
  | cons x r =>
    have hx := listTo_mem (a &&& b) (lim k) x (by rw [hc]; simp)
    exact ⟨x, r ++ l, by rw [hp, hc]; rfl, hx.1, by omega⟩

end Go.Proofs.Ytckfjkpcebklnaa
