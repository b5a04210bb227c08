/- Contracts of With and Set. -/
import Derived.Test.YtckfjkpcebklnaaBalI
namespace Go.Proofs.Ytckfjkpcebklnaa
open Go.RowKit
set_option linter.unusedSimpArgs false
set_option linter.unusedVariables false

def orStep (n : Nat) (z : Int) : Nat := if memberB z then n ||| 2 ^ z.toNat else n
theorem orStep_lt (n : Nat) (z : Int) (h : n < 18446744073709551616) : orStep n z < 18446744073709551616 := by
  unfold orStep
  split
  · next hz =>
    have := (memberB_iff z).1 hz
    have h1 : 2 ^ z.toNat ≤ 2 ^ 63 := Nat.pow_le_pow_right (by decide) (by omega)
    exact Nat.or_lt_two_pow (n := 64) h (by omega)
  · exact h
theorem fold_lt (zs : List Int) (n : Nat) (h : n < 18446744073709551616) : zs.foldl orStep n < 18446744073709551616 := by
  induction zs generalizing n with
  | nil => exact h
  | cons z r ih => exact ih _ (orStep_lt n z h)
theorem fold_take (zs : List Int) (n k : Nat) (z : Int) (h : zs[k]? = some z) : (zs.take (k + 1)).foldl orStep n = orStep ((zs.take k).foldl orStep n) z := by
  rw [List.take_add_one, h]; simp
theorem or_bit (q m : Nat) (hq : q < 18446744073709551616) (hm : m ≤ 63) : bits .or .u64 (q : Int) (IntKind.u64.wrap (2 ^ m)) = ((q ||| 2 ^ m : Nat) : Int) := by
  have h1 : 2 ^ m ≤ 2 ^ 63 := Nat.pow_le_pow_right (by decide) hm
  have e : IntKind.u64.wrap ((2 : Int) ^ m) = ((2 ^ m : Nat) : Int) := by
    rw [show ((2 : Int) ^ m) = ((2 ^ m : Nat) : Int) from by simp, IntKind.wrap_u64]
    generalize 2 ^ m = q at *
    omega
  rw [e, u64_or_nat q _ hq (by generalize 2 ^ m = x at *; omega)]

theorem with_any (n : Nat) (hn : n < 18446744073709551616) (A : Option Addr) (len c B : Nat) (zs : List Int) (w : World) (hlen : len ≤ 9223372036854775807) (h : Reads w B 1 A len (zs.map (Value.int .i64)))
    (hw : ∀ z ∈ zs, -9223372036854775808 ≤ z ∧ z ≤ 9223372036854775807) :
    Calls Try.prog 20 #[.int .u64 n, .slice A len c] w fun e w' => e = .returned (.int .u64 (zs.foldl orStep (n &&& 18446744073709551614) : Nat)) ∧ w = w' := by
  have hx := u64_andNot_nat n 1 hn (by omega)
  have hlt : n &&& 18446744073709551614 < 18446744073709551616 := Nat.lt_of_le_of_lt Nat.and_le_left hn
  simp only [Nat.reduceSub, Int.natCast_one] at hx
  have H := Lib.hid h
  have HW := Lib.hid hw
  have hl : Hid (zs.length = len) := Lib.hid (by simpa using h.1)
  clear h hw
  generalize n &&& 18446744073709551614 = n0 at *
  go_enter Try.func20, Try.ntmps20
  go_wp2
  clear hx
  go_loop [0, 11] (fun s i => ∃ k q : Nat, k ≤ len ∧ i = .int .i64 k ∧ s = .int .u64 (q : Nat) ∧ q < 18446744073709551616 ∧ Hid (q = (zs.take k).foldl orStep n0)) (fun _ i => len - (intOf i).toNat)
  case atStart => exact ⟨0, n0, by omega, rfl, rfl, hlt, Lib.hid rfl⟩
  case round =>
    obtain ⟨k, q, hk, rfl, rfl, hq, hs⟩ := hrel
    by_cases hkl : k < len
    · obtain ⟨a1, z, rfl, _, x1, y1⟩ := reads_int H.out hkl
      have hzb := HW.out z (List.mem_of_getElem? x1)
      have HX := Lib.hid (fold_take zs n0 k z x1)
      clear x1
      cases hm : memberB z
      · have hs' : Hid (q = (zs.take (k + 1)).foldl orStep n0) := Lib.hid (by rw [HX.out, ← hs.out, orStep, if_neg (by simp [hm])])
        go_wp2_with (go_at_call 34; refine (member_any _ _).mono ?_; rintro e w' ⟨rfl, rfl⟩)
        go_round
        case rel => exact ⟨k + 1, q, by omega, by go_num, rfl, hq, hs'⟩
        case measure => simp [intOf]; omega
      · have hzm := (memberB_iff z).1 hm
        have hs' : Hid (orStep q z = (zs.take (k + 1)).foldl orStep n0) := Lib.hid (by rw [HX.out, ← hs.out])
        have hq' := orStep_lt q z hq
        obtain ⟨m, rfl⟩ := Int.eq_ofNat_of_zero_le (show 0 ≤ z by omega)
        have hor := or_bit q m hq (by omega)
        have he : Hid (((q ||| 2 ^ m : Nat) : Int) = (orStep q m : Nat)) := Lib.hid (by rw [orStep, if_pos hm]; rfl)
        go_wp2_with (go_at_call 34; refine (member_any _ _).mono ?_; rintro e w' ⟨rfl, rfl⟩)
        go_round
        case rel => exact ⟨k + 1, orStep q m, by omega, by go_num, by rw [← he.out], hq', hs'⟩
        case measure => simp [intOf]; omega
    · obtain rfl : k = len := by omega
      go_wp2
      go_ret
      exact ⟨ret_int (by rw [hs.out, List.take_of_length_le (by rw [hl.out]; omega)]), rfl⟩

def setTo (zs : List Int) : Nat → Nat
  | 0 => 0
  | i + 1 => setTo zs i + (if memberB i && zs.contains (i : Int) then 2 ^ i else 0)
theorem setTo_lt (zs : List Int) (i : Nat) : setTo zs i < 2 ^ i := by
  induction i with
  | zero => simp [setTo]
  | succ i ih => rw [setTo, Nat.pow_succ]; split <;> omega
theorem testBit_top (x i j : Nat) (h : x < 2 ^ i) : (x + 2 ^ i).testBit j = if j < i then x.testBit j else decide (j = i) := by
  have := Nat.testBit_two_pow_mul_add 1 h j
  rw [Nat.mul_one] at this
  rw [Nat.add_comm, this]
  split
  · rfl
  · next hj =>
    by_cases e : j = i
    · subst e; simp
    · rw [show (1 : Nat) = 2 ^ 0 from rfl, Nat.testBit_two_pow, decide_eq_false e, decide_eq_false (by omega)]
theorem setTo_bit (zs : List Int) (i j : Nat) : (setTo zs i).testBit j = (decide (j < i) && memberB j && zs.contains (j : Int)) := by
  induction i with
  | zero => simp [setTo]
  | succ i ih =>
    rw [setTo]
    split
    · next h =>
      rw [testBit_top _ i j (setTo_lt zs i)]
      split
      · next hj => rw [ih, decide_eq_true hj, decide_eq_true (by omega)]
      · next hj =>
        by_cases e : j = i
        · subst e; simp at h; simp [h]
        · rw [decide_eq_false e, decide_eq_false (by omega)]; rfl
    · next h =>
      rw [Nat.add_zero, ih]
      by_cases e : j = i
      · subst e
        rw [decide_eq_false (by omega)]
        cases hh : memberB j <;> simp [hh] at h ⊢
        exact h
      · rw [decide_eq_decide.2 (show j < i ↔ j < i + 1 by omega)]

theorem fold_bit (zs : List Int) (n j : Nat) (hj : j ≤ 63) : (zs.foldl orStep n).testBit j = (n.testBit j || (memberB j && zs.contains (j : Int))) := by
  induction zs generalizing n with
  | nil => simp
  | cons z r ih =>
    rw [List.foldl_cons, ih]
    unfold orStep
    by_cases hz : memberB z = true
    · have hzm := (memberB_iff z).1 hz
      obtain ⟨m, rfl⟩ := Int.eq_ofNat_of_zero_le (show 0 ≤ z by omega)
      rw [if_pos hz, Nat.testBit_or, Nat.testBit_two_pow]
      by_cases e : m = j
      · subst e
        simp [hz]
      · simp [e]
        have : ¬ (j : Int) = m := by omega
        simp [this]
    · rw [if_neg hz]
      by_cases e : (j : Int) = z
      · subst e; simp at hz; simp [hz]
      · simp [e]

theorem mem_listTo (n k j : Nat) : (listTo n k).contains (j : Int) = (decide (j < k) && hasB n j) := by
  induction k with
  | zero => simp [listTo]
  | succ k ih =>
    cases hh : hasB n k
    · rw [listTo_no n k hh, ih]
      by_cases e : j = k
      · subst e; simp [hh]
      · rw [decide_eq_decide.2 (show j < k ↔ j < k + 1 by omega)]
    · rw [listTo_yes n k hh]
      by_cases e : j = k
      · subst e; simp [hh]
      · have : ¬ (j : Int) = k := by omega
        rw [← decide_eq_decide.2 (show j < k ↔ j < k + 1 by omega), ← ih]
        simp [this]

theorem with_eq (n : Nat) (hn : n < 18446744073709551616) (zs : List Int) : zs.foldl orStep (n &&& 18446744073709551614) = setTo (listTo n 64 ++ zs) 64 := by
  apply Nat.eq_of_testBit_eq
  intro j
  by_cases hj : j ≤ 63
  · rw [fold_bit _ _ _ hj, setTo_bit, decide_eq_true (by omega)]
    have hc : (listTo n 64 ++ zs).contains (j : Int) = (hasB n j || zs.contains (j : Int)) := by
      rw [List.contains_append, mem_listTo, decide_eq_true (by omega)]; rfl
    rw [hc]
    by_cases h0 : j = 0
    · subst h0
      rw [Nat.testBit_and]
      have : memberB ((0 : Nat) : Int) = false := rfl
      rw [this]
      simp
    · have hm : memberB j = true := (memberB_iff j).2 (by omega)
      rw [Nat.testBit_and, clear_bits j (by omega) (by omega), hasB_in n j (by omega) (by omega), hm]
      simp
  · have h1 := fold_lt zs (n &&& 18446744073709551614) (Nat.lt_of_le_of_lt Nat.and_le_left hn)
    have h2 := setTo_lt (listTo n 64 ++ zs) 64
    have hp : 2 ^ 64 ≤ 2 ^ j := Nat.pow_le_pow_right (by decide) (by omega)
    rw [Nat.testBit_lt_two_pow (Nat.lt_of_lt_of_le h1 hp), Nat.testBit_lt_two_pow (Nat.lt_of_lt_of_le h2 hp)]

theorem add_bit (q m : Nat) (hq : q < 2 ^ m) (hm : m ≤ 63) : IntKind.u64.wrap ((q : Int) + IntKind.u64.wrap (2 ^ m)) = ((q + 2 ^ m : Nat) : Int) := by
  have h1 : 2 ^ m ≤ 2 ^ 63 := Nat.pow_le_pow_right (by decide) hm
  have e : IntKind.u64.wrap ((2 : Int) ^ m) = ((2 ^ m : Nat) : Int) := by
    rw [show ((2 : Int) ^ m) = ((2 ^ m : Nat) : Int) from by simp, IntKind.wrap_u64]
    generalize 2 ^ m = q at *
    omega
  rw [e, IntKind.wrap_u64]
  generalize 2 ^ m = x at *
  omega

/-- what the inner loop of Set holds: of the first k numbers, whether i is among them -/
def setIn (zs : List Int) (i k : Nat) : Nat := setTo zs i + (if (zs.take k).contains (i : Int) then 2 ^ i else 0)
theorem setIn_zero (zs : List Int) (i : Nat) : setIn zs i 0 = setTo zs i := by simp [setIn]
theorem setIn_end (zs : List Int) (i k : Nat) (hi : 1 ≤ i) (h2 : i ≤ 63) (hk : zs.length ≤ k) : setIn zs i k = setTo zs (i + 1) := by
  have hm : memberB i = true := (memberB_iff i).2 (by omega)
  rw [setIn, setTo, List.take_of_length_le hk, hm, Bool.true_and]
theorem setIn_has (zs : List Int) (i k : Nat) (hi : 1 ≤ i) (h2 : i ≤ 63) : hasB (setIn zs i k) i = (zs.take k).contains (i : Int) := by
  rw [hasB_in _ i hi h2, setIn]
  cases h : (zs.take k).contains (i : Int)
  · simp [Nat.testBit_lt_two_pow (setTo_lt zs i)]
  · rw [if_pos rfl, testBit_top _ i i (setTo_lt zs i)]; simp
theorem setIn_same (zs : List Int) (i k : Nat) (z : Int) (h : zs[k]? = some z) (hz : ((i : Int) = z → (zs.take k).contains (i : Int) = true)) : setIn zs i (k + 1) = setIn zs i k := by
  have : (zs.take (k + 1)).contains (i : Int) = (zs.take k).contains (i : Int) := by
    rw [List.take_add_one, h]
    by_cases e : (i : Int) = z
    · have h1 := hz e
      simp at h1 ⊢
      simp [h1]
    · simp [e]
  rw [setIn, setIn, this]
theorem setIn_new (zs : List Int) (i k : Nat) (h : zs[k]? = some (i : Int)) (hz : (zs.take k).contains (i : Int) = false) : setIn zs i (k + 1) = setIn zs i k + 2 ^ i ∧ setIn zs i k = setTo zs i := by
  have : (zs.take (k + 1)).contains (i : Int) = true := by rw [List.take_add_one, h]; simp
  rw [setIn, setIn, this, hz]
  simp
theorem setIn_lt (zs : List Int) (i k : Nat) (h : i ≤ 63) : setIn zs i k < 18446744073709551616 := by
  have h1 := setTo_lt zs i
  have h2 : 2 ^ i ≤ 2 ^ 63 := Nat.pow_le_pow_right (by decide) h
  rw [setIn]
  split <;> omega

theorem set_any (A : Option Addr) (len c B : Nat) (zs : List Int) (w : World) (hlen : len ≤ 9223372036854775807) (h : Reads w B 1 A len (zs.map (Value.int .i64))) :
    Calls Try.prog 35 #[.slice A len c] w fun e w' => e = .returned (.int .u64 (setTo zs 64 : Nat)) ∧ w = w' := by
  have H := Lib.hid h
  have hl : Hid (zs.length = len) := Lib.hid (by simpa using h.1)
  clear h
  have h00 : Hid (setTo zs 1 = 0) := Lib.hid (by rw [setTo, setTo, show memberB ((0 : Nat) : Int) = false from rfl]; simp)
  go_enter Try.func35, Try.ntmps35
  go_wp2
  go_loop [3, 4, 5] (fun s i j => ∃ m : Nat, 1 ≤ m ∧ m ≤ 64 ∧ i = .int .i64 m ∧ s = .int .u64 (setTo zs m : Nat)) (fun _ i _ => 64 - (intOf i).toNat)
  case atStart => exact ⟨1, by omega, by omega, rfl, by rw [h00.out]; rfl⟩
  case round =>
    obtain ⟨m, hm1, hm2, rfl, rfl⟩ := hrel
    by_cases hm : m < 64
    · have h0 := Lib.hid (setIn_zero zs m)
      have h9 := Lib.hid (setIn_end zs m len hm1 (by omega) (by rw [hl.out]; omega))
      go_wp2
      go_loop [3, 5] (fun s j => ∃ k : Nat, k ≤ len ∧ j = .int .i64 k ∧ s = .int .u64 (setIn zs m k : Nat)) (fun _ j => len - (intOf j).toNat)
      case atStart => exact ⟨0, by omega, rfl, by rw [h0.out]⟩
      case round =>
        obtain ⟨k, hk, rfl, rfl⟩ := hrel
        have hsl := setIn_lt zs m k (by omega)
        by_cases hkl : k < len
        · obtain ⟨a1, z, rfl, _, x1, y1⟩ := reads_int H.out hkl
          have HX := Lib.hid x1
          have hh := Lib.hid (setIn_has zs m k hm1 (by omega))
          clear x1
          by_cases e : z = m
          · have eb : (z == (m : Int)) = true := by simp [e]
            cases hc : (zs.take k).contains (m : Int)
            · have hb : hasB (setIn zs m k) m = false := by rw [hh.out, hc]
              have hn := Lib.hid (setIn_new zs m k (by rw [HX.out, e]) hc)
              have ha := add_bit (setIn zs m k) m (by rw [hn.out.2]; exact setTo_lt zs m) (by omega)
              have HC := Lib.hid hc
              have HE := Lib.hid e
              clear hc e
              go_wp2_with (go_at_call 23; refine (refHas_any _ hsl _ _).mono ?_; rintro e w' ⟨rfl, rfl⟩)
              go_round
              case rel => exact ⟨k + 1, by omega, by go_num, by rw [hn.out.1]; simp⟩
              case measure => simp [intOf]; omega
            · have hb : hasB (setIn zs m k) m = true := by rw [hh.out, hc]
              have hn := Lib.hid (setIn_same zs m k z HX.out (fun _ => hc))
              have HC := Lib.hid hc
              have HE := Lib.hid e
              clear hc e
              go_wp2_with (go_at_call 23; refine (refHas_any _ hsl _ _).mono ?_; rintro e w' ⟨rfl, rfl⟩)
              go_round
              case rel => exact ⟨k + 1, by omega, by go_num, by rw [hn.out]⟩
              case measure => simp [intOf]; omega
          · have eb : (z == (m : Int)) = false := by simp [e]
            have hn := Lib.hid (setIn_same zs m k z HX.out (fun h => absurd h.symm e))
            clear e
            go_wp2_with (go_at_call 23; refine (refHas_any _ hsl _ _).mono ?_; rintro e w' ⟨rfl, rfl⟩)
            go_round
            case rel => exact ⟨k + 1, by omega, by go_num, by rw [hn.out]⟩
            case measure => simp [intOf]; omega
        · obtain rfl : k = len := by omega
          go_wp2
          go_round
          case rel => exact ⟨m + 1, by omega, by omega, by go_num, by rw [h9.out]⟩
          case measure => simp [intOf]; omega
    · obtain rfl : m = 64 := by omega
      go_wp2
      go_ret
      exact ⟨rfl, rfl⟩

end Go.Proofs.Ytckfjkpcebklnaa
