/- Package crc: halved, byte32, New; the reference's Half, On. -/
import Derived.Test.YtoifaeabieojbaaCrcM
import Derived.Test.YtoifaeabieojbaaLatA
import Derived.Laws.BitsAll
namespace Go.Proofs.Ytoifaeabieojbaa
open Go.RowKit
set_option linter.unusedSimpArgs false
set_option linter.unusedVariables false
set_option maxRecDepth 100000
set_option maxHeartbeats 4000000

theorem hv_snoc (k s : Nat) : hv (k + 1) s = half (hv k s) := by
  have := hv_add k 1 s
  rw [this]; rfl
theorem and1 (q : Nat) (h : q < 4294967296) : bits .and .u32 (q : Int) 1 = ((q % 2 : Nat) : Int) := by
  have := u32_and_nat q 1 h (by decide)
  rw [Nat.and_one_is_mod] at this
  exact this
theorem halved_any (s : Nat) (hs : s < 4294967296) (w : World) : Calls Try.prog 76 #[.int .u32 (s : Int)] w fun e w' => e = .returned (.int .u32 ((hv 8 s : Nat) : Int)) ∧ w = w' := by
  have HS := Lib.hid hs
  clear hs
  go_enter Try.func76, Try.ntmps76
  go_wp2
  go_loop [0, 4] (fun v i => ∃ k q : Nat, k ≤ 8 ∧ q < 4294967296 ∧ i = .int .i64 k ∧ v = .int .u32 (q : Int) ∧ Hid (q = hv k s)) (fun _ i => 8 - (intOf i).toNat)
  case atStart => exact ⟨0, s, by omega, HS.out, rfl, rfl, Lib.hid rfl⟩
  case round =>
    obtain ⟨k, q, hk, hq, rfl, rfl, HQ⟩ := hrel
    by_cases hlt : k < 8
    · by_cases hm : q % 2 = 1
      · have hb : (bits .and .u32 (q : Int) 1 == 1) = true := by rw [and1 q hq, hm]; rfl
        have hx : bits .xor .u32 ((q : Int) / 2) 3988292384 = ((half q : Nat) : Int) := by
          rw [half, if_pos hm]
          exact u32_xor_nat (q / 2) 3988292384 (by omega) (by decide)
        have HM := Lib.hid hm
        clear hm
        go_wp2
        go_round
        case rel => exact ⟨k + 1, half q, by omega, half_lt q hq, by go_num, rfl, Lib.hid (by rw [hv_snoc, ← HQ.out])⟩
        case measure => simp [intOf]; omega
      · have hb : (bits .and .u32 (q : Int) 1 == 1) = false := by rw [and1 q hq]; simp; omega
        have hx : half q = q / 2 := by rw [half, if_neg hm, Nat.xor_zero]
        have HX := Lib.hid hx
        clear hx hm
        go_wp2
        go_round
        case rel => exact ⟨k + 1, half q, by omega, half_lt q hq, by go_num, by rw [HX.out]; rfl, Lib.hid (by rw [hv_snoc, ← HQ.out])⟩
        case measure => simp [intOf]; omega
    · obtain rfl : k = 8 := by omega
      go_wp2
      go_ret
      exact ⟨ret_int (by rw [HQ.out]), rfl⟩

theorem mod256 (s : Nat) : IntKind.u8.wrap (s : Int) = ((s % 256 : Nat) : Int) := by rw [IntKind.wrap_u8']; omega
theorem xor8_lt (a b : Nat) (ha : a < 256) (hb : b < 256) : a ^^^ b < 256 := Nat.xor_lt_two_pow (n := 8) ha hb
theorem xor32_lt (a b : Nat) (ha : a < 4294967296) (hb : b < 4294967296) : a ^^^ b < 4294967296 := Nat.xor_lt_two_pow (n := 32) ha hb
theorem refHalf_any (s : Nat) (hs : s < 4294967296) (w : World) : Calls Try.prog 67 #[.int .u32 (s : Int)] w fun e w' => e = .returned (.int .u32 ((half s : Nat) : Int)) ∧ w = w' := by
  by_cases hm : s % 2 = 1
  · have hb : ((s : Int) % 2 == 1) = true := by simp; omega
    have hx : bits .xor .u32 ((s : Int) / 2) 3988292384 = ((half s : Nat) : Int) := by
      rw [half, if_pos hm]
      exact u32_xor_nat (s / 2) 3988292384 (by omega) (by decide)
    go_enter Try.func67, Try.ntmps67
    go_wp2
    go_ret
    exact ⟨rfl, rfl⟩
  · have hb : ((s : Int) % 2 == 1) = false := by simp; omega
    have hx : half s = s / 2 := by rw [half, if_neg hm, Nat.xor_zero]
    rw [hx]
    clear hx
    go_enter Try.func67, Try.ntmps67
    go_wp2
    go_ret
    exact ⟨rfl, rfl⟩
end Go.Proofs.Ytoifaeabieojbaa
