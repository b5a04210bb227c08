/- Contracts of OnesCount64, Count, Quorum, Enough of packages ballot and catenaryref07. -/
import Derived.Test.YtckfjkpcebklnaaBalE
import Derived.Test.YtckfjkpcebklnaaPop
namespace Go.Proofs.Ytckfjkpcebklnaa
open Go.RowKit
set_option linter.unusedSimpArgs false
set_option linter.unusedVariables false

theorem andc (a c : Nat) (A C : Int) (ha : a < 18446744073709551616) (hc : c < 18446744073709551616) (hA : A = a) (hC : C = c) : bits .and .u64 A C = ((a &&& c : Nat) : Int) := by
  rw [hA, hC]; exact u64_and_nat a c ha hc
theorem addc (a b : Nat) (A B : Int) (h : a + b < 18446744073709551616) (hA : A = a) (hB : B = b) : IntKind.u64.wrap (A + B) = ((a + b : Nat) : Int) := by
  rw [hA, hB, IntKind.wrap_u64]; omega
theorem divc (a d : Nat) (A D : Int) (hA : A = a) (hD : D = d) : A / D = ((a / d : Nat) : Int) := by
  rw [hA, hD]; rfl

theorem ofInt_i64 (a : Nat) (ha : a < 9223372036854775808) : (BitVec.ofInt 64 (a : Int)).toNat = a := by
  rw [BitVec.ofInt_natCast, BitVec.toNat_ofNat]; exact Nat.mod_eq_of_lt (by omega)
theorem i64_and_nat (a b : Nat) (ha : a < 9223372036854775808) (hb : b < 9223372036854775808) : bits .and .i64 (a : Int) (b : Int) = ((a &&& b : Nat) : Int) := by
  have hx : a &&& b < 2 ^ 63 := Nat.and_lt_two_pow _ (by omega)
  show IntKind.i64.wrap ((BitVec.ofInt 64 (a : Int) &&& BitVec.ofInt 64 (b : Int)).toNat : Int) = _
  rw [BitVec.toNat_and, ofInt_i64 a ha, ofInt_i64 b hb, IntKind.wrap_i64]
  omega

theorem ones_any (x : Nat) (h : x < 18446744073709551616) (w : World) :
    Calls Try.prog 36 #[.int .u64 x] w fun e w' => e = .returned (.int .i64 (pc x 64)) ∧ w = w' := by
  go_enter Try.func36, Try.ntmps36
  go_wp2
  go_ret
  refine ⟨ret_int (a := _) ?_, rfl⟩
  have l1 : (x / 2 &&& 6148914691236517205) ≤ 6148914691236517205 := Nat.and_le_right
  have l2 : (x &&& 6148914691236517205) ≤ 6148914691236517205 := Nat.and_le_right
  rw [divc x 2 x 2 rfl rfl, andc (x / 2) 6148914691236517205 ((x / 2 : Nat) : Int) 6148914691236517205 (by omega) (by omega) rfl rfl, andc x 6148914691236517205 x 6148914691236517205 (by omega) (by omega) rfl rfl, addc (x / 2 &&& 6148914691236517205) (x &&& 6148914691236517205) _ _ (by omega) rfl rfl]
  have hx := ones64_pc x h
  unfold ones64 at hx
  simp only [] at hx
  have k1 : (x / 2 &&& 6148914691236517205) + (x &&& 6148914691236517205) < 18446744073709551616 := by omega
  generalize (x / 2 &&& 6148914691236517205) + (x &&& 6148914691236517205) = x1 at *
  have l3 : (x1 / 4 &&& 3689348814741910323) ≤ 3689348814741910323 := Nat.and_le_right
  have l4 : (x1 &&& 3689348814741910323) ≤ 3689348814741910323 := Nat.and_le_right
  clear l1 l2 h
  rw [divc x1 4 x1 4 rfl rfl, andc (x1 / 4) 3689348814741910323 ((x1 / 4 : Nat) : Int) 3689348814741910323 (by omega) (by omega) rfl rfl, andc x1 3689348814741910323 x1 3689348814741910323 (by omega) (by omega) rfl rfl, addc (x1 / 4 &&& 3689348814741910323) (x1 &&& 3689348814741910323) _ _ (by omega) rfl rfl]
  have k2 : (x1 / 4 &&& 3689348814741910323) + (x1 &&& 3689348814741910323) ≤ 7378697629483820646 := by omega
  generalize (x1 / 4 &&& 3689348814741910323) + (x1 &&& 3689348814741910323) = x2 at *
  clear l3 l4 k1
  rw [divc x2 16 x2 16 rfl rfl, addc (x2 / 16) x2 _ _ (by omega) rfl rfl, andc (x2 / 16 + x2) 1085102592571150095 ((x2 / 16 + x2 : Nat) : Int) 1085102592571150095 (by omega) (by omega) rfl rfl]
  have k3 : (x2 / 16 + x2 &&& 1085102592571150095) ≤ 1085102592571150095 := Nat.and_le_right
  generalize (x2 / 16 + x2 &&& 1085102592571150095) = x3 at *
  clear k2
  rw [divc x3 256 x3 256 rfl rfl, addc x3 (x3 / 256) _ _ (by omega) rfl rfl]
  have k4 : x3 + x3 / 256 ≤ 2170205185142300190 := by omega
  generalize x3 + x3 / 256 = x4 at *
  clear k3
  rw [divc x4 65536 x4 65536 rfl rfl, addc x4 (x4 / 65536) _ _ (by omega) rfl rfl]
  have k5 : x4 + x4 / 65536 ≤ 4340410370284600380 := by omega
  generalize x4 + x4 / 65536 = x5 at *
  clear k4
  rw [divc x5 4294967296 x5 4294967296 rfl rfl, addc x5 (x5 / 4294967296) _ _ (by omega) rfl rfl]
  have k6 : x5 + x5 / 4294967296 < 9223372036854775808 := by omega
  generalize x5 + x5 / 4294967296 = x6 at *
  clear k5
  rw [show wrap64 (x6 : Int) = x6 from by unfold wrap64; omega, ← hx]
  exact i64_and_nat x6 127 k6 (by omega)

end Go.Proofs.Ytckfjkpcebklnaa
