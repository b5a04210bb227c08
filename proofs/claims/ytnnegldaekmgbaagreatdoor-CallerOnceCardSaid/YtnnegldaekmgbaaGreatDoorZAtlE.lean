/- Chain, of both. -/
import Derived.Test.YtnnegldaekmgbaaGreatDoorZAtlD
namespace Go.Proofs.YtnnegldaekmgbaaGreatDoor
open Go.RowKit
set_option linter.unusedSimpArgs false
set_option linter.unusedVariables false
set_option maxHeartbeats 800000
set_option maxRecDepth 100000

def chainV (k : Nat) (n : Int) : Int := if n < 1 then 0 else ((k * 2654435761 % 4294967296 / 65536 % n.toNat : Nat) : Int)
theorem chainV_lt (k : Nat) (n : Int) (h : ¬ n < 1) : 0 ≤ chainV k n ∧ chainV k n < n := by
  unfold chainV
  rw [if_neg h]
  have := Nat.mod_lt (k * 2654435761 % 4294967296 / 65536) (show 0 < n.toNat by omega)
  omega
theorem chain_any (k : Nat) (hk : k < 4294967296) (n : Int) (hn : n ≤ 9223372036854775807) (w : World) :
    Calls Tryz.prog 104 #[.int .u32 k, .int .i64 n] w fun e w' => e = .returned (.int .i64 (chainV k n)) ∧ w = w' := by
  by_cases h : n < 1
  · have hT : Hid (0 = chainV k n) := Lib.hid (by unfold chainV; rw [if_pos h])
    go_enter Tryz.func104, Tryz.ntmps104
    go_wp2
    go_ret
    exact ⟨ret_int hT.out, rfl⟩
  · obtain ⟨m, rfl⟩ := Int.eq_ofNat_of_zero_le (show 0 ≤ n by omega)
    have hT : Hid (((k * 2654435761 % 4294967296 / 65536 % m : Nat) : Int) = chainV k m) := Lib.hid (by unfold chainV; rw [if_neg h]; rfl)
    go_enter Tryz.func104, Tryz.ntmps104
    go_wp2_with (fail)
    go_ret
    exact ⟨ret_int (by rw [← hT.out]; simp), rfl⟩
theorem refChain_any (k : Nat) (hk : k < 4294967296) (n : Int) (hn : n ≤ 9223372036854775807) (w : World) :
    Calls Tryz.prog 124 #[.int .u32 k, .int .i64 n] w fun e w' => e = .returned (.int .i64 (chainV k n)) ∧ w = w' := by
  by_cases h : n < 1
  · have hT : Hid (0 = chainV k n) := Lib.hid (by unfold chainV; rw [if_pos h])
    go_enter Tryz.func124, Tryz.ntmps124
    go_wp2
    go_ret
    exact ⟨ret_int hT.out, rfl⟩
  · obtain ⟨m, rfl⟩ := Int.eq_ofNat_of_zero_le (show 0 ≤ n by omega)
    have hT : Hid (((k * 2654435761 % 4294967296 / 65536 % m : Nat) : Int) = chainV k m) := Lib.hid (by unfold chainV; rw [if_neg h]; rfl)
    go_enter Tryz.func124, Tryz.ntmps124
    go_wp2_with (fail)
    have hw : wrap64 ((k : Int) * 2654435761 % 4294967296 / 65536 % (m : Int)) = (k : Int) * 2654435761 % 4294967296 / 65536 % (m : Int) := by
      have e : (k : Int) * 2654435761 % 4294967296 / 65536 % (m : Int) = ((k * 2654435761 % 4294967296 / 65536 % m : Nat) : Int) := by simp
      have hl := Nat.mod_le (k * 2654435761 % 4294967296 / 65536) m
      rw [e]
      generalize k * 2654435761 % 4294967296 / 65536 % m = y at *
      unfold wrap64
      omega
    go_ret
    exact ⟨ret_int (by rw [← hT.out, hw]; simp), rfl⟩
end Go.Proofs.YtnnegldaekmgbaaGreatDoor
