/- Copy, Batch; the reference's Runs, Batch, Fits, SameUpdates. -/
import Derived.Test.YthmokochlpbokaaGreatDoorUpdF

namespace Go.Proofs.YthmokochlpbokaaGreatDoor
open Go.RowKit
set_option linter.unusedSimpArgs false
set_option linter.unusedVariables false
set_option maxHeartbeats 4000000
attribute [local go_sem] Up.agg Up.cells

theorem same_any (A C : Option Addr) (n m c d B D : Nat) (x y : List Int) (w : World) (hB : B ≤ w.heap.size) (hD : D ≤ w.heap.size) (hx : Reads w B 1 A n (x.map (Value.int .u8))) (hy : Reads w D 1 C m (y.map (Value.int .u8))) (hn : n ≤ 9223372036854775806) :
    Calls Tryz.prog 24 #[.slice A n c, .slice C m d] w fun e w' => e = .returned (.bool (decide (x = y))) ∧ Below w.heap.size w w' := by
  have lx : x.length = n := by have := hx.1; simpa using this
  have ly : y.length = m := by have := hy.1; simpa using this
  by_cases hnm : n = m
  · have hX : Hid (y.length = x.length) := Lib.hid (by omega)
    subst hnm
    have HX := Lib.hid hx
    have HY := Lib.hid hy
    have LX := Lib.hid lx
    have LY := Lib.hid ly
    clear hx hy lx ly
    go_enter Tryz.func24, Tryz.ntmps24
    go_wp2
    go_loopw [5] (fun i wr => ∃ k : Nat, k ≤ n ∧ i = .int .i64 k ∧ Hid (x.take k = y.take k) ∧ Hid (Below w.heap.size w wr)) (fun i _ => n - (intOf i).toNat)
    case atStart => exact ⟨0, by omega, rfl, Lib.hid rfl, Lib.hid (Below.refl _ _)⟩
    case round =>
      obtain ⟨k, hk, rfl, hT, hb⟩ := hrel
      by_cases hlt : k < n
      · obtain ⟨ad1, z1, rfl, _, hz1, hc1⟩ := reads_int (HX.out.below (hb.out.mono hB)) hlt
        obtain ⟨ad2, z2, rfl, _, hz2, hc2⟩ := reads_int (HY.out.below (hb.out.mono hD)) hlt
        have Z1 := Lib.hid hz1
        have Z2 := Lib.hid hz2
        clear hz1 hz2
        by_cases hz : z1 = z2
        · have hz' : (z1 != z2) = false := by simp [hz]
          have HZ := Lib.hid hz
          clear hz
          go_wp2_with (fail)
          go_quiet (fail)
          go_wp2
          go_roundw
          case rel =>
            refine ⟨k + 1, by omega, by go_num, Lib.hid ?_, Lib.hid (below_drewN hb.out _)⟩
            rw [List.take_add_one, List.take_add_one, Z1.out, Z2.out, hT.out, HZ.out]
          case measure => simp [intOf]; omega
        · have hz' : (z1 != z2) = true := by simp [hz]
          have HZ := Lib.hid hz
          clear hz
          go_wp2_with (fail)
          go_quiet (fail)
          go_wp2
          go_ret
          refine ⟨ret_bool ?_, below_drewN hb.out _⟩
          symm
          rw [decide_eq_false_iff_not]
          intro e
          have := Z2.out
          rw [← e, Z1.out] at this
          exact HZ.out (by injection this)
      · obtain rfl : k = n := by omega
        go_wp2
        go_ret
        refine ⟨ret_bool ?_, hb.out⟩
        symm
        rw [decide_eq_true_eq]
        have := hT.out
        rw [List.take_of_length_le (by have := LX.out; omega), List.take_of_length_le (by have := LY.out; omega)] at this
        exact this
  · have he : ¬ x = y := fun e => by subst e; omega
    have hd : decide (x = y) = false := by simp [he]
    rw [hd]
    have hnm' : ((n : Int) != m) = true := by simp; omega
    clear hx hy hnm he hd
    go_enter Tryz.func24, Tryz.ntmps24
    go_wp2
    go_ret
    exact ⟨rfl, Below.refl _ _⟩


end Go.Proofs.YthmokochlpbokaaGreatDoor
