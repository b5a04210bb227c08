/- The document's Check of a letter: its small parts. -/
import Derived.Test.YtmpedblelnpjdaaGreatDoorZGM
import Derived.Test.YtmpedblelnpjdaaGreatDoorZGR
namespace Go.Proofs.YtmpedblelnpjdaaGreatDoor
open Go.RowKit
set_option linter.unusedSimpArgs false
set_option linter.unusedVariables false
set_option maxHeartbeats 8000000
set_option maxRecDepth 100000


theorem rk_ii {k l : IntKind} {a b c d : Int} (h : a = b) (g : c = d) : Ending.returned (.tuple #[.int k a, .int l c]) = .returned (.tuple #[.int k b, .int l d]) := by rw [h, g]
def rkV (r who : Int) : Int := if isOf r who then 8 * r + who else 0
def rkE (r who : Int) : Int := if isOf r who then 0 else 1
theorem rkV_yes2 (r who : Int) (h : isOf r who) : r * 8 + who = rkV r who := by rw [rkV, if_pos h, Int.mul_comm]
theorem rkE_yes (r who : Int) (h : isOf r who) : 0 = rkE r who := by rw [rkE, if_pos h]
theorem rkV_no (r who : Int) (h : ¬ isOf r who) : 0 = rkV r who := by rw [rkV, if_neg h]
theorem rkE_no (r who : Int) (h : ¬ isOf r who) : 1 = rkE r who := by rw [rkE, if_neg h]
theorem rkOf_any (r who : Int) (w : World) (h0 : 0 ≤ r) (h1 : r < 18446744073709551616) :
    Calls Tryz.prog 229 #[.int .u64 r, .int .i64 who] w fun e w' => e = .returned (.tuple #[.int .u64 (rkV r who), .int .i64 (rkE r who)]) ∧ w = w' := by
  by_cases a : 1 ≤ r
  all_goals by_cases b : r < 1152921504606846976
  all_goals by_cases c : 1 ≤ who
  all_goals by_cases d : who ≤ 5
  all_goals first | (exfalso; omega) | skip
  all_goals
    go_enter Tryz.func229, Tryz.ntmps229
    go_wp2
    go_ret2
    first
      | exact ⟨rk_ii (rkV_yes2 r who (by unfold isOf; omega)) (rkE_yes r who (by unfold isOf; omega)), rfl⟩
      | exact ⟨rk_ii (rkV_no r who (by unfold isOf; omega)) (rkE_no r who (by unfold isOf; omega)), rfl⟩

theorem rkIs_any (b : Int) (w : World) (h0 : 0 ≤ b) (h1 : b < 18446744073709551616) :
    Calls Tryz.prog 136 #[.int .u64 b] w fun e w' => e = .returned (.bool (isBal b)) ∧ w = w' := by
  by_cases a : isOf (b / 8) (b % 8)
  all_goals
    go_enter Tryz.func136, Tryz.ntmps136
    go_wp2_with (go_at_call 229; refine (rkOf_any _ _ _ (by omega) (by omega)).mono ?_; rintro e w' ⟨rfl, rfl⟩)
    go_ret
    first
      | exact ⟨ret_bool (by rw [rkE, if_pos a, isBal, decide_eq_true a]; rfl), rfl⟩
      | exact ⟨ret_bool (by rw [rkE, if_neg a, isBal, decide_eq_false a]; rfl), rfl⟩


theorem rkCmd_any (k c e n : Int) (he : 0 ≤ e) (w : World) :
    Calls Tryz.prog 137 #[.agg #[.int .i64 k, .int .i64 c, .int .u64 e, .int .i64 n]] w fun r w' => r = .returned (.int .i64 (cmdE k c e n)) ∧ Below w.heap.size w w' := by
  obtain ⟨W0, hW0⟩ : ∃ W0, W0 = w.alloc (.cells #[.int .i64 k, .int .i64 c, .int .u64 e, .int .i64 n] 30) := ⟨_, rfl⟩
  have hb0 : Below w.heap.size w W0 := by rw [hW0]; exact (Below.refl _ _).alloc (Nat.le_refl _) _
  have hbk : Blk W0 w.heap.size 30 #[.int .i64 k, .int .i64 c, .int .u64 e, .int .i64 n] := by rw [hW0]; exact Blk.new _ _ _
  have x0 : W0.cell? ⟨w.heap.size, 0, none⟩ = some (.int .i64 k) := hbk.cell 0
  have x1 : W0.cell? ⟨w.heap.size, 1, none⟩ = some (.int .i64 c) := hbk.cell 1
  have x2 : W0.cell? ⟨w.heap.size, 2, none⟩ = some (.int .u64 e) := hbk.cell 2
  have x3 : W0.cell? ⟨w.heap.size, 3, none⟩ = some (.int .i64 n) := hbk.cell 3
  have hl := hbk.lt
  have hz : ∀ w : World, (Instr.build 30 #[]).run Tryz.prog w = .ok (.agg #[.int .i64 0, .int .i64 0, .int .u64 0, .int .i64 0]) w := fun w => by kernel_rfl
  have HB := Lib.hid hb0
  have HW := Lib.hid hW0
  clear hb0 hW0 hbk
  by_cases a0 : k < 0
  · have HV : Hid (cmdE k c e n = 1) := Lib.hid (by unfold cmdE; rw [if_pos (by omega)])
    go_enter Tryz.func137, Tryz.ntmps137
    go_upto_region 1 with (fail)
    rw [← HW.out]
    go_wp2_with (fail)
    go_ret
    exact ⟨by rw [HV.out]; rfl, HB.out⟩
  by_cases a1 : 5 ≤ k
  · have g : 4 < k := by omega
    have HV : Hid (cmdE k c e n = 1) := Lib.hid (by unfold cmdE; rw [if_pos (by omega)])
    clear a1
    go_enter Tryz.func137, Tryz.ntmps137
    go_upto_region 1 with (fail)
    rw [← HW.out]
    go_wp2_with (fail)
    go_ret
    exact ⟨by rw [HV.out]; rfl, HB.out⟩
  have g : ¬ 4 < k := by omega
  have HA1 := Lib.hid a1
  clear a1
  by_cases a2 : k = 0
  · rw [a2] at x0
    have HA2 := Lib.hid a2
    clear a2
    by_cases b0 : c = 0
    rotate_left
    · have e1 : (c == 0) = false := by simpa using b0
      have e2 : (c != 0) = true := by simpa using b0
      have HV : Hid (cmdE k c e n = 4) := Lib.hid (by unfold cmdE; rw [if_neg (by have := HA2.out; omega), if_pos HA2.out, if_neg (by omega)])
      clear b0
      go_enter Tryz.func137, Tryz.ntmps137
      go_upto_region 1 with (fail)
      rw [← HW.out]
      go_wp2_with (fail)
      go_ret
      exact ⟨by rw [HV.out]; rfl, HB.out⟩
    rw [b0] at x1
    have HC0 := Lib.hid b0
    clear b0
    by_cases b1 : e = 0
    rotate_left
    · have e1 : (e == 0) = false := by simpa using b1
      have e2 : (e != 0) = true := by simpa using b1
      have HV : Hid (cmdE k c e n = 4) := Lib.hid (by unfold cmdE; rw [if_neg (by have := HA2.out; omega), if_pos HA2.out, if_neg (by omega)])
      clear b1
      go_enter Tryz.func137, Tryz.ntmps137
      go_upto_region 1 with (fail)
      rw [← HW.out]
      go_wp2_with (fail)
      go_ret
      exact ⟨by rw [HV.out]; rfl, HB.out⟩
    rw [b1] at x2
    have HC1 := Lib.hid b1
    clear b1
    by_cases b2 : n = 0
    rotate_left
    · have e1 : (n == 0) = false := by simpa using b2
      have e2 : (n != 0) = true := by simpa using b2
      have HV : Hid (cmdE k c e n = 4) := Lib.hid (by unfold cmdE; rw [if_neg (by have := HA2.out; omega), if_pos HA2.out, if_neg (by omega)])
      clear b2
      go_enter Tryz.func137, Tryz.ntmps137
      go_upto_region 1 with (fail)
      rw [← HW.out]
      go_wp2_with (fail)
      go_ret
      exact ⟨by rw [HV.out]; rfl, HB.out⟩
    rw [b2] at x3
    have HC2 := Lib.hid b2
    clear b2
    have HV : Hid (cmdE k c e n = 0) := Lib.hid (by unfold cmdE; rw [if_neg (by have := HA2.out; omega), if_pos HA2.out, if_pos ⟨HC0.out, HC1.out, HC2.out⟩])
    go_enter Tryz.func137, Tryz.ntmps137
    go_upto_region 1 with (fail)
    rw [← HW.out]
    go_wp2_with (fail)
    go_ret
    exact ⟨by rw [HV.out]; rfl, HB.out⟩
  have e0 : (k == 0) = false := by simpa using a2
  have e0n : (k != 0) = true := by simpa using a2
  have HA2 := Lib.hid a2
  clear a2
  by_cases d0 : c < 0
  · have HV : Hid (cmdE k c e n = 4) := Lib.hid (by unfold cmdE; rw [if_neg (by have := HA1.out; omega), if_neg (by have := HA2.out; omega), if_pos (by omega)])
    go_enter Tryz.func137, Tryz.ntmps137
    go_upto_region 1 with (fail)
    rw [← HW.out]
    go_wp2_with (fail)
    go_ret
    exact ⟨by rw [HV.out]; rfl, HB.out⟩
  by_cases d1 : 4 ≤ c
  · have g1 : 3 < c := by omega
    have HV : Hid (cmdE k c e n = 4) := Lib.hid (by unfold cmdE; rw [if_neg (by have := HA1.out; omega), if_neg (by have := HA2.out; omega), if_pos (by omega)])
    clear d1
    go_enter Tryz.func137, Tryz.ntmps137
    go_upto_region 1 with (fail)
    rw [← HW.out]
    go_wp2_with (fail)
    go_ret
    exact ⟨by rw [HV.out]; rfl, HB.out⟩
  have g1 : ¬ 3 < c := by omega
  have HD1 := Lib.hid d1
  clear d1
  by_cases d2 : e = 0
  · rw [d2] at x2
    have HV : Hid (cmdE k c e n = 4) := Lib.hid (by unfold cmdE; rw [if_neg (by have := HA1.out; omega), if_neg (by have := HA2.out; omega), if_pos (by omega)])
    clear d2
    go_enter Tryz.func137, Tryz.ntmps137
    go_upto_region 1 with (fail)
    rw [← HW.out]
    go_wp2_with (fail)
    go_ret
    exact ⟨by rw [HV.out]; rfl, HB.out⟩
  have e5 : (e == 0) = false := by simpa using d2
  have HD2 : Hid (¬ e < 1) := Lib.hid (by omega)
  clear d2
  by_cases d3 : n < 1
  · have HV : Hid (cmdE k c e n = 4) := Lib.hid (by unfold cmdE; rw [if_neg (by have := HA1.out; omega), if_neg (by have := HA2.out; omega), if_pos (by omega)])
    go_enter Tryz.func137, Tryz.ntmps137
    go_upto_region 1 with (fail)
    rw [← HW.out]
    go_wp2_with (fail)
    go_ret
    exact ⟨by rw [HV.out]; rfl, HB.out⟩
  by_cases d4 : 24 < n
  · have HV : Hid (cmdE k c e n = 4) := Lib.hid (by unfold cmdE; rw [if_neg (by have := HA1.out; omega), if_neg (by have := HA2.out; omega), if_pos (by omega)])
    go_enter Tryz.func137, Tryz.ntmps137
    go_upto_region 1 with (fail)
    rw [← HW.out]
    go_wp2_with (fail)
    go_ret
    exact ⟨by rw [HV.out]; rfl, HB.out⟩
  have HV : Hid (cmdE k c e n = 0) := Lib.hid (by unfold cmdE; rw [if_neg (by have := HA1.out; omega), if_neg (by have := HA2.out; omega), if_neg (by have := HD1.out; have := HD2.out; omega)])
  go_enter Tryz.func137, Tryz.ntmps137
  go_upto_region 1 with (fail)
  rw [← HW.out]
  go_wp2_with (fail)
  go_ret
  exact ⟨by rw [HV.out]; rfl, HB.out⟩

attribute [local go_sem] Up.agg Up.cells


theorem refUpdate10_any (u : Up) (r : Bool) (w : World) (hw : u.wf) (hn : u.n ≤ 1000000) :
    Calls Tryz.prog 139 #[u.agg, .bool r] w fun e w' => e = .returned (.bool (upOkB u r)) ∧ Below w.heap.size w w' := by
  have HB : Hid (Below w.heap.size w (w.alloc (.cells u.cells 145))) := Lib.hid ((Below.refl _ _).alloc (Nat.le_refl _) _)
  have hs := hw.seq
  have hm := hw.num
  have hv := hw.ver
  clear hw
  by_cases h1 : u.cl < 1
  · have d1 : decide (u.cl < 1) = true := decide_eq_true h1
    have HX : Hid (false = upOkB u r) := Lib.hid (upOk_no (fun h => by unfold upOkP at h; omega))
    (go_enter Tryz.func139, Tryz.ntmps139; go_wp2_with (fail); go_ret; exact ⟨ret_bool HX.out, HB.out⟩)
  have d1 : decide (u.cl < 1) = false := decide_eq_false h1
  by_cases h2 : 6 < u.cl
  · have d2 : decide (6 < u.cl) = true := decide_eq_true h2
    have HX : Hid (false = upOkB u r) := Lib.hid (upOk_no (fun h => by unfold upOkP at h; omega))
    (go_enter Tryz.func139, Tryz.ntmps139; go_wp2_with (fail); go_ret; exact ⟨ret_bool HX.out, HB.out⟩)
  have d2 : decide (6 < u.cl) = false := decide_eq_false h2
  by_cases h3 : u.num = 0
  · have d3 : (u.num == 0) = true := by simp [h3]
    have HX : Hid (false = upOkB u r) := Lib.hid (upOk_no (fun h => by unfold upOkP at h; omega))
    clear h3
    (go_enter Tryz.func139, Tryz.ntmps139; go_wp2_with (fail); go_ret; exact ⟨ret_bool HX.out, HB.out⟩)
  have d3 : (u.num == 0) = false := by simp [h3]
  by_cases h4 : 2048 < u.n
  · have d4 : decide (2048 < u.n) = true := decide_eq_true h4
    have HX : Hid (false = upOkB u r) := Lib.hid (upOk_no (fun h => by unfold upOkP at h; omega))
    (go_enter Tryz.func139, Tryz.ntmps139; go_wp2_with (fail); go_ret; exact ⟨ret_bool HX.out, HB.out⟩)
  have d4 : decide (2048 < u.n) = false := decide_eq_false h4
  have key : (u.kd = 2 ∧ u.ver = 0) ∨ (u.kd = 2 ∧ u.ver ≠ 0) ∨ u.kd = 3 ∨ (u.kd ≠ 2 ∧ u.kd ≠ 3) := by omega
  rcases key with ⟨h5, h6⟩ | ⟨h5, h6⟩ | h5 | ⟨h5, h6⟩
  · have d5 : (u.kd != 2) = false := by simp [h5]
    have d6 : (u.kd == 2) = true := by simp [h5]
    have d7 : decide (0 < u.ver) = false := decide_eq_false (by omega)
    by_cases h7 : u.seq = 0
    · have d8 : (u.seq == 0) = true := by simp [h7]
      have d9 : decide (0 < u.seq) = false := decide_eq_false (by omega)
      cases r
      · have HX : Hid (false = upOkB u false) := Lib.hid (upOk_no (fun h => by unfold upOkP at h; have := h.1.1 h7; cases this))
        clear h3 h5 h6 h7
        (go_enter Tryz.func139, Tryz.ntmps139; go_wp2_with (fail); go_ret; exact ⟨ret_bool HX.out, HB.out⟩)
      · have HX : Hid (true = upOkB u true) := Lib.hid (upOk_yes ⟨⟨fun _ => rfl, fun _ => h7⟩, by omega, by omega, by omega, by omega, by omega⟩)
        clear h3 h5 h6 h7
        (go_enter Tryz.func139, Tryz.ntmps139; go_wp2_with (fail); go_ret; exact ⟨ret_bool HX.out, HB.out⟩)
    · have d8 : (u.seq == 0) = false := by simp [h7]
      have d9 : decide (0 < u.seq) = true := decide_eq_true (by omega)
      cases r
      · have HX : Hid (true = upOkB u false) := Lib.hid (upOk_yes ⟨⟨fun e => absurd e h7, fun e => by cases e⟩, by omega, by omega, by omega, by omega, by omega⟩)
        clear h3 h5 h6 h7
        (go_enter Tryz.func139, Tryz.ntmps139; go_wp2_with (fail); go_ret; exact ⟨ret_bool HX.out, HB.out⟩)
      · have HX : Hid (false = upOkB u true) := Lib.hid (upOk_no (fun h => by unfold upOkP at h; exact h7 (h.1.2 rfl)))
        clear h3 h5 h6 h7
        (go_enter Tryz.func139, Tryz.ntmps139; go_wp2_with (fail); go_ret; exact ⟨ret_bool HX.out, HB.out⟩)
  · have d5 : (u.kd != 2) = false := by simp [h5]
    have d6 : (u.kd == 2) = true := by simp [h5]
    have d7 : decide (0 < u.ver) = true := decide_eq_true (by omega)
    have HX : Hid (false = upOkB u r) := Lib.hid (upOk_no (fun h => by unfold upOkP at h; omega))
    clear h3 h5 h6
    (go_enter Tryz.func139, Tryz.ntmps139; go_wp2_with (fail); go_ret; exact ⟨ret_bool HX.out, HB.out⟩)
  · have d5 : (u.kd != 2) = true := by simp [h5]
    have d5' : (u.kd != 3) = false := by simp [h5]
    have d6 : (u.kd == 2) = false := by simp [h5]
    by_cases h7 : u.seq = 0
    · have d8 : (u.seq == 0) = true := by simp [h7]
      have d9 : decide (0 < u.seq) = false := decide_eq_false (by omega)
      cases r
      · have HX : Hid (false = upOkB u false) := Lib.hid (upOk_no (fun h => by unfold upOkP at h; have := h.1.1 h7; cases this))
        clear h3 h5 h7
        (go_enter Tryz.func139, Tryz.ntmps139; go_wp2_with (fail); go_ret; exact ⟨ret_bool HX.out, HB.out⟩)
      · have HX : Hid (true = upOkB u true) := Lib.hid (upOk_yes ⟨⟨fun _ => rfl, fun _ => h7⟩, by omega, by omega, by omega, by omega, by omega⟩)
        clear h3 h5 h7
        (go_enter Tryz.func139, Tryz.ntmps139; go_wp2_with (fail); go_ret; exact ⟨ret_bool HX.out, HB.out⟩)
    · have d8 : (u.seq == 0) = false := by simp [h7]
      have d9 : decide (0 < u.seq) = true := decide_eq_true (by omega)
      cases r
      · have HX : Hid (true = upOkB u false) := Lib.hid (upOk_yes ⟨⟨fun e => absurd e h7, fun e => by cases e⟩, by omega, by omega, by omega, by omega, by omega⟩)
        clear h3 h5 h7
        (go_enter Tryz.func139, Tryz.ntmps139; go_wp2_with (fail); go_ret; exact ⟨ret_bool HX.out, HB.out⟩)
      · have HX : Hid (false = upOkB u true) := Lib.hid (upOk_no (fun h => by unfold upOkP at h; exact h7 (h.1.2 rfl)))
        clear h3 h5 h7
        (go_enter Tryz.func139, Tryz.ntmps139; go_wp2_with (fail); go_ret; exact ⟨ret_bool HX.out, HB.out⟩)
  · have d5 : (u.kd != 2) = true := by simp [h5]
    have d5' : (u.kd != 3) = true := by simp [h6]
    have HX : Hid (false = upOkB u r) := Lib.hid (upOk_no (fun h => by unfold upOkP at h; omega))
    clear h3 h5 h6
    (go_enter Tryz.func139, Tryz.ntmps139; go_wp2_with (fail); go_ret; exact ⟨ret_bool HX.out, HB.out⟩)
end Go.Proofs.YtmpedblelnpjdaaGreatDoor
