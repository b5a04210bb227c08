import Derived.Test.YtmpedblelnpjdaaGreatDoorZGM
import Derived.Test.YtmpedblelnpjdaaGreatDoorZTq
import Derived.Test.YtmpedblelnpjdaaGreatDoorZGR
import Derived.Test.YtmpedblelnpjdaaGreatDoorZGN
import Derived.Test.YtmpedblelnpjdaaGreatDoorZTk
section
/- The document's Check of a letter: its small parts. -/
namespace Go.Proofs.YtmpedblelnpjdaaGreatDoor
open Go.RowKit
set_option linter.unusedSimpArgs false
set_option linter.unusedVariables false
set_option maxHeartbeats 8000000
set_option maxRecDepth 100000
theorem rk_ii {k l : IntKind} {a b c d : Int} (h : a = b) (g : c = d) : Ending.returned (.tuple #[.int k a, .int l c]) = .returned (.tuple #[.int k b, .int l d]) := by rw [h, g]
def rkV (r who : Int) : Int := if isOf r who then 8 * r + who else 0
def rkE (r who : Int) : Int := if isOf r who then 0 else 1
theorem rkV_yes2 (r who : Int) (h : isOf r who) : r * 8 + who = rkV r who := by rw [rkV, if_pos h, Int.mul_comm]
theorem rkE_yes (r who : Int) (h : isOf r who) : 0 = rkE r who := by rw [rkE, if_pos h]
theorem rkV_no (r who : Int) (h : ¬ isOf r who) : 0 = rkV r who := by rw [rkV, if_neg h]
theorem rkE_no (r who : Int) (h : ¬ isOf r who) : 1 = rkE r who := by rw [rkE, if_neg h]
theorem rkOf_any (r who : Int) (w : World) (h0 : 0 ≤ r) (h1 : r < 18446744073709551616) :
  Calls Tryz.prog 229 #[.int .u64 r, .int .i64 who] w fun e w' => e = .returned (.tuple #[.int .u64 (rkV r who), .int .i64 (rkE r who)]) ∧ w = w' := by
 by_cases a : 1 ≤ r
 all_goals by_cases b : r < 1152921504606846976
 all_goals by_cases c : 1 ≤ who
 all_goals by_cases d : who ≤ 5
 all_goals first | (exfalso; omega) | skip
 all_goals
  go_enter Tryz.func229, Tryz.ntmps229
  go_wp2
  go_ret2
  first
   | exact ⟨rk_ii (rkV_yes2 r who (by unfold isOf; omega)) (rkE_yes r who (by unfold isOf; omega)), rfl⟩
   | exact ⟨rk_ii (rkV_no r who (by unfold isOf; omega)) (rkE_no r who (by unfold isOf; omega)), rfl⟩
theorem rkIs_any (b : Int) (w : World) (h0 : 0 ≤ b) (h1 : b < 18446744073709551616) :
  Calls Tryz.prog 136 #[.int .u64 b] w fun e w' => e = .returned (.bool (isBal b)) ∧ w = w' := by
 by_cases a : isOf (b / 8) (b % 8)
 all_goals
  go_enter Tryz.func136, Tryz.ntmps136
  go_wp2_with (go_at_call 229; refine (rkOf_any _ _ _ (by omega) (by omega)).mono ?_; rintro e w' ⟨rfl, rfl⟩)
  go_ret
  first
   | exact ⟨ret_bool (by rw [rkE, if_pos a, isBal, decide_eq_true a]; rfl), rfl⟩
   | exact ⟨ret_bool (by rw [rkE, if_neg a, isBal, decide_eq_false a]; rfl), rfl⟩
theorem rkCmd_any (k c e n : Int) (he : 0 ≤ e) (w : World) :
  Calls Tryz.prog 137 #[.agg #[.int .i64 k, .int .i64 c, .int .u64 e, .int .i64 n]] w fun r w' => r = .returned (.int .i64 (cmdE k c e n)) ∧ Below w.heap.size w w' := by
 obtain ⟨W0, hW0⟩ : ∃ W0, W0 = w.alloc (.cells #[.int .i64 k, .int .i64 c, .int .u64 e, .int .i64 n] 30) := ⟨_, rfl⟩
 have hb0 : Below w.heap.size w W0 := by rw [hW0]; exact (Below.refl _ _).alloc (Nat.le_refl _) _
 have hbk : Blk W0 w.heap.size 30 #[.int .i64 k, .int .i64 c, .int .u64 e, .int .i64 n] := by rw [hW0]; exact Blk.new _ _ _
 have x0 : W0.cell? ⟨w.heap.size, 0, none⟩ = some (.int .i64 k) := hbk.cell 0
 have x1 : W0.cell? ⟨w.heap.size, 1, none⟩ = some (.int .i64 c) := hbk.cell 1
 have x2 : W0.cell? ⟨w.heap.size, 2, none⟩ = some (.int .u64 e) := hbk.cell 2
 have x3 : W0.cell? ⟨w.heap.size, 3, none⟩ = some (.int .i64 n) := hbk.cell 3
 have hl := hbk.lt
 have hz : ∀ w : World, (Instr.build 30 #[]).run Tryz.prog w = .ok (.agg #[.int .i64 0, .int .i64 0, .int .u64 0, .int .i64 0]) w := fun w => by kernel_rfl
 have HB := Lib.hid hb0
 have HW := Lib.hid hW0
 clear hb0 hW0 hbk
 by_cases a0 : k < 0
 ·have HV : Hid (cmdE k c e n = 1) := Lib.hid (by unfold cmdE; rw [if_pos (by omega)])
  exact rp30
 by_cases a1 : 5 ≤ k
 ·have g : 4 < k := by omega
  have HV : Hid (cmdE k c e n = 1) := Lib.hid (by unfold cmdE; rw [if_pos (by omega)])
  clear a1
  exact rp30
 have g : ¬ 4 < k := by omega
 have HA1 := Lib.hid a1
 clear a1
 by_cases a2 : k = 0
 ·rw [a2] at x0
  have HA2 := Lib.hid a2
  clear a2
  by_cases b0 : c = 0
  rotate_left
  ·have e1 : (c == 0) = false := by simpa using b0
   have e2 : (c != 0) = true := by simpa using b0
   have HV : Hid (cmdE k c e n = 4) := Lib.hid (by unfold cmdE; rw [if_neg (by have := HA2.out; omega), if_pos HA2.out, if_neg (by omega)])
   clear b0
   exact rp30
  rw [b0] at x1
  have HC0 := Lib.hid b0
  clear b0
  by_cases b1 : e = 0
  rotate_left
  ·have e1 : (e == 0) = false := by simpa using b1
   have e2 : (e != 0) = true := by simpa using b1
   have HV : Hid (cmdE k c e n = 4) := Lib.hid (by unfold cmdE; rw [if_neg (by have := HA2.out; omega), if_pos HA2.out, if_neg (by omega)])
   clear b1
   exact rp30
  rw [b1] at x2
  have HC1 := Lib.hid b1
  clear b1
  by_cases b2 : n = 0
  rotate_left
  ·have e1 : (n == 0) = false := by simpa using b2
   have e2 : (n != 0) = true := by simpa using b2
   have HV : Hid (cmdE k c e n = 4) := Lib.hid (by unfold cmdE; rw [if_neg (by have := HA2.out; omega), if_pos HA2.out, if_neg (by omega)])
   clear b2
   exact rp30
  rw [b2] at x3
  have HC2 := Lib.hid b2
  clear b2
  have HV : Hid (cmdE k c e n = 0) := Lib.hid (by unfold cmdE; rw [if_neg (by have := HA2.out; omega), if_pos HA2.out, if_pos ⟨HC0.out, HC1.out, HC2.out⟩])
  exact rp30
 have e0 : (k == 0) = false := by simpa using a2
 have e0n : (k != 0) = true := by simpa using a2
 have HA2 := Lib.hid a2
 clear a2
 by_cases d0 : c < 0
 ·exact rp89
 by_cases d1 : 4 ≤ c
 ·have g1 : 3 < c := by omega
  have HV : Hid (cmdE k c e n = 4) := Lib.hid (by unfold cmdE; rw [if_neg (by have := HA1.out; omega), if_neg (by have := HA2.out; omega), if_pos (by omega)])
  clear d1
  exact rp30
 have g1 : ¬ 3 < c := by omega
 have HD1 := Lib.hid d1
 clear d1
 by_cases d2 : e = 0
 ·rw [d2] at x2
  have HV : Hid (cmdE k c e n = 4) := Lib.hid (by unfold cmdE; rw [if_neg (by have := HA1.out; omega), if_neg (by have := HA2.out; omega), if_pos (by omega)])
  clear d2
  exact rp30
 have e5 : (e == 0) = false := by simpa using d2
 have HD2 : Hid (¬ e < 1) := Lib.hid (by omega)
 clear d2
 by_cases d3 : n < 1
 ·exact rp89
 by_cases d4 : 24 < n
 ·exact rp89
 have HV : Hid (cmdE k c e n = 0) := Lib.hid (by unfold cmdE; rw [if_neg (by have := HA1.out; omega), if_neg (by have := HA2.out; omega), if_neg (by have := HD1.out; have := HD2.out; omega)])
 exact rp30
attribute [local go_sem] Up.agg Up.cells
theorem refUpdate10_any (u : Up) (r : Bool) (w : World) (hw : u.wf) (hn : u.n ≤ 1000000) :
  Calls Tryz.prog 139 #[u.agg, .bool r] w fun e w' => e = .returned (.bool (upOkB u r)) ∧ Below w.heap.size w w' := by
 have HB : Hid (Below w.heap.size w (w.alloc (.cells u.cells 145))) := Lib.hid ((Below.refl _ _).alloc (Nat.le_refl _) _)
 have hs := hw.seq
 have hm := hw.num
 have hv := hw.ver
 clear hw
 by_cases h1 : u.cl < 1
 ·have d1 : decide (u.cl < 1) = true := decide_eq_true h1
  exact rp66
 have d1 : decide (u.cl < 1) = false := decide_eq_false h1
 by_cases h2 : 6 < u.cl
 ·have d2 : decide (6 < u.cl) = true := decide_eq_true h2
  exact rp66
 have d2 : decide (6 < u.cl) = false := decide_eq_false h2
 by_cases h3 : u.num = 0
 ·have d3 : (u.num == 0) = true := by simp [h3]
  have HX : Hid (false = upOkB u r) := Lib.hid (upOk_no (fun h => by unfold upOkP at h; omega))
  clear h3
  (go_enter Tryz.func139, Tryz.ntmps139; go_wp2_with (fail); go_ret; exact ⟨ret_bool HX.out, HB.out⟩)
 have d3 : (u.num == 0) = false := by simp [h3]
 by_cases h4 : 2048 < u.n
 ·have d4 : decide (2048 < u.n) = true := decide_eq_true h4
  exact rp66
 have d4 : decide (2048 < u.n) = false := decide_eq_false h4
 have key : (u.kd = 2 ∧ u.ver = 0) ∨ (u.kd = 2 ∧ u.ver ≠ 0) ∨ u.kd = 3 ∨ (u.kd ≠ 2 ∧ u.kd ≠ 3) := by omega
 rcases key with ⟨h5, h6⟩ | ⟨h5, h6⟩ | h5 | ⟨h5, h6⟩
 ·have d5 : (u.kd != 2) = false := by simp [h5]
  have d6 : (u.kd == 2) = true := by simp [h5]
  have d7 : decide (0 < u.ver) = false := decide_eq_false (by omega)
  by_cases h7 : u.seq = 0
  ·have d8 : (u.seq == 0) = true := by simp [h7]
   have d9 : decide (0 < u.seq) = false := decide_eq_false (by omega)
   cases r
   ·have HX : Hid (false = upOkB u false) := Lib.hid (upOk_no (fun h => by unfold upOkP at h; have := h.1.1 h7; cases this))
    exact rp69
   ·have HX : Hid (true = upOkB u true) := Lib.hid (upOk_yes ⟨⟨fun _ => rfl, fun _ => h7⟩, by omega, by omega, by omega, by omega, by omega⟩)
    exact rp69
  ·have d8 : (u.seq == 0) = false := by simp [h7]
   have d9 : decide (0 < u.seq) = true := decide_eq_true (by omega)
   cases r
   ·have HX : Hid (true = upOkB u false) := Lib.hid (upOk_yes ⟨⟨fun e => absurd e h7, fun e => by cases e⟩, by omega, by omega, by omega, by omega, by omega⟩)
    exact rp69
   ·have HX : Hid (false = upOkB u true) := Lib.hid (upOk_no (fun h => by unfold upOkP at h; exact h7 (h.1.2 rfl)))
    exact rp69
 ·have d5 : (u.kd != 2) = false := by simp [h5]
  have d6 : (u.kd == 2) = true := by simp [h5]
  have d7 : decide (0 < u.ver) = true := decide_eq_true (by omega)
  have HX : Hid (false = upOkB u r) := Lib.hid (upOk_no (fun h => by unfold upOkP at h; omega))
  clear h3 h5 h6
  (go_enter Tryz.func139, Tryz.ntmps139; go_wp2_with (fail); go_ret; exact ⟨ret_bool HX.out, HB.out⟩)
 ·have d5 : (u.kd != 2) = true := by simp [h5]
  have d5' : (u.kd != 3) = false := by simp [h5]
  have d6 : (u.kd == 2) = false := by simp [h5]
  by_cases h7 : u.seq = 0
  ·have d8 : (u.seq == 0) = true := by simp [h7]
   have d9 : decide (0 < u.seq) = false := decide_eq_false (by omega)
   cases r
   ·have HX : Hid (false = upOkB u false) := Lib.hid (upOk_no (fun h => by unfold upOkP at h; have := h.1.1 h7; cases this))
    exact rp70
   ·have HX : Hid (true = upOkB u true) := Lib.hid (upOk_yes ⟨⟨fun _ => rfl, fun _ => h7⟩, by omega, by omega, by omega, by omega, by omega⟩)
    exact rp70
  ·have d8 : (u.seq == 0) = false := by simp [h7]
   have d9 : decide (0 < u.seq) = true := decide_eq_true (by omega)
   cases r
   ·have HX : Hid (true = upOkB u false) := Lib.hid (upOk_yes ⟨⟨fun e => absurd e h7, fun e => by cases e⟩, by omega, by omega, by omega, by omega, by omega⟩)
    exact rp70
   ·have HX : Hid (false = upOkB u true) := Lib.hid (upOk_no (fun h => by unfold upOkP at h; exact h7 (h.1.2 rfl)))
    exact rp70
 ·have d5 : (u.kd != 2) = true := by simp [h5]
  have d5' : (u.kd != 3) = true := by simp [h6]
  have HX : Hid (false = upOkB u r) := Lib.hid (upOk_no (fun h => by unfold upOkP at h; omega))
  clear h3 h5 h6
  (go_enter Tryz.func139, Tryz.ntmps139; go_wp2_with (fail); go_ret; exact ⟨ret_bool HX.out, HB.out⟩)
end Go.Proofs.YtmpedblelnpjdaaGreatDoor

end
section
/- The document's 'fine': what is demanded of each part of a letter. -/
namespace Go.Proofs.YtmpedblelnpjdaaGreatDoor
open Go.RowKit
set_option linter.unusedSimpArgs false
set_option linter.unusedVariables false
set_option maxHeartbeats 8000000
set_option maxRecDepth 100000
theorem rfine_s (x : LV) (w : World) : Calls Tryz.prog 62 #[.agg x.l.cells, .int .u8 115] w fun e w' => e = .returned (.bool true) ∧ Below w.heap.size w w' := by
 exact rp31
theorem rfine_d (x : LV) (w : World) : Calls Tryz.prog 62 #[.agg x.l.cells, .int .u8 100] w fun e w' => e = .returned (.bool true) ∧ Below w.heap.size w w' := by
 exact rp31
theorem rfine_n (x : LV) (w : World) : Calls Tryz.prog 62 #[.agg x.l.cells, .int .u8 110] w fun e w' => e = .returned (.bool true) ∧ Below w.heap.size w w' := by
 exact rp31
theorem rfine_k (x : LV) (w : World) : Calls Tryz.prog 62 #[.agg x.l.cells, .int .u8 107] w fun e w' => e = .returned (.bool true) ∧ Below w.heap.size w w' := by
 exact rp31
theorem rfine_v (x : LV) (w : World) : Calls Tryz.prog 62 #[.agg x.l.cells, .int .u8 118] w fun e w' => e = .returned (.bool true) ∧ Below w.heap.size w w' := by
 exact rp31
theorem rfine_c (x : LV) (w : World) : Calls Tryz.prog 62 #[.agg x.l.cells, .int .u8 99] w fun e w' => e = .returned (.bool (decide (0 ≤ x.l.ch ∧ x.l.ch < 4))) ∧ Below w.heap.size w w' := by
 obtain ⟨W0, hW0, hb0, hbk⟩ := box_all x w; have hl := hbk.lt; have HB := Lib.hid hb0; have HW := Lib.hid hW0; have BK := Lib.hid hbk; clear hb0 hW0 hbk
 have x0 := (BK.out.cell 3).trans (show _ = some (.int .i64 x.l.ch) from rfl)
 by_cases a0 : 0 ≤ x.l.ch
 rotate_left
 ·have d0 : decide (0 ≤ x.l.ch) = false := decide_eq_false a0
  go_enter Tryz.func62, Tryz.ntmps62
  exact rp28
 have d0 : decide (0 ≤ x.l.ch) = true := decide_eq_true a0
 by_cases a1 : x.l.ch < 4
 ·have d1 : decide (x.l.ch < 4) = true := decide_eq_true a1
  go_enter Tryz.func62, Tryz.ntmps62
  exact rp14
 ·have d1 : decide (x.l.ch < 4) = false := decide_eq_false a1
  go_enter Tryz.func62, Tryz.ntmps62
  exact rp14
theorem rfine_l (x : LV) (w : World) : Calls Tryz.prog 62 #[.agg x.l.cells, .int .u8 108] w fun e w' => e = .returned (.bool (decide (0 ≤ x.l.sl ∧ x.l.sl ≤ 512))) ∧ Below w.heap.size w w' := by
 obtain ⟨W0, hW0, hb0, hbk⟩ := box_all x w; have hl := hbk.lt; have HB := Lib.hid hb0; have HW := Lib.hid hW0; have BK := Lib.hid hbk; clear hb0 hW0 hbk
 have x0 := (BK.out.cell 10).trans (show _ = some (.int .i64 x.l.sl) from rfl)
 by_cases a0 : 0 ≤ x.l.sl
 rotate_left
 ·have d0 : decide (0 ≤ x.l.sl) = false := decide_eq_false a0
  go_enter Tryz.func62, Tryz.ntmps62
  exact rp28
 have d0 : decide (0 ≤ x.l.sl) = true := decide_eq_true a0
 by_cases a1 : x.l.sl ≤ 512
 ·have d1 : decide (x.l.sl ≤ 512) = true := decide_eq_true a1
  go_enter Tryz.func62, Tryz.ntmps62
  exact rp14
 ·have d1 : decide (x.l.sl ≤ 512) = false := decide_eq_false a1
  go_enter Tryz.func62, Tryz.ntmps62
  exact rp14
theorem rfine_o (x : LV) (w : World) : Calls Tryz.prog 62 #[.agg x.l.cells, .int .u8 111] w fun e w' => e = .returned (.bool (decide (0 ≤ x.l.cd ∧ x.l.cd ≤ 255))) ∧ Below w.heap.size w w' := by
 obtain ⟨W0, hW0, hb0, hbk⟩ := box_all x w; have hl := hbk.lt; have HB := Lib.hid hb0; have HW := Lib.hid hW0; have BK := Lib.hid hbk; clear hb0 hW0 hbk
 have x0 := (BK.out.cell 12).trans (show _ = some (.int .i64 x.l.cd) from rfl)
 by_cases a0 : 0 ≤ x.l.cd
 rotate_left
 ·have d0 : decide (0 ≤ x.l.cd) = false := decide_eq_false a0
  go_enter Tryz.func62, Tryz.ntmps62
  exact rp28
 have d0 : decide (0 ≤ x.l.cd) = true := decide_eq_true a0
 by_cases a1 : x.l.cd ≤ 255
 ·have d1 : decide (x.l.cd ≤ 255) = true := decide_eq_true a1
  go_enter Tryz.func62, Tryz.ntmps62
  exact rp14
 ·have d1 : decide (x.l.cd ≤ 255) = false := decide_eq_false a1
  go_enter Tryz.func62, Tryz.ntmps62
  exact rp14
theorem rfine_e (x : LV) (hw : 0 ≤ x.l.ep) (w : World) : Calls Tryz.prog 62 #[.agg x.l.cells, .int .u8 101] w fun e w' => e = .returned (.bool (decide (1 ≤ x.l.ep))) ∧ Below w.heap.size w w' := by
 obtain ⟨W0, hW0, hb0, hbk⟩ := box_all x w; have hl := hbk.lt; have HB := Lib.hid hb0; have HW := Lib.hid hW0; have BK := Lib.hid hbk; clear hb0 hW0 hbk
 have x0 := (BK.out.cell 4).trans (show _ = some (.int .u64 x.l.ep) from rfl)
 have hd : decide (1 ≤ x.l.ep) = decide (0 < x.l.ep) := by congr 1
 rw [hd]
 clear hd
 exact rp57
theorem rfine_b (x : LV) (hw : 0 ≤ x.l.bl ∧ x.l.bl < 18446744073709551616) (w : World) : Calls Tryz.prog 62 #[.agg x.l.cells, .int .u8 98] w fun e w' => e = .returned (.bool (isBal x.l.bl)) ∧ Below w.heap.size w w' := by
 obtain ⟨W0, hW0, hb0, hbk⟩ := box_all x w; have hl := hbk.lt; have HB := Lib.hid hb0; have HW := Lib.hid hW0; have BK := Lib.hid hbk; clear hb0 hW0 hbk
 have x0 := (BK.out.cell 5).trans (show _ = some (.int .u64 x.l.bl) from rfl)
 have C := Lib.hid (rkIs_any x.l.bl W0 hw.1 hw.2)
 generalize isBal x.l.bl = b at *
 go_enter Tryz.func62, Tryz.ntmps62
 exact rp76
theorem rfine_m (x : LV) (hw : 0 ≤ x.l.qe) (w : World) : Calls Tryz.prog 62 #[.agg x.l.cells, .int .u8 109] w fun e w' => e = .returned (.bool (decide (cmdE x.l.qk x.l.qc x.l.qe x.l.qn = 0))) ∧ Below w.heap.size w w' := by
 obtain ⟨W0, hW0, hb0, hbk⟩ := box_all x w; have hl := hbk.lt; have HB := Lib.hid hb0; have HW := Lib.hid hW0; have BK := Lib.hid hbk; clear hb0 hW0 hbk
 have x0 := (BK.out.cell 13).trans (show _ = some (.int .i64 x.l.qk) from rfl)
 have x1 := (BK.out.cell 14).trans (show _ = some (.int .i64 x.l.qc) from rfl)
 have x2 := (BK.out.cell 15).trans (show _ = some (.int .u64 x.l.qe) from rfl)
 have x3 := (BK.out.cell 16).trans (show _ = some (.int .i64 x.l.qn) from rfl)
 have C := Lib.hid (rkCmd_any x.l.qk x.l.qc x.l.qe x.l.qn hw W0)
 generalize cmdE x.l.qk x.l.qc x.l.qe x.l.qn = er at *
 go_enter Tryz.func62, Tryz.ntmps62
 exact rp48
theorem rfine_f (x : LV) (B : Nat) (w : World) (h : LIn w B x) (hB : B ≤ w.heap.size) (hn : x.near) : Calls Tryz.prog 62 #[.agg x.l.cells, .int .u8 102] w fun e w' => e = .returned (.bool x.conf.right) ∧ Below w.heap.size w w' := by
 obtain ⟨W0, hW0, hb0, hbk⟩ := box_all x w; have hl := hbk.lt; have HB := Lib.hid hb0; have HW := Lib.hid hW0; have BK := Lib.hid hbk; clear hb0 hW0 hbk
 have x0 := (BK.out.cell 17).trans (show _ = some (.int .i64 x.l.fc) from rfl)
 have x1 := (BK.out.cell 18).trans (show _ = some (.int .u64 x.l.fe) from rfl)
 have x2 := (BK.out.cell 19).trans (show _ = some (.slice x.l.fA x.l.fn x.l.fp) from rfl)
 have x3 := (BK.out.cell 20).trans (show _ = some (.bool x.l.ff) from rfl)
 have x4 := (BK.out.cell 21).trans (show _ = some (.int .i64 x.l.fj) from rfl)
 have C0 := refRight_any x.conf B W0 (h.conf.below (HB.out.mono hB)) (Nat.le_trans hB HB.out.size)
 have ef : ((x.l.fe.toNat : Nat) : Int) = x.l.fe := Int.toNat_of_nonneg h.wf.fe.1
 unfold Cf.agg at C0
 simp only [LV.conf] at C0
 rw [ef] at C0
 have C := Lib.hid C0
 have HR : Hid (x.conf.right = Cf.right ⟨x.l.fc, x.l.fe.toNat, x.l.fA, x.l.fn, x.l.fp, x.l.ff, x.l.fj, x.ns⟩) := Lib.hid rfl
 clear C0 ef h hn
 rw [HR.out]
 generalize Cf.right ⟨x.l.fc, x.l.fe.toNat, x.l.fA, x.l.fn, x.l.fp, x.l.ff, x.l.fj, x.ns⟩ = b at *
 go_enter Tryz.func62, Tryz.ntmps62
 exact rp88
theorem rfine_a (x : LV) (w : World) : Calls Tryz.prog 62 #[.agg x.l.cells, .int .u8 97] w fun e w' => e = .returned (.bool (decide ((x.l.dn : Int) ≤ if x.l.kd = 14 then 1024 else 2048))) ∧ Below w.heap.size w w' := by
 obtain ⟨W0, hW0, hb0, hbk⟩ := box_all x w; have hl := hbk.lt; have HB := Lib.hid hb0; have HW := Lib.hid hW0; have BK := Lib.hid hbk; clear hb0 hW0 hbk
 have x0 := (BK.out.cell 0).trans (show _ = some (.int .i64 x.l.kd) from rfl)
 have x24 := (BK.out.cell 24).trans (show _ = some (.slice x.l.dA x.l.dn x.l.dp) from rfl)
 by_cases hk : x.l.kd = 14
 ·rw [if_pos hk]
  have hd : (x.l.kd == 14) = true := by simp [hk]
  clear hk
  exact rp57
 ·rw [if_neg hk]
  have hd : (x.l.kd == 14) = false := by simp [hk]
  clear hk
  exact rp57
end Go.Proofs.YtmpedblelnpjdaaGreatDoor

end
section
/- The document's 'fine' of updates. -/
namespace Go.Proofs.YtmpedblelnpjdaaGreatDoor
open Go.RowKit
set_option linter.unusedSimpArgs false
set_option linter.unusedVariables false
set_option maxHeartbeats 8000000
set_option maxRecDepth 100000
attribute [local go_sem] Up.agg Up.cells
theorem upsOk_all {l : List Up} {r : Bool} (h : ∀ (i : Nat) (u : Up), l[i]? = some u → upOkB u r = true) : upsOk l r = true := by
 unfold upsOk
 refine List.all_eq_true.2 (fun u hu => ?_)
 obtain ⟨i, hi⟩ := List.getElem?_of_mem hu
 exact h i u hi
theorem upsOk_not {l : List Up} {r : Bool} {i : Nat} {u : Up} (hu : l[i]? = some u) (h : upOkB u r = false) : upsOk l r = false := by
 unfold upsOk
 refine Bool.eq_false_iff.2 (fun e => ?_)
 have := List.all_eq_true.1 e u (List.mem_of_getElem? hu)
 rw [h] at this
 cases this
theorem rfine_u (x : LV) (B : Nat) (w : World) (h : LIn w B x) (hB : B ≤ w.heap.size) (hn : x.near) : Calls Tryz.prog 62 #[.agg x.l.cells, .int .u8 117] w fun e w' => e = .returned (.bool (updsB x.l.kd x.us)) ∧ Below w.heap.size w w' := by
 obtain ⟨W0, hW0, hb0, hbk⟩ := box_all x w; have hl := hbk.lt; have HB := Lib.hid hb0; have HW := Lib.hid hW0; have BK := Lib.hid hbk; clear hb0 hW0 hbk
 have HX := Lib.hid (h.up.below (HB.out.mono hB))
 have HN := Lib.hid hn
 have HLN : Hid (x.us.length = x.l.un) := Lib.hid h.up.len
 obtain ⟨rb, hrb⟩ : ∃ rb : Bool, rb = (x.l.kd == 17) := ⟨_, rfl⟩
 have q17 : (x.l.kd == 17) = rb := hrb.symm
 have HRB : Hid (decide (x.l.kd = 17) = rb) := Lib.hid (by rw [hrb]; by_cases e : x.l.kd = 17 <;> simp [e])
 have hB0 := Nat.le_trans hB HB.out.size
 clear h hn hrb
 go_enter Tryz.func62, Tryz.ntmps62
 go_upto_region 1 with (fail)
 have e0 := HW.out
 simp only [Lt.cells] at e0
 first | rw [← e0] | rw [← HW.out]
 clear e0
 go_wp2_with (fail)
 go_loopw [7] (fun iv wr => ∃ j : Nat, j ≤ x.l.un ∧ iv = .int .i64 j ∧ Hid (Below W0.heap.size W0 wr ∧ ∀ (i : Nat) (u : Up), i < j → x.us[i]? = some u → upOkB u rb = true)) (fun iv _ => x.l.un - (intOf iv).toNat)
 case atStart => exact ⟨0, Nat.zero_le _, rfl, Lib.hid ⟨Below.refl _ _, fun i u hi => absurd hi (Nat.not_lt_zero _)⟩⟩
 case round =>
  obtain ⟨j, hj, rfl, HE⟩ := hrel
  have hul : (x.l.un : Int) ≤ 1000000 := by have := HN.out.ul; omega
  have hbk2 := BK.out.below HE.out.1 hl
  have x0 : wr.cell? ⟨w.heap.size, 0, none⟩ = some (.int .i64 x.l.kd) := hbk2.cell 0
  have x23 : wr.cell? ⟨w.heap.size, 23, none⟩ = some (.slice x.l.uA x.l.un x.l.up) := hbk2.cell 23
  have lw := hbk2.lt
  have hsz := HE.out.1.size
  have HBK2 := Lib.hid hbk2
  clear hbk2
  by_cases hlt : j < x.l.un
  ·have hltZ : (j : Int) < x.l.un := by omega
   obtain ⟨b, off, u, e1, hb, hu, hui, c0, c1, c2, c3, c4, c5, c6⟩ := (HX.out.below (HE.out.1.mono hB0)).at_ hlt
   have HU := Lib.hid hu
   have UP := Lib.hid (refUpdate10_any u rb wr.drew hui.wf (HN.out.us u (List.mem_of_getElem? hu)))
   have hbn : b ≠ w.heap.size := by omega
   clear hu hui
   rw [e1] at x23
   obtain ⟨bo, hbo⟩ : ∃ bo, bo = upOkB u rb := ⟨_, rfl⟩
   rw [← hbo] at UP
   have HBO := Lib.hid hbo
   clear hbo
   go_upto_region 28 with (fail)
   refine wp_region_held_drew (S := fun wq => wq.cell? ⟨w.heap.size, 0, none⟩ = some (.int .i64 x.l.kd) ∧ wq.cell? ⟨w.heap.size, 23, none⟩ = some (.slice (some ⟨b, off, none⟩) x.l.un x.l.up) ∧ wq.cell? ⟨b, off + j * 7, none⟩ = some (.int .u64 u.seq) ∧ wq.cell? ⟨b, off + j * 7 + 1, none⟩ = some (.int .i64 u.cl) ∧ wq.cell? ⟨b, off + j * 7 + 2, none⟩ = some (.int .u64 u.num) ∧ wq.cell? ⟨b, off + j * 7 + 3, none⟩ = some (.int .i64 u.kd) ∧ wq.cell? ⟨b, off + j * 7 + 4, none⟩ = some (.int .u32 u.key) ∧ wq.cell? ⟨b, off + j * 7 + 5, none⟩ = some (.int .u64 u.ver) ∧ wq.cell? ⟨b, off + j * 7 + 6, none⟩ = some (.slice u.A u.n u.c)) (by kernel_rfl) ⟨x0, x23, c0, c1, c2, c3, c4, c5, c6⟩ (fun hHeld => ?_)
   refine tkT 0 rfl (v := ?_) ?_ ?_
   rotate_left 1
   ·(intro wq hSw; (try dsimp only at hSw); go_simp; (try with_reducible rfl))
   try simp only [Act.put, pS]
   refine tkT 1 rfl (v := ?_) ?_ ?_
   rotate_left 1
   ·(intro wq hSw; (try dsimp only at hSw); go_simp; (try with_reducible rfl))
   try simp only [Act.put, pS]
   refine tkT 2 rfl (v := ?_) ?_ ?_
   rotate_left 1
   ·(intro wq hSw; (try dsimp only at hSw); go_simp; (try with_reducible rfl))
   try simp only [Act.put, pS]
   refine tkT 3 rfl (v := ?_) ?_ ?_
   rotate_left 1
   ·(intro wq hSw; (try dsimp only at hSw); go_simp; (try with_reducible rfl))
   try simp only [Act.put, pS]
   refine tkT 4 rfl (v := ?_) ?_ ?_
   rotate_left 1
   ·(intro wq hSw; (try dsimp only at hSw); go_simp; (try with_reducible rfl))
   try simp only [Act.put, pS]
   refine tkT 5 rfl (v := ?_) ?_ ?_
   rotate_left 1
   ·(intro wq hSw; (try dsimp only at hSw); go_simp; (try with_reducible rfl))
   try simp only [Act.put, pS]
   refine tkT 6 rfl (v := ?_) ?_ ?_
   rotate_left 1
   ·(intro wq hSw; (try dsimp only at hSw); go_simp; (try with_reducible rfl))
   try simp only [Act.put, pS]
   refine tkT 7 rfl (v := ?_) ?_ ?_
   rotate_left 1
   ·(intro wq hSw; (try dsimp only at hSw); go_simp; (try with_reducible rfl))
   try simp only [Act.put, pS]
   refine wpAnyH_ready (rs := [8]) (by kernel_rfl) (by simp) ?_
   refine (AllReadyH.cons rfl (fun K hK => ?_) AllReadyH.nil)
   go_simp
   refine UP.out.mono ?_
   rintro e w8 ⟨rfl, h8⟩
   have hb8 : Below wr.heap.size wr w8 := (Below.refl _ _).drew.trans h8
   have bb : b < wr.heap.size := by omega
   have HS : w8.cell? ⟨w.heap.size, 0, none⟩ = some (.int .i64 x.l.kd) ∧ w8.cell? ⟨w.heap.size, 23, none⟩ = some (.slice (some ⟨b, off, none⟩) x.l.un x.l.up) ∧ w8.cell? ⟨b, off + j * 7, none⟩ = some (.int .u64 u.seq) ∧ w8.cell? ⟨b, off + j * 7 + 1, none⟩ = some (.int .i64 u.cl) ∧ w8.cell? ⟨b, off + j * 7 + 2, none⟩ = some (.int .u64 u.num) ∧ w8.cell? ⟨b, off + j * 7 + 3, none⟩ = some (.int .i64 u.kd) ∧ w8.cell? ⟨b, off + j * 7 + 4, none⟩ = some (.int .u32 u.key) ∧ w8.cell? ⟨b, off + j * 7 + 5, none⟩ = some (.int .u64 u.ver) ∧ w8.cell? ⟨b, off + j * 7 + 6, none⟩ = some (.slice u.A u.n u.c) :=
    ⟨(hb8.cell (p := ⟨w.heap.size, 0, none⟩) lw).trans x0, (hb8.cell (p := ⟨w.heap.size, 23, none⟩) lw).trans x23, (hb8.cell (p := ⟨b, off + j * 7, none⟩) bb).trans c0, (hb8.cell (p := ⟨b, off + j * 7 + 1, none⟩) bb).trans c1, (hb8.cell (p := ⟨b, off + j * 7 + 2, none⟩) bb).trans c2, (hb8.cell (p := ⟨b, off + j * 7 + 3, none⟩) bb).trans c3, (hb8.cell (p := ⟨b, off + j * 7 + 4, none⟩) bb).trans c4, (hb8.cell (p := ⟨b, off + j * 7 + 5, none⟩) bb).trans c5, (hb8.cell (p := ⟨b, off + j * 7 + 6, none⟩) bb).trans c6⟩
   have H8 := Lib.hid (HE.out.1.trans (hb8.mono hsz))
   clear h8 hb8
   refine hK.out _ _ ?_ (fun hHeld => ?_)
   ·first | exact HS | go_keep
   clear hK K
   try simp only [Act.put, pS]
   refine tkT 9 rfl (v := ?_) ?_ ?_
   rotate_left 1
   ·(intro wq hSw; (try dsimp only at hSw); go_simp; (try with_reducible rfl))
   try simp only [Act.put, pS]
   refine wpAnyH_done (by kernel_rfl) ?_ _
   skip
   clear HS hHeld x0 x23 c0 c1 c2 c3 c4 c5 c6 UP
   cases bo
   ·go_wp2_with (fail)
    go_ret
    refine ⟨ret_bool ?_, HB.out.trans (H8.out.mono HB.out.size)⟩
    unfold updsB
    rw [HRB.out, upsOk_not HU.out HBO.out.symm, Bool.and_false]
   ·go_wp2_with (fail)
    refine ⟨⟨j + 1, hlt, by simp, Lib.hid ⟨H8.out, fun i v hi hv => ?_⟩⟩, by simp [intOf]; omega⟩
    rcases Nat.lt_or_ge i j with hij | hij
    ·exact HE.out.2 i v hij hv
    ·obtain rfl : i = j := by omega
     have := HU.out
     rw [hv] at this
     injection this with this
     rw [this]
     exact HBO.out.symm
  ·obtain rfl : j = x.l.un := by omega
   have HALL : Hid (upsOk x.us rb = true) := Lib.hid (upsOk_all (fun i v hv => HE.out.2 i v (by have := (List.getElem?_eq_some_iff.1 hv).1; have := HLN.out; omega) hv))
   have h17 := HRB.out
   have q17n : (x.l.kd != 17) = !rb := by rw [← q17]; rfl
   have HAL := HALL
   clear HALL
   by_cases h4 : x.l.un ≤ 4
   ·have d4 : decide (x.l.un ≤ 4) = true := decide_eq_true h4
    cases rb
    ·have HFIN : Hid (updsB x.l.kd x.us = true) := Lib.hid (by
      unfold updsB
      rw [HRB.out, HAL.out, HLN.out]
      have : ¬ x.l.kd = 17 := of_decide_eq_false h17
      simp [this, h4])
     clear HAL h17
     go_wp2_with (fail)
     go_ret
     exact ⟨ret_bool HFIN.out.symm, HB.out.trans (HE.out.1.mono HB.out.size)⟩
    ·by_cases h1 : x.l.un = 1
     ·have d1 : ((x.l.un : Int) == 1) = true := by simp [h1]
      have HFIN : Hid (updsB x.l.kd x.us = true) := Lib.hid (by
       unfold updsB
       rw [HRB.out, HAL.out, HLN.out]
       simp [h1])
      clear HAL h17 h1
      go_wp2_with (fail)
      go_ret
      exact ⟨ret_bool HFIN.out.symm, HB.out.trans (HE.out.1.mono HB.out.size)⟩
     ·have d1 : ((x.l.un : Int) == 1) = false := by simp; omega
      have HFIN : Hid (updsB x.l.kd x.us = false) := Lib.hid (by
       unfold updsB
       rw [HRB.out, HAL.out, HLN.out]
       have : x.l.kd = 17 := of_decide_eq_true h17
       simp [this, h1])
      clear HAL h17 h1
      go_wp2_with (fail)
      go_ret
      exact ⟨ret_bool HFIN.out.symm, HB.out.trans (HE.out.1.mono HB.out.size)⟩
   ·have d4 : decide (x.l.un ≤ 4) = false := decide_eq_false h4
    have HFIN : Hid (updsB x.l.kd x.us = false) := Lib.hid (by
     unfold updsB
     rw [HLN.out]
     simp [h4])
    clear HAL h17
    go_wp2_with (fail)
    go_ret
    exact ⟨ret_bool HFIN.out.symm, HB.out.trans (HE.out.1.mono HB.out.size)⟩
end Go.Proofs.YtmpedblelnpjdaaGreatDoor

end
