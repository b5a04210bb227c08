/- The document's 'fine': what is demanded of each part of a letter. -/
import Derived.Test.YtmpedblelnpjdaaGreatDoorZRckA
import Derived.Test.YtmpedblelnpjdaaGreatDoorZGN
namespace Go.Proofs.YtmpedblelnpjdaaGreatDoor
open Go.RowKit
set_option linter.unusedSimpArgs false
set_option linter.unusedVariables false
set_option maxHeartbeats 8000000
set_option maxRecDepth 100000

theorem rfine_s (x : LV) (w : World) : Calls Tryz.prog 62 #[.agg x.l.cells, .int .u8 115] w fun e w' => e = .returned (.bool true) ∧ Below w.heap.size w w' := by
  obtain ⟨W0, hW0, hb0, hbk⟩ := box_all x w; have hl := hbk.lt; have HB := Lib.hid hb0; have HW := Lib.hid hW0; have BK := Lib.hid hbk; clear hb0 hW0 hbk
  go_enter Tryz.func62, Tryz.ntmps62
  go_upto_region 1 with (fail)
  have e0 := HW.out
  simp only [Lt.cells] at e0
  first | rw [← e0] | rw [← HW.out]
  clear e0
  go_wp2_with (fail)
  go_ret
  exact ⟨rfl, HB.out⟩
theorem rfine_d (x : LV) (w : World) : Calls Tryz.prog 62 #[.agg x.l.cells, .int .u8 100] w fun e w' => e = .returned (.bool true) ∧ Below w.heap.size w w' := by
  obtain ⟨W0, hW0, hb0, hbk⟩ := box_all x w; have hl := hbk.lt; have HB := Lib.hid hb0; have HW := Lib.hid hW0; have BK := Lib.hid hbk; clear hb0 hW0 hbk
  go_enter Tryz.func62, Tryz.ntmps62
  go_upto_region 1 with (fail)
  have e0 := HW.out
  simp only [Lt.cells] at e0
  first | rw [← e0] | rw [← HW.out]
  clear e0
  go_wp2_with (fail)
  go_ret
  exact ⟨rfl, HB.out⟩
theorem rfine_n (x : LV) (w : World) : Calls Tryz.prog 62 #[.agg x.l.cells, .int .u8 110] w fun e w' => e = .returned (.bool true) ∧ Below w.heap.size w w' := by
  obtain ⟨W0, hW0, hb0, hbk⟩ := box_all x w; have hl := hbk.lt; have HB := Lib.hid hb0; have HW := Lib.hid hW0; have BK := Lib.hid hbk; clear hb0 hW0 hbk
  go_enter Tryz.func62, Tryz.ntmps62
  go_upto_region 1 with (fail)
  have e0 := HW.out
  simp only [Lt.cells] at e0
  first | rw [← e0] | rw [← HW.out]
  clear e0
  go_wp2_with (fail)
  go_ret
  exact ⟨rfl, HB.out⟩
theorem rfine_k (x : LV) (w : World) : Calls Tryz.prog 62 #[.agg x.l.cells, .int .u8 107] w fun e w' => e = .returned (.bool true) ∧ Below w.heap.size w w' := by
  obtain ⟨W0, hW0, hb0, hbk⟩ := box_all x w; have hl := hbk.lt; have HB := Lib.hid hb0; have HW := Lib.hid hW0; have BK := Lib.hid hbk; clear hb0 hW0 hbk
  go_enter Tryz.func62, Tryz.ntmps62
  go_upto_region 1 with (fail)
  have e0 := HW.out
  simp only [Lt.cells] at e0
  first | rw [← e0] | rw [← HW.out]
  clear e0
  go_wp2_with (fail)
  go_ret
  exact ⟨rfl, HB.out⟩
theorem rfine_v (x : LV) (w : World) : Calls Tryz.prog 62 #[.agg x.l.cells, .int .u8 118] w fun e w' => e = .returned (.bool true) ∧ Below w.heap.size w w' := by
  obtain ⟨W0, hW0, hb0, hbk⟩ := box_all x w; have hl := hbk.lt; have HB := Lib.hid hb0; have HW := Lib.hid hW0; have BK := Lib.hid hbk; clear hb0 hW0 hbk
  go_enter Tryz.func62, Tryz.ntmps62
  go_upto_region 1 with (fail)
  have e0 := HW.out
  simp only [Lt.cells] at e0
  first | rw [← e0] | rw [← HW.out]
  clear e0
  go_wp2_with (fail)
  go_ret
  exact ⟨rfl, HB.out⟩
theorem rfine_c (x : LV) (w : World) : Calls Tryz.prog 62 #[.agg x.l.cells, .int .u8 99] w fun e w' => e = .returned (.bool (decide (0 ≤ x.l.ch ∧ x.l.ch < 4))) ∧ Below w.heap.size w w' := by
  obtain ⟨W0, hW0, hb0, hbk⟩ := box_all x w; have hl := hbk.lt; have HB := Lib.hid hb0; have HW := Lib.hid hW0; have BK := Lib.hid hbk; clear hb0 hW0 hbk
  have x0 := (BK.out.cell 3).trans (show _ = some (.int .i64 x.l.ch) from rfl)
  by_cases a0 : 0 ≤ x.l.ch
  rotate_left
  · have d0 : decide (0 ≤ x.l.ch) = false := decide_eq_false a0
    go_enter Tryz.func62, Tryz.ntmps62
    go_upto_region 1 with (fail)
    have e0 := HW.out
    simp only [Lt.cells] at e0
    first | rw [← e0] | rw [← HW.out]
    clear e0
    go_wp2_with (fail)
    go_ret
    exact ⟨ret_bool (by first | (simp [a0]; done) | (simp [a0]; omega)), HB.out⟩
  have d0 : decide (0 ≤ x.l.ch) = true := decide_eq_true a0
  by_cases a1 : x.l.ch < 4
  · have d1 : decide (x.l.ch < 4) = true := decide_eq_true a1
    go_enter Tryz.func62, Tryz.ntmps62
    go_upto_region 1 with (fail)
    have e0 := HW.out
    simp only [Lt.cells] at e0
    first | rw [← e0] | rw [← HW.out]
    clear e0
    go_wp2_with (fail)
    go_ret
    exact ⟨ret_bool (by first | (simp [a0, a1]; done) | (simp [a0, a1]; omega)), HB.out⟩
  · have d1 : decide (x.l.ch < 4) = false := decide_eq_false a1
    go_enter Tryz.func62, Tryz.ntmps62
    go_upto_region 1 with (fail)
    have e0 := HW.out
    simp only [Lt.cells] at e0
    first | rw [← e0] | rw [← HW.out]
    clear e0
    go_wp2_with (fail)
    go_ret
    exact ⟨ret_bool (by first | (simp [a0, a1]; done) | (simp [a0, a1]; omega)), HB.out⟩
theorem rfine_l (x : LV) (w : World) : Calls Tryz.prog 62 #[.agg x.l.cells, .int .u8 108] w fun e w' => e = .returned (.bool (decide (0 ≤ x.l.sl ∧ x.l.sl ≤ 512))) ∧ Below w.heap.size w w' := by
  obtain ⟨W0, hW0, hb0, hbk⟩ := box_all x w; have hl := hbk.lt; have HB := Lib.hid hb0; have HW := Lib.hid hW0; have BK := Lib.hid hbk; clear hb0 hW0 hbk
  have x0 := (BK.out.cell 10).trans (show _ = some (.int .i64 x.l.sl) from rfl)
  by_cases a0 : 0 ≤ x.l.sl
  rotate_left
  · have d0 : decide (0 ≤ x.l.sl) = false := decide_eq_false a0
    go_enter Tryz.func62, Tryz.ntmps62
    go_upto_region 1 with (fail)
    have e0 := HW.out
    simp only [Lt.cells] at e0
    first | rw [← e0] | rw [← HW.out]
    clear e0
    go_wp2_with (fail)
    go_ret
    exact ⟨ret_bool (by first | (simp [a0]; done) | (simp [a0]; omega)), HB.out⟩
  have d0 : decide (0 ≤ x.l.sl) = true := decide_eq_true a0
  by_cases a1 : x.l.sl ≤ 512
  · have d1 : decide (x.l.sl ≤ 512) = true := decide_eq_true a1
    go_enter Tryz.func62, Tryz.ntmps62
    go_upto_region 1 with (fail)
    have e0 := HW.out
    simp only [Lt.cells] at e0
    first | rw [← e0] | rw [← HW.out]
    clear e0
    go_wp2_with (fail)
    go_ret
    exact ⟨ret_bool (by first | (simp [a0, a1]; done) | (simp [a0, a1]; omega)), HB.out⟩
  · have d1 : decide (x.l.sl ≤ 512) = false := decide_eq_false a1
    go_enter Tryz.func62, Tryz.ntmps62
    go_upto_region 1 with (fail)
    have e0 := HW.out
    simp only [Lt.cells] at e0
    first | rw [← e0] | rw [← HW.out]
    clear e0
    go_wp2_with (fail)
    go_ret
    exact ⟨ret_bool (by first | (simp [a0, a1]; done) | (simp [a0, a1]; omega)), HB.out⟩
theorem rfine_o (x : LV) (w : World) : Calls Tryz.prog 62 #[.agg x.l.cells, .int .u8 111] w fun e w' => e = .returned (.bool (decide (0 ≤ x.l.cd ∧ x.l.cd ≤ 255))) ∧ Below w.heap.size w w' := by
  obtain ⟨W0, hW0, hb0, hbk⟩ := box_all x w; have hl := hbk.lt; have HB := Lib.hid hb0; have HW := Lib.hid hW0; have BK := Lib.hid hbk; clear hb0 hW0 hbk
  have x0 := (BK.out.cell 12).trans (show _ = some (.int .i64 x.l.cd) from rfl)
  by_cases a0 : 0 ≤ x.l.cd
  rotate_left
  · have d0 : decide (0 ≤ x.l.cd) = false := decide_eq_false a0
    go_enter Tryz.func62, Tryz.ntmps62
    go_upto_region 1 with (fail)
    have e0 := HW.out
    simp only [Lt.cells] at e0
    first | rw [← e0] | rw [← HW.out]
    clear e0
    go_wp2_with (fail)
    go_ret
    exact ⟨ret_bool (by first | (simp [a0]; done) | (simp [a0]; omega)), HB.out⟩
  have d0 : decide (0 ≤ x.l.cd) = true := decide_eq_true a0
  by_cases a1 : x.l.cd ≤ 255
  · have d1 : decide (x.l.cd ≤ 255) = true := decide_eq_true a1
    go_enter Tryz.func62, Tryz.ntmps62
    go_upto_region 1 with (fail)
    have e0 := HW.out
    simp only [Lt.cells] at e0
    first | rw [← e0] | rw [← HW.out]
    clear e0
    go_wp2_with (fail)
    go_ret
    exact ⟨ret_bool (by first | (simp [a0, a1]; done) | (simp [a0, a1]; omega)), HB.out⟩
  · have d1 : decide (x.l.cd ≤ 255) = false := decide_eq_false a1
    go_enter Tryz.func62, Tryz.ntmps62
    go_upto_region 1 with (fail)
    have e0 := HW.out
    simp only [Lt.cells] at e0
    first | rw [← e0] | rw [← HW.out]
    clear e0
    go_wp2_with (fail)
    go_ret
    exact ⟨ret_bool (by first | (simp [a0, a1]; done) | (simp [a0, a1]; omega)), HB.out⟩
theorem rfine_e (x : LV) (hw : 0 ≤ x.l.ep) (w : World) : Calls Tryz.prog 62 #[.agg x.l.cells, .int .u8 101] w fun e w' => e = .returned (.bool (decide (1 ≤ x.l.ep))) ∧ Below w.heap.size w w' := by
  obtain ⟨W0, hW0, hb0, hbk⟩ := box_all x w; have hl := hbk.lt; have HB := Lib.hid hb0; have HW := Lib.hid hW0; have BK := Lib.hid hbk; clear hb0 hW0 hbk
  have x0 := (BK.out.cell 4).trans (show _ = some (.int .u64 x.l.ep) from rfl)
  have hd : decide (1 ≤ x.l.ep) = decide (0 < x.l.ep) := by congr 1
  rw [hd]
  clear hd
  go_enter Tryz.func62, Tryz.ntmps62
  go_upto_region 1 with (fail)
  have e0 := HW.out
  simp only [Lt.cells] at e0
  first | rw [← e0] | rw [← HW.out]
  clear e0
  go_wp2_with (fail)
  go_ret
  exact ⟨by first | rfl | simp, HB.out⟩
theorem rfine_b (x : LV) (hw : 0 ≤ x.l.bl ∧ x.l.bl < 18446744073709551616) (w : World) : Calls Tryz.prog 62 #[.agg x.l.cells, .int .u8 98] w fun e w' => e = .returned (.bool (isBal x.l.bl)) ∧ Below w.heap.size w w' := by
  obtain ⟨W0, hW0, hb0, hbk⟩ := box_all x w; have hl := hbk.lt; have HB := Lib.hid hb0; have HW := Lib.hid hW0; have BK := Lib.hid hbk; clear hb0 hW0 hbk
  have x0 := (BK.out.cell 5).trans (show _ = some (.int .u64 x.l.bl) from rfl)
  have C := Lib.hid (rkIs_any x.l.bl W0 hw.1 hw.2)
  generalize isBal x.l.bl = b at *
  go_enter Tryz.func62, Tryz.ntmps62
  go_upto_region 1 with (fail)
  have e0 := HW.out
  simp only [Lt.cells] at e0
  first | rw [← e0] | rw [← HW.out]
  clear e0
  go_wp2_with (fail)
  refine C.out.mono ?_
  rintro e w1 ⟨rfl, rfl⟩
  go_wp2_with (fail)
  go_ret
  exact ⟨rfl, HB.out⟩
theorem rfine_m (x : LV) (hw : 0 ≤ x.l.qe) (w : World) : Calls Tryz.prog 62 #[.agg x.l.cells, .int .u8 109] w fun e w' => e = .returned (.bool (decide (cmdE x.l.qk x.l.qc x.l.qe x.l.qn = 0))) ∧ Below w.heap.size w w' := by
  obtain ⟨W0, hW0, hb0, hbk⟩ := box_all x w; have hl := hbk.lt; have HB := Lib.hid hb0; have HW := Lib.hid hW0; have BK := Lib.hid hbk; clear hb0 hW0 hbk
  have x0 := (BK.out.cell 13).trans (show _ = some (.int .i64 x.l.qk) from rfl)
  have x1 := (BK.out.cell 14).trans (show _ = some (.int .i64 x.l.qc) from rfl)
  have x2 := (BK.out.cell 15).trans (show _ = some (.int .u64 x.l.qe) from rfl)
  have x3 := (BK.out.cell 16).trans (show _ = some (.int .i64 x.l.qn) from rfl)
  have C := Lib.hid (rkCmd_any x.l.qk x.l.qc x.l.qe x.l.qn hw W0)
  generalize cmdE x.l.qk x.l.qc x.l.qe x.l.qn = er at *
  go_enter Tryz.func62, Tryz.ntmps62
  go_upto_region 1 with (fail)
  have e0 := HW.out
  simp only [Lt.cells] at e0
  first | rw [← e0] | rw [← HW.out]
  clear e0
  go_wp2_with (fail)
  refine C.out.mono ?_
  rintro e w1 ⟨rfl, h⟩
  have H1 := Lib.hid (HB.out.trans (h.mono HB.out.size))
  clear h
  by_cases he : er = 0
  · have heb : (er == 0) = true := by simpa using he
    go_wp2_with (fail)
    go_ret
    exact ⟨ret_bool (by simp [he]), H1.out⟩
  · have heb : (er == 0) = false := by simpa using he
    go_wp2_with (fail)
    go_ret
    exact ⟨ret_bool (by simp [he]), H1.out⟩
theorem rfine_f (x : LV) (B : Nat) (w : World) (h : LIn w B x) (hB : B ≤ w.heap.size) (hn : x.near) : Calls Tryz.prog 62 #[.agg x.l.cells, .int .u8 102] w fun e w' => e = .returned (.bool x.conf.right) ∧ Below w.heap.size w w' := by
  obtain ⟨W0, hW0, hb0, hbk⟩ := box_all x w; have hl := hbk.lt; have HB := Lib.hid hb0; have HW := Lib.hid hW0; have BK := Lib.hid hbk; clear hb0 hW0 hbk
  have x0 := (BK.out.cell 17).trans (show _ = some (.int .i64 x.l.fc) from rfl)
  have x1 := (BK.out.cell 18).trans (show _ = some (.int .u64 x.l.fe) from rfl)
  have x2 := (BK.out.cell 19).trans (show _ = some (.slice x.l.fA x.l.fn x.l.fp) from rfl)
  have x3 := (BK.out.cell 20).trans (show _ = some (.bool x.l.ff) from rfl)
  have x4 := (BK.out.cell 21).trans (show _ = some (.int .i64 x.l.fj) from rfl)
  have C0 := refRight_any x.conf B W0 (h.conf.below (HB.out.mono hB)) (Nat.le_trans hB HB.out.size)
  have ef : ((x.l.fe.toNat : Nat) : Int) = x.l.fe := Int.toNat_of_nonneg h.wf.fe.1
  unfold Cf.agg at C0
  simp only [LV.conf] at C0
  rw [ef] at C0
  have C := Lib.hid C0
  have HR : Hid (x.conf.right = Cf.right ⟨x.l.fc, x.l.fe.toNat, x.l.fA, x.l.fn, x.l.fp, x.l.ff, x.l.fj, x.ns⟩) := Lib.hid rfl
  clear C0 ef h hn
  rw [HR.out]
  generalize Cf.right ⟨x.l.fc, x.l.fe.toNat, x.l.fA, x.l.fn, x.l.fp, x.l.ff, x.l.fj, x.ns⟩ = b at *
  go_enter Tryz.func62, Tryz.ntmps62
  go_upto_region 1 with (fail)
  have e0 := HW.out
  simp only [Lt.cells] at e0
  first | rw [← e0] | rw [← HW.out]
  clear e0
  go_wp2_with (fail)
  refine C.out.mono ?_
  rintro e w1 ⟨rfl, h⟩
  have H1 := Lib.hid (HB.out.trans (h.mono HB.out.size))
  clear h
  go_wp2_with (fail)
  go_ret
  exact ⟨rfl, H1.out⟩
theorem rfine_a (x : LV) (w : World) : Calls Tryz.prog 62 #[.agg x.l.cells, .int .u8 97] w fun e w' => e = .returned (.bool (decide ((x.l.dn : Int) ≤ if x.l.kd = 14 then 1024 else 2048))) ∧ Below w.heap.size w w' := by
  obtain ⟨W0, hW0, hb0, hbk⟩ := box_all x w; have hl := hbk.lt; have HB := Lib.hid hb0; have HW := Lib.hid hW0; have BK := Lib.hid hbk; clear hb0 hW0 hbk
  have x0 := (BK.out.cell 0).trans (show _ = some (.int .i64 x.l.kd) from rfl)
  have x24 := (BK.out.cell 24).trans (show _ = some (.slice x.l.dA x.l.dn x.l.dp) from rfl)
  by_cases hk : x.l.kd = 14
  · rw [if_pos hk]
    have hd : (x.l.kd == 14) = true := by simp [hk]
    clear hk
    go_enter Tryz.func62, Tryz.ntmps62
    go_upto_region 1 with (fail)
    have e0 := HW.out
    simp only [Lt.cells] at e0
    first | rw [← e0] | rw [← HW.out]
    clear e0
    go_wp2_with (fail)
    go_ret
    exact ⟨by first | rfl | simp, HB.out⟩
  · rw [if_neg hk]
    have hd : (x.l.kd == 14) = false := by simp [hk]
    clear hk
    go_enter Tryz.func62, Tryz.ntmps62
    go_upto_region 1 with (fail)
    have e0 := HW.out
    simp only [Lt.cells] at e0
    first | rw [← e0] | rw [← HW.out]
    clear e0
    go_wp2_with (fail)
    go_ret
    exact ⟨by first | rfl | simp, HB.out⟩
end Go.Proofs.YtmpedblelnpjdaaGreatDoor
