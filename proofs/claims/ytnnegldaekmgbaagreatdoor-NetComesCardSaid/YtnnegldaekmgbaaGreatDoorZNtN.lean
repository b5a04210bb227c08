/- No net: what it tells. -/
import Derived.Test.YtnnegldaekmgbaaGreatDoorZNtP
namespace Go.Proofs.YtnnegldaekmgbaaGreatDoor
open Go.RowKit
set_option linter.unusedSimpArgs false
set_option linter.unusedVariables false
set_option maxHeartbeats 4000000
set_option maxRecDepth 100000

theorem nilBag_any (w : World) : Calls Tryz.prog 77 #[.pointer none] w fun e w' => e = .returned (.pointer none) ∧ w = w' := by
  go_enter Tryz.func77, Tryz.ntmps77
  go_wp2_with (fail)
  go_ret
  exact ⟨rfl, rfl⟩
theorem nilHas_any (i : Int) (w : World) : Calls Tryz.prog 137 #[.pointer none, .int .i64 i] w fun e w' => e = .returned (.bool false) ∧ w = w' := by
  go_enter Tryz.func137, Tryz.ntmps137
  go_wp2_with (fail)
  go_ret
  exact ⟨rfl, rfl⟩
theorem nilAt_any (i : Int) (w : World) : Calls Tryz.prog 79 #[.pointer none, .int .i64 i] w fun e w' => e = .returned (.tuple #[.slice none 0 0, .bool false]) ∧ w = w' := by
  have H := nilHas_any i
  go_enter Tryz.func79, Tryz.ntmps79
  go_wp2_with (first | (go_at_call 137; refine (H _).mono ?_; rintro e w' ⟨rfl, rfl⟩) | fail)
  go_ret2
  exact ⟨rfl, rfl⟩
theorem nilTake_any (i : Int) (w : World) : Calls Tryz.prog 82 #[.pointer none, .int .i64 i] w fun e w' => e = .returned (.tuple #[.slice none 0 0, .bool false]) ∧ w = w' := by
  have H := nilAt_any i
  go_enter Tryz.func82, Tryz.ntmps82
  go_wp2_with (first | (go_at_call 79; refine (H _).mono ?_; rintro e w' ⟨rfl, rfl⟩) | fail)
  go_ret2
  exact ⟨rfl, rfl⟩
theorem nilTwice_any (i : Int) (w : World) : Calls Tryz.prog 81 #[.pointer none, .int .i64 i] w fun e w' => e = .returned (.tuple #[.int .i64 0, .int .i64 2]) ∧ w = w' := by
  go_enter Tryz.func81, Tryz.ntmps81
  go_wp2_with (fail)
  go_ret2
  exact ⟨rfl, rfl⟩
theorem nilLen_any (w : World) : Calls Tryz.prog 78 #[.pointer none] w fun e w' => e = .returned (.int .i64 0) ∧ w = w' := by
  go_enter Tryz.func78, Tryz.ntmps78
  go_wp2_with (fail)
  go_ret
  exact ⟨rfl, rfl⟩
theorem nilLast_any (w : World) : Calls Tryz.prog 98 #[.pointer none] w fun e w' => e = .returned (.int .i64 0) ∧ w = w' := by
  go_enter Tryz.func98, Tryz.ntmps98
  go_wp2_with (fail)
  go_ret
  exact ⟨rfl, rfl⟩
theorem nilUpto_any (i : Int) (w : World) : Calls Tryz.prog 99 #[.pointer none, .int .i64 i] w fun e w' => e = .returned (.int .i64 0) ∧ Below w.heap.size w w' := by
  go_enter Tryz.func99, Tryz.ntmps99
  go_wp2_with (fail)
  go_ret
  exact ⟨rfl, by first | exact Below.refl _ _ | exact (Below.refl _ _).alloc (Nat.le_refl _) _⟩
theorem nnLen_any (w : World) : Calls Tryz.prog 34 #[.pointer none] w fun e w' => e = .returned (.int .i64 0) ∧ w = w' := by
  go_enter Tryz.func34, Tryz.ntmps34
  go_wp2_with (first | (go_at_call 77; refine (nilBag_any _).mono ?_; rintro e w' ⟨rfl, rfl⟩) | (go_at_call 78; refine (nilLen_any _).mono ?_; rintro e w' ⟨rfl, rfl⟩) | fail)
  go_ret
  exact ⟨rfl, rfl⟩
theorem nnLast_any (w : World) : Calls Tryz.prog 45 #[.pointer none] w fun e w' => e = .returned (.int .i64 0) ∧ w = w' := by
  go_enter Tryz.func45, Tryz.ntmps45
  go_wp2_with (first | (go_at_call 77; refine (nilBag_any _).mono ?_; rintro e w' ⟨rfl, rfl⟩) | (go_at_call 98; refine (nilLast_any _).mono ?_; rintro e w' ⟨rfl, rfl⟩) | fail)
  go_ret
  exact ⟨rfl, rfl⟩
theorem nnUpto_any (i : Int) (w : World) : Calls Tryz.prog 46 #[.pointer none, .int .i64 i] w fun e w' => e = .returned (.int .i64 0) ∧ Below w.heap.size w w' := by
  go_enter Tryz.func46, Tryz.ntmps46
  go_wp2_with (fail)
  refine (nilBag_any _).mono ?_
  rintro e w1 ⟨rfl, rfl⟩
  go_wp2_with (fail)
  refine (nilUpto_any i _).mono ?_
  rintro e w1 ⟨rfl, h⟩
  have H := Lib.hid h
  clear h
  go_wp2_with (fail)
  go_ret
  exact ⟨rfl, H.out⟩
theorem nnLose_any (i : Int) (w : World) : Calls Tryz.prog 37 #[.pointer none, .int .i64 i] w fun e w' => e = .returned (.bool false) ∧ w = w' := by
  go_enter Tryz.func37, Tryz.ntmps37
  go_wp2_with (first | (go_at_call 77; refine (nilBag_any _).mono ?_; rintro e w' ⟨rfl, rfl⟩) | (go_at_call 82; refine (nilTake_any _ _).mono ?_; rintro e w' ⟨rfl, rfl⟩) | fail)
  go_ret
  exact ⟨rfl, rfl⟩
theorem nnTwice_any (i : Int) (w : World) : Calls Tryz.prog 36 #[.pointer none, .int .i64 i] w fun e w' => e = .returned (.bool false) ∧ w = w' := by
  go_enter Tryz.func36, Tryz.ntmps36
  go_wp2_with (first | (go_at_call 77; refine (nilBag_any _).mono ?_; rintro e w' ⟨rfl, rfl⟩) | (go_at_call 81; refine (nilTwice_any _ _).mono ?_; rintro e w' ⟨rfl, rfl⟩) | fail)
  go_ret
  exact ⟨rfl, rfl⟩
theorem nnSend_any (A : Option Addr) (n c : Nat) (w : World) : Calls Tryz.prog 33 #[.pointer none, .slice A n c] w fun e w' => e = .returned (.int .i64 0) ∧ w = w' := by
  go_enter Tryz.func33, Tryz.ntmps33
  go_wp2_with (fail)
  go_ret
  exact ⟨rfl, rfl⟩
theorem nnKeep_any (fid : Nat) (w : World) : Calls Tryz.prog 48 #[.pointer none, .func (.func fid) #[] #[]] w fun e w' => e = .returned (.int .i64 0) ∧ Below w.heap.size w w' := by
  go_enter Tryz.func48, Tryz.ntmps48
  go_wp2_with (fail)
  go_ret
  exact ⟨rfl, by repeat (first | with_reducible exact Below.refl _ _ | with_reducible refine Below.alloc ?_ (by first | omega | (simp <;> omega)) _)⟩
theorem nnCounts_any (w : World) : Calls Tryz.prog 42 #[.pointer none] w fun e w' => e = .returned (.agg #[.int .i64 0, .int .i64 0, .int .i64 0, .int .i64 0]) ∧ Below w.heap.size w w' := by
  have hrb : Blk (w.alloc (.cells #[.int .i64 0, .int .i64 0, .int .i64 0, .int .i64 0] 93)) w.heap.size 93 #[.int .i64 0, .int .i64 0, .int .i64 0, .int .i64 0] := Blk.new _ _ _
  have hb : Below w.heap.size w (w.alloc (.cells #[.int .i64 0, .int .i64 0, .int .i64 0, .int .i64 0] 93)) := (Below.refl _ _).alloc (Nat.le_refl _) _
  go_enter Tryz.func42, Tryz.ntmps42
  go_wp2_with (fail)
  obtain ⟨k0, k1, k2, k3⟩ := cells4 hrb
  refine bodyPost_ret (v := .agg #[.int .i64 0, .int .i64 0, .int .i64 0, .int .i64 0]) (by simp [results, Tryz.results42, go_sem, k0, k1, k2, k3]) rfl ?_
  exact ⟨rfl, hb⟩
theorem nnCome_any (i : Int) (w : World) : Calls Tryz.prog 39 #[.pointer none, .int .i64 i] w fun e w' => e = .returned (.tuple #[Lt.zero.agg, .bool false]) ∧ Below w.heap.size w w' := by
  obtain ⟨W1, hW1⟩ : ∃ W1, W1 = w.alloc (.cells Lt.zero.cells 48) := ⟨_, rfl⟩
  have hb1 : Below w.heap.size w W1 := by rw [hW1]; exact (Below.refl _ _).alloc (Nat.le_refl _) _
  have hrb : Blk W1 w.heap.size 48 Lt.zero.cells := by rw [hW1]; exact Blk.new _ _ _
  have HB1 := Lib.hid hb1
  have HRB := Lib.hid hrb
  have HW1 := Lib.hid hW1
  clear hW1 hb1 hrb
  have hz := z_hdr
  go_enter Tryz.func39, Tryz.ntmps39
  go_upto_region 1 with (fail)
  have e0 := HW1.out
  simp only [Lt.cells, Lt.zero] at e0
  rw [← e0]
  clear e0
  go_wp2_with (fail)
  refine (nilBag_any _).mono ?_
  rintro e w1 ⟨rfl, rfl⟩
  go_wp2_with (fail)
  refine (nilTake_any i _).mono ?_
  rintro e w1 ⟨rfl, rfl⟩
  go_upto_region 3 with (fail)
  iterate 4 go_step
  refine wpList_store_row rfl 48 (.tmp 4) (.tmp 19) rfl w.heap.size Lt.zero.cells rfl rfl 48 Lt.zero.cells HRB.out ltInfo rfl (lt_all _) ?_
  go_wp2_with (fail)
  refine bodyPost_ret_by (v := .tuple #[.agg Lt.zero.cells, .bool false]) (results_cell_row_tmp Tryz.results39 _ _ w.heap.size 48 Lt.zero.cells (0, 0) _ _ rfl (setRow_heap _ _ _ _ _ _ HRB.out) rfl Tryz.underlying48 rfl ltInfo) rfl ?_
  exact ⟨rfl, HB1.out.trans (below_setRow (Below.refl w.heap.size W1) (Nat.le_refl _) Lt.zero.cells)⟩
theorem nnPeek_any (i : Int) (w : World) : Calls Tryz.prog 35 #[.pointer none, .int .i64 i] w fun e w' => e = .returned (.tuple #[Lt.zero.agg, .bool false]) ∧ Below w.heap.size w w' := by
  obtain ⟨W1, hW1⟩ : ∃ W1, W1 = w.alloc (.cells Lt.zero.cells 48) := ⟨_, rfl⟩
  have hb1 : Below w.heap.size w W1 := by rw [hW1]; exact (Below.refl _ _).alloc (Nat.le_refl _) _
  have hrb : Blk W1 w.heap.size 48 Lt.zero.cells := by rw [hW1]; exact Blk.new _ _ _
  have HB1 := Lib.hid hb1
  have HRB := Lib.hid hrb
  have HW1 := Lib.hid hW1
  clear hW1 hb1 hrb
  have hz := z_hdr
  go_enter Tryz.func35, Tryz.ntmps35
  go_upto_region 1 with (fail)
  have e0 := HW1.out
  simp only [Lt.cells, Lt.zero] at e0
  rw [← e0]
  clear e0
  go_wp2_with (fail)
  refine (nilBag_any _).mono ?_
  rintro e w1 ⟨rfl, rfl⟩
  go_wp2_with (fail)
  refine (nilAt_any i _).mono ?_
  rintro e w1 ⟨rfl, rfl⟩
  go_upto_region 3 with (fail)
  iterate 4 go_step
  refine wpList_store_row rfl 48 (.tmp 4) (.tmp 19) rfl w.heap.size Lt.zero.cells rfl rfl 48 Lt.zero.cells HRB.out ltInfo rfl (lt_all _) ?_
  go_wp2_with (fail)
  refine bodyPost_ret_by (v := .tuple #[.agg Lt.zero.cells, .bool false]) (results_cell_row_tmp Tryz.results35 _ _ w.heap.size 48 Lt.zero.cells (0, 0) _ _ rfl (setRow_heap _ _ _ _ _ _ HRB.out) rfl Tryz.underlying48 rfl ltInfo) rfl ?_
  exact ⟨rfl, HB1.out.trans (below_setRow (Below.refl w.heap.size W1) (Nat.le_refl _) Lt.zero.cells)⟩
theorem nnSpoil_any (i bit pat : Int) (w : World) : Calls Tryz.prog 38 #[.pointer none, .int .i64 i, .int .i64 bit, .int .u32 pat] w fun e w' => e = .returned (.bool false) ∧ Below w.heap.size w w' := by
  have PK := Lib.hid (nnPeek_any i w)
  go_enter Tryz.func38, Tryz.ntmps38
  go_wp2_with (fail)
  refine PK.out.mono ?_
  rintro e w1 ⟨rfl, hb⟩
  have HB := Lib.hid hb
  clear hb PK
  dsimp only
  rename_i hK9
  refine hK9 _ _ ?_
  clear hK9
  iterate 12 go_step
  refine wpList_store_fresh rfl 48 (.tmp 9) (.tmp 17) rfl Lt.zero.cells 48 Lt.zero.cells rfl rfl ltInfo rfl (lt_all _) ?_
  obtain ⟨W2, hW2⟩ : ∃ W2, W2 = w1.alloc (.cells Lt.zero.cells 48) := ⟨_, rfl⟩
  rw [← hW2]
  have hb2 : Below w1.heap.size w1 W2 := by rw [hW2]; exact (Below.refl _ _).alloc (Nat.le_refl _) _
  have HB2 := Lib.hid (HB.out.trans (hb2.mono HB.out.size))
  clear hW2 hb2 HB
  go_wp2_with (fail)
  go_ret
  exact ⟨rfl, HB2.out⟩
end Go.Proofs.YtnnegldaekmgbaaGreatDoor
