/- No caller: what it tells. -/
import Derived.Test.YtnnegldaekmgbaaGreatDoorCalA
namespace Go.Proofs.YtnnegldaekmgbaaGreatDoor
open Go.RowKit
set_option linter.unusedSimpArgs false
set_option linter.unusedVariables false
set_option maxHeartbeats 4000000
set_option maxRecDepth 100000

theorem ncBusy_any (w : World) : Calls Tryz.prog 13 #[.pointer none] w fun e w' => e = .returned (.bool false) ∧ w = w' := by
  go_enter Tryz.func13, Tryz.ntmps13
  go_wp2_with (fail)
  go_ret
  exact ⟨rfl, rfl⟩
theorem ncNum_any (w : World) : Calls Tryz.prog 14 #[.pointer none] w fun e w' => e = .returned (.int .u64 0) ∧ w = w' := by
  go_enter Tryz.func14, Tryz.ntmps14
  go_wp2_with (fail)
  go_ret
  exact ⟨rfl, rfl⟩
theorem ncAddress_any (w : World) : Calls Tryz.prog 26 #[.pointer none] w fun e w' => e = .returned (.int .i64 0) ∧ w = w' := by
  go_enter Tryz.func26, Tryz.ntmps26
  go_wp2_with (fail)
  go_ret
  exact ⟨rfl, rfl⟩
theorem ncAtlas_any (w : World) : Calls Tryz.prog 29 #[.pointer none] w fun e w' => e = .returned (.pointer none) ∧ w = w' := by
  go_enter Tryz.func29, Tryz.ntmps29
  go_wp2_with (fail)
  go_ret
  exact ⟨rfl, rfl⟩
theorem ncTick_any (w : World) : Calls Tryz.prog 17 #[.pointer none] w fun e w' => e = .returned (.slice none 0 0) ∧ Below w.heap.size w w' := by
  go_enter Tryz.func17, Tryz.ntmps17
  go_wp2_with (fail)
  go_ret
  exact ⟨rfl, by first | exact Below.refl _ _ | exact (Below.refl _ _).alloc (Nat.le_refl _) _⟩
theorem ncReply_any (w : World) : Calls Tryz.prog 16 #[.pointer none] w fun e w' => e = .returned (.tuple #[.agg #[.int .i64 0, .int .u64 0, .slice none 0 0], .bool false]) ∧ Below w.heap.size w w' := by
  go_enter Tryz.func16, Tryz.ntmps16
  go_wp2_with (fail)
  obtain ⟨k0, k1, k2⟩ := cells3 (Blk.new w 51 #[.int .i64 0, .int .u64 0, .slice none 0 0])
  refine bodyPost_ret (v := .tuple #[.agg #[.int .i64 0, .int .u64 0, .slice none 0 0], .bool false]) (by simp [results, Tryz.results16, go_sem, k0, k1, k2]) rfl ?_
  exact ⟨rfl, (Below.refl _ _).alloc (Nat.le_refl _) _⟩
theorem ncLast_any (w : World) : Calls Tryz.prog 28 #[.pointer none] w fun e w' => e = .returned (.tuple #[.int .u64 0, .agg #[.int .i64 0, .int .u64 0, .slice none 0 0]]) ∧ Below w.heap.size w w' := by
  go_enter Tryz.func28, Tryz.ntmps28
  go_wp2_with (fail)
  obtain ⟨k0, k1, k2⟩ := cells3 (Blk.new w 51 #[.int .i64 0, .int .u64 0, .slice none 0 0])
  refine bodyPost_ret (v := .tuple #[.int .u64 0, .agg #[.int .i64 0, .int .u64 0, .slice none 0 0]]) (by simp [results, Tryz.results28, go_sem, k0, k1, k2]) rfl ?_
  exact ⟨rfl, (Below.refl _ _).alloc (Nat.le_refl _) _⟩
theorem zop_cells (w : World) : (w.alloc (.cells #[.int .i64 0, .int .u32 0, .int .u64 0, .slice none 0 0, .int .i64 0] 26)).cell? ⟨w.heap.size, 0, none⟩ = some (.int .i64 0) ∧ (w.alloc (.cells #[.int .i64 0, .int .u32 0, .int .u64 0, .slice none 0 0, .int .i64 0] 26)).cell? ⟨w.heap.size, 1, none⟩ = some (.int .u32 0) ∧ (w.alloc (.cells #[.int .i64 0, .int .u32 0, .int .u64 0, .slice none 0 0, .int .i64 0] 26)).cell? ⟨w.heap.size, 2, none⟩ = some (.int .u64 0) ∧ (w.alloc (.cells #[.int .i64 0, .int .u32 0, .int .u64 0, .slice none 0 0, .int .i64 0] 26)).cell? ⟨w.heap.size, 3, none⟩ = some (.slice none 0 0) ∧ (w.alloc (.cells #[.int .i64 0, .int .u32 0, .int .u64 0, .slice none 0 0, .int .i64 0] 26)).cell? ⟨w.heap.size, 4, none⟩ = some (.int .i64 0) :=
  let h := Blk.new w 26 #[.int .i64 0, .int .u32 0, .int .u64 0, .slice none 0 0, .int .i64 0]
  ⟨h.cell 0, h.cell 1, h.cell 2, h.cell 3, h.cell 4⟩
theorem ncOp_any (w : World) : Calls Tryz.prog 27 #[.pointer none] w fun e w' => e = .returned (.agg #[.int .i64 0, .int .u32 0, .int .u64 0, .slice none 0 0, .int .i64 0]) ∧ Below w.heap.size w w' := by
  go_enter Tryz.func27, Tryz.ntmps27
  go_wp2_with (fail)
  obtain ⟨k0, k1, k2, k3, k4⟩ := zop_cells w
  refine bodyPost_ret (v := .agg #[.int .i64 0, .int .u32 0, .int .u64 0, .slice none 0 0, .int .i64 0]) (by simp [results, Tryz.results27, go_sem, k0, k1, k2, k3, k4]) rfl ?_
  exact ⟨rfl, (Below.refl _ _).alloc (Nat.le_refl _) _⟩
theorem ncBegin_any (o : Opn) (w : World) : Calls Tryz.prog 12 #[.pointer none, o.agg] w fun e w' => e = .returned (.tuple #[.slice none 0 0, .int .i64 2]) ∧ Below w.heap.size w w' := by
  go_enter Tryz.func12, Tryz.ntmps12
  go_wp2_with (fail)
  go_ret2
  exact ⟨rfl, (Below.refl _ _).alloc (Nat.le_refl _) _⟩
theorem ncTake_any (x : LV) (w : World) : Calls Tryz.prog 15 #[.pointer none, x.l.agg] w fun e w' => e = .returned (.slice none 0 0) ∧ Below w.heap.size w w' := by
  go_enter Tryz.func15, Tryz.ntmps15
  obtain ⟨L, hL⟩ : ∃ L : Value, L = x.l.agg := ⟨_, rfl⟩
  rw [← hL]
  go_wp2_with (fail)
  go_quiet (fail)
  go_wp2_with (fail)
  go_ret
  exact ⟨rfl, below_drewN ((Below.refl _ _).alloc (Nat.le_refl _) _) _⟩
end Go.Proofs.YtnnegldaekmgbaaGreatDoor
