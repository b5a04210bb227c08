/- CallerNil: the law. -/
import Derived.Test.YtnnegldaekmgbaaGreatDoorCalV
import Derived.Test.YtnnegldaekmgbaaGreatDoorCalN
namespace Go.Proofs.YtnnegldaekmgbaaGreatDoor
open Go.RowKit
set_option linter.unusedSimpArgs false
set_option linter.unusedVariables false
set_option maxHeartbeats 8000000
set_option maxRecDepth 100000
attribute [local go_sem] Opn.agg Opn.cells


theorem callerNil_law (o : Opn) (x : LV) (w : World) (hK : KindsAt w) (ho : OpIn w w.heap.size o) (hx : LIn w w.heap.size x) : Calls Tryz.prog 5 #[o.agg, .agg x.l.cells] w fun e w' => e = .returned (.bool true) ∧ Below w.heap.size w w' := by
  obtain ⟨W1, hW1⟩ : ∃ W1, W1 = (w.alloc (.cells o.cells 26)).alloc (.cells x.l.cells 48) := ⟨_, rfl⟩
  have hb1 : Below w.heap.size w W1 := by rw [hW1]; exact ((Below.refl _ _).alloc (Nat.le_refl _) _).alloc (by simp) _
  have hB2 : Blk W1 w.heap.size 26 o.cells := by rw [hW1]; exact (Blk.new w _ _).alloc _
  have hB3 : Blk W1 (w.heap.size + 1) 48 x.l.cells := by
    rw [hW1]
    have := Blk.new (w.alloc (.cells o.cells 26)) 48 x.l.cells
    simpa using this
  have FR := Lib.hid (far14_any x w.heap.size W1 (hx.below hb1) hb1.size)
  have HK := Lib.hid hK
  have HB := Lib.hid hb1
  have H2 := Lib.hid hB2
  have H3 := Lib.hid hB3
  have HW1 := Lib.hid hW1
  have l2 := hB2.lt
  have l3 := hB3.lt
  obtain ⟨x0, x1, x2, x3, x4⟩ := op_cells hB2
  clear hW1 hb1 hB2 hB3 hK ho hx x0 x1 x2 x3 x4
  go_enter Tryz.func5, Tryz.ntmps5
  go_upto_region 1 with (fail)
  rw [show (w.alloc (.cells #[.int .i64 o.kd, .int .u32 o.key, .int .u64 o.ver, .slice o.A o.n o.c, .int .i64 o.pick] 26)).alloc (.cells x.l.cells 48) = W1 from HW1.out.symm]
  clear HW1
  iterate 1 go_step
  refine wpList_load_row rfl 48 (.tmp 3) rfl (w.heap.size + 1) rfl 48 x.l.cells (0, 0) _ H3.out Tryz.underlying48 rfl ltInfo ?_
  go_wp2_with (fail)
  refine FR.out.mono ?_
  rintro e w2 ⟨b, rfl, hnr, hb2⟩
  have H2' := Lib.hid (H2.out.below hb2 l2)
  have H3' := Lib.hid (H3.out.below hb2 l3)
  have HB' := Lib.hid (HB.out.trans (hb2.mono HB.out.size))
  clear hb2 FR H2 H3 HB hnr
  have x3 : w2.cell? ⟨w.heap.size, 3, none⟩ = some (.slice o.A o.n o.c) := (op_cells H2'.out).2.2.2.1
  have l2 := H2'.out.lt
  have l3 := H3'.out.lt
  cases b
  rotate_left
  · go_wp2_with (fail)
    refine (awake26_any _ (HK.out.below HB'.out)).mono ?_
    rintro e w3 ⟨rfl, hb3⟩
    have HB3 := Lib.hid (HB'.out.trans (hb3.mono HB'.out.size))
    clear hb3
    go_wp2_with (fail)
    go_ret
    exact ⟨rfl, HB3.out⟩
  by_cases h21 : 2100 < o.n
  · have hd : decide (2100 < o.n) = true := decide_eq_true h21
    go_wp2_with (fail)
    refine (awake26_any _ (HK.out.below HB'.out)).mono ?_
    rintro e w3 ⟨rfl, hb3⟩
    have HB3 := Lib.hid (HB'.out.trans (hb3.mono HB'.out.size))
    clear hb3
    go_wp2_with (fail)
    go_ret
    exact ⟨rfl, HB3.out⟩
  have hd : decide (2100 < o.n) = false := decide_eq_false h21
  obtain ⟨x0, x1, x2, x3', x4⟩ := op_cells H2'.out
  go_wp2_with (fail)
  refine (ncBegin_any o w2).mono ?_
  rintro e w3 ⟨rfl, hb3⟩
  have H3 := Lib.hid (H3'.out.below hb3 l3)
  have HB := Lib.hid (HB'.out.trans (hb3.mono HB'.out.size))
  clear hb3 H2' H3' HB' x0 x1 x2 x3 x3' x4 l2 l3
  go_wp2_with (fail)
  refine (ncReply_any w3).mono ?_
  rintro e w4 ⟨rfl, hb4⟩
  obtain ⟨W5, hW5⟩ : ∃ W5, W5 = w4.alloc (.cells #[.int .i64 0, .int .u64 0, .slice none 0 0] 51) := ⟨_, rfl⟩
  have hb5 : Below w4.heap.size w4 W5 := by rw [hW5]; exact (Below.refl _ _).alloc (Nat.le_refl _) _
  have hR5 : Blk W5 w4.heap.size 51 #[.int .i64 0, .int .u64 0, .slice none 0 0] := by rw [hW5]; exact Blk.new _ _ _
  have hb35 := hb4.trans (hb5.mono hb4.size)
  have H35 := Lib.hid (H3.out.below hb35 H3.out.lt)
  have HB5 := Lib.hid (HB.out.trans (hb35.mono HB.out.size))
  have HR5 := Lib.hid hR5
  have HW5 := Lib.hid hW5
  clear hb4 hb5 hR5 hb35 hW5 H3 HB
  go_upto_region 6 with (fail)
  rw [← HW5.out]
  clear HW5
  go_wp2_with (fail)
  refine (ncOp_any W5).mono ?_
  rintro e w6 ⟨rfl, hb6⟩
  obtain ⟨W7, hW7⟩ : ∃ W7, W7 = w6.alloc (.cells #[.int .i64 0, .int .u32 0, .int .u64 0, .slice none 0 0, .int .i64 0] 26) := ⟨_, rfl⟩
  have hb7 : Below w6.heap.size w6 W7 := by rw [hW7]; exact (Below.refl _ _).alloc (Nat.le_refl _) _
  have hO7 : Blk W7 w6.heap.size 26 #[.int .i64 0, .int .u32 0, .int .u64 0, .slice none 0 0, .int .i64 0] := by rw [hW7]; exact Blk.new _ _ _
  have hb57 := hb6.trans (hb7.mono hb6.size)
  have H37 := Lib.hid (H35.out.below hb57 H35.out.lt)
  have HR7 := Lib.hid (HR5.out.below hb57 HR5.out.lt)
  have HB7 := Lib.hid (HB5.out.trans (hb57.mono HB5.out.size))
  have HO7 := Lib.hid hO7
  have HW7 := Lib.hid hW7
  clear hb6 hb7 hO7 hb57 hW7 H35 HB5 HR5
  go_upto_region 7 with (fail)
  rw [← HW7.out]
  clear HW7
  go_wp2_with (fail)
  refine (ncLast_any W7).mono ?_
  rintro e w8 ⟨rfl, hb8⟩
  obtain ⟨W9, hW9⟩ : ∃ W9, W9 = w8.alloc (.cells #[.int .i64 0, .int .u64 0, .slice none 0 0] 51) := ⟨_, rfl⟩
  have hb9 : Below w8.heap.size w8 W9 := by rw [hW9]; exact (Below.refl _ _).alloc (Nat.le_refl _) _
  have hL9 : Blk W9 w8.heap.size 51 #[.int .i64 0, .int .u64 0, .slice none 0 0] := by rw [hW9]; exact Blk.new _ _ _
  have hb79 := hb8.trans (hb9.mono hb8.size)
  have H39 := Lib.hid (H37.out.below hb79 H37.out.lt)
  have HR9 := Lib.hid (HR7.out.below hb79 HR7.out.lt)
  have HO9 := Lib.hid (HO7.out.below hb79 HO7.out.lt)
  have HB9 := Lib.hid (HB7.out.trans (hb79.mono HB7.out.size))
  have HL9 := Lib.hid hL9
  have HW9 := Lib.hid hW9
  clear hb8 hb9 hL9 hb79 hW9 H37 HB7 HR7 HO7
  go_upto_region 8 with (fail)
  rw [← HW9.out]
  clear HW9
  obtain ⟨c0, c1, c2⟩ := cells3 HL9.out
  go_upto_region 10 with (fail)
  clear c0 c1 c2
  iterate 19 go_step
  refine wpList_load_rowG (by rfl) 48 (.tmp 3) rfl (w.heap.size + 1) rfl 48 x.l.cells (0, 0) _ H39.out Tryz.underlying48 rfl ltInfo ?_
  go_wp2_with (fail)
  refine (ncTake_any x W9).mono ?_
  rintro e w10 ⟨rfl, hb10⟩
  have HR10 := Lib.hid (HR9.out.below hb10 HR9.out.lt)
  have HO10 := Lib.hid (HO9.out.below hb10 HO9.out.lt)
  have HB10 := Lib.hid (HB9.out.trans (hb10.mono HB9.out.size))
  clear hb10 HR9 HO9 HB9 H39 HL9
  go_wp2_with (fail)
  refine (ncTick_any w10).mono ?_
  rintro e w11 ⟨rfl, hb11⟩
  have HR11 := Lib.hid (HR10.out.below hb11 HR10.out.lt)
  have HO11 := Lib.hid (HO10.out.below hb11 HO10.out.lt)
  have HB11 := Lib.hid (HB10.out.trans (hb11.mono HB10.out.size))
  clear hb11 HR10 HO10 HB10
  obtain ⟨r0, r1, r2⟩ := cells3 HR11.out
  have o0 : w11.cell? ⟨w6.heap.size, 0, none⟩ = some (.int .i64 0) := HO11.out.cell 0
  have o3 : w11.cell? ⟨w6.heap.size, 3, none⟩ = some (.slice none 0 0) := HO11.out.cell 3
  go_wp2_with (fail)
  refine (ncBusy_any w11).mono ?_
  rintro e w12 ⟨rfl, rfl⟩
  go_wp2_with (fail)
  refine (ncNum_any w11).mono ?_
  rintro e w12 ⟨rfl, rfl⟩
  go_wp2_with (fail)
  refine (ncAtlas_any w11).mono ?_
  rintro e w12 ⟨rfl, rfl⟩
  go_wp2_with (fail)
  refine (ncAddress_any w11).mono ?_
  rintro e w12 ⟨rfl, rfl⟩
  go_wp2_with (fail)
  refine (awake26_any _ (HK.out.below HB11.out)).mono ?_
  rintro e w13 ⟨rfl, hb13⟩
  have HB13 := Lib.hid (HB11.out.trans (hb13.mono HB11.out.size))
  clear hb13
  go_wp2_with (fail)
  go_ret
  exact ⟨rfl, HB13.out⟩
end Go.Proofs.YtnnegldaekmgbaaGreatDoor
