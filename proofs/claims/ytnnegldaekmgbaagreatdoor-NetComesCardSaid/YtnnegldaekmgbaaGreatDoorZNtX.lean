/- NetNil: the law. -/
import Derived.Test.YtnnegldaekmgbaaGreatDoorZNtW
import Derived.Test.YtnnegldaekmgbaaGreatDoorZNtN
import Derived.Test.YtnnegldaekmgbaaGreatDoorZNtO
namespace Go.Proofs.YtnnegldaekmgbaaGreatDoor
open Go.RowKit
set_option linter.unusedSimpArgs false
set_option linter.unusedVariables false
set_option maxHeartbeats 8000000
set_option maxRecDepth 100000

theorem zero_in (w : World) (B : Nat) : LIn w B LV.zero :=
  ⟨Reads.none_, Reads.none_, UpsIn.nil _ _, Reads.none_, fun z hz => (by cases hz), by constructor <;> simp [LV.zero, Lt.zero], fun v hv => (by cases hv), fun v hv => (by cases hv), ⟨Nat.le_refl _, show (0 : Nat) ≤ maxLen by decide⟩, ⟨Nat.le_refl _, show (0 : Nat) ≤ maxLen by decide⟩, ⟨Nat.le_refl _, show (0 : Nat) ≤ maxLen by decide⟩, ⟨Nat.le_refl _, show (0 : Nat) ≤ maxLen by decide⟩⟩
theorem zero_near : LV.zero.near := ⟨fun u hu => (by cases hu), show (0 : Nat) ≤ 1000000 by decide, show (0 : Nat) ≤ 1000000 by decide, show (0 : Nat) ≤ 1000000 by decide, show (0 : Nat) ≤ 1000000 by decide⟩
theorem same_zero (w : World) : Calls Tryz.prog 40 #[.agg Lt.zero.cells, .agg Lt.zero.cells] w fun e w' => e = .returned (.bool true) ∧ Below w.heap.size w w' := by
  have := refSameG_any LV.zero LV.zero 0 0 w (zero_in w 0) (zero_in w 0) (Nat.zero_le _) (Nat.zero_le _) zero_near
  rw [show sameB LV.zero LV.zero = true by unfold sameB; simp] at this
  exact this

theorem netNil_law (o : NOp) (xs : List LV) (w : World) (hK : KindsAt w) (h : LsI0 w w.heap.size o.A o.nn xs) : Calls Tryz.prog 8 #[o.agg] w fun e w' => e = .returned (.bool true) ∧ Below w.heap.size w w' := by
  obtain ⟨W1, hW1⟩ : ∃ W1, W1 = w.alloc (.cells #[.int .i64 o.kd, .slice o.A o.nn o.c, .int .i64 o.i, .int .i64 o.bit, .int .u32 (o.pat : Int), .int .i64 o.dst] 83) := ⟨_, rfl⟩
  have hb1 : Below w.heap.size w W1 := by rw [hW1]; exact (Below.refl _ _).alloc (Nat.le_refl _) _
  have hbk : Blk W1 w.heap.size 83 #[.int .i64 o.kd, .slice o.A o.nn o.c, .int .i64 o.i, .int .i64 o.bit, .int .u32 (o.pat : Int), .int .i64 o.dst] := by rw [hW1]; exact Blk.new _ _ _
  have FR := Lib.hid (far34_any o xs w.heap.size W1 (h.below hb1) hb1.size)
  have HB := Lib.hid hb1
  have HW := Lib.hid hW1
  have BO := Lib.hid hbk
  have HK := Lib.hid hK
  clear hW1 hb1 hbk h hK
  obtain ⟨kd, A, nn, c, oi, bit, pat, dst⟩ := o
  simp only at *
  simp only [NOp.agg] at FR
  have hz := z_hdr
  have hz4 : ∀ w : World, (Instr.build 93 #[]).run Tryz.prog w = .ok (.agg #[.int .i64 0, .int .i64 0, .int .i64 0, .int .i64 0]) w := fun w => by kernel_rfl
  have hEq : ∀ w : World, (binOp .eql 93 (.agg #[.int .i64 0, .int .i64 0, .int .i64 0, .int .i64 0]) (.agg #[.int .i64 0, .int .i64 0, .int .i64 0, .int .i64 0])).run Tryz.prog w = .ok (.bool true) w := fun w => by kernel_rfl
  obtain ⟨o0, o1, o2, o3, o4, o5⟩ := cells6 BO.out
  have lO := BO.out.lt
  show Calls Tryz.prog 8 #[.agg #[.int .i64 kd, .slice A nn c, .int .i64 oi, .int .i64 bit, .int .u32 (pat : Int), .int .i64 dst]] w _
  go_enter Tryz.func8, Tryz.ntmps8
  go_upto_region 1 with (fail)
  rw [← HW.out]
  go_wp2_with (fail)
  refine FR.out.mono ?_
  rintro e w2 ⟨b, rfl, _, hb2⟩
  have hs1 := HB.out.size
  replace HB := Lib.hid (HB.out.trans (hb2.mono hs1))
  replace BO := Lib.hid (BO.out.below hb2 BO.out.lt)
  have HK2 := Lib.hid (HK.out.below HB.out)
  clear hb2 FR HW o0 o1 o2 o3 o4 o5 lO
  obtain ⟨o0, o1, o2, o3, o4, o5⟩ := cells6 BO.out
  have lO := BO.out.lt
  cases b
  rotate_left
  · go_wp2_with (fail)
    refine (awake34_any _ HK2.out).mono ?_
    rintro e w3 ⟨rfl, hb3⟩
    have HB3 := Lib.hid (HB.out.trans (hb3.mono HB.out.size))
    clear hb3
    go_wp2_with (fail)
    go_ret
    exact ⟨rfl, HB3.out⟩
  go_wp2_with (fail)
  refine (nnCome_any oi _).mono ?_
  rintro e w3 ⟨rfl, hb3⟩
  replace HB := Lib.hid (HB.out.trans (hb3.mono HB.out.size))
  replace BO := Lib.hid (BO.out.below hb3 BO.out.lt)
  clear hb3 o0 o1 o2 o3 o4 o5 lO
  dsimp only
  rename_i hK9
  refine hK9 _ _ ?_
  clear hK9
  iterate 12 go_step
  refine wpList_store_fresh rfl 48 (.tmp 4) (.tmp 16) rfl Lt.zero.cells 48 Lt.zero.cells rfl rfl ltInfo rfl (lt_all _) ?_
  obtain ⟨W4, hW4⟩ : ∃ W4, W4 = w3.alloc (.cells Lt.zero.cells 48) := ⟨_, rfl⟩
  rw [← hW4]
  have hb4 : Below w3.heap.size w3 W4 := by rw [hW4]; exact (Below.refl _ _).alloc (Nat.le_refl _) _
  have B4 : Hid (Blk W4 w3.heap.size 48 Lt.zero.cells) := Lib.hid (by rw [hW4]; exact Blk.new _ _ _)
  replace HB := Lib.hid (HB.out.trans (hb4.mono HB.out.size))
  replace BO := Lib.hid (BO.out.below hb4 BO.out.lt)
  clear hW4 hb4
  generalize w3.heap.size = g4 at *
  obtain ⟨o0, o1, o2, o3, o4, o5⟩ := cells6 BO.out
  have lO := BO.out.lt
  go_wp2_with (fail)
  refine (nnPeek_any oi _).mono ?_
  rintro e w5 ⟨rfl, hb5⟩
  replace HB := Lib.hid (HB.out.trans (hb5.mono HB.out.size))
  replace B4 := Lib.hid (B4.out.below hb5 B4.out.lt)
  replace BO := Lib.hid (BO.out.below hb5 BO.out.lt)
  clear hb5 o0 o1 o2 o3 o4 o5 lO
  dsimp only
  rename_i hK9
  refine hK9 _ _ ?_
  clear hK9
  iterate 12 go_step
  refine wpList_store_fresh rfl 48 (.tmp 6) (.tmp 23) rfl Lt.zero.cells 48 Lt.zero.cells rfl rfl ltInfo rfl (lt_all _) ?_
  obtain ⟨W6, hW6⟩ : ∃ W6, W6 = w5.alloc (.cells Lt.zero.cells 48) := ⟨_, rfl⟩
  rw [← hW6]
  have hb6 : Below w5.heap.size w5 W6 := by rw [hW6]; exact (Below.refl _ _).alloc (Nat.le_refl _) _
  have B6 : Hid (Blk W6 w5.heap.size 48 Lt.zero.cells) := Lib.hid (by rw [hW6]; exact Blk.new _ _ _)
  replace HB := Lib.hid (HB.out.trans (hb6.mono HB.out.size))
  replace B4 := Lib.hid (B4.out.below hb6 B4.out.lt)
  replace BO := Lib.hid (BO.out.below hb6 BO.out.lt)
  clear hW6 hb6
  generalize w5.heap.size = g6 at *
  obtain ⟨o0, o1, o2, o3, o4, o5⟩ := cells6 BO.out
  have lO := BO.out.lt
  go_wp2_with (fail)
  refine (nnSend_any A nn c _).mono ?_
  rintro e w7 ⟨rfl, rfl⟩
  dsimp only
  rename_i hK9
  refine hK9 _ _ ?_
  clear hK9
  iterate 4 go_step
  refine wpList_load_rowG (by rfl) 48 (.tmp 4) rfl g4 rfl 48 Lt.zero.cells (0, 0) _ B4.out Tryz.underlying48 rfl ltInfo ?_
  go_wp2_with (fail)
  refine (same_zero _).mono ?_; rintro e wz ⟨rfl, hbz⟩; replace HB := Lib.hid (HB.out.trans (hbz.mono HB.out.size)); replace B4 := Lib.hid (B4.out.below hbz B4.out.lt); replace B6 := Lib.hid (B6.out.below hbz B6.out.lt); replace BO := Lib.hid (BO.out.below hbz BO.out.lt); clear hbz o0 o1 o2 o3 o4 o5; obtain ⟨o0, o1, o2, o3, o4, o5⟩ := cells6 BO.out; have lO := BO.out.lt
  go_wp2_with (fail)
  refine (nnLose_any oi _).mono ?_
  rintro e w8 ⟨rfl, rfl⟩
  go_wp2_with (fail)
  refine (nnTwice_any oi _).mono ?_
  rintro e w8 ⟨rfl, rfl⟩
  go_wp2_with (fail)
  refine (nnSpoil_any oi bit pat _).mono ?_
  rintro e w8 ⟨rfl, hb8⟩
  replace HB := Lib.hid (HB.out.trans (hb8.mono HB.out.size))
  replace B6 := Lib.hid (B6.out.below hb8 B6.out.lt)
  replace BO := Lib.hid (BO.out.below hb8 BO.out.lt)
  clear hb8 o0 o1 o2 o3 o4 o5 lO B4
  obtain ⟨o0, o1, o2, o3, o4, o5⟩ := cells6 BO.out
  have lO := BO.out.lt
  dsimp only
  rename_i hK9
  refine hK9 _ _ ?_
  clear hK9
  iterate 6 go_step
  refine wpList_load_rowG (by rfl) 48 (.tmp 6) rfl g6 rfl 48 Lt.zero.cells (0, 0) _ B6.out Tryz.underlying48 rfl ltInfo ?_
  go_wp2_with (fail)
  refine (same_zero _).mono ?_
  rintro e wz ⟨rfl, hbz⟩
  replace HB := Lib.hid (HB.out.trans (hbz.mono HB.out.size))
  replace BO := Lib.hid (BO.out.below hbz BO.out.lt)
  clear hbz o0 o1 o2 o3 o4 o5 B6
  obtain ⟨o0, o1, o2, o3, o4, o5⟩ := cells6 BO.out
  have lO := BO.out.lt
  go_wp2_with (fail)
  refine (nnLen_any _).mono ?_
  rintro e w8 ⟨rfl, rfl⟩
  go_wp2_with (fail)
  refine (nnLast_any _).mono ?_
  rintro e w8 ⟨rfl, rfl⟩
  go_wp2_with (fail)
  refine (nnUpto_any oi _).mono ?_
  rintro e w9 ⟨rfl, hb9⟩
  replace HB := Lib.hid (HB.out.trans (hb9.mono HB.out.size))
  clear hb9 o0 o1 o2 o3 o4 o5 BO lO
  go_wp2_with (fail)
  refine (nnKeep_any _ _).mono ?_
  rintro e wa ⟨rfl, hba⟩
  replace HB := Lib.hid (HB.out.trans (hba.mono HB.out.size))
  clear hba
  go_wp2_with (fail)
  refine (nnCounts_any _).mono ?_
  rintro e wb ⟨rfl, hbb⟩
  replace HB := Lib.hid (HB.out.trans (hbb.mono HB.out.size))
  clear hbb
  have HKB := Lib.hid (HK.out.below HB.out)
  go_wp2_with (fail)
  refine (awake34_any wb HKB.out).mono ?_
  rintro e wc ⟨rfl, hbc⟩
  replace HB := Lib.hid (HB.out.trans (hbc.mono HB.out.size))
  clear hbc
  go_wp2_with (fail)
  go_ret
  exact ⟨rfl, HB.out⟩
end Go.Proofs.YtnnegldaekmgbaaGreatDoor
