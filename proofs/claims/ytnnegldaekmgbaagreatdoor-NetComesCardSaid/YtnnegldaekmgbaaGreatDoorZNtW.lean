/- The net's example. -/
import Derived.Test.YtnnegldaekmgbaaGreatDoorZNtU
import Derived.Test.YtnnegldaekmgbaaGreatDoorZNtR
import Derived.Test.YtnnegldaekmgbaaGreatDoorZNtS
namespace Go.Proofs.YtnnegldaekmgbaaGreatDoor
open Go.RowKit
set_option linter.unusedSimpArgs false
set_option linter.unusedVariables false
set_option maxHeartbeats 8000000
set_option maxRecDepth 100000

/-- the example's letter -/
def xL : LV := ⟨{ Lt.zero with kd := 10, fr := 1, tw := 101 }, [], [], [], []⟩
theorem xL_in (w : World) (B : Nat) : LIn w B xL :=
  ⟨Reads.none_, Reads.none_, UpsIn.nil _ _, Reads.none_, fun z hz => (by cases hz), by constructor <;> simp [xL, Lt.zero], fun v hv => (by cases hv), fun v hv => (by cases hv), ⟨Nat.le_refl _, show (0 : Nat) ≤ maxLen by decide⟩, ⟨Nat.le_refl _, show (0 : Nat) ≤ maxLen by decide⟩, ⟨Nat.le_refl _, show (0 : Nat) ≤ maxLen by decide⟩, ⟨Nat.le_refl _, show (0 : Nat) ≤ maxLen by decide⟩⟩
theorem xL_near : xL.near := ⟨fun u hu => (by cases hu), show (0 : Nat) ≤ 1000000 by decide, show (0 : Nat) ≤ 1000000 by decide, show (0 : Nat) ≤ 1000000 by decide, show (0 : Nat) ≤ 1000000 by decide⟩
theorem sel_self (f : Nat → Bool) (v : LVal) : LVal.sel f v v = v := by
  refine LVal.ext' ⟨rfl, rfl, rfl, ?_, ?_, ?_, ?_, ?_, ?_, ?_, ?_, ?_, ?_, ?_, ?_, ?_, ?_, ?_, ?_, ?_, ?_, ?_, ?_, ?_, ?_⟩ <;> (simp only [LVal.sel]; split <;> rfl)
theorem xL_ok : chkX xL = 0 := by
  unfold chkX
  rw [if_neg (show ¬ (xL.l.kd < 1 ∨ 20 < xL.l.kd) by simp [xL]), if_pos]
  refine ⟨rfl, rfl, ?_, ?_⟩
  · unfold sameB
    rw [decide_eq_true_eq]
    rw [mask_val]
    show xL.val = LVal.sel _ xL.val xL.val
    rw [sel_self]
  · refine List.all_eq_true.2 (fun i hi => ?_)
    have hp : partsI (10 : Int).toNat = [0] := by decide
    have hi : i ∈ partsI (10 : Int).toNat := hi
    rw [hp, List.mem_singleton] at hi
    subst hi
    simp [fineB, xL, Lt.zero]
theorem xL_hdr (w : World) : (Instr.build 48 #[(0, .int .i64 10), (1, .int .i64 1), (2, .int .i64 101)]).run Tryz.prog w = .ok (.agg xL.l.cells) w := by kernel_rfl
def bL : List Nat := encB 10 (bodyB xL.l (partsI 10) (partB xL))
theorem encL : encX xL = bL := rfl
theorem bL_len : bL.length = 12 := by decide +kernel
theorem bL_turn : fitsL (turnV 30 1 bL) = false := by decide +kernel
theorem bL_tlen : (turnV 30 1 bL).length = 12 := by decide +kernel
theorem dL_ok (w : World) : dE bL = 0 := by rw [← encL]; exact (dE_back xL w 0 (xL_in _ _) xL_ok).1
theorem dL_turn : dE (turnV 30 1 bL) ≠ 0 := fun h => by have := dE_fits _ h; rw [bL_turn] at this; cases this
theorem sendL : sendQ (Nv.new 9) [xL] 1 = (⟨9, 1, [(1, bL)], ⟨1, 0, 0, 0⟩⟩, 1) := by
  unfold sendQ
  simp only [List.take_succ_cons, List.take_zero, List.foldl_cons, List.foldl_nil]
  unfold send1
  rw [if_neg (by simp [xL_ok]), if_neg (show ¬ ((Nv.new 9).most ≤ ((Nv.new 9).l.length : Int)) by show ¬ (max (9 : Int) 0 ≤ 0); decide), encL]
  rfl
theorem xL_keep {W W' : World} {lo g cd gt bg bd b : Nat} {v v' : Value} {s : NBg} {n : Nv} {m : Int} (h : NetAt W lo g cd gt bg bd v s n m) (hb : Blk W b 48 xL.l.cells) (hs : NStep W W' cd gt bg bd v v') : LsIn W' W.heap.size (some ⟨b, 0, none⟩) 1 [xL] := by
  have hb2 := hs.chg.blk hb (h.out hb (by decide) (by decide) (by decide) (by decide) (by decide))
  refine ⟨⟨rfl, fun _ => ⟨⟨b, 0, none⟩, rfl, hb.lt, fun j u hu => ?_⟩⟩, fun x hx => ?_⟩
  · rw [Go.WideShapes.add_plain, hb2.cell]
    simp only [List.flatMap_cons, List.flatMap_nil, List.append_nil, Lt.row] at hu
    simpa using hu
  · rw [List.mem_singleton] at hx
    subst hx
    exact ⟨xL_in _ _, xL_near⟩
theorem awake34_any (w : World) (hK : KindsAt w) : Calls Tryz.prog 31 #[] w fun e w' => e = .returned (.bool true) ∧ Below w.heap.size w w' := by
  have hlo := hK.lt
  have HK := Lib.hid hK
  have hdr := xL_hdr
  have hEq : ∀ w : World, (binOp .eql 93 (.agg #[.int .i64 1, .int .i64 0, .int .i64 0, .int .i64 1]) (.agg #[.int .i64 1, .int .i64 0, .int .i64 0, .int .i64 1])).run Tryz.prog w = .ok (.bool true) w := fun w => by kernel_rfl
  have NW := Lib.hid (netNew_any 9 w)
  clear hK
  go_enter Tryz.func31, Tryz.ntmps31
  go_wp2_with (fail)
  refine NW.out.mono ?_
  rintro e w1 ⟨g, cd, gt, bg, bd, rfl, hn, hb⟩
  have N1 := Lib.hid hn
  have B1 := Lib.hid hb
  have K1 := Lib.hid (HK.out.below hb)
  have hs1 := hb.size
  clear hn hb NW
  go_wp2_with (fail)
  obtain ⟨W2, hW2⟩ : ∃ W2, W2 = w1.alloc (.cells xL.l.cells 48) := ⟨_, rfl⟩
  have e0 := hW2
  simp only [xL, Lt.cells, Lt.zero] at e0
  rw [← e0]
  clear e0
  have hb2 : Below w1.heap.size w1 W2 := by rw [hW2]; exact (Below.refl _ _).alloc (Nat.le_refl _) _
  have hX : Blk W2 w1.heap.size 48 xL.l.cells := by rw [hW2]; exact Blk.new _ _ _
  have hn2 := N1.out.below hb2
  have K2 := Lib.hid (K1.out.below hb2)
  have SD := Lib.hid (netSend_any (M := 0) (c := 1) (some ⟨w1.heap.size, 0, none⟩) [xL] W2 hn2 hlo K2.out (fun W' v' hs => xL_keep hn2 hX hs) (Nat.le_refl _) ⟨by decide, by decide, by decide, by decide, by decide, by decide⟩ (by decide) (by decide) rfl)
  have B2 := Lib.hid (B1.out.trans (hb2.mono hs1))
  have N2 := Lib.hid hn2
  clear hW2 hb2 hX hn2
  go_wp2_with (fail)
  refine SD.out.mono ?_
  rintro e w3 ⟨v3, s3, rfl, hI⟩
  have hN3 := hI.net
  have hS3 := hI.st
  rw [show [xL].length = 1 from rfl, sendL] at hN3
  rw [show [xL].length = 1 from rfl, sendL]
  have B3 := Lib.hid (B2.out.trans (hS3.bel N2.out))
  have K3 := Lib.hid (kinds_low N2.out hlo K2.out hS3)
  have N3 := Lib.hid hN3
  clear hI hN3 hS3 SD
  obtain ⟨p3, hp3⟩ : ∃ p3, s3.l[0]? = some p3 := ⟨_, List.getElem?_eq_getElem (by have := N3.out.len; simp at this; omega)⟩
  have SP := Lib.hid (netSpoil_yes (q := (1, bL)) 30 1 w3 N3.out hlo K3.out (by decide) hp3 rfl (by rw [bL_len]; decide) (dL_ok w3) (by decide) (by decide) (by decide))
  clear hp3
  go_wp2_with (fail)
  refine SP.out.mono ?_
  rintro e w4 ⟨rfl, x4, hN4, hS4⟩
  have B4 := Lib.hid (B3.out.trans (hS4.bel N3.out))
  have K4 := Lib.hid (kinds_low N3.out hlo K3.out hS4)
  have N4 : Hid (NetAt w4 w.heap.size g cd gt bg bd v3 (s3.set 0 x4) ⟨9, 1, [(1, turnV 30 1 bL)], ⟨1, 0, 0, 0⟩⟩ 1) := Lib.hid hN4
  clear hN4 hS4 SP
  obtain ⟨p4, hp4⟩ : ∃ p4, (s3.set 0 x4).l[0]? = some p4 := ⟨_, List.getElem?_eq_getElem (by have := N4.out.len; simp at this; omega)⟩
  have CM := Lib.hid (netCome_yes (q := (1, turnV 30 1 bL)) w4 N4.out hlo K4.out (by decide) ⟨by decide, by decide, by decide, by decide⟩ hp4 rfl (by rw [bL_tlen]; decide))
  clear hp4
  go_wp2_with (fail)
  refine CM.out.mono ?_
  rintro e w5 ⟨x5, v5, rfl, hz1, hz2, hN5, hS5⟩
  have hdf : decide (dE (turnV 30 1 bL) = 0) = false := decide_eq_false dL_turn
  have hca : (⟨9, 1, [(1, turnV 30 1 bL)], ⟨1, 0, 0, 0⟩⟩ : Nv).came 0 (dE (turnV 30 1 bL)) = ⟨9, 1, [], ⟨1, 0, 0, 1⟩⟩ := by unfold Nv.came; rw [if_neg dL_turn]; rfl
  rw [hca] at hN5
  rw [hdf]
  have B5 := Lib.hid (B4.out.trans (hS5.bel N4.out))
  have N5 := Lib.hid hN5
  clear hz1 hz2 hN5 hS5 CM hca hdf
  dsimp only
  rename_i hK9
  refine hK9 _ _ ?_
  clear hK9
  iterate 12 go_step
  refine wpList_store_fresh rfl 48 (.tmp 4) (.tmp 16) rfl x5.l.cells 48 Lt.zero.cells rfl rfl ltInfo rfl (lt_all _) ?_
  obtain ⟨W6, hW6⟩ : ∃ W6, W6 = w5.alloc (.cells x5.l.cells 48) := ⟨_, rfl⟩
  rw [← hW6]
  have hb6 : Below w5.heap.size w5 W6 := by rw [hW6]; exact (Below.refl _ _).alloc (Nat.le_refl _) _
  have N6 := Lib.hid (N5.out.below hb6)
  have B6 := Lib.hid (B5.out.trans (hb6.mono B5.out.size))
  have LN := Lib.hid (netLen_any W6 N6.out)
  have CN := Lib.hid (netCounts_any W6 N6.out)
  clear hW6 hb6
  go_wp2_with (fail)
  refine LN.out.mono ?_
  rintro e w7 ⟨rfl, rfl⟩
  go_wp2_with (fail)
  refine CN.out.mono ?_
  rintro e w8 ⟨rfl, hb8⟩
  have B8 := Lib.hid (B6.out.trans (hb8.mono B6.out.size))
  clear hb8
  go_wp2_with (fail)
  go_ret
  exact ⟨rfl, B8.out⟩
end Go.Proofs.YtnnegldaekmgbaaGreatDoor
