/- A caller: Take of what is not its answer. -/
import Derived.Test.YtmpedblelnpjdaaGreatDoorZCalG
import Derived.Test.YtmpedblelnpjdaaGreatDoorZTq
import Derived.Test.YtmpedblelnpjdaaGreatDoorZTk
import Derived.Test.YtmpedblelnpjdaaGreatDoorZCalH
namespace Go.Proofs.YtmpedblelnpjdaaGreatDoor
open Go.RowKit
set_option linter.unusedSimpArgs false
set_option linter.unusedVariables false
set_option maxHeartbeats 8000000
set_option maxRecDepth 100000
def CSameP (lo g G h : Nat) (vs : List CV) (c : Cl) (w : World) (e : Ending) (w' : World) : Prop := e = .returned (.slice none 0 0) ∧ CalAt w' lo g G h vs c ∧ Below w.heap.size w w'
theorem calTake_no (lo g G h : Nat) (vs : List (Int × Int × List Int × Bool × Int)) (c : Cl) (x : LV) (B : Nat) (w : World) (hK : KindsAt w) (a : CalAt w lo g G h vs c) (hx : LIn w B x) (hB : B ≤ w.heap.size) (hn : x.near) (hlo : lo ≤ w.heap.size) (hcl : c.cl ≤ 6) (hfi : ¬ ForIt c x) :
  Calls Tryz.prog 25 #[.pointer (some ⟨g, 0, none⟩), .agg x.l.cells] w (CSameP lo g G h vs c w) := by
 obtain ⟨W1, hW1, hb1, hbk⟩ := box_all x w
 have HBW := Lib.hid hb1
 have HA : Hid (CalAt W1 lo g G h vs c) := Lib.hid (a.below hb1)
 have HX : Hid (LIn W1 B x) := Lib.hid (hx.below (hb1.mono hB))
 have HK := Lib.hid (hK.below hb1)
 have HBX := Lib.hid hbk
 have HW1 := Lib.hid hW1
 have hs1 := hb1.size
 have lg := a.box.lt
 have lb := hbk.lt
 have lg1 := HA.out.box.lt
 have nb : g ≠ w.heap.size := by omega
 have nb' : w.heap.size ≠ g := by omega
 have HH : Hid (c.st = 1 → h < w.heap.size ∧ lo ≤ h) := Lib.hid (fun e => ⟨Blk.lt (a.lat (by omega)).2, (a.lat (by omega)).1⟩)
 obtain ⟨f, hf⟩ : ∃ f : Nat, f = 200 + c.cl := ⟨_, rfl⟩
 have HLO : Hid (lo ≤ w.heap.size) := Lib.hid hlo
 have AD := Lib.hid (fun W (h9 : Below W1.heap.size W1 W) => calAddr_any lo g G h vs c f W (HA.out.below h9) hf hcl)
 obtain ⟨ckv, hckv⟩ : ∃ ckv, ckv = chkX x := ⟨_, rfl⟩
 have HCK := Lib.hid hckv
 have HFI := Lib.hid hfi
 have HF := Lib.hid hf
 obtain ⟨L, hL⟩ : ∃ L : Value, L = x.l.agg := ⟨_, rfl⟩
 have HLA := Lib.hid hL
 have hLD : ∀ wq, Blk wq w.heap.size 37 x.l.cells → (loadVar 37 ⟨w.heap.size, 0, none⟩).run Tryz.prog wq = .ok L wq := fun wq h => by rw [HLA.out]; exact load_lt x.l _ wq h
 have CK : Hid (∀ W, Below W1.heap.size W1 W → Calls Tryz.prog 49 #[L] W fun e w' => e = .returned (.int .i64 ckv) ∧ Below W.heap.size W w') := Lib.hid (fun W h9 => by
  rw [HLA.out]
  have := check_any x B W (HK.out.below h9) (HX.out.below (h9.mono (by omega))) (by have := h9.size; omega) hn
  rw [← hckv] at this
  exact this)
 have HNR := Lib.hid hn
 have x2 : W1.cell? ⟨w.heap.size, 2, none⟩ = some (.int .i64 x.l.tw) := HBX.out.cell 2
 have hBX := HBX.out
 obtain ⟨rd, hrd⟩ : ∃ rd : Bool, rd = (c.op.kd == 1) := ⟨_, rfl⟩
 have HRD := Lib.hid hrd
 have y5e : Hid (∀ W, Below W1.heap.size W1 W → W.cell? ⟨g, 5, none⟩ = some (.int .i64 c.op.kd)) := Lib.hid (fun W h9 => (HA.out.below h9).box.cell 5)
 have q1 : (c.op.kd == 1) = rd := hrd.symm
 clear hW1 hb1 hbk a hx hK hf hL hn hckv hrd hlo hfi
 go_enter Tryz.func25, Tryz.ntmps25
 go_upto_region 1 with (fail)
 have e0 := HW1.out
 simp only [Lt.cells] at e0
 first | rw [← e0] | rw [← HW1.out]
 clear e0
 have HB : Hid (Below W1.heap.size W1 W1.drew) := Lib.hid (Below.refl _ _).drew
 refine wp_region_held_drew (S := fun wq => Blk wq w.heap.size 37 x.l.cells ∧ wq.cell? ⟨w.heap.size, 2, none⟩ = some (.int .i64 x.l.tw)) (by kernel_rfl) ⟨hBX, x2⟩ (fun hHeld => ?_)
 by_cases hz : ckv = 0
 rotate_left
 ·have q2 : (ckv != 0) = true := by simp [hz]
  clear hz
  refine tkT 0 rfl (v := ?_) ?_ ?_
  rotate_left 1
  ·(intro wq hSw; (try dsimp only at hSw); go_simp; (try with_reducible rfl))
  try simp only [Act.put, pS]
  refine tkT 1 rfl (v := ?_) ?_ ?_
  rotate_left 1
  ·(intro wq hSw; (try dsimp only at hSw); go_simp; (try with_reducible rfl))
  try simp only [Act.put, pS]
  refine tkT 2 rfl (v := ?_) ?_ ?_
  rotate_left 1
  ·(intro wq hSw; (try dsimp only at hSw); go_simp; (try with_reducible rfl))
  try simp only [Act.put, pS]
  refine tkT 3 rfl (v := L) ?_ ?_
  ·exact fun wq hSw => exec_load_row rfl _ rfl (hLD wq hSw.1)
  try simp only [Act.put, pS]
  refine wpAnyH_ready (rs := [4]) (by kernel_rfl) (by simp) ?_
  refine (AllReadyH.cons rfl (fun K hK => ?_) AllReadyH.nil)
  go_simp
  refine (CK.out _ HB.out).mono ?_
  rintro e x4 ⟨rfl, h9⟩
  replace HB := Lib.hid (HB.out.trans (h9.mono HB.out.size))
  clear h9
  have HS : Blk x4 w.heap.size 37 x.l.cells ∧ x4.cell? ⟨w.heap.size, 2, none⟩ = some (.int .i64 x.l.tw) := ⟨HBX.out.below HB.out lb, (HBX.out.below HB.out lb).cell 2⟩
  refine hK.out _ _ ?_ (fun hHeld => ?_)
  ·first | exact HS | go_keep
  clear hK K
  try simp only [Act.put, pS]
  refine tkT 5 rfl (v := ?_) ?_ ?_
  rotate_left 1
  ·(intro wq hSw; (try dsimp only at hSw); go_simp; (try with_reducible rfl))
  try simp only [Act.put, pS]
  refine tkT 6 rfl (v := ?_) ?_ ?_
  rotate_left 1
  ·(intro wq hSw; (try dsimp only at hSw); go_simp; (try with_reducible rfl))
  try simp only [Act.put, pS]
  refine tkT 7 rfl (v := ?_) ?_ ?_
  rotate_left 1
  ·(intro wq hSw; (try dsimp only at hSw); go_simp; (try with_reducible rfl))
  try simp only [Act.put, pS]
  refine wpAnyH_take (i := 8) (v := undef) rfl (by kernel_rfl) (by kernel_rfl) (by kernel_rfl) (fun _ _ _ h => h) (Or.inr ⟨by rfl, rfl⟩) (by assumption) ?_
  try simp only [Act.put, pS]
  refine wpAnyH_take (i := 9) (v := undef) rfl (by kernel_rfl) (by kernel_rfl) (by kernel_rfl) (fun _ _ _ h => h) (Or.inr ⟨by rfl, rfl⟩) (by assumption) ?_
  try simp only [Act.put, pS]
  refine wpAnyH_take (i := 10) (v := undef) rfl (by kernel_rfl) (by kernel_rfl) (by kernel_rfl) (fun _ _ _ h => h) (Or.inr ⟨by rfl, rfl⟩) (by assumption) ?_
  try simp only [Act.put, pS]
  refine wpAnyH_take (i := 11) (v := undef) rfl (by kernel_rfl) (by kernel_rfl) (by kernel_rfl) (fun _ _ _ h => h) (Or.inr ⟨by rfl, rfl⟩) (by assumption) ?_
  try simp only [Act.put, pS]
  refine wpAnyH_take (i := 12) (v := undef) rfl (by kernel_rfl) (by kernel_rfl) (by kernel_rfl) (fun _ _ _ h => h) (Or.inr ⟨by rfl, rfl⟩) (by assumption) ?_
  exact rp72
 have q2 : (ckv != 0) = false := by simp [hz]
 have q3 : (x.l.tw != (f : Int)) = true := by
  simp only [bne_iff_ne, ne_eq]
  intro e
  exact HFI.out ⟨by rw [← HCK.out]; exact hz, by rw [e, HF.out]⟩
 clear hz
 refine tkT 0 rfl (v := ?_) ?_ ?_
 rotate_left 1
 ·(intro wq hSw; (try dsimp only at hSw); go_simp; (try with_reducible rfl))
 try simp only [Act.put, pS]
 refine tkT 1 rfl (v := ?_) ?_ ?_
 rotate_left 1
 ·(intro wq hSw; (try dsimp only at hSw); go_simp; (try with_reducible rfl))
 try simp only [Act.put, pS]
 refine tkT 2 rfl (v := ?_) ?_ ?_
 rotate_left 1
 ·(intro wq hSw; (try dsimp only at hSw); go_simp; (try with_reducible rfl))
 try simp only [Act.put, pS]
 refine tkT 3 rfl (v := L) ?_ ?_
 ·exact fun wq hSw => exec_load_row rfl _ rfl (hLD wq hSw.1)
 try simp only [Act.put, pS]
 refine wpAnyH_ready (rs := [4]) (by kernel_rfl) (by simp) ?_
 refine (AllReadyH.cons rfl (fun K hK => ?_) AllReadyH.nil)
 go_simp
 refine (CK.out _ HB.out).mono ?_
 rintro e x4 ⟨rfl, h9⟩
 replace HB := Lib.hid (HB.out.trans (h9.mono HB.out.size))
 clear h9
 have HS : Blk x4 w.heap.size 37 x.l.cells ∧ x4.cell? ⟨w.heap.size, 2, none⟩ = some (.int .i64 x.l.tw) := ⟨HBX.out.below HB.out lb, (HBX.out.below HB.out lb).cell 2⟩
 refine hK.out _ _ ?_ (fun hHeld => ?_)
 ·first | exact HS | go_keep
 clear hK K
 try simp only [Act.put, pS]
 refine tkT 5 rfl (v := ?_) ?_ ?_
 rotate_left 1
 ·(intro wq hSw; (try dsimp only at hSw); go_simp; (try with_reducible rfl))
 try simp only [Act.put, pS]
 refine tkT 6 rfl (v := ?_) ?_ ?_
 rotate_left 1
 ·(intro wq hSw; (try dsimp only at hSw); go_simp; (try with_reducible rfl))
 try simp only [Act.put, pS]
 refine tkT 7 rfl (v := ?_) ?_ ?_
 rotate_left 1
 ·(intro wq hSw; (try dsimp only at hSw); go_simp; (try with_reducible rfl))
 try simp only [Act.put, pS]
 refine tkT 8 rfl (v := ?_) ?_ ?_
 rotate_left 1
 ·(intro wq hSw; (try dsimp only at hSw); go_simp; (try with_reducible rfl))
 try simp only [Act.put, pS]
 refine tkT 9 rfl (v := ?_) ?_ ?_
 rotate_left 1
 ·(intro wq hSw; (try dsimp only at hSw); go_simp; (try with_reducible rfl))
 try simp only [Act.put, pS]
 refine tkT 10 rfl (v := ?_) ?_ ?_
 rotate_left 1
 ·(intro wq hSw; (try dsimp only at hSw); go_simp; (try with_reducible rfl))
 try simp only [Act.put, pS]
 refine wpAnyH_ready (rs := [11]) (by kernel_rfl) (by simp) ?_
 refine (AllReadyH.cons rfl (fun K hK => ?_) AllReadyH.nil)
 go_simp
 refine (AD.out _ HB.out).mono ?_
 rintro e x9 ⟨rfl, rfl⟩
 refine hK.out _ _ ?_ (fun hHeld => ?_)
 ·first | exact HS | go_keep
 clear hK K
 try simp only [Act.put, pS]
 refine tkT 12 rfl (v := ?_) ?_ ?_
 rotate_left 1
 ·(intro wq hSw; (try dsimp only at hSw); go_simp; (try with_reducible rfl))
 exact rp72
theorem calTake_other (lo g G h : Nat) (vs : List (Int × Int × List Int × Bool × Int)) (c : Cl) (x : LV) (B : Nat) (w : World) (hK : KindsAt w) (a : CalAt w lo g G h vs c) (hx : LIn w B x) (hB : B ≤ w.heap.size) (hn : x.near) (hlo : lo ≤ w.heap.size) (hcl : c.cl ≤ 6) (hfi : ForIt c x) (hk11 : x.l.kd ≠ 11) (hnm : ¬ Mine c x) :
  Calls Tryz.prog 25 #[.pointer (some ⟨g, 0, none⟩), .agg x.l.cells] w (CSameP lo g G h vs c w) := by
 have HNM := Lib.hid hnm
 have HK11 := Lib.hid hk11
 clear hnm hk11
 obtain ⟨W1, hW1, hb1, hbk⟩ := box_all x w
 have HBW := Lib.hid hb1
 have HA : Hid (CalAt W1 lo g G h vs c) := Lib.hid (a.below hb1)
 have HX : Hid (LIn W1 B x) := Lib.hid (hx.below (hb1.mono hB))
 have HK := Lib.hid (hK.below hb1)
 have HBX := Lib.hid hbk
 have HW1 := Lib.hid hW1
 have hs1 := hb1.size
 have lg := a.box.lt
 have lb := hbk.lt
 have lg1 := HA.out.box.lt
 have nb : g ≠ w.heap.size := by omega
 have nb' : w.heap.size ≠ g := by omega
 have HH : Hid (c.st = 1 → h < w.heap.size ∧ lo ≤ h) := Lib.hid (fun e => ⟨Blk.lt (a.lat (by omega)).2, (a.lat (by omega)).1⟩)
 obtain ⟨f, hf⟩ : ∃ f : Nat, f = 200 + c.cl := ⟨_, rfl⟩
 have HLO : Hid (lo ≤ w.heap.size) := Lib.hid hlo
 have AD := Lib.hid (fun W (h9 : Below W1.heap.size W1 W) => calAddr_any lo g G h vs c f W (HA.out.below h9) hf hcl)
 obtain ⟨ckv, hckv⟩ : ∃ ckv, ckv = chkX x := ⟨_, rfl⟩
 have HCK := Lib.hid hckv
 have HFI := Lib.hid hfi
 have HF := Lib.hid hf
 obtain ⟨L, hL⟩ : ∃ L : Value, L = x.l.agg := ⟨_, rfl⟩
 have HLA := Lib.hid hL
 have hLD : ∀ wq, Blk wq w.heap.size 37 x.l.cells → (loadVar 37 ⟨w.heap.size, 0, none⟩).run Tryz.prog wq = .ok L wq := fun wq h => by rw [HLA.out]; exact load_lt x.l _ wq h
 have CK : Hid (∀ W, Below W1.heap.size W1 W → Calls Tryz.prog 49 #[L] W fun e w' => e = .returned (.int .i64 ckv) ∧ Below W.heap.size W w') := Lib.hid (fun W h9 => by
  rw [HLA.out]
  have := check_any x B W (HK.out.below h9) (HX.out.below (h9.mono (by omega))) (by have := h9.size; omega) hn
  rw [← hckv] at this
  exact this)
 have HNR := Lib.hid hn
 have x2 : W1.cell? ⟨w.heap.size, 2, none⟩ = some (.int .i64 x.l.tw) := HBX.out.cell 2
 have hBX := HBX.out
 obtain ⟨rd, hrd⟩ : ∃ rd : Bool, rd = (c.op.kd == 1) := ⟨_, rfl⟩
 have HRD := Lib.hid hrd
 have y5e : Hid (∀ W, Below W1.heap.size W1 W → W.cell? ⟨g, 5, none⟩ = some (.int .i64 c.op.kd)) := Lib.hid (fun W h9 => (HA.out.below h9).box.cell 5)
 have q1 : (c.op.kd == 1) = rd := hrd.symm
 clear hW1 hb1 hbk a hx hK hf hL hn hckv hrd hlo hfi
 go_enter Tryz.func25, Tryz.ntmps25
 go_upto_region 1 with (fail)
 have e0 := HW1.out
 simp only [Lt.cells] at e0
 first | rw [← e0] | rw [← HW1.out]
 clear e0
 have HB : Hid (Below W1.heap.size W1 W1.drew) := Lib.hid (Below.refl _ _).drew
 refine wp_region_held_drew (S := fun wq => Blk wq w.heap.size 37 x.l.cells ∧ wq.cell? ⟨w.heap.size, 2, none⟩ = some (.int .i64 x.l.tw)) (by kernel_rfl) ⟨hBX, x2⟩ (fun hHeld => ?_)
 have q2 : (ckv != 0) = false := by rw [HCK.out, HFI.out.1]; rfl
 have q3 : (x.l.tw != (f : Int)) = false := by rw [HFI.out.2, HF.out]; simp
 refine tkT 0 rfl (v := ?_) ?_ ?_
 rotate_left 1
 ·(intro wq hSw; (try dsimp only at hSw); go_simp; (try with_reducible rfl))
 try simp only [Act.put, pS]
 refine tkT 1 rfl (v := ?_) ?_ ?_
 rotate_left 1
 ·(intro wq hSw; (try dsimp only at hSw); go_simp; (try with_reducible rfl))
 try simp only [Act.put, pS]
 refine tkT 2 rfl (v := ?_) ?_ ?_
 rotate_left 1
 ·(intro wq hSw; (try dsimp only at hSw); go_simp; (try with_reducible rfl))
 try simp only [Act.put, pS]
 refine tkT 3 rfl (v := L) ?_ ?_
 ·exact fun wq hSw => exec_load_row rfl _ rfl (hLD wq hSw.1)
 try simp only [Act.put, pS]
 refine wpAnyH_ready (rs := [4]) (by kernel_rfl) (by simp) ?_
 refine (AllReadyH.cons rfl (fun K hK => ?_) AllReadyH.nil)
 go_simp
 refine (CK.out _ HB.out).mono ?_
 rintro e x4 ⟨rfl, h9⟩
 replace HB := Lib.hid (HB.out.trans (h9.mono HB.out.size))
 clear h9
 have HS : Blk x4 w.heap.size 37 x.l.cells ∧ x4.cell? ⟨w.heap.size, 2, none⟩ = some (.int .i64 x.l.tw) := ⟨HBX.out.below HB.out lb, (HBX.out.below HB.out lb).cell 2⟩
 refine hK.out _ _ ?_ (fun hHeld => ?_)
 ·first | exact HS | go_keep
 clear hK K
 try simp only [Act.put, pS]
 refine tkT 5 rfl (v := ?_) ?_ ?_
 rotate_left 1
 ·(intro wq hSw; (try dsimp only at hSw); go_simp; (try with_reducible rfl))
 try simp only [Act.put, pS]
 refine tkT 6 rfl (v := ?_) ?_ ?_
 rotate_left 1
 ·(intro wq hSw; (try dsimp only at hSw); go_simp; (try with_reducible rfl))
 try simp only [Act.put, pS]
 refine tkT 7 rfl (v := ?_) ?_ ?_
 rotate_left 1
 ·(intro wq hSw; (try dsimp only at hSw); go_simp; (try with_reducible rfl))
 try simp only [Act.put, pS]
 refine tkT 8 rfl (v := ?_) ?_ ?_
 rotate_left 1
 ·(intro wq hSw; (try dsimp only at hSw); go_simp; (try with_reducible rfl))
 try simp only [Act.put, pS]
 refine tkT 9 rfl (v := ?_) ?_ ?_
 rotate_left 1
 ·(intro wq hSw; (try dsimp only at hSw); go_simp; (try with_reducible rfl))
 try simp only [Act.put, pS]
 refine tkT 10 rfl (v := ?_) ?_ ?_
 rotate_left 1
 ·(intro wq hSw; (try dsimp only at hSw); go_simp; (try with_reducible rfl))
 try simp only [Act.put, pS]
 refine wpAnyH_ready (rs := [11]) (by kernel_rfl) (by simp) ?_
 refine (AllReadyH.cons rfl (fun K hK => ?_) AllReadyH.nil)
 go_simp
 refine (AD.out _ HB.out).mono ?_
 rintro e x9 ⟨rfl, rfl⟩
 refine hK.out _ _ ?_ (fun hHeld => ?_)
 ·first | exact HS | go_keep
 clear hK K
 try simp only [Act.put, pS]
 refine tkT 12 rfl (v := ?_) ?_ ?_
 rotate_left 1
 ·(intro wq hSw; (try dsimp only at hSw); go_simp; (try with_reducible rfl))
 try simp only [Act.put, pS]
 refine tkT 13 rfl (v := ?_) ?_ ?_
 rotate_left 1
 ·(intro wq hSw; (try dsimp only at hSw); go_simp; (try with_reducible rfl))
 try simp only [Act.put, pS]
 refine wpAnyH_done (by kernel_rfl) ?_ _
 skip
 clear hLD CK AD hHeld HS hBX x2
 have y5 := y5e.out _ HB.out
 have x1 : x4.cell? ⟨w.heap.size, 1, none⟩ = some (.int .i64 x.l.fr) := (HBX.out.below HB.out lb).cell 1
 have x6 : x4.cell? ⟨w.heap.size, 6, none⟩ = some (.int .u64 x.l.nu) := (HBX.out.below HB.out lb).cell 6
 have y2 : x4.cell? ⟨g, 2, none⟩ = some (.int .u64 (c.num : Int)) := (HA.out.below HB.out).box.cell 2
 obtain ⟨bz, hbz⟩ : ∃ bz : Bool, bz = (c.st == 1) := ⟨_, rfl⟩
 have BU : Hid (∀ W, Below W1.heap.size W1 W → Calls Tryz.prog 66 #[.pointer (some ⟨g, 0, none⟩)] W fun e w' => e = .returned (.bool bz) ∧ Below W.heap.size W w') := Lib.hid (fun W h9 => by
  rw [hbz]
  exact calBusy_any lo g G h vs c W (HA.out.below h9))
 have HBZ := Lib.hid hbz
 have ND := Lib.hid (node_any x.l.fr)
 clear hbz
 go_upto_region 4 with (fail)
 have HB0 : Hid (Below W1.heap.size W1 x4) := HB
 have HB : Hid (Below W1.heap.size W1 x4.drew) := Lib.hid HB0.out.drew
 refine wp_region_held_drew (S := fun wq => wq.cell? ⟨w.heap.size, 1, none⟩ = some (.int .i64 x.l.fr) ∧ wq.cell? ⟨w.heap.size, 6, none⟩ = some (.int .u64 x.l.nu) ∧ wq.cell? ⟨g, 2, none⟩ = some (.int .u64 (c.num : Int))) (by kernel_rfl) ⟨x1, x6, y2⟩ (fun hHeld => ?_)
 clear HB0
 generalize x4.drew = x4d at *
 by_cases hfr : 1 ≤ x.l.fr ∧ x.l.fr ≤ 24
 rotate_left
 ·skip
  refine tkT 0 rfl (v := ?_) ?_ ?_
  rotate_left 1
  ·(intro wq hSw; (try dsimp only at hSw); go_simp; (try with_reducible rfl))
  try simp only [Act.put, pS]
  refine tkT 1 rfl (v := ?_) ?_ ?_
  rotate_left 1
  ·(intro wq hSw; (try dsimp only at hSw); go_simp; (try with_reducible rfl))
  try simp only [Act.put, pS]
  refine wpAnyH_ready (rs := [2]) (by kernel_rfl) (by simp) ?_
  refine (AllReadyH.cons rfl (fun K hK => ?_) AllReadyH.nil)
  go_simp
  refine (ND.out _).mono ?_
  rintro e x9 ⟨rfl, rfl⟩
  rw [decide_eq_false hfr]
  have HS : x4d.cell? ⟨w.heap.size, 1, none⟩ = some (.int .i64 x.l.fr) ∧ x4d.cell? ⟨w.heap.size, 6, none⟩ = some (.int .u64 x.l.nu) ∧ x4d.cell? ⟨g, 2, none⟩ = some (.int .u64 (c.num : Int)) := hHeld
  refine hK.out _ _ ?_ (fun hHeld => ?_)
  ·first | exact HS | go_keep
  clear hK K
  try simp only [Act.put, pS]
  refine tkT 3 rfl (v := ?_) ?_ ?_
  rotate_left 1
  ·(intro wq hSw; (try dsimp only at hSw); go_simp; (try with_reducible rfl))
  try simp only [Act.put, pS]
  refine wpAnyH_take (i := 4) (v := undef) rfl (by kernel_rfl) (by kernel_rfl) (by kernel_rfl) (fun _ _ _ h => h) (Or.inr ⟨by rfl, rfl⟩) (by assumption) ?_
  try simp only [Act.put, pS]
  refine wpAnyH_take (i := 5) (v := undef) rfl (by kernel_rfl) (by kernel_rfl) (by kernel_rfl) (fun _ _ _ h => h) (Or.inr ⟨by rfl, rfl⟩) (by assumption) ?_
  try simp only [Act.put, pS]
  refine wpAnyH_take (i := 6) (v := undef) rfl (by kernel_rfl) (by kernel_rfl) (by kernel_rfl) (fun _ _ _ h => h) (Or.inr ⟨by rfl, rfl⟩) (by assumption) ?_
  try simp only [Act.put, pS]
  refine wpAnyH_take (i := 7) (v := undef) rfl (by kernel_rfl) (by kernel_rfl) (by kernel_rfl) (fun _ _ _ h => h) (Or.inr ⟨by rfl, rfl⟩) (by assumption) ?_
  try simp only [Act.put, pS]
  refine wpAnyH_take (i := 8) (v := undef) rfl (by kernel_rfl) (by kernel_rfl) (by kernel_rfl) (fun _ _ _ h => h) (Or.inr ⟨by rfl, rfl⟩) (by assumption) ?_
  try simp only [Act.put, pS]
  refine wpAnyH_take (i := 9) (v := undef) rfl (by kernel_rfl) (by kernel_rfl) (by kernel_rfl) (fun _ _ _ h => h) (Or.inr ⟨by rfl, rfl⟩) (by assumption) ?_
  try simp only [Act.put, pS]
  refine wpAnyH_take (i := 10) (v := undef) rfl (by kernel_rfl) (by kernel_rfl) (by kernel_rfl) (fun _ _ _ h => h) (Or.inr ⟨by rfl, rfl⟩) (by assumption) ?_
  try simp only [Act.put, pS]
  refine tkT 11 rfl (v := ?_) ?_ ?_
  rotate_left 1
  ·(intro wq hSw; (try dsimp only at hSw); go_simp; (try with_reducible rfl))
  try simp only [Act.put, pS]
  refine tkT 12 rfl (v := ?_) ?_ ?_
  rotate_left 1
  ·(intro wq hSw; (try dsimp only at hSw); go_simp; (try with_reducible rfl))
  try simp only [Act.put, pS]
  refine wpAnyH_take (i := 13) (v := undef) rfl (by kernel_rfl) (by kernel_rfl) (by kernel_rfl) (fun _ _ _ h => h) (Or.inr ⟨by rfl, rfl⟩) (by assumption) ?_
  try simp only [Act.put, pS]
  refine wpAnyH_take (i := 14) (v := undef) rfl (by kernel_rfl) (by kernel_rfl) (by kernel_rfl) (fun _ _ _ h => h) (Or.inr ⟨by rfl, rfl⟩) (by assumption) ?_
  try simp only [Act.put, pS]
  refine tkT 15 rfl (v := ?_) ?_ ?_
  rotate_left 1
  ·(intro wq hSw; (try dsimp only at hSw); go_simp; (try with_reducible rfl))
  try simp only [Act.put, pS]
  refine tkT 16 rfl (v := ?_) ?_ ?_
  rotate_left 1
  ·(intro wq hSw; (try dsimp only at hSw); go_simp; (try with_reducible rfl))
  try simp only [Act.put, pS]
  refine wpAnyH_done (by kernel_rfl) ?_ _
  skip
  clear hHeld HS
  exact rp87
 have HFR := Lib.hid hfr
 by_cases hnu : x.l.nu = (c.num : Int)
 rotate_left
 ·have q5 : (x.l.nu == (c.num : Int)) = false := by simp [hnu]
  clear hnu
  refine tkT 0 rfl (v := ?_) ?_ ?_
  rotate_left 1
  ·(intro wq hSw; (try dsimp only at hSw); go_simp; (try with_reducible rfl))
  try simp only [Act.put, pS]
  refine tkT 1 rfl (v := ?_) ?_ ?_
  rotate_left 1
  ·(intro wq hSw; (try dsimp only at hSw); go_simp; (try with_reducible rfl))
  try simp only [Act.put, pS]
  refine wpAnyH_ready (rs := [2]) (by kernel_rfl) (by simp) ?_
  refine (AllReadyH.cons rfl (fun K hK => ?_) AllReadyH.nil)
  go_simp
  refine (ND.out _).mono ?_
  rintro e x9 ⟨rfl, rfl⟩
  rw [decide_eq_true hfr]
  have HS : x4d.cell? ⟨w.heap.size, 1, none⟩ = some (.int .i64 x.l.fr) ∧ x4d.cell? ⟨w.heap.size, 6, none⟩ = some (.int .u64 x.l.nu) ∧ x4d.cell? ⟨g, 2, none⟩ = some (.int .u64 (c.num : Int)) := hHeld
  refine hK.out _ _ ?_ (fun hHeld => ?_)
  ·first | exact HS | go_keep
  clear hK K
  try simp only [Act.put, pS]
  refine tkT 3 rfl (v := ?_) ?_ ?_
  rotate_left 1
  ·(intro wq hSw; (try dsimp only at hSw); go_simp; (try with_reducible rfl))
  try simp only [Act.put, pS]
  refine tkT 4 rfl (v := ?_) ?_ ?_
  rotate_left 1
  ·(intro wq hSw; (try dsimp only at hSw); go_simp; (try with_reducible rfl))
  try simp only [Act.put, pS]
  refine tkT 5 rfl (v := ?_) ?_ ?_
  rotate_left 1
  ·(intro wq hSw; (try dsimp only at hSw); go_simp; (try with_reducible rfl))
  try simp only [Act.put, pS]
  refine tkT 6 rfl (v := ?_) ?_ ?_
  rotate_left 1
  ·(intro wq hSw; (try dsimp only at hSw); go_simp; (try with_reducible rfl))
  try simp only [Act.put, pS]
  refine tkT 7 rfl (v := ?_) ?_ ?_
  rotate_left 1
  ·(intro wq hSw; (try dsimp only at hSw); go_simp; (try with_reducible rfl))
  try simp only [Act.put, pS]
  refine tkT 8 rfl (v := ?_) ?_ ?_
  rotate_left 1
  ·(intro wq hSw; (try dsimp only at hSw); go_simp; (try with_reducible rfl))
  try simp only [Act.put, pS]
  refine tkT 9 rfl (v := ?_) ?_ ?_
  rotate_left 1
  ·(intro wq hSw; (try dsimp only at hSw); go_simp; (try with_reducible rfl))
  try simp only [Act.put, pS]
  refine tkT 10 rfl (v := ?_) ?_ ?_
  rotate_left 1
  ·(intro wq hSw; (try dsimp only at hSw); go_simp; (try with_reducible rfl))
  try simp only [Act.put, pS]
  refine tkT 11 rfl (v := ?_) ?_ ?_
  rotate_left 1
  ·(intro wq hSw; (try dsimp only at hSw); go_simp; (try with_reducible rfl))
  try simp only [Act.put, pS]
  refine tkT 12 rfl (v := ?_) ?_ ?_
  rotate_left 1
  ·(intro wq hSw; (try dsimp only at hSw); go_simp; (try with_reducible rfl))
  try simp only [Act.put, pS]
  refine wpAnyH_take (i := 13) (v := undef) rfl (by kernel_rfl) (by kernel_rfl) (by kernel_rfl) (fun _ _ _ h => h) (Or.inr ⟨by rfl, rfl⟩) (by assumption) ?_
  try simp only [Act.put, pS]
  refine wpAnyH_take (i := 14) (v := undef) rfl (by kernel_rfl) (by kernel_rfl) (by kernel_rfl) (fun _ _ _ h => h) (Or.inr ⟨by rfl, rfl⟩) (by assumption) ?_
  try simp only [Act.put, pS]
  refine tkT 15 rfl (v := ?_) ?_ ?_
  rotate_left 1
  ·(intro wq hSw; (try dsimp only at hSw); go_simp; (try with_reducible rfl))
  try simp only [Act.put, pS]
  refine tkT 16 rfl (v := ?_) ?_ ?_
  rotate_left 1
  ·(intro wq hSw; (try dsimp only at hSw); go_simp; (try with_reducible rfl))
  try simp only [Act.put, pS]
  refine wpAnyH_done (by kernel_rfl) ?_ _
  skip
  clear hHeld HS hfr
  exact rp87
 have HNU := Lib.hid hnu
 have q5 : (x.l.nu == (c.num : Int)) = true := by simp [hnu]
 clear hnu
 refine tkT 0 rfl (v := ?_) ?_ ?_
 rotate_left 1
 ·(intro wq hSw; (try dsimp only at hSw); go_simp; (try with_reducible rfl))
 try simp only [Act.put, pS]
 refine tkT 1 rfl (v := ?_) ?_ ?_
 rotate_left 1
 ·(intro wq hSw; (try dsimp only at hSw); go_simp; (try with_reducible rfl))
 try simp only [Act.put, pS]
 refine wpAnyH_ready (rs := [2]) (by kernel_rfl) (by simp) ?_
 refine (AllReadyH.cons rfl (fun K hK => ?_) AllReadyH.nil)
 go_simp
 refine (ND.out _).mono ?_
 rintro e x9 ⟨rfl, rfl⟩
 rw [decide_eq_true hfr]
 have HS : x4d.cell? ⟨w.heap.size, 1, none⟩ = some (.int .i64 x.l.fr) ∧ x4d.cell? ⟨w.heap.size, 6, none⟩ = some (.int .u64 x.l.nu) ∧ x4d.cell? ⟨g, 2, none⟩ = some (.int .u64 (c.num : Int)) := hHeld
 refine hK.out _ _ ?_ (fun hHeld => ?_)
 ·first | exact HS | go_keep
 clear hK K
 try simp only [Act.put, pS]
 refine tkT 3 rfl (v := ?_) ?_ ?_
 rotate_left 1
 ·(intro wq hSw; (try dsimp only at hSw); go_simp; (try with_reducible rfl))
 try simp only [Act.put, pS]
 refine tkT 4 rfl (v := ?_) ?_ ?_
 rotate_left 1
 ·(intro wq hSw; (try dsimp only at hSw); go_simp; (try with_reducible rfl))
 try simp only [Act.put, pS]
 refine tkT 5 rfl (v := ?_) ?_ ?_
 rotate_left 1
 ·(intro wq hSw; (try dsimp only at hSw); go_simp; (try with_reducible rfl))
 try simp only [Act.put, pS]
 refine tkT 6 rfl (v := ?_) ?_ ?_
 rotate_left 1
 ·(intro wq hSw; (try dsimp only at hSw); go_simp; (try with_reducible rfl))
 try simp only [Act.put, pS]
 refine tkT 7 rfl (v := ?_) ?_ ?_
 rotate_left 1
 ·(intro wq hSw; (try dsimp only at hSw); go_simp; (try with_reducible rfl))
 try simp only [Act.put, pS]
 refine tkT 8 rfl (v := ?_) ?_ ?_
 rotate_left 1
 ·(intro wq hSw; (try dsimp only at hSw); go_simp; (try with_reducible rfl))
 try simp only [Act.put, pS]
 refine tkT 9 rfl (v := ?_) ?_ ?_
 rotate_left 1
 ·(intro wq hSw; (try dsimp only at hSw); go_simp; (try with_reducible rfl))
 try simp only [Act.put, pS]
 refine tkT 10 rfl (v := ?_) ?_ ?_
 rotate_left 1
 ·(intro wq hSw; (try dsimp only at hSw); go_simp; (try with_reducible rfl))
 try simp only [Act.put, pS]
 refine tkT 11 rfl (v := ?_) ?_ ?_
 rotate_left 1
 ·(intro wq hSw; (try dsimp only at hSw); go_simp; (try with_reducible rfl))
 try simp only [Act.put, pS]
 refine tkT 12 rfl (v := ?_) ?_ ?_
 rotate_left 1
 ·(intro wq hSw; (try dsimp only at hSw); go_simp; (try with_reducible rfl))
 try simp only [Act.put, pS]
 refine tkT 13 rfl (v := ?_) ?_ ?_
 rotate_left 1
 ·(intro wq hSw; (try dsimp only at hSw); go_simp; (try with_reducible rfl))
 try simp only [Act.put, pS]
 refine wpAnyH_ready (rs := [14]) (by kernel_rfl) (by simp) ?_
 refine (AllReadyH.cons rfl (fun K hK => ?_) AllReadyH.nil)
 go_simp
 refine (BU.out _ HB.out).mono ?_
 rintro e x5 ⟨rfl, h9⟩
 replace HB := Lib.hid (HB.out.trans (h9.mono HB.out.size))
 clear h9
 have HS : x5.cell? ⟨w.heap.size, 1, none⟩ = some (.int .i64 x.l.fr) ∧ x5.cell? ⟨w.heap.size, 6, none⟩ = some (.int .u64 x.l.nu) ∧ x5.cell? ⟨g, 2, none⟩ = some (.int .u64 (c.num : Int)) := ⟨(HBX.out.below HB.out lb).cell 1, (HBX.out.below HB.out lb).cell 6, (HA.out.below HB.out).box.cell 2⟩
 refine hK.out _ _ ?_ (fun hHeld => ?_)
 ·first | exact HS | go_keep
 clear hK K
 try simp only [Act.put, pS]
 refine tkT 15 rfl (v := ?_) ?_ ?_
 rotate_left 1
 ·(intro wq hSw; (try dsimp only at hSw); go_simp; (try with_reducible rfl))
 try simp only [Act.put, pS]
 refine tkT 16 rfl (v := ?_) ?_ ?_
 rotate_left 1
 ·(intro wq hSw; (try dsimp only at hSw); go_simp; (try with_reducible rfl))
 try simp only [Act.put, pS]
 refine wpAnyH_done (by kernel_rfl) ?_ _
 skip
 clear hHeld HS hfr
 have HBX5 := Lib.hid (HBX.out.below HB.out lb)
 have HA5 := Lib.hid (HA.out.below HB.out)
 have HB5 := Lib.hid (HBW.out.trans (HB.out.mono hs1))
 clear HBX HA HX HB HBW y5e x1 x6 y2 y5 BU ND
 have x0 : x5.cell? ⟨w.heap.size, 0, none⟩ = some (.int .i64 x.l.kd) := HBX5.out.cell 0
 have x11 : x5.cell? ⟨w.heap.size, 11, none⟩ = some (.int .u32 x.l.ky) := HBX5.out.cell 11
 have y6 : x5.cell? ⟨g, 6, none⟩ = some (.int .u32 c.op.key) := HA5.out.box.cell 6
 cases bz
 ·exact rp24
 ·have hno : ¬ ((x.l.kd = 18 ∧ c.op.kd ≠ 1) ∨ (x.l.kd = 20 ∧ c.op.kd = 1 ∧ x.l.ky = c.op.key)) := fun e => HNM.out ⟨by have := HBZ.out; simpa using this.symm, HFR.out, HNU.out, e⟩
  by_cases h18 : x.l.kd = 18
  ·have k1 : (x.l.kd == 11) = false := by simp [h18]
   have k2 : (x.l.kd == 18) = true := by simp [h18]
   have k3 : (x.l.kd == 20) = false := by simp [h18]
   have hr : rd = true := by rw [HRD.out]; simp; exact Decidable.byContradiction (fun e => hno (.inl ⟨h18, e⟩))
   subst hr
   clear h18 hno
   go_wp2_with (fail)
   go_ret
   exact ⟨rfl, HA5.out, HB5.out⟩
  by_cases h20 : x.l.kd = 20
  ·have k1 : (x.l.kd == 11) = false := by simp [h20]
   have k2 : (x.l.kd == 18) = false := by simp [h20]
   have k3 : (x.l.kd == 20) = true := by simp [h20]
   cases hr : rd
   ·clear h18 h20 hno
    go_upto_region 13 with (fail)
    go_quiet (fail)
    go_wp2_with (fail)
    go_ret
    exact ⟨rfl, HA5.out.below (below_drewN (Below.refl _ _) _), below_drewN HB5.out _⟩
   ·have k4 : (x.l.ky == c.op.key) = false := by
     simp
     intro e
     have := HRD.out
     rw [hr] at this
     exact hno (.inr ⟨h20, by simpa using this.symm, e⟩)
    clear h18 h20 hno
    go_upto_region 13 with (fail)
    go_quiet (fail)
    go_wp2_with (fail)
    go_ret
    exact ⟨rfl, HA5.out.below (below_drewN (Below.refl _ _) _), below_drewN HB5.out _⟩
  have k1 : (x.l.kd == 11) = false := by simp [HK11.out]
  have k2 : (x.l.kd == 18) = false := by simp [h18]
  have k3 : (x.l.kd == 20) = false := by simp [h20]
  clear h18 h20 hno
  go_wp2_with (fail)
  go_ret
  exact ⟨rfl, HA5.out, HB5.out⟩
end Go.Proofs.YtmpedblelnpjdaaGreatDoor
