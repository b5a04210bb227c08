import Derived.Test.YtmpedblelnpjdaaGreatDoorZDcE
import Derived.Test.YtmpedblelnpjdaaGreatDoorZTq
import Derived.Test.YtmpedblelnpjdaaGreatDoorZRckH
import Derived.Test.YtmpedblelnpjdaaGreatDoorZCalT
import Derived.Test.YtmpedblelnpjdaaGreatDoorZTk
import Derived.Test.YtmpedblelnpjdaaGreatDoorZCalC
section
/- The document's caller: Take of what is not for it. -/
namespace Go.Proofs.YtmpedblelnpjdaaGreatDoor
open Go.RowKit
set_option linter.unusedSimpArgs false
set_option linter.unusedVariables false
set_option maxHeartbeats 1000000
set_option maxRecDepth 100000
def Mine (c : Cl) (x : LV) : Prop := c.st = 1 ∧ (1 ≤ x.l.fr ∧ x.l.fr ≤ 24) ∧ x.l.nu = (c.num : Int) ∧ ((x.l.kd = 18 ∧ c.op.kd ≠ 1) ∨ (x.l.kd = 20 ∧ c.op.kd = 1 ∧ x.l.ky = c.op.key))
def ForIt (c : Cl) (x : LV) : Prop := chkX x = 0 ∧ x.l.tw = ((200 + c.cl : Nat) : Int)
def DSameP (c : Cl) (d : DA) (w : World) (e : Ending) (w' : World) : Prop := Below w.heap.size w w' ∧ e = .returned (.tuple #[.agg (c.dcells d), .slice none 0 0])
theorem dTake_no (c : Cl) (d : DA) (x : LV) (B : Nat) (w : World) (hx : LIn w B x) (hB : B ≤ w.heap.size) (hnx : x.near) (hcl : c.cl ≤ 6) (hfi : ¬ ForIt c x) :
  Calls Tryz.prog 26 #[.agg (c.dcells d), .agg x.l.cells] w (DSameP c d w) := by
 obtain ⟨W1, hW1⟩ : ∃ W1, W1 = ((w.alloc (.cells (c.dcells d) 62)).alloc (.cells x.l.cells 37)).alloc (.cells #[.int .i64 0, .int .i64 0, .int .u64 0, .int .i64 0, .slice none 0 0, .int .i64 0, .int .u32 0, .int .u64 0, .slice none 0 0, .int .i64 0, .int .i64 0, .int .i64 0, .int .u64 0, .slice none 0 0, .int .u64 0, .int .i64 0, .int .u64 0, .slice none 0 0] 62) := ⟨_, rfl⟩
 have HX : Hid (Blk W1 w.heap.size 62 (c.dcells d)) := Lib.hid (by rw [hW1]; exact ((Blk.new _ _ _).alloc _).alloc _)
 have HL : Hid (Blk W1 (w.heap.size + 1) 37 x.l.cells) := Lib.hid (by rw [hW1, show w.heap.size + 1 = (w.alloc (.cells (c.dcells d) 62)).heap.size by simp]; exact (Blk.new _ _ _).alloc _)
 have HR : Hid (Blk W1 (w.heap.size + 2) 62 #[.int .i64 0, .int .i64 0, .int .u64 0, .int .i64 0, .slice none 0 0, .int .i64 0, .int .u32 0, .int .u64 0, .slice none 0 0, .int .i64 0, .int .i64 0, .int .i64 0, .int .u64 0, .slice none 0 0, .int .u64 0, .int .i64 0, .int .u64 0, .slice none 0 0]) := Lib.hid (by rw [hW1, show w.heap.size + 2 = ((w.alloc (.cells (c.dcells d) 62)).alloc (.cells x.l.cells 37)).heap.size by simp]; exact Blk.new _ _ _)
 have HB : Hid (Below w.heap.size w W1) := Lib.hid (by rw [hW1]; exact (((Below.refl _ _).alloc (Nat.le_refl _) _).alloc (by simp) _).alloc (by simp <;> omega) _)
 have HW1 := Lib.hid hW1
 obtain ⟨ck, hck⟩ : ∃ ck, ck = chkX x := ⟨_, rfl⟩
 have CK : Hid (Calls Tryz.prog 15 #[.agg x.l.cells] W1 fun e w' => e = .returned (.int .i64 ck) ∧ Below W1.heap.size W1 w') := Lib.hid (by
  rw [hck]
  exact refCheck10_any x B W1 (hx.below (HB.out.mono hB)) (Nat.le_trans hB HB.out.size) hnx)
 have HCK := Lib.hid hck
 have x2 : W1.cell? ⟨w.heap.size + 1, 2, none⟩ = some (.int .i64 x.l.tw) := HL.out.cell 2
 have HFI := Lib.hid hfi
 clear hW1 hck hfi
 go_enter Tryz.func26, Tryz.ntmps26
 go_upto_region 1 with (fail)
 have e0 := HW1.out
 simp only [Lt.cells] at e0
 first | rw [← e0] | rw [← HW1.out]
 clear e0 HW1
 iterate 1 go_step
 refine wpList_load_row rfl 37 (.tmp 3) rfl (w.heap.size + 1) rfl 37 x.l.cells (0, 0) _ HL.out Tryz.underlying37 rfl ltInfo ?_
 go_wp2_with (fail)
 refine CK.out.mono ?_
 rintro e w2 ⟨rfl, hb2⟩
 have HX2 := Lib.hid (HX.out.below hb2 HX.out.lt)
 have HL2 := Lib.hid (HL.out.below hb2 HL.out.lt)
 have HR2 := Lib.hid (HR.out.below hb2 HR.out.lt)
 have HB2 := Lib.hid (HB.out.trans (hb2.mono HB.out.size))
 clear hb2 CK HX HL HR HB x2
 have x2 : w2.cell? ⟨w.heap.size + 1, 2, none⟩ = some (.int .i64 x.l.tw) := HL2.out.cell 2
 have y0 : w2.cell? ⟨w.heap.size, 0, none⟩ = some (.int .i64 c.cl) := HX2.out.cell 0
 have e2 : IntKind.i64.wrap (200 + (c.cl : Int)) = 200 + (c.cl : Int) := by rw [IntKind.wrap_i64]; omega
 by_cases hz : ck = 0
 rotate_left
 ·have q1 : (ck != 0) = true := by simp [hz]
  exact rp85
 have q1 : (ck != 0) = false := by simp [hz]
 have q2 : (x.l.tw != 200 + (c.cl : Int)) = true := by
  simp only [bne_iff_ne, ne_eq]
  intro e
  exact HFI.out ⟨by rw [← HCK.out]; exact hz, by rw [e]; simp⟩
 exact rp85
theorem dTake_other (c : Cl) (d : DA) (x : LV) (B : Nat) (w : World) (hx : LIn w B x) (hB : B ≤ w.heap.size) (hnx : x.near) (hcl : c.cl ≤ 6) (hfi : ForIt c x) (hk11 : x.l.kd ≠ 11) (hnm : ¬ Mine c x) :
  Calls Tryz.prog 26 #[.agg (c.dcells d), .agg x.l.cells] w (DSameP c d w) := by
 obtain ⟨W1, hW1⟩ : ∃ W1, W1 = ((w.alloc (.cells (c.dcells d) 62)).alloc (.cells x.l.cells 37)).alloc (.cells #[.int .i64 0, .int .i64 0, .int .u64 0, .int .i64 0, .slice none 0 0, .int .i64 0, .int .u32 0, .int .u64 0, .slice none 0 0, .int .i64 0, .int .i64 0, .int .i64 0, .int .u64 0, .slice none 0 0, .int .u64 0, .int .i64 0, .int .u64 0, .slice none 0 0] 62) := ⟨_, rfl⟩
 have HX : Hid (Blk W1 w.heap.size 62 (c.dcells d)) := Lib.hid (by rw [hW1]; exact ((Blk.new _ _ _).alloc _).alloc _)
 have HL : Hid (Blk W1 (w.heap.size + 1) 37 x.l.cells) := Lib.hid (by rw [hW1, show w.heap.size + 1 = (w.alloc (.cells (c.dcells d) 62)).heap.size by simp]; exact (Blk.new _ _ _).alloc _)
 have HR : Hid (Blk W1 (w.heap.size + 2) 62 #[.int .i64 0, .int .i64 0, .int .u64 0, .int .i64 0, .slice none 0 0, .int .i64 0, .int .u32 0, .int .u64 0, .slice none 0 0, .int .i64 0, .int .i64 0, .int .i64 0, .int .u64 0, .slice none 0 0, .int .u64 0, .int .i64 0, .int .u64 0, .slice none 0 0]) := Lib.hid (by rw [hW1, show w.heap.size + 2 = ((w.alloc (.cells (c.dcells d) 62)).alloc (.cells x.l.cells 37)).heap.size by simp]; exact Blk.new _ _ _)
 have HB : Hid (Below w.heap.size w W1) := Lib.hid (by rw [hW1]; exact (((Below.refl _ _).alloc (Nat.le_refl _) _).alloc (by simp) _).alloc (by simp <;> omega) _)
 have HW1 := Lib.hid hW1
 obtain ⟨ck, hck⟩ : ∃ ck, ck = chkX x := ⟨_, rfl⟩
 have CK : Hid (Calls Tryz.prog 15 #[.agg x.l.cells] W1 fun e w' => e = .returned (.int .i64 ck) ∧ Below W1.heap.size W1 w') := Lib.hid (by
  rw [hck]
  exact refCheck10_any x B W1 (hx.below (HB.out.mono hB)) (Nat.le_trans hB HB.out.size) hnx)
 have HCK := Lib.hid hck
 have x2 : W1.cell? ⟨w.heap.size + 1, 2, none⟩ = some (.int .i64 x.l.tw) := HL.out.cell 2
 have HFI := Lib.hid hfi
 have HNM := Lib.hid hnm
 have HK11 := Lib.hid hk11
 have ND := Lib.hid (rkNode_any x.l.fr)
 clear hnm
 clear hW1 hck hfi
 go_enter Tryz.func26, Tryz.ntmps26
 go_upto_region 1 with (fail)
 have e0 := HW1.out
 simp only [Lt.cells] at e0
 first | rw [← e0] | rw [← HW1.out]
 clear e0 HW1
 iterate 1 go_step
 refine wpList_load_row rfl 37 (.tmp 3) rfl (w.heap.size + 1) rfl 37 x.l.cells (0, 0) _ HL.out Tryz.underlying37 rfl ltInfo ?_
 go_wp2_with (fail)
 refine CK.out.mono ?_
 rintro e w2 ⟨rfl, hb2⟩
 have HX2 := Lib.hid (HX.out.below hb2 HX.out.lt)
 have HL2 := Lib.hid (HL.out.below hb2 HL.out.lt)
 have HR2 := Lib.hid (HR.out.below hb2 HR.out.lt)
 have HB2 := Lib.hid (HB.out.trans (hb2.mono HB.out.size))
 clear hb2 CK HX HL HR HB x2
 have x2 : w2.cell? ⟨w.heap.size + 1, 2, none⟩ = some (.int .i64 x.l.tw) := HL2.out.cell 2
 have y0 : w2.cell? ⟨w.heap.size, 0, none⟩ = some (.int .i64 c.cl) := HX2.out.cell 0
 have e2 : IntKind.i64.wrap (200 + (c.cl : Int)) = 200 + (c.cl : Int) := by rw [IntKind.wrap_i64]; omega
 have q1 : (ck != 0) = false := by rw [HCK.out, HFI.out.1]; rfl
 have q2 : (x.l.tw != 200 + (c.cl : Int)) = false := by rw [HFI.out.2]; simp
 have x0 : w2.cell? ⟨w.heap.size + 1, 0, none⟩ = some (.int .i64 x.l.kd) := HL2.out.cell 0
 have q3 : (x.l.kd == 11) = false := by simp [hk11]
 clear hk11
 have x1 : w2.cell? ⟨w.heap.size + 1, 1, none⟩ = some (.int .i64 x.l.fr) := HL2.out.cell 1
 have x6 : w2.cell? ⟨w.heap.size + 1, 6, none⟩ = some (.int .u64 x.l.nu) := HL2.out.cell 6
 have x11 : w2.cell? ⟨w.heap.size + 1, 11, none⟩ = some (.int .u32 x.l.ky) := HL2.out.cell 11
 have y2 : w2.cell? ⟨w.heap.size, 2, none⟩ = some (.int .u64 c.num) := HX2.out.cell 2
 have y5 : w2.cell? ⟨w.heap.size, 5, none⟩ = some (.int .i64 c.op.kd) := HX2.out.cell 5
 have y6 : w2.cell? ⟨w.heap.size, 6, none⟩ = some (.int .u32 c.op.key) := HX2.out.cell 6
 have y10 : w2.cell? ⟨w.heap.size, 10, none⟩ = some (.int .i64 c.st) := HX2.out.cell 10
 by_cases hst : c.st = 1
 rotate_left
 ·have q4 : ((c.st : Int) != 1) = true := by simp; omega
  clear hst
  exact rp80
 have q4 : ((c.st : Int) != 1) = false := by simp; omega
 have HST := Lib.hid hst
 clear hst
 go_wp2_with (fail)
 refine (ND.out _).mono ?_
 rintro e w3' ⟨rfl, rfl⟩
 by_cases hfr : 1 ≤ x.l.fr ∧ x.l.fr ≤ 24
 rotate_left
 ·rw [decide_eq_false hfr]
  clear hfr
  exact rp80
 rw [decide_eq_true hfr]
 have HFR := Lib.hid hfr
 clear hfr
 by_cases hnu : x.l.nu = (c.num : Int)
 rotate_left
 ·have q5 : (x.l.nu != (c.num : Int)) = true := by simp [hnu]
  clear hnu
  exact rp80
 have q5 : (x.l.nu != (c.num : Int)) = false := by simp [hnu]
 have HNU := Lib.hid hnu
 clear hnu
 have hno : ¬ ((x.l.kd = 18 ∧ c.op.kd ≠ 1) ∨ (x.l.kd = 20 ∧ c.op.kd = 1 ∧ x.l.ky = c.op.key)) := fun e => HNM.out ⟨HST.out, HFR.out, HNU.out, e⟩
 by_cases h18 : x.l.kd = 18
 ·have q6 : (x.l.kd == 18) = true := by simp [h18]
  have q7 : (c.op.kd != 1) = false := by simp; exact Decidable.byContradiction (fun e => hno (.inl ⟨h18, e⟩))
  have q8 : (x.l.kd == 20) = false := by simp [h18]
  clear hno h18
  exact rp79
 have q6 : (x.l.kd == 18) = false := by simp [h18]
 by_cases h20 : x.l.kd = 20
 rotate_left
 ·have q8 : (x.l.kd == 20) = false := by simp [h20]
  clear hno h18 h20
  exact rp79
 have q8 : (x.l.kd == 20) = true := by simp [h20]
 by_cases hop : c.op.kd = 1
 rotate_left
 ·have q7 : (c.op.kd == 1) = false := by simp [hop]
  clear hno h18 h20 hop
  exact rp79
 have q7 : (c.op.kd == 1) = true := by simp [hop]
 have q9 : (x.l.ky == c.op.key) = false := by simp; exact fun e => hno (.inr ⟨h20, hop, e⟩)
 clear hno h18 h20 hop
 exact rp79
end Go.Proofs.YtmpedblelnpjdaaGreatDoor

end
section
/- A caller: answer. -/
namespace Go.Proofs.YtmpedblelnpjdaaGreatDoor
open Go.RowKit
set_option linter.unusedSimpArgs false
set_option linter.unusedVariables false
set_option maxHeartbeats 8000000
set_option maxRecDepth 100000
def Cl.answered (c : Cl) (r : Rp) (rb : List Int) : Cl := ⟨c.cl, c.ms, c.num, c.tk, c.op, 2, r, rb, c.num, r, rb⟩
theorem calAnswer_any (lo g G h : Nat) (vs : List (Int × Int × List Int × Bool × Int)) (c : Cl) (r : Rp) (rb : List Int) (w : World) (a : CalAt w lo g G h vs c) (hlo : lo ≤ w.heap.size) (hst : c.st = 1) (hr : OwnB w lo r.A r.n r.c rb) :
  Calls Tryz.prog 80 #[.pointer (some ⟨g, 0, none⟩), .agg #[.int .i64 r.cd, .int .u64 r.vr, .slice r.A r.n r.c]] w fun e w' => e = .returned (.tuple #[]) ∧ CalAt w' lo g G h vs (c.answered r rb) ∧ Chg w w' (fun i => i = g ∨ i = h) := by
 obtain ⟨W1, hW1⟩ : ∃ W1, W1 = w.alloc (.cells r.cells 60) := ⟨_, rfl⟩
 have hb1 : Blk W1 w.heap.size 60 r.cells := by rw [hW1]; exact Blk.new _ _ _
 have HBW : Hid (Below w.heap.size w W1) := Lib.hid (by rw [hW1]; exact (Below.refl _ _).alloc (Nat.le_refl _) _)
 have HA : Hid (CalAt W1 lo g G h vs c) := Lib.hid (a.below HBW.out)
 have HR := Lib.hid (hr.below HBW.out)
 have HW1 := Lib.hid hW1
 have HBX := Lib.hid hb1
 have lg := a.box.lt
 have nb : g ≠ w.heap.size := by omega
 have nb' : w.heap.size ≠ g := by omega
 obtain ⟨hlh, hlat⟩ := HA.out.lat (by omega)
 rw [show (c.st == 2) = false by rw [hst]; rfl] at hlat
 have lh : h < w.heap.size := by
  have := (a.lat (by omega)).2
  exact Blk.lt this
 have HLT := Lib.hid hlat
 have ngh : g ≠ h := fun e => Blk.ne_ HA.out.box hlat (by decide) e
 have ST := Lib.hid (fun W (h9 : Below W1.heap.size W1 W) => setRp_any h false c.rp r W (Blk.below hlat h9 (Blk.lt hlat)))
 obtain ⟨x0, x1, x2⟩ := cells3 (show Blk W1 w.heap.size 60 #[.int .i64 r.cd, .int .u64 r.vr, .slice r.A r.n r.c] from hb1)
 have lx := hb1.lt
 have y10 : W1.cell? ⟨g, 10, none⟩ = some (.pointer (some ⟨h, 0, none⟩)) := (HA.out.box.cell 10).trans (by unfold Cl.cells Cl.ptr; rw [hst]; rfl)
 have HST := Lib.hid hst
 clear hW1 hb1 a hr hst hlat
 go_enter Tryz.func80, Tryz.ntmps80
 go_upto_region 1 with (fail)
 rw [show w.alloc (.cells #[.int .i64 r.cd, .int .u64 r.vr, .slice r.A r.n r.c] 60) = W1 from HW1.out.symm]
 clear HW1
 refine wp_region_held_drew (S := fun wq => wq.cell? ⟨g, 10, none⟩ = some (.pointer (some ⟨h, 0, none⟩)) ∧ wq.cell? ⟨w.heap.size, 0, none⟩ = some (.int .i64 r.cd) ∧ wq.cell? ⟨w.heap.size, 1, none⟩ = some (.int .u64 r.vr) ∧ wq.cell? ⟨w.heap.size, 2, none⟩ = some (.slice r.A r.n r.c)) (by kernel_rfl) ⟨y10, x0, x1, x2⟩ (fun hHeld => ?_)
 have HBd : Hid (Below W1.heap.size W1 W1.drew) := Lib.hid (Below.refl _ _).drew
 refine tkT 0 rfl (v := ?_) ?_ ?_
 rotate_left 1
 ·(intro wq hSw; (try dsimp only at hSw); go_simp; (try with_reducible rfl))
 refine tkT 1 rfl (v := ?_) ?_ ?_
 rotate_left 1
 ·(intro wq hSw; (try dsimp only at hSw); go_simp; (try with_reducible rfl))
 refine tkT 2 rfl (v := ?_) ?_ ?_
 rotate_left 1
 ·(intro wq hSw; (try dsimp only at hSw); go_simp; (try with_reducible rfl))
 refine tkT 3 rfl (v := ?_) ?_ ?_
 rotate_left 1
 ·(intro wq hSw; (try dsimp only at hSw); go_simp; (try with_reducible rfl))
 refine tkT 4 rfl (v := ?_) ?_ ?_
 rotate_left 1
 ·(intro wq hSw; (try dsimp only at hSw); go_simp; (try with_reducible rfl))
 try simp only [Act.put, List.setIfInBounds_toArray, List.set_cons_zero, List.set_cons_succ, List.getElem_toArray, List.getElem_cons_zero, List.getElem_cons_succ]
 refine wpAnyH_ready (rs := [5]) (by kernel_rfl) (by simp) ?_
 refine (AllReadyH.cons rfl (fun K hK => ?_) AllReadyH.nil)
 go_simp
 refine (ST.out _ HBd.out).mono ?_
 rintro e w2 ⟨rfl, hl2, hc2⟩
 have hC2 : Hid (Chg W1 w2 (fun i => i = h)) := Lib.hid ((Chg.of_below HBd.out _).trans hc2 (fun _ _ e => e))
 have HL2 := Lib.hid hl2
 replace y10 : w2.cell? ⟨g, 10, none⟩ = some (.pointer (some ⟨h, 0, none⟩)) := (hC2.out.cell (p := ⟨g, 10, none⟩) HA.out.box.lt ngh).trans y10
 have nxh : w.heap.size ≠ h := by omega
 have HX2 := Lib.hid (hC2.out.blk HBX.out nxh)
 obtain ⟨z0, z1, z2⟩ := cells3 (show Blk w2 w.heap.size 60 #[.int .i64 r.cd, .int .u64 r.vr, .slice r.A r.n r.c] from HX2.out)
 have HS : w2.cell? ⟨g, 10, none⟩ = some (.pointer (some ⟨h, 0, none⟩)) ∧ w2.cell? ⟨w.heap.size, 0, none⟩ = some (.int .i64 r.cd) ∧ w2.cell? ⟨w.heap.size, 1, none⟩ = some (.int .u64 r.vr) ∧ w2.cell? ⟨w.heap.size, 2, none⟩ = some (.slice r.A r.n r.c) := ⟨y10, z0, z1, z2⟩
 clear hl2 hc2 x0 x1 x2
 refine hK.out _ _ ?_ (fun hHeld => ?_)
 ·first | exact HS | go_keep
 clear hK K
 try simp only [Act.put, List.setIfInBounds_toArray, List.set_cons_zero, List.set_cons_succ, List.getElem_toArray, List.getElem_cons_zero, List.getElem_cons_succ]
 refine wpAnyH_done (by kernel_rfl) ?_ _
 skip
 clear ST HBd y10 hHeld HS
 have ngh' : h ≠ g := Ne.symm ngh
 have y2 : w2.cell? ⟨g, 2, none⟩ = some (.int .u64 c.num) := (hC2.out.cell (p := ⟨g, 2, none⟩) HA.out.box.lt ngh).trans (HA.out.box.cell 2)
 have HG2 : Hid (Blk w2 g 156 (c.cells G h)) := Lib.hid (hC2.out.blk HA.out.box ngh)
 have lg2 := HG2.out.lt
 have lx2 := HX2.out.lt
 go_upto_region 2 with (fail)
 refine wp_region_held_drew (S := fun wq => wq.cell? ⟨g, 2, none⟩ = some (.int .u64 c.num) ∧ wq.cell? ⟨w.heap.size, 0, none⟩ = some (.int .i64 r.cd) ∧ wq.cell? ⟨w.heap.size, 1, none⟩ = some (.int .u64 r.vr) ∧ wq.cell? ⟨w.heap.size, 2, none⟩ = some (.slice r.A r.n r.c)) (by kernel_rfl) ⟨y2, z0, z1, z2⟩ (fun hHeld => ?_)
 have GG : Hid (Blk w2.drew g 156 (c.cells G h)) := Lib.hid HG2.out.drew
 have GX : Hid (Blk w2.drew w.heap.size 60 r.cells) := Lib.hid HX2.out.drew
 have HCd : Hid (Chg w2 w2.drew (fun i => i = g)) := Lib.hid (Chg.of_below (Below.refl _ _).drew _)
 generalize w2.drew = Wd at *
 refine tkT 0 rfl (v := ?_) ?_ ?_
 rotate_left 1
 ·(intro wq hSw; (try dsimp only at hSw); go_simp; (try with_reducible rfl))
 refine tkT 1 rfl (v := ?_) ?_ ?_
 rotate_left 1
 ·(intro wq hSw; (try dsimp only at hSw); go_simp; (try with_reducible rfl))
 refine tkT 2 rfl (v := ?_) ?_ ?_
 rotate_left 1
 ·(intro wq hSw; (try dsimp only at hSw); go_simp; (try with_reducible rfl))
 refine tkT 3 rfl (v := ?_) ?_ ?_
 rotate_left 1
 ·(intro wq hSw; (try dsimp only at hSw); go_simp; (try with_reducible rfl))
 refine tkT 4 rfl (v := ?_) ?_ ?_
 rotate_left 1
 ·(intro wq hSw; (try dsimp only at hSw); go_simp; (try with_reducible rfl))
 refine tkT 5 rfl (v := ?_) ?_ ?_
 rotate_left 1
 ·(intro wq hSw; (try dsimp only at hSw); go_simp; (try with_reducible rfl))
 refine tkT 6 rfl (v := ?_) ?_ ?_
 rotate_left 1
 ·(intro wq hSw; (try dsimp only at hSw); go_simp; (try with_reducible rfl))
 refine tkT 7 rfl (v := ?_) ?_ ?_
 rotate_left 1
 ·(intro wq hSw; (try dsimp only at hSw); go_simp; (try with_reducible rfl))
 refine tkT 8 rfl (v := ?_) ?_ ?_
 rotate_left 1
 ·(intro wq hSw; (try dsimp only at hSw); go_simp; (try with_reducible rfl))
 try simp only [Act.put, List.setIfInBounds_toArray, List.set_cons_zero, List.set_cons_succ, List.getElem_toArray, List.getElem_cons_zero, List.getElem_cons_succ]
 refine wpAnyH_ready (rs := [9]) (by kernel_rfl) (by simp) ?_
 refine (AllReadyH.cons rfl (fun K hK => ?_) AllReadyH.nil)
 have s0 : Wd.cell? ⟨g, 11, none⟩ = some (.int .u64 c.last) := GG.out.cell 11
 have f0 := GG.out.frozen 11
 go_simp
 clear s0 f0
 replace GG := Lib.hid (GG.out.set_ 11 (.int .u64 (c.num : Int)))
 replace GX := Lib.hid (GX.out.far (p := ⟨g, 11, none⟩) nb' (.int .u64 (c.num : Int)))
 have HC9 : Hid (Chg w2 (Wd.setCell ⟨g, 11, none⟩ (.int .u64 (c.num : Int))) (fun i => i = g)) := Lib.hid (HCd.out.trans (chg_one _ ⟨g, 11, none⟩ _) (fun _ _ e => e))
 have HS : (Wd.setCell ⟨g, 11, none⟩ (.int .u64 (c.num : Int))).cell? ⟨g, 2, none⟩ = some (.int .u64 c.num) ∧ (Wd.setCell ⟨g, 11, none⟩ (.int .u64 (c.num : Int))).cell? ⟨w.heap.size, 0, none⟩ = some (.int .i64 r.cd) ∧ (Wd.setCell ⟨g, 11, none⟩ (.int .u64 (c.num : Int))).cell? ⟨w.heap.size, 1, none⟩ = some (.int .u64 r.vr) ∧ (Wd.setCell ⟨g, 11, none⟩ (.int .u64 (c.num : Int))).cell? ⟨w.heap.size, 2, none⟩ = some (.slice r.A r.n r.c) := ⟨GG.out.cell 2, GX.out.cell 0, GX.out.cell 1, GX.out.cell 2⟩
 refine hK.out _ _ ?_ (fun hHeld => ?_)
 ·first | exact HS | go_keep
 clear hK K
 try simp only [Act.put, List.setIfInBounds_toArray, List.set_cons_zero, List.set_cons_succ, List.getElem_toArray, List.getElem_cons_zero, List.getElem_cons_succ]
 refine tkT 10 rfl (v := ?_) ?_ ?_
 rotate_left 1
 ·(intro wq hSw; (try dsimp only at hSw); go_simp; (try with_reducible rfl))
 refine tkT 11 rfl (v := ?_) ?_ ?_
 rotate_left 1
 ·(intro wq hSw; (try dsimp only at hSw); go_simp; (try with_reducible rfl))
 try simp only [Act.put, List.setIfInBounds_toArray, List.set_cons_zero, List.set_cons_succ, List.getElem_toArray, List.getElem_cons_zero, List.getElem_cons_succ]
 refine wpAnyH_ready (rs := [12]) (by kernel_rfl) (by simp) ?_
 refine (AllReadyH.cons rfl (fun K hK => ?_) AllReadyH.nil)
 have s0 : (Wd.setCell ⟨g, 11, none⟩ (.int .u64 (c.num : Int))).cell? ⟨g, 12, none⟩ = some (.int .i64 c.ly.cd) := GG.out.cell 12
 have s1 : (Wd.setCell ⟨g, 11, none⟩ (.int .u64 (c.num : Int))).cell? ⟨g, 13, none⟩ = some (.int .u64 c.ly.vr) := GG.out.cell 13
 have s2 : (Wd.setCell ⟨g, 11, none⟩ (.int .u64 (c.num : Int))).cell? ⟨g, 14, none⟩ = some (.slice c.ly.A c.ly.n c.ly.c) := GG.out.cell 14
 have f0 := GG.out.frozen 12
 have f1 := GG.out.frozen 13
 have f2 := GG.out.frozen 14
 go_simp
 clear s0 s1 s2 f0 f1 f2
 replace GG := Lib.hid (((GG.out.set_ 12 (.int .i64 r.cd)).set_ 13 (.int .u64 r.vr)).set_ 14 (.slice r.A r.n r.c))
 replace GX := Lib.hid (((GX.out.far (p := ⟨g, 12, none⟩) nb' (.int .i64 r.cd)).far (p := ⟨g, 13, none⟩) nb' (.int .u64 r.vr)).far (p := ⟨g, 14, none⟩) nb' (.slice r.A r.n r.c))
 have HC12 : Hid (Chg w2 ((((Wd.setCell ⟨g, 11, none⟩ (.int .u64 (c.num : Int))).setCell ⟨g, 12, none⟩ (.int .i64 r.cd)).setCell ⟨g, 13, none⟩ (.int .u64 r.vr)).setCell ⟨g, 14, none⟩ (.slice r.A r.n r.c)) (fun i => i = g)) := Lib.hid (((HC9.out.trans (chg_one _ ⟨g, 12, none⟩ _) (fun _ _ e => e)).trans (chg_one _ ⟨g, 13, none⟩ _) (fun _ _ e => e)).trans (chg_one _ ⟨g, 14, none⟩ _) (fun _ _ e => e))
 have HS : ((((Wd.setCell ⟨g, 11, none⟩ (.int .u64 (c.num : Int))).setCell ⟨g, 12, none⟩ (.int .i64 r.cd)).setCell ⟨g, 13, none⟩ (.int .u64 r.vr)).setCell ⟨g, 14, none⟩ (.slice r.A r.n r.c)).cell? ⟨g, 2, none⟩ = some (.int .u64 c.num) ∧ ((((Wd.setCell ⟨g, 11, none⟩ (.int .u64 (c.num : Int))).setCell ⟨g, 12, none⟩ (.int .i64 r.cd)).setCell ⟨g, 13, none⟩ (.int .u64 r.vr)).setCell ⟨g, 14, none⟩ (.slice r.A r.n r.c)).cell? ⟨w.heap.size, 0, none⟩ = some (.int .i64 r.cd) ∧ ((((Wd.setCell ⟨g, 11, none⟩ (.int .u64 (c.num : Int))).setCell ⟨g, 12, none⟩ (.int .i64 r.cd)).setCell ⟨g, 13, none⟩ (.int .u64 r.vr)).setCell ⟨g, 14, none⟩ (.slice r.A r.n r.c)).cell? ⟨w.heap.size, 1, none⟩ = some (.int .u64 r.vr) ∧ ((((Wd.setCell ⟨g, 11, none⟩ (.int .u64 (c.num : Int))).setCell ⟨g, 12, none⟩ (.int .i64 r.cd)).setCell ⟨g, 13, none⟩ (.int .u64 r.vr)).setCell ⟨g, 14, none⟩ (.slice r.A r.n r.c)).cell? ⟨w.heap.size, 2, none⟩ = some (.slice r.A r.n r.c) := ⟨GG.out.cell 2, GX.out.cell 0, GX.out.cell 1, GX.out.cell 2⟩
 refine hK.out _ _ ?_ (fun hHeld => ?_)
 ·first | exact HS | go_keep
 clear hK K
 try simp only [Act.put, List.setIfInBounds_toArray, List.set_cons_zero, List.set_cons_succ, List.getElem_toArray, List.getElem_cons_zero, List.getElem_cons_succ]
 refine wpAnyH_done (by kernel_rfl) ?_ _
 have HCw : Hid (Chg W1 ((((Wd.setCell ⟨g, 11, none⟩ (.int .u64 (c.num : Int))).setCell ⟨g, 12, none⟩ (.int .i64 r.cd)).setCell ⟨g, 13, none⟩ (.int .u64 r.vr)).setCell ⟨g, 14, none⟩ (.slice r.A r.n r.c)) (fun i => i = h ∨ i = g)) := Lib.hid ((hC2.out.mono (fun _ _ e => Or.inl e)).trans (HC12.out.mono (fun _ _ e => Or.inr e)) (fun _ _ e => e))
 have HTY : Hid (∀ i, (i = h ∨ i = g) → (∃ t cs, Blk W1 i t cs ∧ t ≠ 258 ∧ t ≠ 33 ∧ t ≠ 312 ∧ t ≠ 3) ∧ (∃ t cs, Blk W1 i t cs ∧ t ≠ 5)) := Lib.hid (fun i e => by
  rcases e with rfl | rfl
  ·exact ⟨⟨_, _, HLT.out, by decide, by decide, by decide, by decide⟩, ⟨_, _, HLT.out, by decide⟩⟩
  ·exact ⟨⟨_, _, HA.out.box, by decide, by decide, by decide, by decide⟩, ⟨_, _, HA.out.box, by decide⟩⟩)
 have HLT2 : Hid (LatRp ((((Wd.setCell ⟨g, 11, none⟩ (.int .u64 (c.num : Int))).setCell ⟨g, 12, none⟩ (.int .i64 r.cd)).setCell ⟨g, 13, none⟩ (.int .u64 r.vr)).setCell ⟨g, 14, none⟩ (.slice r.A r.n r.c)) h true r) := Lib.hid (HC12.out.blk HL2.out ngh')
 have HRR := Lib.hid (HR.out.chg HCw.out (fun i e => (HTY.out i e).2))
 have HNEW : Hid (CalAt ((((Wd.setCell ⟨g, 11, none⟩ (.int .u64 (c.num : Int))).setCell ⟨g, 12, none⟩ (.int .i64 r.cd)).setCell ⟨g, 13, none⟩ (.int .u64 r.vr)).setCell ⟨g, 14, none⟩ (.slice r.A r.n r.c)) lo g G h vs (c.answered r rb)) := Lib.hid
  ⟨(by have e0 := HST.out; have e1 := GG.out; unfold Cl.cells Cl.ptr at e1; rw [if_neg (by rw [e0]; decide)] at e1; exact e1), HA.out.atl.chg HCw.out (fun i e => (HTY.out i e).1), HA.out.low, HA.out.op.chg HCw.out (fun i e => (HTY.out i e).2), HA.out.ow, (by show (2 : Nat) ≤ 2; omega), fun _ => ⟨hlh, HLT2.out⟩, HRR.out, HRR.out, fun e => absurd rfl e⟩
 have HCC : Hid (Chg w ((((Wd.setCell ⟨g, 11, none⟩ (.int .u64 (c.num : Int))).setCell ⟨g, 12, none⟩ (.int .i64 r.cd)).setCell ⟨g, 13, none⟩ (.int .u64 r.vr)).setCell ⟨g, 14, none⟩ (.slice r.A r.n r.c)) (fun i => i = g ∨ i = h)) := Lib.hid ((Chg.of_below HBW.out _).trans HCw.out (fun i hi e => by rcases e with e | e; exact .inr e; exact .inl e))
 clear HCw HTY HLT2 HRR GG GX HC9 HC12 HS hHeld
 generalize hWn : ((((Wd.setCell ⟨g, 11, none⟩ (.int .u64 (c.num : Int))).setCell ⟨g, 12, none⟩ (.int .i64 r.cd)).setCell ⟨g, 13, none⟩ (.int .u64 r.vr)).setCell ⟨g, 14, none⟩ (.slice r.A r.n r.c)) = Wn at *
 clear hWn
 go_wp2_with (fail)
 go_end0
 exact ⟨rfl, HNEW.out, HCC.out⟩
end Go.Proofs.YtmpedblelnpjdaaGreatDoor

end
section
/- The document's caller: Take of an answer. -/
namespace Go.Proofs.YtmpedblelnpjdaaGreatDoor
open Go.RowKit
set_option linter.unusedSimpArgs false
set_option linter.unusedVariables false
set_option maxHeartbeats 1000000
set_option maxRecDepth 100000
def takeRp (x : LV) : Rp := if x.l.kd = 18 then ⟨x.l.cd, x.l.vr, none, 0, 0⟩ else ⟨0, x.l.vr, x.l.dA, x.l.dn, x.l.dp⟩
def takeRb (x : LV) : List Int := if x.l.kd = 18 then [] else x.ds
def DA.answered (d : DA) (r : Rp) : DA := ⟨d.lA, d.ln, d.lc, d.oA, d.oc, r.A, r.c, r.A, r.c⟩
theorem ans3_cells (c : Cl) (d : DA) (r : Rp) : ((((c.dcells d).setIfInBounds 10 (.int .i64 2)).setIfInBounds 11 (.int .i64 r.cd)).setIfInBounds 12 (.int .u64 r.vr)).setIfInBounds 13 (.slice r.A r.n r.c) = #[.int .i64 c.cl, .int .i64 c.ms, .int .u64 c.num, .int .i64 c.tk, .slice d.lA d.ln d.lc, .int .i64 c.op.kd, .int .u32 c.op.key, .int .u64 c.op.ver, .slice d.oA c.op.n d.oc, .int .i64 c.op.pick, .int .i64 2, .int .i64 r.cd, .int .u64 r.vr, .slice r.A r.n r.c, .int .u64 c.last, .int .i64 c.ly.cd, .int .u64 c.ly.vr, .slice d.yA c.ly.n d.yc] := by
 simp [Cl.dcells]
theorem ans4_cells (c : Cl) (d : DA) (r : Rp) (rb : List Int) : ((((#[.int .i64 c.cl, .int .i64 c.ms, .int .u64 c.num, .int .i64 c.tk, .slice d.lA d.ln d.lc, .int .i64 c.op.kd, .int .u32 c.op.key, .int .u64 c.op.ver, .slice d.oA c.op.n d.oc, .int .i64 c.op.pick, .int .i64 2, .int .i64 r.cd, .int .u64 r.vr, .slice r.A r.n r.c, .int .u64 c.last, .int .i64 c.ly.cd, .int .u64 c.ly.vr, .slice d.yA c.ly.n d.yc] : Array Value).setIfInBounds 14 (.int .u64 c.num)).setIfInBounds 15 (.int .i64 r.cd)).setIfInBounds 16 (.int .u64 r.vr)).setIfInBounds 17 (.slice r.A r.n r.c) = (c.answered r rb).dcells (d.answered r) := by
 simp [Cl.dcells, Cl.answered, DA.answered]
def DMineP (c : Cl) (d : DA) (x : LV) (w : World) (e : Ending) (w' : World) : Prop := Below w.heap.size w w' ∧ e = .returned (.tuple #[.agg ((c.answered (takeRp x) (takeRb x)).dcells (d.answered (takeRp x))), .slice none 0 0])
theorem dTake_mine (c : Cl) (d : DA) (x : LV) (B : Nat) (w : World) (hx : LIn w B x) (hB : B ≤ w.heap.size) (hnx : x.near) (hcl : c.cl ≤ 6) (hfi : ForIt c x) (hm : Mine c x) :
  Calls Tryz.prog 26 #[.agg (c.dcells d), .agg x.l.cells] w (DMineP c d x w) := by
 obtain ⟨W1, hW1⟩ : ∃ W1, W1 = ((w.alloc (.cells (c.dcells d) 62)).alloc (.cells x.l.cells 37)).alloc (.cells #[.int .i64 0, .int .i64 0, .int .u64 0, .int .i64 0, .slice none 0 0, .int .i64 0, .int .u32 0, .int .u64 0, .slice none 0 0, .int .i64 0, .int .i64 0, .int .i64 0, .int .u64 0, .slice none 0 0, .int .u64 0, .int .i64 0, .int .u64 0, .slice none 0 0] 62) := ⟨_, rfl⟩
 have HX : Hid (Blk W1 w.heap.size 62 (c.dcells d)) := Lib.hid (by rw [hW1]; exact ((Blk.new _ _ _).alloc _).alloc _)
 have HL : Hid (Blk W1 (w.heap.size + 1) 37 x.l.cells) := Lib.hid (by rw [hW1, show w.heap.size + 1 = (w.alloc (.cells (c.dcells d) 62)).heap.size by simp]; exact (Blk.new _ _ _).alloc _)
 have HR : Hid (Blk W1 (w.heap.size + 2) 62 #[.int .i64 0, .int .i64 0, .int .u64 0, .int .i64 0, .slice none 0 0, .int .i64 0, .int .u32 0, .int .u64 0, .slice none 0 0, .int .i64 0, .int .i64 0, .int .i64 0, .int .u64 0, .slice none 0 0, .int .u64 0, .int .i64 0, .int .u64 0, .slice none 0 0]) := Lib.hid (by rw [hW1, show w.heap.size + 2 = ((w.alloc (.cells (c.dcells d) 62)).alloc (.cells x.l.cells 37)).heap.size by simp]; exact Blk.new _ _ _)
 have HB : Hid (Below w.heap.size w W1) := Lib.hid (by rw [hW1]; exact (((Below.refl _ _).alloc (Nat.le_refl _) _).alloc (by simp) _).alloc (by simp <;> omega) _)
 have HW1 := Lib.hid hW1
 obtain ⟨ck, hck⟩ : ∃ ck, ck = chkX x := ⟨_, rfl⟩
 have CK : Hid (Calls Tryz.prog 15 #[.agg x.l.cells] W1 fun e w' => e = .returned (.int .i64 ck) ∧ Below W1.heap.size W1 w') := Lib.hid (by
  rw [hck]
  exact refCheck10_any x B W1 (hx.below (HB.out.mono hB)) (Nat.le_trans hB HB.out.size) hnx)
 have HCK := Lib.hid hck
 have x2 : W1.cell? ⟨w.heap.size + 1, 2, none⟩ = some (.int .i64 x.l.tw) := HL.out.cell 2
 have HFI := Lib.hid hfi
 have HNM := Lib.hid hm
 have ND := Lib.hid (rkNode_any x.l.fr)
 clear hm
 clear hW1 hck hfi
 go_enter Tryz.func26, Tryz.ntmps26
 go_upto_region 1 with (fail)
 have e0 := HW1.out
 simp only [Lt.cells] at e0
 first | rw [← e0] | rw [← HW1.out]
 clear e0 HW1
 iterate 1 go_step
 refine wpList_load_row rfl 37 (.tmp 3) rfl (w.heap.size + 1) rfl 37 x.l.cells (0, 0) _ HL.out Tryz.underlying37 rfl ltInfo ?_
 go_wp2_with (fail)
 refine CK.out.mono ?_
 rintro e w2 ⟨rfl, hb2⟩
 have HX2 := Lib.hid (HX.out.below hb2 HX.out.lt)
 have HL2 := Lib.hid (HL.out.below hb2 HL.out.lt)
 have HR2 := Lib.hid (HR.out.below hb2 HR.out.lt)
 have HB2 := Lib.hid (HB.out.trans (hb2.mono HB.out.size))
 clear hb2 CK HX HL HR HB x2
 have x2 : w2.cell? ⟨w.heap.size + 1, 2, none⟩ = some (.int .i64 x.l.tw) := HL2.out.cell 2
 have y0 : w2.cell? ⟨w.heap.size, 0, none⟩ = some (.int .i64 c.cl) := HX2.out.cell 0
 have e2 : IntKind.i64.wrap (200 + (c.cl : Int)) = 200 + (c.cl : Int) := by rw [IntKind.wrap_i64]; omega
 have q1 : (ck != 0) = false := by rw [HCK.out, HFI.out.1]; rfl
 have q2 : (x.l.tw != 200 + (c.cl : Int)) = false := by rw [HFI.out.2]; simp
 have x0 : w2.cell? ⟨w.heap.size + 1, 0, none⟩ = some (.int .i64 x.l.kd) := HL2.out.cell 0
 have q3 : (x.l.kd == 11) = false := by rcases HNM.out.2.2.2 with e | e <;> simp [e.1]
 have x1 : w2.cell? ⟨w.heap.size + 1, 1, none⟩ = some (.int .i64 x.l.fr) := HL2.out.cell 1
 have x6 : w2.cell? ⟨w.heap.size + 1, 6, none⟩ = some (.int .u64 x.l.nu) := HL2.out.cell 6
 have x9 : w2.cell? ⟨w.heap.size + 1, 9, none⟩ = some (.int .u64 x.l.vr) := HL2.out.cell 9
 have x11 : w2.cell? ⟨w.heap.size + 1, 11, none⟩ = some (.int .u32 x.l.ky) := HL2.out.cell 11
 have x12 : w2.cell? ⟨w.heap.size + 1, 12, none⟩ = some (.int .i64 x.l.cd) := HL2.out.cell 12
 have x24 : w2.cell? ⟨w.heap.size + 1, 24, none⟩ = some (.slice x.l.dA x.l.dn x.l.dp) := HL2.out.cell 24
 have y2 : w2.cell? ⟨w.heap.size, 2, none⟩ = some (.int .u64 c.num) := HX2.out.cell 2
 have y5 : w2.cell? ⟨w.heap.size, 5, none⟩ = some (.int .i64 c.op.kd) := HX2.out.cell 5
 have y6 : w2.cell? ⟨w.heap.size, 6, none⟩ = some (.int .u32 c.op.key) := HX2.out.cell 6
 have y10 : w2.cell? ⟨w.heap.size, 10, none⟩ = some (.int .i64 c.st) := HX2.out.cell 10
 have q4 : ((c.st : Int) != 1) = false := by simp [HNM.out.1]
 have q5 : (x.l.nu != (c.num : Int)) = false := by simp [HNM.out.2.2.1]
 go_wp2_with (fail)
 refine (ND.out _).mono ?_
 rintro e w3' ⟨rfl, rfl⟩
 rw [decide_eq_true HNM.out.2.1]
 rcases HNM.out.2.2.2 with ⟨h18, hop⟩ | ⟨h20, hop, hky⟩
 ·have q6 : (x.l.kd == 18) = true := by simp [h18]
  have q7 : (c.op.kd != 1) = true := by simp [hop]
  have q8 : (x.l.kd == 20) = false := by simp [h18]
  have HRP : Hid (takeRp x = ⟨x.l.cd, x.l.vr, none, 0, 0⟩) := Lib.hid (by unfold takeRp; rw [if_pos h18])
  clear h18 hop
  go_upto_region 12 with (fail)
  have s10 : w2.cell? ⟨w.heap.size, 10, none⟩ = some (.int .i64 c.st) := HX2.out.cell 10
  have s11 : w2.cell? ⟨w.heap.size, 11, none⟩ = some (.int .i64 c.rp.cd) := HX2.out.cell 11
  have s12 : w2.cell? ⟨w.heap.size, 12, none⟩ = some (.int .u64 c.rp.vr) := HX2.out.cell 12
  have s13 : w2.cell? ⟨w.heap.size, 13, none⟩ = some (.slice d.rA c.rp.n d.rc) := HX2.out.cell 13
  have t10 := HX2.out.frozen 10
  have t11 := HX2.out.frozen 11
  have t12 := HX2.out.frozen 12
  have t13 := HX2.out.frozen 13
  obtain ⟨W3, hW3⟩ : ∃ W3, W3 = (((w2.setCell ⟨w.heap.size, 10, none⟩ (.int .i64 2)).setCell ⟨w.heap.size, 11, none⟩ (.int .i64 x.l.cd)).setCell ⟨w.heap.size, 12, none⟩ (.int .u64 x.l.vr)).setCell ⟨w.heap.size, 13, none⟩ (.slice none 0 0) := ⟨_, rfl⟩
  have HX3 : Hid (Blk W3 w.heap.size 62 #[.int .i64 c.cl, .int .i64 c.ms, .int .u64 c.num, .int .i64 c.tk, .slice d.lA d.ln d.lc, .int .i64 c.op.kd, .int .u32 c.op.key, .int .u64 c.op.ver, .slice d.oA c.op.n d.oc, .int .i64 c.op.pick, .int .i64 2, .int .i64 x.l.cd, .int .u64 x.l.vr, .slice none 0 0, .int .u64 c.last, .int .i64 c.ly.cd, .int .u64 c.ly.vr, .slice d.yA c.ly.n d.yc]) := Lib.hid (by rw [hW3, ← ans3_cells c d ⟨x.l.cd, x.l.vr, none, 0, 0⟩]; exact ((((HX2.out.set_ 10 (.int .i64 2)).set_ 11 (.int .i64 x.l.cd)).set_ 12 (.int .u64 x.l.vr)).set_ 13 (.slice none 0 0)))
  have HC3 : Hid (Chg w2 W3 (fun i => i = w.heap.size)) := Lib.hid (by rw [hW3]; exact (((chg_one w2 ⟨w.heap.size, 10, none⟩ _).trans (chg_one _ ⟨w.heap.size, 11, none⟩ _) (fun _ _ e => e)).trans (chg_one _ ⟨w.heap.size, 12, none⟩ _) (fun _ _ e => e)).trans (chg_one _ ⟨w.heap.size, 13, none⟩ _) (fun _ _ e => e))
  have HR3 : Hid (Blk W3 (w.heap.size + 2) 62 #[.int .i64 0, .int .i64 0, .int .u64 0, .int .i64 0, .slice none 0 0, .int .i64 0, .int .u32 0, .int .u64 0, .slice none 0 0, .int .i64 0, .int .i64 0, .int .i64 0, .int .u64 0, .slice none 0 0, .int .u64 0, .int .i64 0, .int .u64 0, .slice none 0 0]) := Lib.hid (HC3.out.blk HR2.out (by simp))
  have HL3 : Hid (Blk W3 (w.heap.size + 1) 37 x.l.cells) := Lib.hid (HC3.out.blk HL2.out (by simp))
  have HB3 : Hid (Below w.heap.size w W3) := Lib.hid (HB2.out.trans (HC3.out.below HB2.out.size (fun i hi e => by omega)))
  have HW3 := Lib.hid hW3
  clear hW3
  go_upto_region 14 with (fail)
  rw [← HW3.out]
  clear HW3 HX2 HR2 HB2 HC3 HL2 s10 s11 s12 s13 t10 t11 t12 t13 x1 x6 x9 x11 x12 x24 y2 y5 y6 y10 x0 x2 y0
  have x0 : W3.cell? ⟨w.heap.size + 1, 0, none⟩ = some (.int .i64 x.l.kd) := HL3.out.cell 0
  have s2 : W3.cell? ⟨w.heap.size, 2, none⟩ = some (.int .u64 c.num) := HX3.out.cell 2
  have s11 : W3.cell? ⟨w.heap.size, 11, none⟩ = some (.int .i64 x.l.cd) := HX3.out.cell 11
  have s12 : W3.cell? ⟨w.heap.size, 12, none⟩ = some (.int .u64 x.l.vr) := HX3.out.cell 12
  have s13 : W3.cell? ⟨w.heap.size, 13, none⟩ = some (.slice none 0 0) := HX3.out.cell 13
  have s14 : W3.cell? ⟨w.heap.size, 14, none⟩ = some (.int .u64 c.last) := HX3.out.cell 14
  have s15 : W3.cell? ⟨w.heap.size, 15, none⟩ = some (.int .i64 c.ly.cd) := HX3.out.cell 15
  have s16 : W3.cell? ⟨w.heap.size, 16, none⟩ = some (.int .u64 c.ly.vr) := HX3.out.cell 16
  have s17 : W3.cell? ⟨w.heap.size, 17, none⟩ = some (.slice d.yA c.ly.n d.yc) := HX3.out.cell 17
  have t14 := HX3.out.frozen 14
  have t15 := HX3.out.frozen 15
  have t16 := HX3.out.frozen 16
  have t17 := HX3.out.frozen 17
  obtain ⟨W4, hW4⟩ : ∃ W4, W4 = (((W3.setCell ⟨w.heap.size, 14, none⟩ (.int .u64 c.num)).setCell ⟨w.heap.size, 15, none⟩ (.int .i64 x.l.cd)).setCell ⟨w.heap.size, 16, none⟩ (.int .u64 x.l.vr)).setCell ⟨w.heap.size, 17, none⟩ (.slice none 0 0) := ⟨_, rfl⟩
  have HX4 : Hid (Blk W4 w.heap.size 62 ((c.answered ⟨x.l.cd, x.l.vr, none, 0, 0⟩ (takeRb x)).dcells (d.answered ⟨x.l.cd, x.l.vr, none, 0, 0⟩))) := Lib.hid (by rw [hW4, ← ans4_cells]; exact ((((HX3.out.set_ 14 (.int .u64 c.num)).set_ 15 (.int .i64 x.l.cd)).set_ 16 (.int .u64 x.l.vr)).set_ 17 (.slice none 0 0)))
  have HC4 : Hid (Chg W3 W4 (fun i => i = w.heap.size)) := Lib.hid (by rw [hW4]; exact (((chg_one W3 ⟨w.heap.size, 14, none⟩ _).trans (chg_one _ ⟨w.heap.size, 15, none⟩ _) (fun _ _ e => e)).trans (chg_one _ ⟨w.heap.size, 16, none⟩ _) (fun _ _ e => e)).trans (chg_one _ ⟨w.heap.size, 17, none⟩ _) (fun _ _ e => e))
  have HR4 : Hid (Blk W4 (w.heap.size + 2) 62 #[.int .i64 0, .int .i64 0, .int .u64 0, .int .i64 0, .slice none 0 0, .int .i64 0, .int .u32 0, .int .u64 0, .slice none 0 0, .int .i64 0, .int .i64 0, .int .i64 0, .int .u64 0, .slice none 0 0, .int .u64 0, .int .i64 0, .int .u64 0, .slice none 0 0]) := Lib.hid (HC4.out.blk HR3.out (by simp))
  have HL4 : Hid (Blk W4 (w.heap.size + 1) 37 x.l.cells) := Lib.hid (HC4.out.blk HL3.out (by simp))
  have HB4 : Hid (Below w.heap.size w W4) := Lib.hid (HB3.out.trans (HC4.out.below HB3.out.size (fun i hi e => by omega)))
  have HW4 := Lib.hid hW4
  clear hW4
  go_upto_region 16 with (fail)
  rw [← HW4.out]
  clear HW4 HX3 HR3 HB3 HC4 HL3 s2 s11 s12 s13 s14 s15 s16 s17 t14 t15 t16 t17 x0
  have x0 : W4.cell? ⟨w.heap.size + 1, 0, none⟩ = some (.int .i64 x.l.kd) := HL4.out.cell 0
  go_upto_region 21 with (fail)
  iterate 1 go_step
  refine wpList_load_row rfl 62 (.tmp 2) rfl w.heap.size rfl 62 ((c.answered ⟨x.l.cd, x.l.vr, none, 0, 0⟩ (takeRb x)).dcells (d.answered ⟨x.l.cd, x.l.vr, none, 0, 0⟩)) (0, 0) _ HX4.out Tryz.underlying62 rfl dcInfo ?_
  refine wpList_store_row rfl 62 (.tmp 4) (.tmp 121) rfl (w.heap.size + 2) ((c.answered ⟨x.l.cd, x.l.vr, none, 0, 0⟩ (takeRb x)).dcells (d.answered ⟨x.l.cd, x.l.vr, none, 0, 0⟩)) rfl rfl 62 #[.int .i64 0, .int .i64 0, .int .u64 0, .int .i64 0, .slice none 0 0, .int .i64 0, .int .u32 0, .int .u64 0, .slice none 0 0, .int .i64 0, .int .i64 0, .int .i64 0, .int .u64 0, .slice none 0 0, .int .u64 0, .int .i64 0, .int .u64 0, .slice none 0 0] HR4.out dcInfo rfl (dc_all _ _) ?_
  have HR3 := Lib.hid (show Blk (World.setRow W4 (w.heap.size + 2) ((c.answered ⟨x.l.cd, x.l.vr, none, 0, 0⟩ (takeRb x)).dcells (d.answered ⟨x.l.cd, x.l.vr, none, 0, 0⟩))) (w.heap.size + 2) 62 ((c.answered ⟨x.l.cd, x.l.vr, none, 0, 0⟩ (takeRb x)).dcells (d.answered ⟨x.l.cd, x.l.vr, none, 0, 0⟩)) from setRow_heap _ _ _ _ _ _ HR4.out)
  have HB3 := Lib.hid (setRow_below HB4.out HB4.out.size (Nat.le_add_right _ 2) (g := w.heap.size + 2) ((c.answered ⟨x.l.cd, x.l.vr, none, 0, 0⟩ (takeRb x)).dcells (d.answered ⟨x.l.cd, x.l.vr, none, 0, 0⟩)))
  generalize World.setRow W4 (w.heap.size + 2) ((c.answered ⟨x.l.cd, x.l.vr, none, 0, 0⟩ (takeRb x)).dcells (d.answered ⟨x.l.cd, x.l.vr, none, 0, 0⟩)) = W3 at *
  go_wp2_with (fail)
  refine bodyPost_ret_by (results_cell_row_tmp Tryz.results26 _ _ (w.heap.size + 2) 62 ((c.answered ⟨x.l.cd, x.l.vr, none, 0, 0⟩ (takeRb x)).dcells (d.answered ⟨x.l.cd, x.l.vr, none, 0, 0⟩)) (0, 0) _ _ rfl HR3.out rfl Tryz.underlying62 rfl dcInfo) rfl ?_
  exact ⟨HB3.out, by rw [HRP.out]; rfl⟩
 ·have q6 : (x.l.kd == 18) = false := by simp [h20]
  have q7 : (c.op.kd == 1) = true := by simp [hop]
  have q8 : (x.l.kd == 20) = true := by simp [h20]
  have q9 : (x.l.ky == c.op.key) = true := by simp [hky]
  have HRP : Hid (takeRp x = ⟨0, x.l.vr, x.l.dA, x.l.dn, x.l.dp⟩) := Lib.hid (by unfold takeRp; rw [if_neg (by omega)])
  clear h20 hop hky
  go_upto_region 17 with (fail)
  have s10 : w2.cell? ⟨w.heap.size, 10, none⟩ = some (.int .i64 c.st) := HX2.out.cell 10
  have s11 : w2.cell? ⟨w.heap.size, 11, none⟩ = some (.int .i64 c.rp.cd) := HX2.out.cell 11
  have s12 : w2.cell? ⟨w.heap.size, 12, none⟩ = some (.int .u64 c.rp.vr) := HX2.out.cell 12
  have s13 : w2.cell? ⟨w.heap.size, 13, none⟩ = some (.slice d.rA c.rp.n d.rc) := HX2.out.cell 13
  have t10 := HX2.out.frozen 10
  have t11 := HX2.out.frozen 11
  have t12 := HX2.out.frozen 12
  have t13 := HX2.out.frozen 13
  obtain ⟨W3, hW3⟩ : ∃ W3, W3 = (((w2.setCell ⟨w.heap.size, 10, none⟩ (.int .i64 2)).setCell ⟨w.heap.size, 11, none⟩ (.int .i64 0)).setCell ⟨w.heap.size, 12, none⟩ (.int .u64 x.l.vr)).setCell ⟨w.heap.size, 13, none⟩ (.slice x.l.dA x.l.dn x.l.dp) := ⟨_, rfl⟩
  have HX3 : Hid (Blk W3 w.heap.size 62 #[.int .i64 c.cl, .int .i64 c.ms, .int .u64 c.num, .int .i64 c.tk, .slice d.lA d.ln d.lc, .int .i64 c.op.kd, .int .u32 c.op.key, .int .u64 c.op.ver, .slice d.oA c.op.n d.oc, .int .i64 c.op.pick, .int .i64 2, .int .i64 0, .int .u64 x.l.vr, .slice x.l.dA x.l.dn x.l.dp, .int .u64 c.last, .int .i64 c.ly.cd, .int .u64 c.ly.vr, .slice d.yA c.ly.n d.yc]) := Lib.hid (by rw [hW3, ← ans3_cells c d ⟨0, x.l.vr, x.l.dA, x.l.dn, x.l.dp⟩]; exact ((((HX2.out.set_ 10 (.int .i64 2)).set_ 11 (.int .i64 0)).set_ 12 (.int .u64 x.l.vr)).set_ 13 (.slice x.l.dA x.l.dn x.l.dp)))
  have HC3 : Hid (Chg w2 W3 (fun i => i = w.heap.size)) := Lib.hid (by rw [hW3]; exact (((chg_one w2 ⟨w.heap.size, 10, none⟩ _).trans (chg_one _ ⟨w.heap.size, 11, none⟩ _) (fun _ _ e => e)).trans (chg_one _ ⟨w.heap.size, 12, none⟩ _) (fun _ _ e => e)).trans (chg_one _ ⟨w.heap.size, 13, none⟩ _) (fun _ _ e => e))
  have HR3 : Hid (Blk W3 (w.heap.size + 2) 62 #[.int .i64 0, .int .i64 0, .int .u64 0, .int .i64 0, .slice none 0 0, .int .i64 0, .int .u32 0, .int .u64 0, .slice none 0 0, .int .i64 0, .int .i64 0, .int .i64 0, .int .u64 0, .slice none 0 0, .int .u64 0, .int .i64 0, .int .u64 0, .slice none 0 0]) := Lib.hid (HC3.out.blk HR2.out (by simp))
  have HL3 : Hid (Blk W3 (w.heap.size + 1) 37 x.l.cells) := Lib.hid (HC3.out.blk HL2.out (by simp))
  have HB3 : Hid (Below w.heap.size w W3) := Lib.hid (HB2.out.trans (HC3.out.below HB2.out.size (fun i hi e => by omega)))
  have HW3 := Lib.hid hW3
  clear hW3
  go_upto_region 19 with (fail)
  rw [← HW3.out]
  clear HW3 HX2 HR2 HB2 HC3 HL2 s10 s11 s12 s13 t10 t11 t12 t13 x1 x6 x9 x11 x12 x24 y2 y5 y6 y10 x0 x2 y0
  have x0 : W3.cell? ⟨w.heap.size + 1, 0, none⟩ = some (.int .i64 x.l.kd) := HL3.out.cell 0
  have s2 : W3.cell? ⟨w.heap.size, 2, none⟩ = some (.int .u64 c.num) := HX3.out.cell 2
  have s11 : W3.cell? ⟨w.heap.size, 11, none⟩ = some (.int .i64 0) := HX3.out.cell 11
  have s12 : W3.cell? ⟨w.heap.size, 12, none⟩ = some (.int .u64 x.l.vr) := HX3.out.cell 12
  have s13 : W3.cell? ⟨w.heap.size, 13, none⟩ = some (.slice x.l.dA x.l.dn x.l.dp) := HX3.out.cell 13
  have s14 : W3.cell? ⟨w.heap.size, 14, none⟩ = some (.int .u64 c.last) := HX3.out.cell 14
  have s15 : W3.cell? ⟨w.heap.size, 15, none⟩ = some (.int .i64 c.ly.cd) := HX3.out.cell 15
  have s16 : W3.cell? ⟨w.heap.size, 16, none⟩ = some (.int .u64 c.ly.vr) := HX3.out.cell 16
  have s17 : W3.cell? ⟨w.heap.size, 17, none⟩ = some (.slice d.yA c.ly.n d.yc) := HX3.out.cell 17
  have t14 := HX3.out.frozen 14
  have t15 := HX3.out.frozen 15
  have t16 := HX3.out.frozen 16
  have t17 := HX3.out.frozen 17
  obtain ⟨W4, hW4⟩ : ∃ W4, W4 = (((W3.setCell ⟨w.heap.size, 14, none⟩ (.int .u64 c.num)).setCell ⟨w.heap.size, 15, none⟩ (.int .i64 0)).setCell ⟨w.heap.size, 16, none⟩ (.int .u64 x.l.vr)).setCell ⟨w.heap.size, 17, none⟩ (.slice x.l.dA x.l.dn x.l.dp) := ⟨_, rfl⟩
  have HX4 : Hid (Blk W4 w.heap.size 62 ((c.answered ⟨0, x.l.vr, x.l.dA, x.l.dn, x.l.dp⟩ (takeRb x)).dcells (d.answered ⟨0, x.l.vr, x.l.dA, x.l.dn, x.l.dp⟩))) := Lib.hid (by rw [hW4, ← ans4_cells]; exact ((((HX3.out.set_ 14 (.int .u64 c.num)).set_ 15 (.int .i64 0)).set_ 16 (.int .u64 x.l.vr)).set_ 17 (.slice x.l.dA x.l.dn x.l.dp)))
  have HC4 : Hid (Chg W3 W4 (fun i => i = w.heap.size)) := Lib.hid (by rw [hW4]; exact (((chg_one W3 ⟨w.heap.size, 14, none⟩ _).trans (chg_one _ ⟨w.heap.size, 15, none⟩ _) (fun _ _ e => e)).trans (chg_one _ ⟨w.heap.size, 16, none⟩ _) (fun _ _ e => e)).trans (chg_one _ ⟨w.heap.size, 17, none⟩ _) (fun _ _ e => e))
  have HR4 : Hid (Blk W4 (w.heap.size + 2) 62 #[.int .i64 0, .int .i64 0, .int .u64 0, .int .i64 0, .slice none 0 0, .int .i64 0, .int .u32 0, .int .u64 0, .slice none 0 0, .int .i64 0, .int .i64 0, .int .i64 0, .int .u64 0, .slice none 0 0, .int .u64 0, .int .i64 0, .int .u64 0, .slice none 0 0]) := Lib.hid (HC4.out.blk HR3.out (by simp))
  have HL4 : Hid (Blk W4 (w.heap.size + 1) 37 x.l.cells) := Lib.hid (HC4.out.blk HL3.out (by simp))
  have HB4 : Hid (Below w.heap.size w W4) := Lib.hid (HB3.out.trans (HC4.out.below HB3.out.size (fun i hi e => by omega)))
  have HW4 := Lib.hid hW4
  clear hW4
  go_upto_region 21 with (fail)
  rw [← HW4.out]
  clear HW4 HX3 HR3 HB3 HC4 HL3 s2 s11 s12 s13 s14 s15 s16 s17 t14 t15 t16 t17 x0
  have x0 : W4.cell? ⟨w.heap.size + 1, 0, none⟩ = some (.int .i64 x.l.kd) := HL4.out.cell 0
  iterate 1 go_step
  refine wpList_load_row rfl 62 (.tmp 2) rfl w.heap.size rfl 62 ((c.answered ⟨0, x.l.vr, x.l.dA, x.l.dn, x.l.dp⟩ (takeRb x)).dcells (d.answered ⟨0, x.l.vr, x.l.dA, x.l.dn, x.l.dp⟩)) (0, 0) _ HX4.out Tryz.underlying62 rfl dcInfo ?_
  refine wpList_store_row rfl 62 (.tmp 4) (.tmp 121) rfl (w.heap.size + 2) ((c.answered ⟨0, x.l.vr, x.l.dA, x.l.dn, x.l.dp⟩ (takeRb x)).dcells (d.answered ⟨0, x.l.vr, x.l.dA, x.l.dn, x.l.dp⟩)) rfl rfl 62 #[.int .i64 0, .int .i64 0, .int .u64 0, .int .i64 0, .slice none 0 0, .int .i64 0, .int .u32 0, .int .u64 0, .slice none 0 0, .int .i64 0, .int .i64 0, .int .i64 0, .int .u64 0, .slice none 0 0, .int .u64 0, .int .i64 0, .int .u64 0, .slice none 0 0] HR4.out dcInfo rfl (dc_all _ _) ?_
  have HR3 := Lib.hid (show Blk (World.setRow W4 (w.heap.size + 2) ((c.answered ⟨0, x.l.vr, x.l.dA, x.l.dn, x.l.dp⟩ (takeRb x)).dcells (d.answered ⟨0, x.l.vr, x.l.dA, x.l.dn, x.l.dp⟩))) (w.heap.size + 2) 62 ((c.answered ⟨0, x.l.vr, x.l.dA, x.l.dn, x.l.dp⟩ (takeRb x)).dcells (d.answered ⟨0, x.l.vr, x.l.dA, x.l.dn, x.l.dp⟩)) from setRow_heap _ _ _ _ _ _ HR4.out)
  have HB3 := Lib.hid (setRow_below HB4.out HB4.out.size (Nat.le_add_right _ 2) (g := w.heap.size + 2) ((c.answered ⟨0, x.l.vr, x.l.dA, x.l.dn, x.l.dp⟩ (takeRb x)).dcells (d.answered ⟨0, x.l.vr, x.l.dA, x.l.dn, x.l.dp⟩)))
  generalize World.setRow W4 (w.heap.size + 2) ((c.answered ⟨0, x.l.vr, x.l.dA, x.l.dn, x.l.dp⟩ (takeRb x)).dcells (d.answered ⟨0, x.l.vr, x.l.dA, x.l.dn, x.l.dp⟩)) = W3 at *
  go_wp2_with (fail)
  refine bodyPost_ret_by (results_cell_row_tmp Tryz.results26 _ _ (w.heap.size + 2) 62 ((c.answered ⟨0, x.l.vr, x.l.dA, x.l.dn, x.l.dp⟩ (takeRb x)).dcells (d.answered ⟨0, x.l.vr, x.l.dA, x.l.dn, x.l.dp⟩)) (0, 0) _ _ rfl HR3.out rfl Tryz.underlying62 rfl dcInfo) rfl ?_
  exact ⟨HB3.out, by rw [HRP.out]; rfl⟩
end Go.Proofs.YtmpedblelnpjdaaGreatDoor

end
section
/- A caller: Reply. -/
namespace Go.Proofs.YtmpedblelnpjdaaGreatDoor
open Go.RowKit
set_option linter.unusedSimpArgs false
set_option linter.unusedVariables false
set_option maxHeartbeats 8000000
set_option maxRecDepth 100000
def ReplP (c : Cl) (w : World) (e : Ending) (w' : World) : Prop := ∃ (A7 : Option Addr) (c7 : Nat), e = .returned (.tuple #[.agg #[.int .i64 c.rp.cd, .int .u64 c.rp.vr, .slice A7 c.rp.n c7], .bool (c.st == 2)]) ∧ OwnB w' w.heap.size A7 c.rp.n c7 c.rb ∧ Below w.heap.size w w'
end Go.Proofs.YtmpedblelnpjdaaGreatDoor

end
