import Derived.Test.YtmpedblelnpjdaaGreatDoorZAsA
import Derived.Test.YtmpedblelnpjdaaGreatDoorZTk
section
/- A caller: Begin. -/
namespace Go.Proofs.YtmpedblelnpjdaaGreatDoor
open Go.RowKit
set_option linter.unusedSimpArgs false
set_option linter.unusedVariables false
set_option maxHeartbeats 8000000
set_option maxRecDepth 100000
attribute [local go_sem] Opn.agg Opn.cells
noncomputable def beginE (c : Cl) (o : Opn) : Int := if c.st = 1 then 12 else chkE o c.cl ((c.num + 1 : Nat) : Int)
def Opn.at_ (o : Opn) (A : Option Addr) (c : Nat) : Opn := ⟨o.kd, o.key, o.ver, A, o.n, c, o.pick, o.bs⟩
def Cl.begun (c : Cl) (o : Opn) (A : Option Addr) (n : Nat) : Cl := ⟨c.cl, c.ms, c.num + 1, c.tk, o.at_ A n, 1, Rp.zero, [], c.last, c.ly, c.lb⟩
theorem Blk.five {W : World} {g k : Nat} {t : TypeId} {cs : Array Value} (h : Blk W k t cs) (hn : k ≠ g) (a b c d e : Value) : Blk (((((W.setCell ⟨g, 5, none⟩ a).setCell ⟨g, 6, none⟩ b).setCell ⟨g, 7, none⟩ c).setCell ⟨g, 8, none⟩ d).setCell ⟨g, 9, none⟩ e) k t cs :=
 ((((h.far (p := ⟨g, 5, none⟩) hn a).far (p := ⟨g, 6, none⟩) hn b).far (p := ⟨g, 7, none⟩) hn c).far (p := ⟨g, 8, none⟩) hn d).far (p := ⟨g, 9, none⟩) hn e
theorem chg_five (W : World) (g : Nat) (a b c d e : Value) : Chg W (((((W.setCell ⟨g, 5, none⟩ a).setCell ⟨g, 6, none⟩ b).setCell ⟨g, 7, none⟩ c).setCell ⟨g, 8, none⟩ d).setCell ⟨g, 9, none⟩ e) (fun i => i = g) :=
 ((((chg_one W ⟨g, 5, none⟩ a).trans (chg_one _ ⟨g, 6, none⟩ b) (fun _ _ e => e)).trans (chg_one _ ⟨g, 7, none⟩ c) (fun _ _ e => e)).trans (chg_one _ ⟨g, 8, none⟩ d) (fun _ _ e => e)).trans (chg_one _ ⟨g, 9, none⟩ e) (fun _ _ e => e)
end Go.Proofs.YtmpedblelnpjdaaGreatDoor

end
section
/- A caller: Begin, with what it asks. -/
namespace Go.Proofs.YtmpedblelnpjdaaGreatDoor
open Go.RowKit
set_option linter.unusedSimpArgs false
set_option linter.unusedVariables false
set_option maxHeartbeats 8000000
set_option maxRecDepth 100000
attribute [local go_sem] Opn.agg Opn.cells
def CBegP2 (lo g G h : Nat) (vs : List CV) (c : Cl) (o : Opn) (k : Nat) (w : World) (e : Ending) (w' : World) : Prop :=
 (beginE c o ≠ 0 ∧ e = .returned (.tuple #[.slice none 0 0, .int .i64 (beginE c o)]) ∧ CalAt w' lo g G h vs c ∧ Below w.heap.size w w') ∨
 (beginE c o = 0 ∧ ∃ (h' A7n q : Nat) (A7 : Option Addr) (x : LV), e = .returned (.tuple #[.slice (some ⟨q, 0, none⟩) 1 1, .int .i64 0]) ∧ CalAt w' lo g G h' vs (c.begun o A7 A7n) ∧ w.heap.size ≤ q ∧
  Blk w' q 37 x.l.cells ∧ LIn w' q x ∧ x.near ∧ AskOf vs k (c.begun o A7 A7n) x.val ∧ Chg w w' (fun i => i = g))
theorem calBegin2_any (lo g G h : Nat) (vs : List (Int × Int × List Int × Bool × Int)) (c : Cl) (o : Opn) (k B : Nat) (w : World) (hK : KindsAt w) (hKg : ∀ W, Chg w W (fun i => i = g) → KindsAt W) (a : CalAt w lo g G h vs c) (ho : OpIn w B o) (hB : B ≤ w.heap.size) (hlo : lo ≤ w.heap.size) (hk : o.key = (k : Int)) (hn : o.n ≤ 1000000) (hcl : c.cl ≤ 6) (hnum : c.num + 1 ≤ 1000000) (hvs : VsOk vs) :
  Calls Tryz.prog 23 #[.pointer (some ⟨g, 0, none⟩), o.agg] w (CBegP2 lo g G h vs c o k w) := by
 obtain ⟨W1, hW1⟩ : ∃ W1, W1 = w.alloc (.cells o.cells 58) := ⟨_, rfl⟩
 have hb1 : Blk W1 w.heap.size 58 o.cells := by rw [hW1]; exact Blk.new _ _ _
 have HBW : Hid (Below w.heap.size w W1) := Lib.hid (by rw [hW1]; exact (Below.refl _ _).alloc (Nat.le_refl _) _)
 have HA : Hid (CalAt W1 lo g G h vs c) := Lib.hid (a.below HBW.out)
 have HO : Hid (OpIn W1 B o) := Lib.hid (ho.below (HBW.out.mono hB))
 have HK := Lib.hid (hK.below HBW.out)
 have HW1 := Lib.hid hW1
 have HBX := Lib.hid hb1
 have lg := a.box.lt
 have hs1 := HBW.out.size
 have HKE := Lib.hid hk
 have hkk : k < 4294967296 := by have := ho.wf.key.2; omega
 have BU := Lib.hid (calBusy_any lo g G h vs c W1 HA.out)
 have nb : g ≠ w.heap.size := by omega
 have nb' : w.heap.size ≠ g := by omega
 have HKG := Lib.hid hKg
 have HVS := Lib.hid hvs
 clear hW1 hb1 a ho hK hk hKg
 go_enter Tryz.func23, Tryz.ntmps23
 go_upto_region 1 with (fail)
 rw [show w.alloc (.cells #[.int .i64 o.kd, .int .u32 o.key, .int .u64 o.ver, .slice o.A o.n o.c, .int .i64 o.pick] 58) = W1 from HW1.out.symm]
 clear HW1
 by_cases hst : c.st = 1
 ·rw [show (c.st == 1) = true by simp [hst]] at BU
  have HE : Hid (beginE c o = 12) := Lib.hid (by unfold beginE; rw [if_pos hst])
  clear hst
  go_wp2_with (fail)
  refine BU.out.mono ?_
  rintro e w2 ⟨rfl, hb2⟩
  have HA2 := Lib.hid (HA.out.below hb2)
  have HB2 := Lib.hid (HBW.out.trans (hb2.mono hs1))
  clear hb2 BU
  go_wp2_with (fail)
  go_ret2
  exact .inl ⟨by rw [HE.out]; decide, by rw [HE.out]; rfl, HA2.out, HB2.out⟩
 rw [show (c.st == 1) = false by simp [hst]] at BU
 have HE : Hid (beginE c o = chkE o c.cl ((c.num + 1 : Nat) : Int)) := Lib.hid (by unfold beginE; rw [if_neg hst])
 clear hst
 go_wp2_with (fail)
 refine BU.out.mono ?_
 rintro e w2 ⟨rfl, hb2⟩
 have HA2 := Lib.hid (HA.out.below hb2)
 have HB2 := Lib.hid (HBW.out.trans (hb2.mono hs1))
 have HX2 := Lib.hid (HBX.out.below hb2 HBX.out.lt)
 have HO2 := Lib.hid (HO.out.below (hb2.mono (Nat.le_trans hB hs1)))
 have HK2 := Lib.hid (HK.out.below hb2)
 have hs2 := hb2.size
 clear hb2 BU HA HBX HO HK
 obtain ⟨x0, x1, x2, x3, x4⟩ := op_cells HX2.out
 have CK := Lib.hid (calCheck_any lo g G h vs c o B w2 HK2.out HA2.out HO2.out (by omega) hn hcl (by omega))
 obtain ⟨ze, hze⟩ : ∃ ze, ze = chkE o c.cl ((c.num + 1 : Nat) : Int) := ⟨_, rfl⟩
 rw [← hze] at CK HE
 have HZE := Lib.hid hze
 clear hze
 have lx2 := HX2.out.lt
 go_wp2_with (fail)
 refine CK.out.mono ?_
 rintro e w3 ⟨rfl, hb3⟩
 have HA3 := Lib.hid (HA2.out.below hb3)
 have HB3 := Lib.hid (HB2.out.trans (hb3.mono HB2.out.size))
 have HX3 := Lib.hid (HX2.out.below hb3 HX2.out.lt)
 have HO3 := Lib.hid (HO2.out.below (hb3.mono (by omega)))
 have HK3 := Lib.hid (HK2.out.below hb3)
 have hs3 := hb3.size
 clear hb3 CK HA2 HX2 HO2 HK2 x0 x1 x2 x3 x4 HB2 lx2
 by_cases hz : ze = 0
 rotate_left
 ·have hz1 : (ze != 0) = true := by simp [hz]
  have HZ := Lib.hid hz
  clear hz
  go_wp2_with (fail)
  go_ret2
  exact .inl ⟨by rw [HE.out]; exact HZ.out, by rw [HE.out]; rfl, HA3.out, HB3.out⟩
 have hz1 : (ze != 0) = false := by simp [hz]
 have HZ : Hid (beginE c o = 0) := Lib.hid (by rw [HE.out, hz])
 clear hz HE HZE
 obtain ⟨x0, x1, x2, x3, x4⟩ := op_cells HX3.out
 have CL := Lib.hid (bclone_any o.A o.n o.c B o.bs w3 (by omega) HO3.out.rd (by omega))
 go_wp2_with (fail)
 refine CL.out.mono ?_
 rintro e w4 ⟨v, rfl, hown, hb4⟩
 obtain ⟨A7, c7, rfl, hrd7, hc7, hm7⟩ := own_slice hown
 have HOW := Lib.hid hown
 have HA4 := Lib.hid (HA3.out.below hb4)
 have HB4 := Lib.hid (HB3.out.trans (hb4.mono HB3.out.size))
 have HX4 := Lib.hid (HX3.out.below hb4 HX3.out.lt)
 have HK4 := Lib.hid (HK3.out.below hb4)
 have HWF := Lib.hid HO3.out.wf
 have hs4 := hb4.size
 clear hb4 CL HA3 HX3 HO3 HK3 x0 x1 x2 x3 x4 HB3 hown hrd7
 obtain ⟨x0, x1, x2, x3, x4⟩ := op_cells HX4.out
 have f3 := HX4.out.frozen 3
 have y2 : w4.cell? ⟨g, 2, none⟩ = some (.int .u64 c.num) := HA4.out.box.cell 2
 have fy2 := HA4.out.box.frozen 2
 have e1 : IntKind.u64.wrap ((c.num : Int) + 1) = ((c.num + 1 : Nat) : Int) := by rw [IntKind.wrap_u64]; omega
 obtain ⟨W7, hW7⟩ : ∃ W7, W7 = (w4.setCell ⟨w.heap.size, 3, none⟩ (.slice A7 o.n c7)).setCell ⟨g, 2, none⟩ (.int .u64 ((c.num : Int) + 1)) := ⟨_, rfl⟩
 have hx7 : Blk W7 w.heap.size 58 (o.at_ A7 c7).cells := by
  rw [hW7]
  exact ((HX4.out.set_ 3 (.slice A7 o.n c7)).far (p := ⟨g, 2, none⟩) nb' _)
 have hg7 : Blk W7 g 156 ((c.cells G h).setIfInBounds 2 (.int .u64 ((c.num : Int) + 1))) := by
  rw [hW7]
  exact ((HA4.out.box.far (p := ⟨w.heap.size, 3, none⟩) nb (.slice A7 o.n c7)).set_ 2 (.int .u64 ((c.num : Int) + 1)))
 have hc7 : Chg w4 W7 (fun i => i = w.heap.size ∨ i = g) := by
  rw [hW7]
  exact ((chg_one w4 ⟨w.heap.size, 3, none⟩ _).mono (fun _ _ e => Or.inl e)).trans ((chg_one _ ⟨g, 2, none⟩ _).mono (fun _ _ e => Or.inr e)) (fun _ _ e => e)
 have HC7 := Lib.hid hc7
 have HX7 := Lib.hid hx7
 have HG7 := Lib.hid hg7
 have HW7 := Lib.hid hW7
 clear hc7 hx7 hg7 hW7
 go_upto_region 10 with (fail)
 rw [← HW7.out]
 clear HW7 x0 x1 x2 x3 x4 f3 y2 fy2 e1
 obtain ⟨x0, x1, x2, x3, x4⟩ := op_cells HX7.out
 have NR := Lib.hid (newRp_any W7.drew)
 have lx := HX7.out.lt
 have lgg := HG7.out.lt
 refine wp_region_held_drew (S := fun wq => wq.cell? ⟨w.heap.size, 0, none⟩ = some (.int .i64 o.kd) ∧ wq.cell? ⟨w.heap.size, 1, none⟩ = some (.int .u32 o.key) ∧ wq.cell? ⟨w.heap.size, 2, none⟩ = some (.int .u64 o.ver) ∧ wq.cell? ⟨w.heap.size, 3, none⟩ = some (.slice A7 o.n c7) ∧ wq.cell? ⟨w.heap.size, 4, none⟩ = some (.int .i64 o.pick)) (by kernel_rfl) ⟨x0, x1, x2, x3, x4⟩ (fun hHeld => ?_)
 refine tkT 0 rfl (v := ?_) ?_ ?_
 rotate_left 1
 ·(intro wq hSw; (try dsimp only at hSw); go_simp; (try with_reducible rfl))
 refine tkT 1 rfl (v := ?_) ?_ ?_
 rotate_left 1
 ·(intro wq hSw; (try dsimp only at hSw); go_simp; (try with_reducible rfl))
 refine tkT 2 rfl (v := ?_) ?_ ?_
 rotate_left 1
 ·(intro wq hSw; (try dsimp only at hSw); go_simp; (try with_reducible rfl))
 try simp only [Act.put, List.setIfInBounds_toArray, List.set_cons_zero, List.set_cons_succ, List.getElem_toArray, List.getElem_cons_zero, List.getElem_cons_succ]
 refine wpAnyH_ready (rs := [3]) (by kernel_rfl) (by simp) ?_
 refine (AllReadyH.cons rfl (fun K hK => ?_) AllReadyH.nil)
 go_simp
 refine NR.out.mono ?_
 rintro e x3w ⟨rfl, hl3, h9⟩
 have HL3 := Lib.hid hl3
 have HB3 := Lib.hid (show Below W7.heap.size W7 x3w from (Below.refl _ _).drew.trans h9)
 have HX8 := Lib.hid (HX7.out.below HB3.out lx)
 have HG8 := Lib.hid (HG7.out.below HB3.out lgg)
 have hgl : g ≠ W7.drew.heap.size := fun e => by have : W7.drew.heap.size = W7.heap.size := rfl; omega
 have HS : x3w.cell? ⟨w.heap.size, 0, none⟩ = some (.int .i64 o.kd) ∧ x3w.cell? ⟨w.heap.size, 1, none⟩ = some (.int .u32 o.key) ∧ x3w.cell? ⟨w.heap.size, 2, none⟩ = some (.int .u64 o.ver) ∧ x3w.cell? ⟨w.heap.size, 3, none⟩ = some (.slice A7 o.n c7) ∧ x3w.cell? ⟨w.heap.size, 4, none⟩ = some (.int .i64 o.pick) := op_cells HX8.out
 clear h9 hl3
 refine hK.out _ _ ?_ (fun hHeld => ?_)
 ·first | exact HS | go_keep
 clear hK K
 try simp only [Act.put, List.setIfInBounds_toArray, List.set_cons_zero, List.set_cons_succ, List.getElem_toArray, List.getElem_cons_zero, List.getElem_cons_succ]
 refine tkT 4 rfl (v := ?_) ?_ ?_
 rotate_left 1
 ·(intro wq hSw; (try dsimp only at hSw); go_simp; (try with_reducible rfl))
 refine tkT 5 rfl (v := ?_) ?_ ?_
 rotate_left 1
 ·(intro wq hSw; (try dsimp only at hSw); go_simp; (try with_reducible rfl))
 try simp only [Act.put, List.setIfInBounds_toArray, List.set_cons_zero, List.set_cons_succ, List.getElem_toArray, List.getElem_cons_zero, List.getElem_cons_succ]
 refine wpAnyH_ready (rs := [6]) (by kernel_rfl) (by simp) ?_
 refine (AllReadyH.cons rfl (fun K hK => ?_) AllReadyH.nil)
 have s5 : x3w.cell? ⟨g, 5, none⟩ = some (.int .i64 c.op.kd) := HG8.out.cell 5
 have s6 : x3w.cell? ⟨g, 6, none⟩ = some (.int .u32 c.op.key) := HG8.out.cell 6
 have s7 : x3w.cell? ⟨g, 7, none⟩ = some (.int .u64 c.op.ver) := HG8.out.cell 7
 have s8 : x3w.cell? ⟨g, 8, none⟩ = some (.slice c.op.A c.op.n c.op.c) := HG8.out.cell 8
 have s9 : x3w.cell? ⟨g, 9, none⟩ = some (.int .i64 c.op.pick) := HG8.out.cell 9
 have t5 := HG8.out.frozen 5
 have t6 := HG8.out.frozen 6
 have t7 := HG8.out.frozen 7
 have t8 := HG8.out.frozen 8
 have t9 := HG8.out.frozen 9
 go_simp
 clear s5 s6 s7 s8 s9 t5 t6 t7 t8 t9
 have HX9 := Lib.hid (HX8.out.five nb' (.int .i64 o.kd) (.int .u32 o.key) (.int .u64 o.ver) (.slice A7 o.n c7) (.int .i64 o.pick))
 have HG9 := Lib.hid (((((HG8.out.set_ 5 (.int .i64 o.kd)).set_ 6 (.int .u32 o.key)).set_ 7 (.int .u64 o.ver)).set_ 8 (.slice A7 o.n c7)).set_ 9 (.int .i64 o.pick))
 have HC9 := Lib.hid (chg_five x3w g (.int .i64 o.kd) (.int .u32 o.key) (.int .u64 o.ver) (.slice A7 o.n c7) (.int .i64 o.pick))
 have HS : (((((x3w.setCell ⟨g, 5, none⟩ (.int .i64 o.kd)).setCell ⟨g, 6, none⟩ (.int .u32 o.key)).setCell ⟨g, 7, none⟩ (.int .u64 o.ver)).setCell ⟨g, 8, none⟩ (.slice A7 o.n c7)).setCell ⟨g, 9, none⟩ (.int .i64 o.pick)).cell? ⟨w.heap.size, 0, none⟩ = some (.int .i64 o.kd) ∧ (((((x3w.setCell ⟨g, 5, none⟩ (.int .i64 o.kd)).setCell ⟨g, 6, none⟩ (.int .u32 o.key)).setCell ⟨g, 7, none⟩ (.int .u64 o.ver)).setCell ⟨g, 8, none⟩ (.slice A7 o.n c7)).setCell ⟨g, 9, none⟩ (.int .i64 o.pick)).cell? ⟨w.heap.size, 1, none⟩ = some (.int .u32 o.key) ∧ (((((x3w.setCell ⟨g, 5, none⟩ (.int .i64 o.kd)).setCell ⟨g, 6, none⟩ (.int .u32 o.key)).setCell ⟨g, 7, none⟩ (.int .u64 o.ver)).setCell ⟨g, 8, none⟩ (.slice A7 o.n c7)).setCell ⟨g, 9, none⟩ (.int .i64 o.pick)).cell? ⟨w.heap.size, 2, none⟩ = some (.int .u64 o.ver) ∧ (((((x3w.setCell ⟨g, 5, none⟩ (.int .i64 o.kd)).setCell ⟨g, 6, none⟩ (.int .u32 o.key)).setCell ⟨g, 7, none⟩ (.int .u64 o.ver)).setCell ⟨g, 8, none⟩ (.slice A7 o.n c7)).setCell ⟨g, 9, none⟩ (.int .i64 o.pick)).cell? ⟨w.heap.size, 3, none⟩ = some (.slice A7 o.n c7) ∧ (((((x3w.setCell ⟨g, 5, none⟩ (.int .i64 o.kd)).setCell ⟨g, 6, none⟩ (.int .u32 o.key)).setCell ⟨g, 7, none⟩ (.int .u64 o.ver)).setCell ⟨g, 8, none⟩ (.slice A7 o.n c7)).setCell ⟨g, 9, none⟩ (.int .i64 o.pick)).cell? ⟨w.heap.size, 4, none⟩ = some (.int .i64 o.pick) := op_cells HX9.out
 refine hK.out _ _ ?_ (fun hHeld => ?_)
 ·first | exact HS | go_keep
 clear hK K
 try simp only [Act.put, List.setIfInBounds_toArray, List.set_cons_zero, List.set_cons_succ, List.getElem_toArray, List.getElem_cons_zero, List.getElem_cons_succ]
 refine tkT 7 rfl (v := ?_) ?_ ?_
 rotate_left 1
 ·(intro wq hSw; (try dsimp only at hSw); go_simp; (try with_reducible rfl))
 refine tkT 8 rfl (v := ?_) ?_ ?_
 rotate_left 1
 ·(intro wq hSw; (try dsimp only at hSw); go_simp; (try with_reducible rfl))
 try simp only [Act.put, List.setIfInBounds_toArray, List.set_cons_zero, List.set_cons_succ, List.getElem_toArray, List.getElem_cons_zero, List.getElem_cons_succ]
 refine wpAnyH_ready (rs := [9]) (by kernel_rfl) (by simp) ?_
 refine (AllReadyH.cons rfl (fun K hK => ?_) AllReadyH.nil)
 have s10 : (((((x3w.setCell ⟨g, 5, none⟩ (.int .i64 o.kd)).setCell ⟨g, 6, none⟩ (.int .u32 o.key)).setCell ⟨g, 7, none⟩ (.int .u64 o.ver)).setCell ⟨g, 8, none⟩ (.slice A7 o.n c7)).setCell ⟨g, 9, none⟩ (.int .i64 o.pick)).cell? ⟨g, 10, none⟩ = some (.pointer (c.ptr h)) := HG9.out.cell 10
 have t10 := HG9.out.frozen 10
 go_simp
 clear s10 t10
 have HG10 := Lib.hid (HG9.out.set_ 10 (.pointer (some ⟨W7.heap.size, 0, none⟩)))
 have HX10 := Lib.hid (HX9.out.far (p := ⟨g, 10, none⟩) nb' (.pointer (some ⟨W7.heap.size, 0, none⟩)))
 have HC10 : Hid (Chg x3w ((((((x3w.setCell ⟨g, 5, none⟩ (.int .i64 o.kd)).setCell ⟨g, 6, none⟩ (.int .u32 o.key)).setCell ⟨g, 7, none⟩ (.int .u64 o.ver)).setCell ⟨g, 8, none⟩ (.slice A7 o.n c7)).setCell ⟨g, 9, none⟩ (.int .i64 o.pick)).setCell ⟨g, 10, none⟩ (.pointer (some ⟨W7.heap.size, 0, none⟩))) (fun i => i = g)) := Lib.hid (HC9.out.trans (chg_one _ ⟨g, 10, none⟩ _) (fun _ _ e => e))
 have HS : ((((((x3w.setCell ⟨g, 5, none⟩ (.int .i64 o.kd)).setCell ⟨g, 6, none⟩ (.int .u32 o.key)).setCell ⟨g, 7, none⟩ (.int .u64 o.ver)).setCell ⟨g, 8, none⟩ (.slice A7 o.n c7)).setCell ⟨g, 9, none⟩ (.int .i64 o.pick)).setCell ⟨g, 10, none⟩ (.pointer (some ⟨W7.heap.size, 0, none⟩))).cell? ⟨w.heap.size, 0, none⟩ = some (.int .i64 o.kd) ∧ ((((((x3w.setCell ⟨g, 5, none⟩ (.int .i64 o.kd)).setCell ⟨g, 6, none⟩ (.int .u32 o.key)).setCell ⟨g, 7, none⟩ (.int .u64 o.ver)).setCell ⟨g, 8, none⟩ (.slice A7 o.n c7)).setCell ⟨g, 9, none⟩ (.int .i64 o.pick)).setCell ⟨g, 10, none⟩ (.pointer (some ⟨W7.heap.size, 0, none⟩))).cell? ⟨w.heap.size, 1, none⟩ = some (.int .u32 o.key) ∧ ((((((x3w.setCell ⟨g, 5, none⟩ (.int .i64 o.kd)).setCell ⟨g, 6, none⟩ (.int .u32 o.key)).setCell ⟨g, 7, none⟩ (.int .u64 o.ver)).setCell ⟨g, 8, none⟩ (.slice A7 o.n c7)).setCell ⟨g, 9, none⟩ (.int .i64 o.pick)).setCell ⟨g, 10, none⟩ (.pointer (some ⟨W7.heap.size, 0, none⟩))).cell? ⟨w.heap.size, 2, none⟩ = some (.int .u64 o.ver) ∧ ((((((x3w.setCell ⟨g, 5, none⟩ (.int .i64 o.kd)).setCell ⟨g, 6, none⟩ (.int .u32 o.key)).setCell ⟨g, 7, none⟩ (.int .u64 o.ver)).setCell ⟨g, 8, none⟩ (.slice A7 o.n c7)).setCell ⟨g, 9, none⟩ (.int .i64 o.pick)).setCell ⟨g, 10, none⟩ (.pointer (some ⟨W7.heap.size, 0, none⟩))).cell? ⟨w.heap.size, 3, none⟩ = some (.slice A7 o.n c7) ∧ ((((((x3w.setCell ⟨g, 5, none⟩ (.int .i64 o.kd)).setCell ⟨g, 6, none⟩ (.int .u32 o.key)).setCell ⟨g, 7, none⟩ (.int .u64 o.ver)).setCell ⟨g, 8, none⟩ (.slice A7 o.n c7)).setCell ⟨g, 9, none⟩ (.int .i64 o.pick)).setCell ⟨g, 10, none⟩ (.pointer (some ⟨W7.heap.size, 0, none⟩))).cell? ⟨w.heap.size, 4, none⟩ = some (.int .i64 o.pick) := op_cells HX10.out
 refine hK.out _ _ ?_ (fun hHeld => ?_)
 ·first | exact HS | go_keep
 clear hK K
 try simp only [Act.put, List.setIfInBounds_toArray, List.set_cons_zero, List.set_cons_succ, List.getElem_toArray, List.getElem_cons_zero, List.getElem_cons_succ]
 refine wpAnyH_done (by kernel_rfl) ?_ _
 have HCw : Hid (Chg w4 ((((((x3w.setCell ⟨g, 5, none⟩ (.int .i64 o.kd)).setCell ⟨g, 6, none⟩ (.int .u32 o.key)).setCell ⟨g, 7, none⟩ (.int .u64 o.ver)).setCell ⟨g, 8, none⟩ (.slice A7 o.n c7)).setCell ⟨g, 9, none⟩ (.int .i64 o.pick)).setCell ⟨g, 10, none⟩ (.pointer (some ⟨W7.heap.size, 0, none⟩))) (fun i => i = w.heap.size ∨ i = g)) := Lib.hid ((HC7.out.trans (Chg.of_below HB3.out _) (fun _ _ e => e)).trans (HC10.out.mono (fun _ _ e => Or.inr e)) (fun _ _ e => e))
 have HTY : Hid (∀ i, (i = w.heap.size ∨ i = g) → (∃ t cs, Blk w4 i t cs ∧ t ≠ 258 ∧ t ≠ 33 ∧ t ≠ 312 ∧ t ≠ 3) ∧ (∃ t cs, Blk w4 i t cs ∧ t ≠ 5)) := Lib.hid (fun i e => by
  rcases e with rfl | rfl
  ·exact ⟨⟨_, _, HX4.out, by decide, by decide, by decide, by decide⟩, ⟨_, _, HX4.out, by decide⟩⟩
  ·exact ⟨⟨_, _, HA4.out.box, by decide, by decide, by decide, by decide⟩, ⟨_, _, HA4.out.box, by decide⟩⟩)
 have HLT : Hid (LatRp ((((((x3w.setCell ⟨g, 5, none⟩ (.int .i64 o.kd)).setCell ⟨g, 6, none⟩ (.int .u32 o.key)).setCell ⟨g, 7, none⟩ (.int .u64 o.ver)).setCell ⟨g, 8, none⟩ (.slice A7 o.n c7)).setCell ⟨g, 9, none⟩ (.int .i64 o.pick)).setCell ⟨g, 10, none⟩ (.pointer (some ⟨W7.heap.size, 0, none⟩))) W7.heap.size false Rp.zero) := Lib.hid (HC10.out.blk HL3.out (fun e => hgl e.symm))
 have HOWN : Hid (OwnB ((((((x3w.setCell ⟨g, 5, none⟩ (.int .i64 o.kd)).setCell ⟨g, 6, none⟩ (.int .u32 o.key)).setCell ⟨g, 7, none⟩ (.int .u64 o.ver)).setCell ⟨g, 8, none⟩ (.slice A7 o.n c7)).setCell ⟨g, 9, none⟩ (.int .i64 o.pick)).setCell ⟨g, 10, none⟩ (.pointer (some ⟨W7.heap.size, 0, none⟩))) lo A7 o.n c7 o.bs) := Lib.hid (OwnB.chg ⟨own_mono HOW.out (by omega), HWF.out.bs⟩ HCw.out (fun i e => (HTY.out i e).2))
 have HAT := Lib.hid (HA4.out.atl.chg HCw.out (fun i e => (HTY.out i e).1))
 have HLY := Lib.hid (HA4.out.ly.chg HCw.out (fun i e => (HTY.out i e).2))
 have HCC : Hid (Chg w ((((((x3w.setCell ⟨g, 5, none⟩ (.int .i64 o.kd)).setCell ⟨g, 6, none⟩ (.int .u32 o.key)).setCell ⟨g, 7, none⟩ (.int .u64 o.ver)).setCell ⟨g, 8, none⟩ (.slice A7 o.n c7)).setCell ⟨g, 9, none⟩ (.int .i64 o.pick)).setCell ⟨g, 10, none⟩ (.pointer (some ⟨W7.heap.size, 0, none⟩))) (fun i => i = g)) := Lib.hid ((Chg.of_below HB4.out _).trans HCw.out (fun i hi e => by rcases e with e | e; omega; exact e))
 have HNEW : Hid (CalAt ((((((x3w.setCell ⟨g, 5, none⟩ (.int .i64 o.kd)).setCell ⟨g, 6, none⟩ (.int .u32 o.key)).setCell ⟨g, 7, none⟩ (.int .u64 o.ver)).setCell ⟨g, 8, none⟩ (.slice A7 o.n c7)).setCell ⟨g, 9, none⟩ (.int .i64 o.pick)).setCell ⟨g, 10, none⟩ (.pointer (some ⟨W7.heap.size, 0, none⟩))) lo g G W7.heap.size vs (c.begun o A7 c7)) := Lib.hid
  ⟨HG10.out, HAT.out, HA4.out.low, HOWN.out, ⟨HWF.out.kd, HWF.out.key, HWF.out.ver, HWF.out.pick, HWF.out.bs⟩, (by show (1 : Nat) ≤ 2; omega), fun _ => ⟨(by have := HC7.out.size; omega), HLT.out⟩, OwnB.nil _ _, HLY.out, fun _ => rfl⟩
 clear HTY HLT HOWN HAT HLY HCw HC7 HC9 HC10 HG7 HG8 HG9 HG10 HX7 HX8 HX9 HX10 HL3 HB3 HS hgl hHeld lx lgg NR HOW HA4 HX4 x0 x1 x2 x3 x4
 generalize hWn : ((((((x3w.setCell ⟨g, 5, none⟩ (.int .i64 o.kd)).setCell ⟨g, 6, none⟩ (.int .u32 o.key)).setCell ⟨g, 7, none⟩ (.int .u64 o.ver)).setCell ⟨g, 8, none⟩ (.slice A7 o.n c7)).setCell ⟨g, 9, none⟩ (.int .i64 o.pick)).setCell ⟨g, 10, none⟩ (.pointer (some ⟨W7.heap.size, 0, none⟩))) = Wn at *
 clear hWn
 have HKn := Lib.hid (HKG.out Wn HCC.out)
 have AS := Lib.hid (ask2_any lo g G W7.heap.size vs (c.begun o A7 c7) k Wn HNEW.out HKE.out hkk HKn.out hcl hnum hn HVS.out)
 go_wp2_with (fail)
 refine AS.out.mono ?_
 rintro e w11 ⟨q, x, rfl, hq, hbk, hin, hnr, hof, hb11⟩
 have HA11 := Lib.hid (HNEW.out.below hb11)
 have HC11 := Lib.hid (HCC.out.trans (Chg.of_below hb11 _) (fun _ _ e => e))
 have HBK := Lib.hid hbk
 have HIN := Lib.hid hin
 have HNR := Lib.hid hnr
 have HOF := Lib.hid hof
 have hq2 : w.heap.size ≤ q := Nat.le_trans HCC.out.size hq
 clear hb11 hbk hin hnr hof AS HNEW HCC HKn
 go_wp2_with (fail)
 go_ret2
 exact .inr ⟨HZ.out, _, c7, q, A7, x, rfl, HA11.out, hq2, HBK.out, HIN.out, HNR.out, HOF.out, HC11.out⟩
end Go.Proofs.YtmpedblelnpjdaaGreatDoor

end
section
/- A caller: Tick. -/
namespace Go.Proofs.YtmpedblelnpjdaaGreatDoor
open Go.RowKit
set_option linter.unusedSimpArgs false
set_option linter.unusedVariables false
set_option maxHeartbeats 8000000
set_option maxRecDepth 100000
theorem ltRowInfo : (Tryz.prog.info? 37).map (fun i => (i.zero, i.size, i.bytes)) = some (some Lt.zero.agg, 25, 264) := by kernel_rfl
theorem fld_ch (y : Cf) (w : World) : (Instr.field 33 y.agg 0).run Tryz.prog w = .ok (.int .i64 y.ch) w := by kernel_rfl
theorem tick_hdr (f tto ch : Int) (w : World) : (Instr.build 37 #[(0, .int .i64 10), (1, .int .i64 f), (2, .int .i64 tto), (3, .int .i64 ch)]).run Tryz.prog w = .ok (Lt.agg { Lt.zero with kd := 10, fr := f, tw := tto, ch := ch }) w := by kernel_rfl
theorem own_one_lt {W : World} {q base : Nat} {l : Lt} (h : Blk W q 37 l.cells) (hb : base ≤ q) : W.ownsRow base 37 25 (.slice (some ⟨q, 0, none⟩) 1 1) 1 l.cells.toList :=
 ⟨rfl, .inr ⟨q, 1, l.cells, rfl, hb, h, Nat.le_refl _, by decide, rfl, rfl⟩⟩
theorem reads_blk_lt {W : World} {q : Nat} {l : Lt} (h : Blk W q 37 l.cells) : Reads W W.heap.size 25 (some ⟨q, 0, none⟩) 1 l.cells.toList := by
 refine ⟨rfl, fun _ => ⟨_, rfl, h.lt, fun j u hu => ?_⟩⟩
 rw [Go.WideShapes.add_plain, h.cell]
 simpa using hu
theorem lt_news (l : Lt) : ∀ u ∈ l.cells.toList, u.oneCell' = true := by simp [Lt.cells, Value.oneCell']
theorem CalAt.move {W W' : World} {lo g G h : Nat} {vs : List (Int × Int × List Int × Bool × Int)} {c c' : Cl} (a : CalAt W lo g G h vs c) (hc : Chg W W' (fun k => k = g)) (hb : Blk W' g 156 (c'.cells G h)) (hop : c'.op = c.op) (hst : c'.st = c.st) (hrp : c'.rp = c.rp) (hrb : c'.rb = c.rb) (hly : c'.ly = c.ly) (hlb : c'.lb = c.lb) : CalAt W' lo g G h vs c' := by
 have hS1 : ∀ k, k = g → ∃ t cs, Blk W k t cs ∧ t ≠ 5 := fun k e => ⟨_, _, e ▸ a.box, by decide⟩
 refine ⟨hb, a.atl.chg hc (fun k e => ⟨_, _, e ▸ a.box, by decide, by decide, by decide, by decide⟩), a.low, by rw [hop]; exact a.op.chg hc hS1, by rw [hop]; exact a.ow, by rw [hst]; exact a.st, fun e => ?_, by rw [hrp, hrb]; exact a.rp.chg hc hS1, by rw [hly, hlb]; exact a.ly.chg hc hS1, by rw [hst, hrp]; exact a.zr⟩
 rw [hst] at e ⊢
 rw [hrp]
 obtain ⟨h1, h2⟩ := a.lat e
 exact ⟨h1, hc.blk h2 (fun e => Blk.ne_ h2 a.box (by decide) e)⟩
def Cl.ticked (c : Cl) : Cl := ⟨c.cl, c.ms, c.num, wrap64 (c.tk + 1), c.op, c.st, c.rp, c.rb, c.last, c.ly, c.lb⟩
end Go.Proofs.YtmpedblelnpjdaaGreatDoor

end
