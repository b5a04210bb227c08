/- A caller: answer. -/
import Derived.Test.YtnnegldaekmgbaaGreatDoorCalE
namespace Go.Proofs.YtnnegldaekmgbaaGreatDoor
open Go.RowKit
set_option linter.unusedSimpArgs false
set_option linter.unusedVariables false
set_option maxHeartbeats 8000000
set_option maxRecDepth 100000


def Cl.answered (c : Cl) (r : Rp) (rb : List Int) : Cl := ⟨c.cl, c.ms, c.num, c.tk, c.op, 2, r, rb, c.num, r, rb⟩
theorem calAnswer_any (lo g G h : Nat) (vs : List (Int × Int × List Int × Bool × Int)) (c : Cl) (r : Rp) (rb : List Int) (w : World) (a : CalAt w lo g G h vs c) (hlo : lo ≤ w.heap.size) (hst : c.st = 1) (hr : OwnB w lo r.A r.n r.c rb) :
    Calls Tryz.prog 60 #[.pointer (some ⟨g, 0, none⟩), .agg #[.int .i64 r.cd, .int .u64 r.vr, .slice r.A r.n r.c]] w fun e w' => e = .returned (.tuple #[]) ∧ CalAt w' lo g G h vs (c.answered r rb) ∧ Chg w w' (fun i => i = g ∨ i = h) := by
  obtain ⟨W1, hW1⟩ : ∃ W1, W1 = w.alloc (.cells r.cells 51) := ⟨_, rfl⟩
  have hb1 : Blk W1 w.heap.size 51 r.cells := by rw [hW1]; exact Blk.new _ _ _
  have HBW : Hid (Below w.heap.size w W1) := Lib.hid (by rw [hW1]; exact (Below.refl _ _).alloc (Nat.le_refl _) _)
  have HA : Hid (CalAt W1 lo g G h vs c) := Lib.hid (a.below HBW.out)
  have HR := Lib.hid (hr.below HBW.out)
  have HW1 := Lib.hid hW1
  have HBX := Lib.hid hb1
  have lg := a.box.lt
  have nb : g ≠ w.heap.size := by omega
  have nb' : w.heap.size ≠ g := by omega
  obtain ⟨hlh, hlat⟩ := HA.out.lat (by omega)
  rw [show (c.st == 2) = false by rw [hst]; rfl] at hlat
  have lh : h < w.heap.size := by
    have := (a.lat (by omega)).2
    exact Blk.lt this
  have HLT := Lib.hid hlat
  have ngh : g ≠ h := fun e => Blk.ne_ HA.out.box hlat (by decide) e
  have ST := Lib.hid (fun W (h9 : Below W1.heap.size W1 W) => setRp_any h false c.rp r W (Blk.below hlat h9 (Blk.lt hlat)))
  obtain ⟨x0, x1, x2⟩ := cells3 (show Blk W1 w.heap.size 51 #[.int .i64 r.cd, .int .u64 r.vr, .slice r.A r.n r.c] from hb1)
  have lx := hb1.lt
  have y10 : W1.cell? ⟨g, 10, none⟩ = some (.pointer (some ⟨h, 0, none⟩)) := (HA.out.box.cell 10).trans (by unfold Cl.cells Cl.ptr; rw [hst]; rfl)
  have HST := Lib.hid hst
  clear hW1 hb1 a hr hst hlat
  go_enter Tryz.func60, Tryz.ntmps60
  go_upto_region 1 with (fail)
  rw [show w.alloc (.cells #[.int .i64 r.cd, .int .u64 r.vr, .slice r.A r.n r.c] 51) = W1 from HW1.out.symm]
  clear HW1
  refine wp_region_held_drew (S := fun wq => wq.cell? ⟨g, 10, none⟩ = some (.pointer (some ⟨h, 0, none⟩)) ∧ wq.cell? ⟨w.heap.size, 0, none⟩ = some (.int .i64 r.cd) ∧ wq.cell? ⟨w.heap.size, 1, none⟩ = some (.int .u64 r.vr) ∧ wq.cell? ⟨w.heap.size, 2, none⟩ = some (.slice r.A r.n r.c)) (by kernel_rfl) ⟨y10, x0, x1, x2⟩ (fun hHeld => ?_)
  have HBd : Hid (Below W1.heap.size W1 W1.drew) := Lib.hid (Below.refl _ _).drew
  refine wpAnyH_take (i := 0) (v := ?_) rfl (by kernel_rfl) (by kernel_rfl) (by kernel_rfl) (fun _ _ _ h => h) (Or.inl ⟨by rfl, ?_⟩) (by assumption) ?_
  rotate_left 1
  · (intro wq hSw; (try dsimp only at hSw); go_simp; (try with_reducible rfl))
  refine wpAnyH_take (i := 1) (v := ?_) rfl (by kernel_rfl) (by kernel_rfl) (by kernel_rfl) (fun _ _ _ h => h) (Or.inl ⟨by rfl, ?_⟩) (by assumption) ?_
  rotate_left 1
  · (intro wq hSw; (try dsimp only at hSw); go_simp; (try with_reducible rfl))
  refine wpAnyH_take (i := 2) (v := ?_) rfl (by kernel_rfl) (by kernel_rfl) (by kernel_rfl) (fun _ _ _ h => h) (Or.inl ⟨by rfl, ?_⟩) (by assumption) ?_
  rotate_left 1
  · (intro wq hSw; (try dsimp only at hSw); go_simp; (try with_reducible rfl))
  refine wpAnyH_take (i := 3) (v := ?_) rfl (by kernel_rfl) (by kernel_rfl) (by kernel_rfl) (fun _ _ _ h => h) (Or.inl ⟨by rfl, ?_⟩) (by assumption) ?_
  rotate_left 1
  · (intro wq hSw; (try dsimp only at hSw); go_simp; (try with_reducible rfl))
  refine wpAnyH_take (i := 4) (v := ?_) rfl (by kernel_rfl) (by kernel_rfl) (by kernel_rfl) (fun _ _ _ h => h) (Or.inl ⟨by rfl, ?_⟩) (by assumption) ?_
  rotate_left 1
  · (intro wq hSw; (try dsimp only at hSw); go_simp; (try with_reducible rfl))
  try simp only [Act.put, List.setIfInBounds_toArray, List.set_cons_zero, List.set_cons_succ, List.getElem_toArray, List.getElem_cons_zero, List.getElem_cons_succ]
  refine wpAnyH_ready (rs := [5]) (by kernel_rfl) (by simp) ?_
  refine (AllReadyH.cons rfl (fun K hK => ?_) AllReadyH.nil)
  go_simp
  refine (ST.out _ HBd.out).mono ?_
  rintro e w2 ⟨rfl, hl2, hc2⟩
  have hC2 : Hid (Chg W1 w2 (fun i => i = h)) := Lib.hid ((Chg.of_below HBd.out _).trans hc2 (fun _ _ e => e))
  have HL2 := Lib.hid hl2
  replace y10 : w2.cell? ⟨g, 10, none⟩ = some (.pointer (some ⟨h, 0, none⟩)) := (hC2.out.cell (p := ⟨g, 10, none⟩) HA.out.box.lt ngh).trans y10
  have nxh : w.heap.size ≠ h := by omega
  have HX2 := Lib.hid (hC2.out.blk HBX.out nxh)
  obtain ⟨z0, z1, z2⟩ := cells3 (show Blk w2 w.heap.size 51 #[.int .i64 r.cd, .int .u64 r.vr, .slice r.A r.n r.c] from HX2.out)
  have HS : w2.cell? ⟨g, 10, none⟩ = some (.pointer (some ⟨h, 0, none⟩)) ∧ w2.cell? ⟨w.heap.size, 0, none⟩ = some (.int .i64 r.cd) ∧ w2.cell? ⟨w.heap.size, 1, none⟩ = some (.int .u64 r.vr) ∧ w2.cell? ⟨w.heap.size, 2, none⟩ = some (.slice r.A r.n r.c) := ⟨y10, z0, z1, z2⟩
  clear hl2 hc2 x0 x1 x2
  refine hK.out _ _ ?_ (fun hHeld => ?_)
  · first | exact HS | go_keep
  clear hK K
  try simp only [Act.put, List.setIfInBounds_toArray, List.set_cons_zero, List.set_cons_succ, List.getElem_toArray, List.getElem_cons_zero, List.getElem_cons_succ]
  refine wpAnyH_done (by kernel_rfl) ?_ _
  skip
  clear ST HBd y10 hHeld HS
  have ngh' : h ≠ g := Ne.symm ngh
  have y2 : w2.cell? ⟨g, 2, none⟩ = some (.int .u64 c.num) := (hC2.out.cell (p := ⟨g, 2, none⟩) HA.out.box.lt ngh).trans (HA.out.box.cell 2)
  have HG2 : Hid (Blk w2 g 111 (c.cells G h)) := Lib.hid (hC2.out.blk HA.out.box ngh)
  have lg2 := HG2.out.lt
  have lx2 := HX2.out.lt
  go_upto_region 2 with (fail)
  refine wp_region_held_drew (S := fun wq => wq.cell? ⟨g, 2, none⟩ = some (.int .u64 c.num) ∧ wq.cell? ⟨w.heap.size, 0, none⟩ = some (.int .i64 r.cd) ∧ wq.cell? ⟨w.heap.size, 1, none⟩ = some (.int .u64 r.vr) ∧ wq.cell? ⟨w.heap.size, 2, none⟩ = some (.slice r.A r.n r.c)) (by kernel_rfl) ⟨y2, z0, z1, z2⟩ (fun hHeld => ?_)
  have GG : Hid (Blk w2.drew g 111 (c.cells G h)) := Lib.hid HG2.out.drew
  have GX : Hid (Blk w2.drew w.heap.size 51 r.cells) := Lib.hid HX2.out.drew
  have HCd : Hid (Chg w2 w2.drew (fun i => i = g)) := Lib.hid (Chg.of_below (Below.refl _ _).drew _)
  generalize w2.drew = Wd at *
  refine wpAnyH_take (i := 0) (v := ?_) rfl (by kernel_rfl) (by kernel_rfl) (by kernel_rfl) (fun _ _ _ h => h) (Or.inl ⟨by rfl, ?_⟩) (by assumption) ?_
  rotate_left 1
  · (intro wq hSw; (try dsimp only at hSw); go_simp; (try with_reducible rfl))
  refine wpAnyH_take (i := 1) (v := ?_) rfl (by kernel_rfl) (by kernel_rfl) (by kernel_rfl) (fun _ _ _ h => h) (Or.inl ⟨by rfl, ?_⟩) (by assumption) ?_
  rotate_left 1
  · (intro wq hSw; (try dsimp only at hSw); go_simp; (try with_reducible rfl))
  refine wpAnyH_take (i := 2) (v := ?_) rfl (by kernel_rfl) (by kernel_rfl) (by kernel_rfl) (fun _ _ _ h => h) (Or.inl ⟨by rfl, ?_⟩) (by assumption) ?_
  rotate_left 1
  · (intro wq hSw; (try dsimp only at hSw); go_simp; (try with_reducible rfl))
  refine wpAnyH_take (i := 3) (v := ?_) rfl (by kernel_rfl) (by kernel_rfl) (by kernel_rfl) (fun _ _ _ h => h) (Or.inl ⟨by rfl, ?_⟩) (by assumption) ?_
  rotate_left 1
  · (intro wq hSw; (try dsimp only at hSw); go_simp; (try with_reducible rfl))
  refine wpAnyH_take (i := 4) (v := ?_) rfl (by kernel_rfl) (by kernel_rfl) (by kernel_rfl) (fun _ _ _ h => h) (Or.inl ⟨by rfl, ?_⟩) (by assumption) ?_
  rotate_left 1
  · (intro wq hSw; (try dsimp only at hSw); go_simp; (try with_reducible rfl))
  refine wpAnyH_take (i := 5) (v := ?_) rfl (by kernel_rfl) (by kernel_rfl) (by kernel_rfl) (fun _ _ _ h => h) (Or.inl ⟨by rfl, ?_⟩) (by assumption) ?_
  rotate_left 1
  · (intro wq hSw; (try dsimp only at hSw); go_simp; (try with_reducible rfl))
  refine wpAnyH_take (i := 6) (v := ?_) rfl (by kernel_rfl) (by kernel_rfl) (by kernel_rfl) (fun _ _ _ h => h) (Or.inl ⟨by rfl, ?_⟩) (by assumption) ?_
  rotate_left 1
  · (intro wq hSw; (try dsimp only at hSw); go_simp; (try with_reducible rfl))
  refine wpAnyH_take (i := 7) (v := ?_) rfl (by kernel_rfl) (by kernel_rfl) (by kernel_rfl) (fun _ _ _ h => h) (Or.inl ⟨by rfl, ?_⟩) (by assumption) ?_
  rotate_left 1
  · (intro wq hSw; (try dsimp only at hSw); go_simp; (try with_reducible rfl))
  refine wpAnyH_take (i := 8) (v := ?_) rfl (by kernel_rfl) (by kernel_rfl) (by kernel_rfl) (fun _ _ _ h => h) (Or.inl ⟨by rfl, ?_⟩) (by assumption) ?_
  rotate_left 1
  · (intro wq hSw; (try dsimp only at hSw); go_simp; (try with_reducible rfl))
  try simp only [Act.put, List.setIfInBounds_toArray, List.set_cons_zero, List.set_cons_succ, List.getElem_toArray, List.getElem_cons_zero, List.getElem_cons_succ]
  refine wpAnyH_ready (rs := [9]) (by kernel_rfl) (by simp) ?_
  refine (AllReadyH.cons rfl (fun K hK => ?_) AllReadyH.nil)
  have s0 : Wd.cell? ⟨g, 11, none⟩ = some (.int .u64 c.last) := GG.out.cell 11
  have f0 := GG.out.frozen 11
  go_simp
  clear s0 f0
  replace GG := Lib.hid (GG.out.set_ 11 (.int .u64 (c.num : Int)))
  replace GX := Lib.hid (GX.out.far (p := ⟨g, 11, none⟩) nb' (.int .u64 (c.num : Int)))
  have HC9 : Hid (Chg w2 (Wd.setCell ⟨g, 11, none⟩ (.int .u64 (c.num : Int))) (fun i => i = g)) := Lib.hid (HCd.out.trans (chg_one _ ⟨g, 11, none⟩ _) (fun _ _ e => e))
  have HS : (Wd.setCell ⟨g, 11, none⟩ (.int .u64 (c.num : Int))).cell? ⟨g, 2, none⟩ = some (.int .u64 c.num) ∧ (Wd.setCell ⟨g, 11, none⟩ (.int .u64 (c.num : Int))).cell? ⟨w.heap.size, 0, none⟩ = some (.int .i64 r.cd) ∧ (Wd.setCell ⟨g, 11, none⟩ (.int .u64 (c.num : Int))).cell? ⟨w.heap.size, 1, none⟩ = some (.int .u64 r.vr) ∧ (Wd.setCell ⟨g, 11, none⟩ (.int .u64 (c.num : Int))).cell? ⟨w.heap.size, 2, none⟩ = some (.slice r.A r.n r.c) := ⟨GG.out.cell 2, GX.out.cell 0, GX.out.cell 1, GX.out.cell 2⟩
  refine hK.out _ _ ?_ (fun hHeld => ?_)
  · first | exact HS | go_keep
  clear hK K
  try simp only [Act.put, List.setIfInBounds_toArray, List.set_cons_zero, List.set_cons_succ, List.getElem_toArray, List.getElem_cons_zero, List.getElem_cons_succ]
  refine wpAnyH_take (i := 10) (v := ?_) rfl (by kernel_rfl) (by kernel_rfl) (by kernel_rfl) (fun _ _ _ h => h) (Or.inl ⟨by rfl, ?_⟩) (by assumption) ?_
  rotate_left 1
  · (intro wq hSw; (try dsimp only at hSw); go_simp; (try with_reducible rfl))
  refine wpAnyH_take (i := 11) (v := ?_) rfl (by kernel_rfl) (by kernel_rfl) (by kernel_rfl) (fun _ _ _ h => h) (Or.inl ⟨by rfl, ?_⟩) (by assumption) ?_
  rotate_left 1
  · (intro wq hSw; (try dsimp only at hSw); go_simp; (try with_reducible rfl))
  try simp only [Act.put, List.setIfInBounds_toArray, List.set_cons_zero, List.set_cons_succ, List.getElem_toArray, List.getElem_cons_zero, List.getElem_cons_succ]
  refine wpAnyH_ready (rs := [12]) (by kernel_rfl) (by simp) ?_
  refine (AllReadyH.cons rfl (fun K hK => ?_) AllReadyH.nil)
  have s0 : (Wd.setCell ⟨g, 11, none⟩ (.int .u64 (c.num : Int))).cell? ⟨g, 12, none⟩ = some (.int .i64 c.ly.cd) := GG.out.cell 12
  have s1 : (Wd.setCell ⟨g, 11, none⟩ (.int .u64 (c.num : Int))).cell? ⟨g, 13, none⟩ = some (.int .u64 c.ly.vr) := GG.out.cell 13
  have s2 : (Wd.setCell ⟨g, 11, none⟩ (.int .u64 (c.num : Int))).cell? ⟨g, 14, none⟩ = some (.slice c.ly.A c.ly.n c.ly.c) := GG.out.cell 14
  have f0 := GG.out.frozen 12
  have f1 := GG.out.frozen 13
  have f2 := GG.out.frozen 14
  go_simp
  clear s0 s1 s2 f0 f1 f2
  replace GG := Lib.hid (((GG.out.set_ 12 (.int .i64 r.cd)).set_ 13 (.int .u64 r.vr)).set_ 14 (.slice r.A r.n r.c))
  replace GX := Lib.hid (((GX.out.far (p := ⟨g, 12, none⟩) nb' (.int .i64 r.cd)).far (p := ⟨g, 13, none⟩) nb' (.int .u64 r.vr)).far (p := ⟨g, 14, none⟩) nb' (.slice r.A r.n r.c))
  have HC12 : Hid (Chg w2 ((((Wd.setCell ⟨g, 11, none⟩ (.int .u64 (c.num : Int))).setCell ⟨g, 12, none⟩ (.int .i64 r.cd)).setCell ⟨g, 13, none⟩ (.int .u64 r.vr)).setCell ⟨g, 14, none⟩ (.slice r.A r.n r.c)) (fun i => i = g)) := Lib.hid (((HC9.out.trans (chg_one _ ⟨g, 12, none⟩ _) (fun _ _ e => e)).trans (chg_one _ ⟨g, 13, none⟩ _) (fun _ _ e => e)).trans (chg_one _ ⟨g, 14, none⟩ _) (fun _ _ e => e))
  have HS : ((((Wd.setCell ⟨g, 11, none⟩ (.int .u64 (c.num : Int))).setCell ⟨g, 12, none⟩ (.int .i64 r.cd)).setCell ⟨g, 13, none⟩ (.int .u64 r.vr)).setCell ⟨g, 14, none⟩ (.slice r.A r.n r.c)).cell? ⟨g, 2, none⟩ = some (.int .u64 c.num) ∧ ((((Wd.setCell ⟨g, 11, none⟩ (.int .u64 (c.num : Int))).setCell ⟨g, 12, none⟩ (.int .i64 r.cd)).setCell ⟨g, 13, none⟩ (.int .u64 r.vr)).setCell ⟨g, 14, none⟩ (.slice r.A r.n r.c)).cell? ⟨w.heap.size, 0, none⟩ = some (.int .i64 r.cd) ∧ ((((Wd.setCell ⟨g, 11, none⟩ (.int .u64 (c.num : Int))).setCell ⟨g, 12, none⟩ (.int .i64 r.cd)).setCell ⟨g, 13, none⟩ (.int .u64 r.vr)).setCell ⟨g, 14, none⟩ (.slice r.A r.n r.c)).cell? ⟨w.heap.size, 1, none⟩ = some (.int .u64 r.vr) ∧ ((((Wd.setCell ⟨g, 11, none⟩ (.int .u64 (c.num : Int))).setCell ⟨g, 12, none⟩ (.int .i64 r.cd)).setCell ⟨g, 13, none⟩ (.int .u64 r.vr)).setCell ⟨g, 14, none⟩ (.slice r.A r.n r.c)).cell? ⟨w.heap.size, 2, none⟩ = some (.slice r.A r.n r.c) := ⟨GG.out.cell 2, GX.out.cell 0, GX.out.cell 1, GX.out.cell 2⟩
  refine hK.out _ _ ?_ (fun hHeld => ?_)
  · first | exact HS | go_keep
  clear hK K
  try simp only [Act.put, List.setIfInBounds_toArray, List.set_cons_zero, List.set_cons_succ, List.getElem_toArray, List.getElem_cons_zero, List.getElem_cons_succ]
  refine wpAnyH_done (by kernel_rfl) ?_ _
  have HCw : Hid (Chg W1 ((((Wd.setCell ⟨g, 11, none⟩ (.int .u64 (c.num : Int))).setCell ⟨g, 12, none⟩ (.int .i64 r.cd)).setCell ⟨g, 13, none⟩ (.int .u64 r.vr)).setCell ⟨g, 14, none⟩ (.slice r.A r.n r.c)) (fun i => i = h ∨ i = g)) := Lib.hid ((hC2.out.mono (fun _ _ e => Or.inl e)).trans (HC12.out.mono (fun _ _ e => Or.inr e)) (fun _ _ e => e))
  have HTY : Hid (∀ i, (i = h ∨ i = g) → (∃ t cs, Blk W1 i t cs ∧ t ≠ 176 ∧ t ≠ 44 ∧ t ≠ 269 ∧ t ≠ 3) ∧ (∃ t cs, Blk W1 i t cs ∧ t ≠ 5)) := Lib.hid (fun i e => by
    rcases e with rfl | rfl
    · exact ⟨⟨_, _, HLT.out, by decide, by decide, by decide, by decide⟩, ⟨_, _, HLT.out, by decide⟩⟩
    · exact ⟨⟨_, _, HA.out.box, by decide, by decide, by decide, by decide⟩, ⟨_, _, HA.out.box, by decide⟩⟩)
  have HLT2 : Hid (LatRp ((((Wd.setCell ⟨g, 11, none⟩ (.int .u64 (c.num : Int))).setCell ⟨g, 12, none⟩ (.int .i64 r.cd)).setCell ⟨g, 13, none⟩ (.int .u64 r.vr)).setCell ⟨g, 14, none⟩ (.slice r.A r.n r.c)) h true r) := Lib.hid (HC12.out.blk HL2.out ngh')
  have HRR := Lib.hid (HR.out.chg HCw.out (fun i e => (HTY.out i e).2))
  have HNEW : Hid (CalAt ((((Wd.setCell ⟨g, 11, none⟩ (.int .u64 (c.num : Int))).setCell ⟨g, 12, none⟩ (.int .i64 r.cd)).setCell ⟨g, 13, none⟩ (.int .u64 r.vr)).setCell ⟨g, 14, none⟩ (.slice r.A r.n r.c)) lo g G h vs (c.answered r rb)) := Lib.hid
    ⟨(by have e0 := HST.out; have e1 := GG.out; unfold Cl.cells Cl.ptr at e1; rw [if_neg (by rw [e0]; decide)] at e1; exact e1), HA.out.atl.chg HCw.out (fun i e => (HTY.out i e).1), HA.out.low, HA.out.op.chg HCw.out (fun i e => (HTY.out i e).2), HA.out.ow, (by show (2 : Nat) ≤ 2; omega), fun _ => ⟨hlh, HLT2.out⟩, HRR.out, HRR.out, fun e => absurd rfl e⟩
  have HCC : Hid (Chg w ((((Wd.setCell ⟨g, 11, none⟩ (.int .u64 (c.num : Int))).setCell ⟨g, 12, none⟩ (.int .i64 r.cd)).setCell ⟨g, 13, none⟩ (.int .u64 r.vr)).setCell ⟨g, 14, none⟩ (.slice r.A r.n r.c)) (fun i => i = g ∨ i = h)) := Lib.hid ((Chg.of_below HBW.out _).trans HCw.out (fun i hi e => by rcases e with e | e; exact .inr e; exact .inl e))
  clear HCw HTY HLT2 HRR GG GX HC9 HC12 HS hHeld
  generalize hWn : ((((Wd.setCell ⟨g, 11, none⟩ (.int .u64 (c.num : Int))).setCell ⟨g, 12, none⟩ (.int .i64 r.cd)).setCell ⟨g, 13, none⟩ (.int .u64 r.vr)).setCell ⟨g, 14, none⟩ (.slice r.A r.n r.c)) = Wn at *
  clear hWn
  go_wp2_with (fail)
  go_end0
  exact ⟨rfl, HNEW.out, HCC.out⟩
end Go.Proofs.YtnnegldaekmgbaaGreatDoor
