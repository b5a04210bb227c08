/- A caller: Reply. -/
import Derived.Test.YtnnegldaekmgbaaGreatDoorCalB
namespace Go.Proofs.YtnnegldaekmgbaaGreatDoor
open Go.RowKit
set_option linter.unusedSimpArgs false
set_option linter.unusedVariables false
set_option maxHeartbeats 8000000
set_option maxRecDepth 100000

def ReplP (c : Cl) (w : World) (e : Ending) (w' : World) : Prop := ∃ (A7 : Option Addr) (c7 : Nat), e = .returned (.tuple #[.agg #[.int .i64 c.rp.cd, .int .u64 c.rp.vr, .slice A7 c.rp.n c7], .bool (c.st == 2)]) ∧ OwnB w' w.heap.size A7 c.rp.n c7 c.rb ∧ Below w.heap.size w w'
theorem calReply_any (lo g G h : Nat) (vs : List (Int × Int × List Int × Bool × Int)) (c : Cl) (w : World) (a : CalAt w lo g G h vs c) (hst : c.st ≠ 0) (hn : c.rp.n ≤ 1000000) :
    Calls Tryz.prog 16 #[.pointer (some ⟨g, 0, none⟩)] w (ReplP c w) := by
  obtain ⟨W1, hW1⟩ : ∃ W1, W1 = w.alloc (.cells #[.int .i64 0, .int .u64 0, .slice none 0 0] 51) := ⟨_, rfl⟩
  have hb1 : Below w.heap.size w W1 := by rw [hW1]; exact (Below.refl _ _).alloc (Nat.le_refl _) _
  have hr1 : Blk W1 w.heap.size 51 #[.int .i64 0, .int .u64 0, .slice none 0 0] := by rw [hW1]; exact Blk.new _ _ _
  have HA := Lib.hid (a.below hb1)
  have HB1 := Lib.hid hb1
  have HR1 := Lib.hid hr1
  have HW1 := Lib.hid hW1
  have lg := a.box.lt
  have hs1 := hb1.size
  have lr := hr1.lt
  have y10 : W1.cell? ⟨g, 10, none⟩ = some (.pointer (some ⟨h, 0, none⟩)) := (HA.out.box.cell 10).trans (by unfold Cl.cells Cl.ptr; rw [if_neg hst]; rfl)
  obtain ⟨b, hb⟩ : ∃ b : Bool, b = (c.st == 2) := ⟨_, rfl⟩
  have GT : Hid (Calls Tryz.prog 55 #[.pointer (some ⟨h, 0, none⟩)] W1 fun e w' => e = .returned (.tuple #[.agg #[.int .i64 c.rp.cd, .int .u64 c.rp.vr, .slice c.rp.A c.rp.n c.rp.c], .bool b]) ∧ Below W1.heap.size W1 w') := Lib.hid (by
    have h1 := getRp_any h _ _ W1 (HA.out.lat hst).2
    rw [← hb] at h1
    cases b
    · have h2 := HA.out.zr (by intro e; rw [e] at hb; cases hb)
      rw [h2] at h1 ⊢
      exact h1
    · exact h1)
  have HBE := Lib.hid hb
  have HOW := Lib.hid HA.out.rp
  clear hW1 hb1 hr1 a hst hb HA
  go_enter Tryz.func16, Tryz.ntmps16
  go_upto_region 1 with (fail)
  rw [← HW1.out]
  go_wp2_with (fail)
  refine GT.out.mono ?_
  rintro e w2 ⟨rfl, hb2⟩
  obtain ⟨W3, hW3⟩ : ∃ W3, W3 = w2.alloc (.cells #[.int .i64 c.rp.cd, .int .u64 c.rp.vr, .slice c.rp.A c.rp.n c.rp.c] 51) := ⟨_, rfl⟩
  have hb3 : Below w2.heap.size w2 W3 := by rw [hW3]; exact (Below.refl _ _).alloc (Nat.le_refl _) _
  have hx3 : Blk W3 w2.heap.size 51 #[.int .i64 c.rp.cd, .int .u64 c.rp.vr, .slice c.rp.A c.rp.n c.rp.c] := by rw [hW3]; exact Blk.new _ _ _
  have hb13 : Below W1.heap.size W1 W3 := hb2.trans (hb3.mono hb2.size)
  have HB3 := Lib.hid (HB1.out.trans (hb13.mono hs1))
  have HR3 := Lib.hid (HR1.out.below hb13 lr)
  have HX3 := Lib.hid hx3
  have HO3 := Lib.hid (HOW.out.below hb13)
  have HW3 := Lib.hid hW3
  have h23 := hb2.size
  have ne : w.heap.size ≠ w2.heap.size := by omega
  have ne' : w2.heap.size ≠ w.heap.size := by omega
  have lx3 := hx3.lt
  have CLN := Lib.hid (bclone_any c.rp.A c.rp.n c.rp.c W3.heap.size c.rb W3 (Nat.le_refl _) HO3.out.reads (by omega))
  obtain ⟨z0, z1, z2⟩ := cells3 hx3
  have f2 := hx3.frozen 2
  clear hW3 hb3 hx3 hb2 hb13 GT HR1 HOW HB1 y10 HW1
  go_upto_region 4 with (fail)
  rw [← HW3.out]
  clear HW3
  go_wp2_with (fail)
  refine CLN.out.mono ?_
  rintro e w4 ⟨v, rfl, hown, hb4⟩
  obtain ⟨A7, c7, rfl, hrd7, hc7, hm7⟩ := own_slice hown
  have HB4 := Lib.hid (HB3.out.trans (hb4.mono HB3.out.size))
  have HR4 := Lib.hid (HR3.out.below hb4 (by omega))
  have HX4 := Lib.hid (HX3.out.below hb4 lx3)
  have HOB : Hid (OwnB w4 W3.heap.size A7 c.rp.n c7 c.rb) := Lib.hid ⟨hown, HO3.out.2⟩
  have hs3 := HB3.out.size
  clear hown hb4 CLN hrd7 hc7 hm7 HB3 HR3 HX3 HO3 z0 z1 z2 f2
  obtain ⟨z0, z1, z2⟩ := cells3 HX4.out
  obtain ⟨r0, r1, r2⟩ := cells3 HR4.out
  have f2 := HX4.out.frozen 2
  obtain ⟨f0, f1, f3⟩ := frozen3 HR4.out
  have lx4 := HX4.out.lt
  have lr4 := HR4.out.lt
  have HC : Hid (Chg w4 ((((w4.setCell ⟨w2.heap.size, 2, none⟩ (.slice A7 c.rp.n c7)).setCell ⟨w.heap.size, 0, none⟩ (.int .i64 c.rp.cd)).setCell ⟨w.heap.size, 1, none⟩ (.int .u64 c.rp.vr)).setCell ⟨w.heap.size, 2, none⟩ (.slice A7 c.rp.n c7)) (fun i => i = w2.heap.size ∨ i = w.heap.size)) := Lib.hid
    (((((chg_one w4 ⟨w2.heap.size, 2, none⟩ _).mono (fun _ _ e => Or.inl e)).trans ((chg_one _ ⟨w.heap.size, 0, none⟩ _).mono (fun _ _ e => Or.inr e)) (fun _ _ e => e)).trans ((chg_one _ ⟨w.heap.size, 1, none⟩ _).mono (fun _ _ e => Or.inr e)) (fun _ _ e => e)).trans ((chg_one _ ⟨w.heap.size, 2, none⟩ _).mono (fun _ _ e => Or.inr e)) (fun _ _ e => e))
  have HG : Hid (Blk ((((w4.setCell ⟨w2.heap.size, 2, none⟩ (.slice A7 c.rp.n c7)).setCell ⟨w.heap.size, 0, none⟩ (.int .i64 c.rp.cd)).setCell ⟨w.heap.size, 1, none⟩ (.int .u64 c.rp.vr)).setCell ⟨w.heap.size, 2, none⟩ (.slice A7 c.rp.n c7)) w.heap.size 51 #[.int .i64 c.rp.cd, .int .u64 c.rp.vr, .slice A7 c.rp.n c7]) := Lib.hid
    ((((HR4.out.far (p := ⟨w2.heap.size, 2, none⟩) ne (.slice A7 c.rp.n c7)).set_ 0 (.int .i64 c.rp.cd)).set_ 1 (.int .u64 c.rp.vr)).set_ 2 (.slice A7 c.rp.n c7))
  go_wp2_with (fail)
  generalize (((w4.setCell ⟨w2.heap.size, 2, none⟩ (.slice A7 c.rp.n c7)).setCell ⟨w.heap.size, 0, none⟩ (.int .i64 c.rp.cd)).setCell ⟨w.heap.size, 1, none⟩ (.int .u64 c.rp.vr)).setCell ⟨w.heap.size, 2, none⟩ (.slice A7 c.rp.n c7) = wz at *
  obtain ⟨k0, k1, k2⟩ := cells3 HG.out
  refine bodyPost_ret (v := .tuple #[.agg #[.int .i64 c.rp.cd, .int .u64 c.rp.vr, .slice A7 c.rp.n c7], .bool b]) (by simp [results, Tryz.results16, go_sem, k0, k1, k2]) rfl ?_
  refine ⟨A7, c7, by rw [← HBE.out], ⟨own_mono (HC.out.own HOB.out.1 (fun k hk e => by have := (HOB.out.1.lt k hk).1; rcases e with e | e <;> omega)) (by omega), HOB.out.2⟩, HB4.out.trans (HC.out.below HB4.out.size (fun k hk e => by rcases e with e | e <;> omega))⟩
end Go.Proofs.YtnnegldaekmgbaaGreatDoor
