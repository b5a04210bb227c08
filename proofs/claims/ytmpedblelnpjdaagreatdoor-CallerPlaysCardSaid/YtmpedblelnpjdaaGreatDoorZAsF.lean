/- A caller: Reply, Last, Op, Atlas. -/
import Derived.Test.YtmpedblelnpjdaaGreatDoorZCalC
import Derived.Test.YtmpedblelnpjdaaGreatDoorZTk
import Derived.Test.YtmpedblelnpjdaaGreatDoorZCalH
import Derived.Test.YtmpedblelnpjdaaGreatDoorZAsE
namespace Go.Proofs.YtmpedblelnpjdaaGreatDoor
open Go.RowKit
set_option linter.unusedSimpArgs false
set_option linter.unusedVariables false
set_option maxHeartbeats 8000000
set_option maxRecDepth 100000
theorem getRp_nil (w : World) : Calls Tryz.prog 143 #[.pointer none] w fun e w' => e = .returned (.tuple #[Rp.zero.agg, .bool false]) ∧ Below w.heap.size w w' := by
 have H : Hid (Below w.heap.size w ((w.alloc (.cells #[.int .i64 0, .int .u64 0, .slice none 0 0] 60)).alloc (.cells #[.int .i64 0, .int .u64 0, .slice none 0 0] 60))) := Lib.hid (((Below.refl _ _).alloc (Nat.le_refl _) _).alloc (by simp) _)
 go_enter Tryz.func143, Tryz.ntmps143
 go_wp2_with (fail)
 have HK : Blk ((w.alloc (.cells #[.int .i64 0, .int .u64 0, .slice none 0 0] 60)).alloc (.cells #[.int .i64 0, .int .u64 0, .slice none 0 0] 60)) w.heap.size 60 #[.int .i64 0, .int .u64 0, .slice none 0 0] := (Blk.new _ _ _).alloc _
 refine bodyPost_ret_by (results_cell_row_tmp Tryz.results143 _ _ w.heap.size 60 _ (0, 0) _ _ rfl HK rfl Tryz.underlying60 rfl (by kernel_rfl)) rfl ?_
 exact ⟨rfl, H.out⟩
theorem calReply2_any (lo g G h : Nat) (vs : List (Int × Int × List Int × Bool × Int)) (c : Cl) (w : World) (a : CalAt w lo g G h vs c) (hn : c.rp.n ≤ 1000000) :
  Calls Tryz.prog 83 #[.pointer (some ⟨g, 0, none⟩)] w (ReplP c w) := by
 obtain ⟨W1, hW1⟩ : ∃ W1, W1 = w.alloc (.cells #[.int .i64 0, .int .u64 0, .slice none 0 0] 60) := ⟨_, rfl⟩
 have hb1 : Below w.heap.size w W1 := by rw [hW1]; exact (Below.refl _ _).alloc (Nat.le_refl _) _
 have hr1 : Blk W1 w.heap.size 60 #[.int .i64 0, .int .u64 0, .slice none 0 0] := by rw [hW1]; exact Blk.new _ _ _
 have HA := Lib.hid (a.below hb1)
 have HB1 := Lib.hid hb1
 have HR1 := Lib.hid hr1
 have HW1 := Lib.hid hW1
 have lg := a.box.lt
 have hs1 := hb1.size
 have lr := hr1.lt
 obtain ⟨pt, hpt⟩ : ∃ pt, pt = c.ptr h := ⟨_, rfl⟩
 have y10 : W1.cell? ⟨g, 10, none⟩ = some (.pointer pt) := (HA.out.box.cell 10).trans (by rw [hpt]; rfl)
 obtain ⟨b, hb⟩ : ∃ b : Bool, b = (c.st == 2) := ⟨_, rfl⟩
 have GT : Hid (Calls Tryz.prog 143 #[.pointer pt] W1 fun e w' => e = .returned (.tuple #[.agg #[.int .i64 c.rp.cd, .int .u64 c.rp.vr, .slice c.rp.A c.rp.n c.rp.c], .bool b]) ∧ Below W1.heap.size W1 w') := Lib.hid (by
  by_cases hst : c.st = 0
  ·have h2 := HA.out.zr (by omega)
   have hbf : b = false := by rw [hb, hst]; rfl
   rw [hpt, h2, hbf]
   unfold Cl.ptr
   rw [if_pos hst]
   exact getRp_nil W1
  rw [hpt, show c.ptr h = some ⟨h, 0, none⟩ from if_neg hst]
  have h1 := getRp_any h _ _ W1 (HA.out.lat hst).2
  rw [← hb] at h1
  cases b
  ·have h2 := HA.out.zr (by intro e; rw [e] at hb; cases hb)
   rw [h2] at h1 ⊢
   exact h1
  ·exact h1)
 have HBE := Lib.hid hb
 have HOW := Lib.hid HA.out.rp
 clear hW1 hb1 hr1 a hpt hb HA
 go_enter Tryz.func83, Tryz.ntmps83
 go_upto_region 1 with (fail)
 rw [← HW1.out]
 go_wp2_with (fail)
 refine GT.out.mono ?_
 rintro e w2 ⟨rfl, hb2⟩
 obtain ⟨W3, hW3⟩ : ∃ W3, W3 = w2.alloc (.cells #[.int .i64 c.rp.cd, .int .u64 c.rp.vr, .slice c.rp.A c.rp.n c.rp.c] 60) := ⟨_, rfl⟩
 have hb3 : Below w2.heap.size w2 W3 := by rw [hW3]; exact (Below.refl _ _).alloc (Nat.le_refl _) _
 have hx3 : Blk W3 w2.heap.size 60 #[.int .i64 c.rp.cd, .int .u64 c.rp.vr, .slice c.rp.A c.rp.n c.rp.c] := by rw [hW3]; exact Blk.new _ _ _
 have hb13 : Below W1.heap.size W1 W3 := hb2.trans (hb3.mono hb2.size)
 have HB3 := Lib.hid (HB1.out.trans (hb13.mono hs1))
 have HR3 := Lib.hid (HR1.out.below hb13 lr)
 have HX3 := Lib.hid hx3
 have HO3 := Lib.hid (HOW.out.below hb13)
 have HW3 := Lib.hid hW3
 have h23 := hb2.size
 have ne : w.heap.size ≠ w2.heap.size := by omega
 have ne' : w2.heap.size ≠ w.heap.size := by omega
 have lx3 := hx3.lt
 have CLN := Lib.hid (bclone_any c.rp.A c.rp.n c.rp.c W3.heap.size c.rb W3 (Nat.le_refl _) HO3.out.reads (by omega))
 obtain ⟨z0, z1, z2⟩ := cells3 hx3
 have f2 := hx3.frozen 2
 clear hW3 hb3 hx3 hb2 hb13 GT HR1 HOW HB1 y10 HW1
 go_upto_region 4 with (fail)
 rw [← HW3.out]
 clear HW3
 go_wp2_with (fail)
 refine CLN.out.mono ?_
 rintro e w4 ⟨v, rfl, hown, hb4⟩
 obtain ⟨A7, c7, rfl, hrd7, hc7, hm7⟩ := own_slice hown
 have HB4 := Lib.hid (HB3.out.trans (hb4.mono HB3.out.size))
 have HR4 := Lib.hid (HR3.out.below hb4 (by omega))
 have HX4 := Lib.hid (HX3.out.below hb4 lx3)
 have HOB : Hid (OwnB w4 W3.heap.size A7 c.rp.n c7 c.rb) := Lib.hid ⟨hown, HO3.out.2⟩
 have hs3 := HB3.out.size
 clear hown hb4 CLN hrd7 hc7 hm7 HB3 HR3 HX3 HO3 z0 z1 z2 f2
 obtain ⟨z0, z1, z2⟩ := cells3 HX4.out
 obtain ⟨r0, r1, r2⟩ := cells3 HR4.out
 have f2 := HX4.out.frozen 2
 obtain ⟨f0, f1, f3⟩ := frozen3 HR4.out
 have lx4 := HX4.out.lt
 have lr4 := HR4.out.lt
 have HC : Hid (Chg w4 ((((w4.setCell ⟨w2.heap.size, 2, none⟩ (.slice A7 c.rp.n c7)).setCell ⟨w.heap.size, 0, none⟩ (.int .i64 c.rp.cd)).setCell ⟨w.heap.size, 1, none⟩ (.int .u64 c.rp.vr)).setCell ⟨w.heap.size, 2, none⟩ (.slice A7 c.rp.n c7)) (fun i => i = w2.heap.size ∨ i = w.heap.size)) := Lib.hid
  (((((chg_one w4 ⟨w2.heap.size, 2, none⟩ _).mono (fun _ _ e => Or.inl e)).trans ((chg_one _ ⟨w.heap.size, 0, none⟩ _).mono (fun _ _ e => Or.inr e)) (fun _ _ e => e)).trans ((chg_one _ ⟨w.heap.size, 1, none⟩ _).mono (fun _ _ e => Or.inr e)) (fun _ _ e => e)).trans ((chg_one _ ⟨w.heap.size, 2, none⟩ _).mono (fun _ _ e => Or.inr e)) (fun _ _ e => e))
 have HG : Hid (Blk ((((w4.setCell ⟨w2.heap.size, 2, none⟩ (.slice A7 c.rp.n c7)).setCell ⟨w.heap.size, 0, none⟩ (.int .i64 c.rp.cd)).setCell ⟨w.heap.size, 1, none⟩ (.int .u64 c.rp.vr)).setCell ⟨w.heap.size, 2, none⟩ (.slice A7 c.rp.n c7)) w.heap.size 60 #[.int .i64 c.rp.cd, .int .u64 c.rp.vr, .slice A7 c.rp.n c7]) := Lib.hid
  ((((HR4.out.far (p := ⟨w2.heap.size, 2, none⟩) ne (.slice A7 c.rp.n c7)).set_ 0 (.int .i64 c.rp.cd)).set_ 1 (.int .u64 c.rp.vr)).set_ 2 (.slice A7 c.rp.n c7))
 go_wp2_with (fail)
 generalize (((w4.setCell ⟨w2.heap.size, 2, none⟩ (.slice A7 c.rp.n c7)).setCell ⟨w.heap.size, 0, none⟩ (.int .i64 c.rp.cd)).setCell ⟨w.heap.size, 1, none⟩ (.int .u64 c.rp.vr)).setCell ⟨w.heap.size, 2, none⟩ (.slice A7 c.rp.n c7) = wz at *
 obtain ⟨k0, k1, k2⟩ := cells3 HG.out
 refine bodyPost_ret (v := .tuple #[.agg #[.int .i64 c.rp.cd, .int .u64 c.rp.vr, .slice A7 c.rp.n c7], .bool b]) (by simp [results, Tryz.results83, go_sem, k0, k1, k2]) rfl ?_
 refine ⟨A7, c7, by rw [← HBE.out], ⟨own_mono (HC.out.own HOB.out.1 (fun k hk e => by have := (HOB.out.1.lt k hk).1; rcases e with e | e <;> omega)) (by omega), HOB.out.2⟩, HB4.out.trans (HC.out.below HB4.out.size (fun k hk e => by rcases e with e | e <;> omega))⟩
def OpP (c : Cl) (w : World) (e : Ending) (w' : World) : Prop := ∃ (A7 : Option Addr) (c7 : Nat), e = .returned (.agg #[.int .i64 c.op.kd, .int .u32 c.op.key, .int .u64 c.op.ver, .slice A7 c.op.n c7, .int .i64 c.op.pick]) ∧ OwnB w' w.heap.size A7 c.op.n c7 c.op.bs ∧ Below w.heap.size w w'
theorem cells5 {w : World} {g : Nat} {t : TypeId} {a0 a1 a2 a3 a4 : Value} (h : Blk w g t #[a0, a1, a2, a3, a4]) : w.cell? ⟨g, 0, none⟩ = some a0 ∧ w.cell? ⟨g, 1, none⟩ = some a1 ∧ w.cell? ⟨g, 2, none⟩ = some a2 ∧ w.cell? ⟨g, 3, none⟩ = some a3 ∧ w.cell? ⟨g, 4, none⟩ = some a4 := ⟨h.cell 0, h.cell 1, h.cell 2, h.cell 3, h.cell 4⟩
theorem calOp_any (lo g G h : Nat) (vs : List (Int × Int × List Int × Bool × Int)) (c : Cl) (w : World) (a : CalAt w lo g G h vs c) (hn : c.op.n ≤ 1000000) :
  Calls Tryz.prog 84 #[.pointer (some ⟨g, 0, none⟩)] w (OpP c w) := by
 obtain ⟨W1, hW1⟩ : ∃ W1, W1 = w.alloc (.cells #[.int .i64 0, .int .u32 0, .int .u64 0, .slice none 0 0, .int .i64 0] 58) := ⟨_, rfl⟩
 have hb1 : Below w.heap.size w W1 := by rw [hW1]; exact (Below.refl _ _).alloc (Nat.le_refl _) _
 have HR1 : Hid (Blk W1 w.heap.size 58 #[.int .i64 0, .int .u32 0, .int .u64 0, .slice none 0 0, .int .i64 0]) := Lib.hid (by rw [hW1]; exact Blk.new _ _ _)
 have HA := Lib.hid (a.below hb1)
 have lg := a.box.lt
 have y5 : W1.cell? ⟨g, 5, none⟩ = some (.int .i64 c.op.kd) := HA.out.box.cell 5
 have y6 : W1.cell? ⟨g, 6, none⟩ = some (.int .u32 c.op.key) := HA.out.box.cell 6
 have y7 : W1.cell? ⟨g, 7, none⟩ = some (.int .u64 c.op.ver) := HA.out.box.cell 7
 have y8 : W1.cell? ⟨g, 8, none⟩ = some (.slice c.op.A c.op.n c.op.c) := HA.out.box.cell 8
 have y9 : W1.cell? ⟨g, 9, none⟩ = some (.int .i64 c.op.pick) := HA.out.box.cell 9
 have HW1 := Lib.hid hW1
 obtain ⟨W3, hW3⟩ : ∃ W3, W3 = W1.alloc (.cells #[.int .i64 c.op.kd, .int .u32 c.op.key, .int .u64 c.op.ver, .slice c.op.A c.op.n c.op.c, .int .i64 c.op.pick] 58) := ⟨_, rfl⟩
 have hb3 : Below W1.heap.size W1 W3 := by rw [hW3]; exact (Below.refl _ _).alloc (Nat.le_refl _) _
 have HX3 : Hid (Blk W3 W1.heap.size 58 #[.int .i64 c.op.kd, .int .u32 c.op.key, .int .u64 c.op.ver, .slice c.op.A c.op.n c.op.c, .int .i64 c.op.pick]) := Lib.hid (by rw [hW3]; exact Blk.new _ _ _)
 have HR3 := Lib.hid (HR1.out.below hb3 HR1.out.lt)
 have HB3 := Lib.hid (hb1.trans (hb3.mono hb1.size))
 have HO3 := Lib.hid ((HA.out.below hb3).op)
 have HW3 := Lib.hid hW3
 have hs1 : w.heap.size < W1.heap.size := by rw [hW1]; simp
 have CLN := Lib.hid (bclone_any c.op.A c.op.n c.op.c W3.heap.size c.op.bs W3 (Nat.le_refl _) HO3.out.reads (by omega))
 clear hW1 hb1 a HA hW3 hb3 HR1
 go_enter Tryz.func84, Tryz.ntmps84
 go_upto_region 1 with (fail)
 rw [← HW1.out]
 go_upto_region 4 with (fail)
 rw [← HW3.out]
 clear HW3 HW1 y5 y6 y7 y8 y9
 obtain ⟨x0, x1, x2, x3, x4⟩ := cells5 HX3.out
 go_wp2_with (fail)
 refine CLN.out.mono ?_
 rintro e w4 ⟨v, rfl, hown, hb4⟩
 obtain ⟨A7, c7, rfl, hrd7, hc7, hm7⟩ := own_slice hown
 have HB4 := Lib.hid (HB3.out.trans (hb4.mono HB3.out.size))
 have HX4 := Lib.hid (HX3.out.below hb4 HX3.out.lt)
 have HR4 := Lib.hid (HR3.out.below hb4 HR3.out.lt)
 have HOW := Lib.hid hown
 have s3 := HX3.out.lt
 clear hown hb4 CLN hrd7 hc7 hm7 HB3 HX3 HR3 x0 x1 x2 x3 x4
 have f3 := HX4.out.frozen 3
 have x3 : w4.cell? ⟨W1.heap.size, 3, none⟩ = some (.slice c.op.A c.op.n c.op.c) := HX4.out.cell 3
 obtain ⟨W5, hW5⟩ : ∃ W5, W5 = w4.setCell ⟨W1.heap.size, 3, none⟩ (.slice A7 c.op.n c7) := ⟨_, rfl⟩
 have HX5 : Hid (Blk W5 W1.heap.size 58 #[.int .i64 c.op.kd, .int .u32 c.op.key, .int .u64 c.op.ver, .slice A7 c.op.n c7, .int .i64 c.op.pick]) := Lib.hid (by rw [hW5]; exact HX4.out.set_ 3 _)
 have HC5 : Hid (Chg w4 W5 (fun i => i = W1.heap.size)) := Lib.hid (by rw [hW5]; exact chg_one _ _ _)
 have HR5 : Hid (Blk W5 w.heap.size 58 #[.int .i64 0, .int .u32 0, .int .u64 0, .slice none 0 0, .int .i64 0]) := Lib.hid (HC5.out.blk HR4.out (by omega))
 have HB5 : Hid (Below w.heap.size w W5) := Lib.hid (HB4.out.trans (HC5.out.below HB4.out.size (fun i hi e => by omega)))
 have HW5 := Lib.hid hW5
 clear hW5
 go_upto_region 5 with (fail)
 rw [← HW5.out]
 clear HW5 x3 f3 HX4 HR4 HB4
 iterate 1 go_step
 refine wpList_load_row rfl 58 (.tmp 3) rfl W1.heap.size rfl 58 #[.int .i64 c.op.kd, .int .u32 c.op.key, .int .u64 c.op.ver, .slice A7 c.op.n c7, .int .i64 c.op.pick] (0, 0) _ HX5.out Tryz.underlying58 rfl opInfo ?_
 refine wpList_store_row rfl 58 (.tmp 2) (.tmp 15) rfl w.heap.size #[.int .i64 c.op.kd, .int .u32 c.op.key, .int .u64 c.op.ver, .slice A7 c.op.n c7, .int .i64 c.op.pick] rfl rfl 58 #[.int .i64 0, .int .u32 0, .int .u64 0, .slice none 0 0, .int .i64 0] HR5.out opInfo rfl (by simp [Value.oneCell']) ?_
 have HR6 := Lib.hid (show Blk (World.setRow W5 w.heap.size #[.int .i64 c.op.kd, .int .u32 c.op.key, .int .u64 c.op.ver, .slice A7 c.op.n c7, .int .i64 c.op.pick]) w.heap.size 58 #[.int .i64 c.op.kd, .int .u32 c.op.key, .int .u64 c.op.ver, .slice A7 c.op.n c7, .int .i64 c.op.pick] from setRow_heap _ _ _ _ _ _ HR5.out)
 have HC6 : Hid (Chg w4 (World.setRow W5 w.heap.size #[.int .i64 c.op.kd, .int .u32 c.op.key, .int .u64 c.op.ver, .slice A7 c.op.n c7, .int .i64 c.op.pick]) (fun i => i = W1.heap.size ∨ i = w.heap.size)) := Lib.hid ((HC5.out.mono (fun _ _ e => Or.inl e)).trans ((chg_row9 _ _ _).mono (fun _ _ e => Or.inr e)) (fun _ _ e => e))
 have HB6 := Lib.hid (setRow_below HB5.out HB5.out.size (Nat.le_refl _) (g := w.heap.size) #[.int .i64 c.op.kd, .int .u32 c.op.key, .int .u64 c.op.ver, .slice A7 c.op.n c7, .int .i64 c.op.pick])
 generalize World.setRow W5 w.heap.size #[.int .i64 c.op.kd, .int .u32 c.op.key, .int .u64 c.op.ver, .slice A7 c.op.n c7, .int .i64 c.op.pick] = W6 at *
 go_wp2_with (fail)
 refine bodyPost_ret_by (results_cell_row Tryz.results84 _ _ w.heap.size 58 #[.int .i64 c.op.kd, .int .u32 c.op.key, .int .u64 c.op.ver, .slice A7 c.op.n c7, .int .i64 c.op.pick] (0, 0) _ rfl HR6.out Tryz.underlying58 rfl opInfo) rfl ?_
 refine ⟨A7, c7, rfl, ⟨own_mono (HC6.out.own HOW.out (fun k hk e => by have := (HOW.out.lt k hk).1; rcases e with e | e <;> omega)) (by omega), HO3.out.2⟩, HB6.out⟩
theorem calAtlas_any (lo g G h : Nat) (vs : List (Int × Int × List Int × Bool × Int)) (c : Cl) (w : World) (a : CalAt w lo g G h vs c) :
  Calls Tryz.prog 87 #[.pointer (some ⟨g, 0, none⟩)] w fun e w' => e = .returned (.pointer (some ⟨G, 0, none⟩)) ∧ w = w' := by
 have y4 : w.cell? ⟨g, 4, none⟩ = some (.pointer (some ⟨G, 0, none⟩)) := a.box.cell 4
 clear a
 go_enter Tryz.func87, Tryz.ntmps87
 go_wp2_with (fail)
 go_ret
 trivial
def LastP (c : Cl) (w : World) (e : Ending) (w' : World) : Prop := ∃ (A7 : Option Addr) (c7 : Nat), e = .returned (.tuple #[.int .u64 c.last, .agg #[.int .i64 c.ly.cd, .int .u64 c.ly.vr, .slice A7 c.ly.n c7]]) ∧ OwnB w' w.heap.size A7 c.ly.n c7 c.lb ∧ Below w.heap.size w w'
theorem results_tmp_cell {P : Program} {fn : Func} {p u : Tmp} {ty : TypeId} (h : fn.results = #[.tmp u, .cell p ty]) (tmps : Array Value) (w : World) (g : Nat) (t : TypeId) (cs : Array Value) (fr : Nat × Nat) (d : TypeDesc) (q : Value)
  (hp : tmps.getD p undef = .pointer (some ⟨g, 0, none⟩)) (hg : w.heap[g]? = some (.cells cs t fr)) (hq : tmps.getD u undef = q)
  (hu : P.underlying ty = some d) (hd : (match d with | .struct _ | .array _ _ => true | _ => false) = true) (hi : (P.info? ty).map (·.size) = some cs.size) :
  (results fn tmps).run P w = .ok (.tuple #[q, .agg cs]) w := by
 have hp' : tmps[p]?.getD undef = .pointer (some ⟨g, 0, none⟩) := by simpa using hp
 have hq' : tmps[u]?.getD undef = q := by simpa using hq
 simp [results, h, hp', hq', asAddr, run_loadVar_row w g t ty cs fr d hg hu hd hi]
theorem rpInfo3 : (Tryz.prog.info? 60).map (·.size) = some 3 := by kernel_rfl
theorem calLast_any (lo g G h : Nat) (vs : List (Int × Int × List Int × Bool × Int)) (c : Cl) (w : World) (a : CalAt w lo g G h vs c) (hn : c.ly.n ≤ 1000000) :
  Calls Tryz.prog 85 #[.pointer (some ⟨g, 0, none⟩)] w (LastP c w) := by
 obtain ⟨W1, hW1⟩ : ∃ W1, W1 = w.alloc (.cells #[.int .i64 0, .int .u64 0, .slice none 0 0] 60) := ⟨_, rfl⟩
 have hb1 : Below w.heap.size w W1 := by rw [hW1]; exact (Below.refl _ _).alloc (Nat.le_refl _) _
 have HR1 : Hid (Blk W1 w.heap.size 60 #[.int .i64 0, .int .u64 0, .slice none 0 0]) := Lib.hid (by rw [hW1]; exact Blk.new _ _ _)
 have HA := Lib.hid (a.below hb1)
 have lg := a.box.lt
 have y12 : W1.cell? ⟨g, 12, none⟩ = some (.int .i64 c.ly.cd) := HA.out.box.cell 12
 have y13 : W1.cell? ⟨g, 13, none⟩ = some (.int .u64 c.ly.vr) := HA.out.box.cell 13
 have y14 : W1.cell? ⟨g, 14, none⟩ = some (.slice c.ly.A c.ly.n c.ly.c) := HA.out.box.cell 14
 have HW1 := Lib.hid hW1
 obtain ⟨W3, hW3⟩ : ∃ W3, W3 = W1.alloc (.cells #[.int .i64 c.ly.cd, .int .u64 c.ly.vr, .slice c.ly.A c.ly.n c.ly.c] 60) := ⟨_, rfl⟩
 have hb3 : Below W1.heap.size W1 W3 := by rw [hW3]; exact (Below.refl _ _).alloc (Nat.le_refl _) _
 have HX3 : Hid (Blk W3 W1.heap.size 60 #[.int .i64 c.ly.cd, .int .u64 c.ly.vr, .slice c.ly.A c.ly.n c.ly.c]) := Lib.hid (by rw [hW3]; exact Blk.new _ _ _)
 have HR3 := Lib.hid (HR1.out.below hb3 HR1.out.lt)
 have HB3 := Lib.hid (hb1.trans (hb3.mono hb1.size))
 have HA3 := Lib.hid (HA.out.below hb3)
 have HO3 := Lib.hid (HA3.out.ly)
 have HW3 := Lib.hid hW3
 have hs1 : w.heap.size < W1.heap.size := by rw [hW1]; simp
 have CLN := Lib.hid (bclone_any c.ly.A c.ly.n c.ly.c W3.heap.size c.lb W3 (Nat.le_refl _) HO3.out.reads (by omega))
 clear hW1 hb1 a HA hW3 hb3 HR1
 go_enter Tryz.func85, Tryz.ntmps85
 go_upto_region 1 with (fail)
 rw [← HW1.out]
 go_upto_region 4 with (fail)
 rw [← HW3.out]
 clear HW3 HW1 y12 y13 y14
 obtain ⟨x0, x1, x2⟩ := cells3 HX3.out
 go_wp2_with (fail)
 refine CLN.out.mono ?_
 rintro e w4 ⟨v, rfl, hown, hb4⟩
 obtain ⟨A7, c7, rfl, hrd7, hc7, hm7⟩ := own_slice hown
 have HB4 := Lib.hid (HB3.out.trans (hb4.mono HB3.out.size))
 have HX4 := Lib.hid (HX3.out.below hb4 HX3.out.lt)
 have HR4 := Lib.hid (HR3.out.below hb4 HR3.out.lt)
 have HA4 := Lib.hid (HA3.out.below hb4)
 have HOW := Lib.hid hown
 have s3 := HX3.out.lt
 clear hown hb4 CLN hrd7 hc7 hm7 HB3 HX3 HR3 HA3 x0 x1 x2
 have f2 := HX4.out.frozen 2
 have x2 : w4.cell? ⟨W1.heap.size, 2, none⟩ = some (.slice c.ly.A c.ly.n c.ly.c) := HX4.out.cell 2
 obtain ⟨W5, hW5⟩ : ∃ W5, W5 = w4.setCell ⟨W1.heap.size, 2, none⟩ (.slice A7 c.ly.n c7) := ⟨_, rfl⟩
 have HX5 : Hid (Blk W5 W1.heap.size 60 #[.int .i64 c.ly.cd, .int .u64 c.ly.vr, .slice A7 c.ly.n c7]) := Lib.hid (by rw [hW5]; exact HX4.out.set_ 2 _)
 have HC5 : Hid (Chg w4 W5 (fun i => i = W1.heap.size)) := Lib.hid (by rw [hW5]; exact chg_one _ _ _)
 have HR5 : Hid (Blk W5 w.heap.size 60 #[.int .i64 0, .int .u64 0, .slice none 0 0]) := Lib.hid (HC5.out.blk HR4.out (by omega))
 have HB5 : Hid (Below w.heap.size w W5) := Lib.hid (HB4.out.trans (HC5.out.below HB4.out.size (fun i hi e => by omega)))
 have y11 : W5.cell? ⟨g, 11, none⟩ = some (.int .u64 c.last) := (HC5.out.cell (p := ⟨g, 11, none⟩) HA4.out.box.lt (by show ¬ g = W1.heap.size; omega)).trans (HA4.out.box.cell 11)
 have HW5 := Lib.hid hW5
 clear hW5
 go_upto_region 5 with (fail)
 rw [← HW5.out]
 clear HW5 x2 f2 HX4 HR4 HB4
 have hbx := HX5.out
 refine wp_region_held_drew (S := fun wq => wq.cell? ⟨g, 11, none⟩ = some (.int .u64 c.last) ∧ Blk wq W1.heap.size 60 #[.int .i64 c.ly.cd, .int .u64 c.ly.vr, .slice A7 c.ly.n c7]) (by kernel_rfl) ⟨y11, hbx⟩ (fun hHeld => ?_)
 have HR := Lib.hid HR5.out.drew
 have HC : Hid (Chg w4 W5.drew (fun i => i = W1.heap.size ∨ i = w.heap.size)) := Lib.hid ((HC5.out.mono (fun _ _ e => Or.inl e)).trans (Chg.of_below (Below.refl _ _).drew _) (fun _ _ e => e))
 have HB := Lib.hid HB5.out.drew
 have nb : g ≠ w.heap.size := by omega
 have nb' : W1.heap.size ≠ w.heap.size := by omega
 generalize W5.drew = Vd at *
 refine tkT 0 rfl (v := ?_) ?_ ?_
 rotate_left 1
 ·(intro wq hSw; (try dsimp only at hSw); go_simp; (try with_reducible rfl))
 try simp only [Act.put, List.setIfInBounds_toArray, List.set_cons_zero, List.set_cons_succ, List.getElem_toArray, List.getElem_cons_zero, List.getElem_cons_succ]
 refine tkT 1 rfl (v := ?_) ?_ ?_
 rotate_left 1
 ·(intro wq hSw; (try dsimp only at hSw); go_simp; (try with_reducible rfl))
 try simp only [Act.put, List.setIfInBounds_toArray, List.set_cons_zero, List.set_cons_succ, List.getElem_toArray, List.getElem_cons_zero, List.getElem_cons_succ]
 refine tkT 2 rfl (v := ?_) ?_ ?_
 rotate_left 1
 ·(intro wq hSw; (try dsimp only at hSw); go_simp; (try with_reducible rfl))
 try simp only [Act.put, List.setIfInBounds_toArray, List.set_cons_zero, List.set_cons_succ, List.getElem_toArray, List.getElem_cons_zero, List.getElem_cons_succ]
 refine tkT 3 rfl (v := ?_) ?_ ?_
 rotate_left 1
 ·(intro wq hSw; (try dsimp only at hSw); go_simp; (try with_reducible rfl))
 try simp only [Act.put, List.setIfInBounds_toArray, List.set_cons_zero, List.set_cons_succ, List.getElem_toArray, List.getElem_cons_zero, List.getElem_cons_succ]
 refine tkT 4 rfl (v := (.agg #[.int .i64 c.ly.cd, .int .u64 c.ly.vr, .slice A7 c.ly.n c7])) ?_ ?_
 ·exact fun wq hSw => exec_load_row rfl _ rfl (run_loadVar_row wq W1.heap.size 60 60 #[.int .i64 c.ly.cd, .int .u64 c.ly.vr, .slice A7 c.ly.n c7] (0, 0) _ hSw.2 Tryz.underlying60 rfl rpInfo3)
 try simp only [Act.put, List.setIfInBounds_toArray, List.set_cons_zero, List.set_cons_succ, List.getElem_toArray, List.getElem_cons_zero, List.getElem_cons_succ]
 refine tkT 5 rfl (v := ?_) ?_ ?_
 rotate_left 1
 ·(intro wq hSw; (try dsimp only at hSw); go_simp; (try with_reducible rfl))
 try simp only [Act.put, List.setIfInBounds_toArray, List.set_cons_zero, List.set_cons_succ, List.getElem_toArray, List.getElem_cons_zero, List.getElem_cons_succ]
 refine wpAnyH_ready (rs := [6]) (by kernel_rfl) (by simp) ?_
 refine (AllReadyH.cons rfl (fun K hK => ?_) AllReadyH.nil)
 have HR6 := Lib.hid (show Blk (World.setRow Vd w.heap.size #[.int .i64 c.ly.cd, .int .u64 c.ly.vr, .slice A7 c.ly.n c7]) w.heap.size 60 #[.int .i64 c.ly.cd, .int .u64 c.ly.vr, .slice A7 c.ly.n c7] from setRow_heap _ _ _ _ _ _ HR.out)
 have HC6 : Hid (Chg w4 (World.setRow Vd w.heap.size #[.int .i64 c.ly.cd, .int .u64 c.ly.vr, .slice A7 c.ly.n c7]) (fun i => i = W1.heap.size ∨ i = w.heap.size)) := Lib.hid (HC.out.trans ((chg_row9 _ _ _).mono (fun _ _ e => Or.inr e)) (fun _ _ e => e))
 have HB6 : Hid (Below w.heap.size w (World.setRow Vd w.heap.size #[.int .i64 c.ly.cd, .int .u64 c.ly.vr, .slice A7 c.ly.n c7])) := Lib.hid (setRow_below HB.out HB.out.size (Nat.le_refl _) _)
 have HS : (World.setRow Vd w.heap.size #[.int .i64 c.ly.cd, .int .u64 c.ly.vr, .slice A7 c.ly.n c7]).cell? ⟨g, 11, none⟩ = some (.int .u64 c.last) ∧ Blk (World.setRow Vd w.heap.size #[.int .i64 c.ly.cd, .int .u64 c.ly.vr, .slice A7 c.ly.n c7]) W1.heap.size 60 #[.int .i64 c.ly.cd, .int .u64 c.ly.vr, .slice A7 c.ly.n c7] := ⟨(cell_same9 (setRow_other _ _ _ _ nb)).trans hHeld.1, (setRow_other _ _ _ _ nb').trans hHeld.2⟩
 refine step_store_row rfl 60 (.tmp 3) (.tmp 20) rfl w.heap.size #[.int .i64 c.ly.cd, .int .u64 c.ly.vr, .slice A7 c.ly.n c7] rfl rfl 60 #[.int .i64 0, .int .u64 0, .slice none 0 0] HR.out rpInfo3 rfl (by simp [Value.oneCell']) ?_
 refine hK.out _ _ ?_ (fun hHeld => ?_)
 ·first | exact HS | go_keep
 clear hK K
 generalize (World.setRow Vd w.heap.size #[.int .i64 c.ly.cd, .int .u64 c.ly.vr, .slice A7 c.ly.n c7]) = Vs at *
 try simp only [Act.put, List.setIfInBounds_toArray, List.set_cons_zero, List.set_cons_succ, List.getElem_toArray, List.getElem_cons_zero, List.getElem_cons_succ]
 refine wpAnyH_done (by kernel_rfl) ?_ _
 go_wp2_with (fail)
 refine bodyPost_ret_by (results_tmp_cell Tryz.results85 _ _ w.heap.size 60 #[.int .i64 c.ly.cd, .int .u64 c.ly.vr, .slice A7 c.ly.n c7] (0, 0) _ _ rfl HR6.out rfl Tryz.underlying60 rfl rpInfo3) rfl ?_
 exact ⟨A7, c7, rfl, ⟨own_mono (HC6.out.own HOW.out (fun k hk e => by have := (HOW.out.lt k hk).1; rcases e with e | e <;> omega)) (by omega), HO3.out.2⟩, HB6.out⟩
end Go.Proofs.YtmpedblelnpjdaaGreatDoor
