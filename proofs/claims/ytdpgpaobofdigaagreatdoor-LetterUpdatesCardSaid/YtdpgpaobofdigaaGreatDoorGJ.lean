/- GJ: LtuE LtuF LtuG LtuH -/
import Derived.Test.YtdpgpaobofdigaaGreatDoorGC
import Derived.Test.YtdpgpaobofdigaaGreatDoorGF
import Derived.Laws.BytesArg
import Derived.Shelf.Bytes.SlSmallAll
/- The reference's GetUpdate. -/
namespace Go.Proofs.YtdpgpaobofdigaaGreatDoor
open Go.RowKit
set_option linter.unusedSimpArgs false
set_option linter.unusedVariables false
set_option maxHeartbeats 4000000
set_option maxRecDepth 100000
attribute [local go_sem] Up.agg Up.cells RI.agg RI.cells RI.nil

/-- the memory of the reference's GetUpdate -/
structure RgM (w W : World) (B : Nat) (y : RI) : Prop where
  b0 : Blk W w.heap.size 64 y.cells
  b1 : Blk W (w.heap.size + 1) 64 (RI.nil 0).cells
  b2 : Blk W (w.heap.size + 1 + 1) 54 Up.zero.cells
  rin : RIn W B y
  bel : Below w.heap.size w W
  lt : B ≤ w.heap.size
theorem RgM.le {w W : World} {B : Nat} {y : RI} (h : RgM w W B y) : B ≤ W.heap.size := Nat.le_trans h.lt h.bel.size
theorem set2_chg (W : World) (g : Nat) (a0 a1 : Value) : Chg W ((W.setCell ⟨g, 0, none⟩ a0).setCell ⟨g, 1, none⟩ a1) (isG g) :=
  (chg_set0 W g a0 0).trans (chg_set0 _ g a1 1) (fun _ _ x => x)
theorem RgM.step {w W W1 : World} {B : Nat} {y z : RI} (h : RgM w W B y) (hb : Below W.heap.size W W1) (hz : RIn W1 B z) :
    RgM w ((W1.setCell ⟨w.heap.size, 0, none⟩ (.slice z.A z.s.l.length z.cap)).setCell ⟨w.heap.size, 1, none⟩ (.int .i64 z.s.e)) B z := by
  have HC := set2_chg W1 w.heap.size (.slice z.A z.s.l.length z.cap) (.int .i64 z.s.e)
  have h0 := h.b0.below hb h.b0.lt
  have n1 : ¬ isG w.heap.size (w.heap.size + 1) := by unfold isG; omega
  have n2 : ¬ isG w.heap.size (w.heap.size + 1 + 1) := by unfold isG; omega
  have hw1 := h.bel.trans (hb.mono h.bel.size)
  refine ⟨(h0.set_ 0 _).set_ 1 _, HC.blk (h.b1.below hb h.b1.lt) n1, HC.blk (h.b2.below hb h.b2.lt) n2, hz.set2 h.lt _ _, hw1.trans (HC.below hw1.size (fun k hk e => by simp only [isG] at e; omega)), h.lt⟩
theorem RgM.fin {w W : World} {B : Nat} {y : RI} (h : RgM w W B y) (u : Up) {W' : World}
    (hW : W' = ((((((((((W.setCell ⟨w.heap.size + 1, 0, none⟩ (.slice y.A y.s.l.length y.cap)).setCell ⟨w.heap.size + 1, 1, none⟩ (.int .i64 y.s.e)).setCell ⟨w.heap.size + 1 + 1, 0, none⟩ (.int .u64 u.seq)).setCell ⟨w.heap.size + 1 + 1, 1, none⟩ (.int .i64 u.cl)).setCell ⟨w.heap.size + 1 + 1, 2, none⟩ (.int .u64 u.num)).setCell ⟨w.heap.size + 1 + 1, 3, none⟩ (.int .i64 u.kd)).setCell ⟨w.heap.size + 1 + 1, 4, none⟩ (.int .u32 u.key)).setCell ⟨w.heap.size + 1 + 1, 5, none⟩ (.int .u64 u.ver)).setCell ⟨w.heap.size + 1 + 1, 6, none⟩ (.slice u.A u.n u.c)))) :
    Blk W' (w.heap.size + 1) 64 y.cells ∧ Blk W' (w.heap.size + 1 + 1) 54 u.cells ∧ Below w.heap.size w W' ∧ Below w.heap.size W W' := by
  subst hW
  have C1 := set2_chg W (w.heap.size + 1) (.slice y.A y.s.l.length y.cap) (.int .i64 y.s.e)
  have C2 := set7_chg ((W.setCell ⟨w.heap.size + 1, 0, none⟩ (.slice y.A y.s.l.length y.cap)).setCell ⟨w.heap.size + 1, 1, none⟩ (.int .i64 y.s.e)) (w.heap.size + 1 + 1) (.int .u64 u.seq) (.int .i64 u.cl) (.int .u64 u.num) (.int .i64 u.kd) (.int .u32 u.key) (.int .u64 u.ver) (.slice u.A u.n u.c)
  have n1 : ¬ isG (w.heap.size + 1 + 1) (w.heap.size + 1) := by unfold isG; omega
  have n2 : ¬ isG (w.heap.size + 1) (w.heap.size + 1 + 1) := by unfold isG; omega
  have b1 := (h.b1.set_ 0 (.slice y.A y.s.l.length y.cap)).set_ 1 (.int .i64 y.s.e)
  have b2 := C1.blk h.b2 n2
  have hw := h.bel.size
  have z1 : w.heap.size ≤ ((W.setCell ⟨w.heap.size + 1, 0, none⟩ (.slice y.A y.s.l.length y.cap)).setCell ⟨w.heap.size + 1, 1, none⟩ (.int .i64 y.s.e)).heap.size := Nat.le_trans hw C1.size
  have B12 := (C1.below hw (fun k hk e => by simp only [isG] at e; omega)).trans (C2.below z1 (fun k hk e => by simp only [isG] at e; omega))
  exact ⟨C2.blk b1 n1, set7_blk b2 _ _ _ _ _ _ _, h.bel.trans B12, B12⟩
def RGuP (B : Nat) (s : FI) (w : World) (e : Ending) (w' : World) : Prop :=
  ∃ (y : RI) (u : Up), e = .returned (.tuple #[y.agg, u.agg]) ∧ y.s = getUi s ∧ u.val = getUv s ∧ u.wf ∧ Reads w' B 1 u.A u.n (u.bs.map (Value.int .u8)) ∧ RIn w' B y ∧ Below w.heap.size w w'

theorem refGetUpdate_any (x : RI) (B : Nat) (w : World) (h : RIn w B x) (hB : B ≤ w.heap.size) :
    Calls Tryz.prog 25 #[x.agg] w (RGuP B x.s w) := by
  have hby := h.by_
  obtain ⟨A0, cap0, s⟩ := x
  simp only at hby ⊢
  obtain ⟨l1, l2, l3, l4, l5, l6⟩ := gs_lt s hby
  have G1 := Lib.hid (fun W (y : RI) (hy : y.s = s) (i : RIn W B y) (hW : B ≤ W.heap.size) => (show Calls Tryz.prog 37 #[y.agg, .int .i64 8] W (UPost B W (g1 s)) from by have := refGet_any y 8 B W i hW; rw [hy] at this; exact this))
  have G2 := Lib.hid (fun W (y : RI) (hy : y.s = (g1 s).1) (i : RIn W B y) (hW : B ≤ W.heap.size) => (show Calls Tryz.prog 37 #[y.agg, .int .i64 1] W (UPost B W (g2 s)) from by have := refGet_any y 1 B W i hW; rw [hy] at this; exact this))
  have G3 := Lib.hid (fun W (y : RI) (hy : y.s = (g2 s).1) (i : RIn W B y) (hW : B ≤ W.heap.size) => (show Calls Tryz.prog 37 #[y.agg, .int .i64 8] W (UPost B W (g3 s)) from by have := refGet_any y 8 B W i hW; rw [hy] at this; exact this))
  have G4 := Lib.hid (fun W (y : RI) (hy : y.s = (g3 s).1) (i : RIn W B y) (hW : B ≤ W.heap.size) => (show Calls Tryz.prog 37 #[y.agg, .int .i64 1] W (UPost B W (g4 s)) from by have := refGet_any y 1 B W i hW; rw [hy] at this; exact this))
  have G5 := Lib.hid (fun W (y : RI) (hy : y.s = (g4 s).1) (i : RIn W B y) (hW : B ≤ W.heap.size) => (show Calls Tryz.prog 37 #[y.agg, .int .i64 4] W (UPost B W (g5 s)) from by have := refGet_any y 4 B W i hW; rw [hy] at this; exact this))
  have G6 := Lib.hid (fun W (y : RI) (hy : y.s = (g5 s).1) (i : RIn W B y) (hW : B ≤ W.heap.size) => (show Calls Tryz.prog 37 #[y.agg, .int .i64 8] W (UPost B W (g6 s)) from by have := refGet_any y 8 B W i hW; rw [hy] at this; exact this))
  have G7 := Lib.hid (fun W (y : RI) (hy : y.s = (g6 s).1) (i : RIn W B y) (hW : B ≤ W.heap.size) => (show Calls Tryz.prog 55 #[y.agg, .int .i64 2048] W (RPost B W (g7 s)) from by have := refRead_any y 2048 B W i hW; rw [hy] at this; exact this))
  have V : Hid (getUv s = if (g7 s).1.e = 0 then (((g1 s).2 : Int), ((g2 s).2 : Int), ((g3 s).2 : Int), ((g4 s).2 : Int), ((g5 s).2 : Int), ((g6 s).2 : Int), (g7 s).2) else Up.zval) := Lib.hid rfl
  have VI : Hid (getUi s = (g7 s).1) := Lib.hid rfl
  have HBY : Hid (bytesB (g7 s).2) := Lib.hid (FI.text_bytes (g6 s).1 2048 (gs_bytes s hby).2.2.2.2.2)
  generalize g1 s = p1 at *
  generalize g2 s = p2 at *
  generalize g3 s = p3 at *
  generalize g4 s = p4 at *
  generalize g5 s = p5 at *
  generalize g6 s = p6 at *
  generalize g7 s = p7 at *
  obtain ⟨s1, n1⟩ := p1
  obtain ⟨s2, n2⟩ := p2
  obtain ⟨s3, n3⟩ := p3
  obtain ⟨s4, n4⟩ := p4
  obtain ⟨s5, n5⟩ := p5
  obtain ⟨s6, n6⟩ := p6
  obtain ⟨s7, bs⟩ := p7
  simp only at G1 G2 G3 G4 G5 G6 G7 V VI HBY l1 l2 l3 l4 l5 l6
  have c2 : IntKind.i64.wrap (n2 : Int) = n2 := by rw [IntKind.wrap_i64]; omega
  have c4 : IntKind.i64.wrap (n4 : Int) = n4 := by rw [IntKind.wrap_i64]; omega
  have c5 : IntKind.u32.wrap (n5 : Int) = n5 := by rw [IntKind.wrap_u32]; omega
  have M : Hid (RgM w (((w.alloc (.cells (RI.mk A0 cap0 s).cells 64)).alloc (.cells (RI.nil 0).cells 64)).alloc (.cells Up.zero.cells 54)) B ⟨A0, cap0, s⟩) := Lib.hid
    ⟨((Blk.new w _ _).alloc _).alloc _, ((blk_at _ _ _ (w.heap.size + 1) (by simp))).alloc _, blk_at _ _ _ (w.heap.size + 1 + 1) (by simp), ((h.alloc hB _).alloc (by simp; omega) _).alloc (by simp; omega) _,
     (((Below.refl w.heap.size w).alloc (Nat.le_refl _) _).alloc (by simp) _).alloc (by simp <;> omega) _, hB⟩
  clear h hby
  show Calls Tryz.prog 25 #[.agg #[.slice A0 s.l.length cap0, .int .i64 s.e]] w _
  go_enter Tryz.func25, Tryz.ntmps25
  go_wp2_with (fail)
  refine (G1.out _ ⟨A0, cap0, s⟩ rfl M.out.rin M.out.le).mono ?_
  rintro e w1 ⟨⟨A1, cap1, z1⟩, rfl, hz, h1, h2⟩
  simp only at hz
  subst hz
  have hM := M.out.step h2 h1; have h0 := M.out.b0.below h2 M.out.b0.lt; obtain ⟨r0, r1⟩ := ri_cells h0; have f0 := h0.frozen 0; have f1 := h0.frozen 1; have M := Lib.hid hM; dsimp only at r0 r1; clear hM h0 h1 h2; go_wp2_with (fail); clear r0 r1 f0 f1
  refine (G2.out _ ⟨A1, cap1, z1⟩ rfl M.out.rin M.out.le).mono ?_
  rintro e w2 ⟨⟨A2, cap2, z2⟩, rfl, hz, h1, h2⟩
  simp only at hz
  subst hz
  have hM := M.out.step h2 h1; have h0 := M.out.b0.below h2 M.out.b0.lt; obtain ⟨r0, r1⟩ := ri_cells h0; have f0 := h0.frozen 0; have f1 := h0.frozen 1; have M := Lib.hid hM; dsimp only at r0 r1; clear hM h0 h1 h2; go_wp2_with (fail); clear r0 r1 f0 f1
  refine (G3.out _ ⟨A2, cap2, z2⟩ rfl M.out.rin M.out.le).mono ?_
  rintro e w3 ⟨⟨A3, cap3, z3⟩, rfl, hz, h1, h2⟩
  simp only at hz
  subst hz
  have hM := M.out.step h2 h1; have h0 := M.out.b0.below h2 M.out.b0.lt; obtain ⟨r0, r1⟩ := ri_cells h0; have f0 := h0.frozen 0; have f1 := h0.frozen 1; have M := Lib.hid hM; dsimp only at r0 r1; clear hM h0 h1 h2; go_wp2_with (fail); clear r0 r1 f0 f1
  refine (G4.out _ ⟨A3, cap3, z3⟩ rfl M.out.rin M.out.le).mono ?_
  rintro e w4 ⟨⟨A4, cap4, z4⟩, rfl, hz, h1, h2⟩
  simp only at hz
  subst hz
  have hM := M.out.step h2 h1; have h0 := M.out.b0.below h2 M.out.b0.lt; obtain ⟨r0, r1⟩ := ri_cells h0; have f0 := h0.frozen 0; have f1 := h0.frozen 1; have M := Lib.hid hM; dsimp only at r0 r1; clear hM h0 h1 h2; go_wp2_with (fail); clear r0 r1 f0 f1
  refine (G5.out _ ⟨A4, cap4, z4⟩ rfl M.out.rin M.out.le).mono ?_
  rintro e w5 ⟨⟨A5, cap5, z5⟩, rfl, hz, h1, h2⟩
  simp only at hz
  subst hz
  have hM := M.out.step h2 h1; have h0 := M.out.b0.below h2 M.out.b0.lt; obtain ⟨r0, r1⟩ := ri_cells h0; have f0 := h0.frozen 0; have f1 := h0.frozen 1; have M := Lib.hid hM; dsimp only at r0 r1; clear hM h0 h1 h2; go_wp2_with (fail); clear r0 r1 f0 f1
  refine (G6.out _ ⟨A5, cap5, z5⟩ rfl M.out.rin M.out.le).mono ?_
  rintro e w6 ⟨⟨A6, cap6, z6⟩, rfl, hz, h1, h2⟩
  simp only at hz
  subst hz
  have hM := M.out.step h2 h1; have h0 := M.out.b0.below h2 M.out.b0.lt; obtain ⟨r0, r1⟩ := ri_cells h0; have f0 := h0.frozen 0; have f1 := h0.frozen 1; have M := Lib.hid hM; dsimp only at r0 r1; clear hM h0 h1 h2; go_wp2_with (fail); clear r0 r1 f0 f1
  refine (G7.out _ ⟨A6, cap6, z6⟩ rfl M.out.rin M.out.le).mono ?_
  rintro e w7 ⟨⟨A7, cap7, z7⟩, A8, c8, rfl, hz, h1, hrd, h2⟩
  simp only at hz
  subst hz
  have hM := M.out.step h2 h1
  have h0 := M.out.b0.below h2 M.out.b0.lt
  obtain ⟨r0, r1⟩ := ri_cells h0
  have f0 := h0.frozen 0
  have f1 := h0.frozen 1
  dsimp only at r0 r1
  have hlen : bs.length ≤ 4294967296 ∨ True := .inr trivial
  obtain ⟨W7, hW7⟩ : ∃ W7, W7 = (w7.setCell ⟨w.heap.size, 0, none⟩ (.slice A7 z7.l.length cap7)).setCell ⟨w.heap.size, 1, none⟩ (.int .i64 z7.e) := ⟨_, rfl⟩
  have hR : Reads W7 B 1 A8 bs.length (bs.map (Value.int .u8)) := by
    rw [hW7]
    exact (hrd.setCell (p := ⟨_, 0, none⟩) hB _).setCell (p := ⟨_, 1, none⟩) hB _
  have M : Hid (RgM w W7 B ⟨A7, cap7, z7⟩) := Lib.hid (by rw [hW7]; exact hM)
  have HR := Lib.hid hR
  clear hM h0 h1 h2 hrd hR
  go_upto_region 8 with (fail)
  rw [← hW7]
  clear hW7 r0 r1 f0 f1
  obtain ⟨x0, x1⟩ := ri_cells M.out.b0
  obtain ⟨q0, q1⟩ := ri_cells M.out.b1
  obtain ⟨r0, r1, r2, r3, r4, r5, r6⟩ := cellsu7 M.out.b2
  obtain ⟨f0, f1, f2, f3, f4, f5, f6⟩ := frozenu7 M.out.b2
  have k0 := M.out.b1.frozen 0
  have k1 := M.out.b1.frozen 1
  have lt0 := M.out.b0.lt
  have lt1 := M.out.b1.lt
  have lt2 := M.out.b2.lt
  dsimp only at x0 x1
  have hBW := M.out.le
  by_cases he : z7.e = 0
  · have he' : (z7.e != 0) = false := by simp [he]
    have HE := Lib.hid he
    clear he
    go_wp2_with (fail)
    obtain ⟨wz, hwz⟩ : ∃ wz, wz = ((((((((W7.setCell ⟨w.heap.size + 1, 0, none⟩ (.slice A7 z7.l.length cap7)).setCell ⟨w.heap.size + 1, 1, none⟩ (.int .i64 z7.e)).setCell ⟨w.heap.size + 1 + 1, 0, none⟩ (.int .u64 n1)).setCell ⟨w.heap.size + 1 + 1, 1, none⟩ (.int .i64 n2)).setCell ⟨w.heap.size + 1 + 1, 2, none⟩ (.int .u64 n3)).setCell ⟨w.heap.size + 1 + 1, 3, none⟩ (.int .i64 n4)).setCell ⟨w.heap.size + 1 + 1, 4, none⟩ (.int .u32 n5)).setCell ⟨w.heap.size + 1 + 1, 5, none⟩ (.int .u64 n6)).setCell ⟨w.heap.size + 1 + 1, 6, none⟩ (.slice A8 bs.length c8) := ⟨_, rfl⟩
    obtain ⟨B1, B2, B3, B4⟩ := M.out.fin ⟨n1, n2, n3, n4, n5, n6, A8, bs.length, c8, bs⟩ hwz
    rw [← hwz]
    have HB1 := Lib.hid B1
    have HB2 := Lib.hid B2
    have HB3 := Lib.hid B3
    have HB4 := Lib.hid (B4.mono hB)
    clear hwz B1 B2 B3 B4 x0 x1 q0 q1 r0 r1 r2 r3 r4 r5 r6 f0 f1 f2 f3 f4 f5 f6 k0 k1
    obtain ⟨x0, x1⟩ := ri_cells HB1.out
    obtain ⟨k0, k1, k2, k3, k4, k5, k6⟩ := cellsu7 HB2.out
    dsimp only at x0 x1
    go_wp2_with (fail)
    refine bodyPost_ret (v := .tuple #[.agg #[.slice A7 z7.l.length cap7, .int .i64 z7.e], .agg #[.int .u64 n1, .int .i64 n2, .int .u64 n3, .int .i64 n4, .int .u32 n5, .int .u64 n6, .slice A8 bs.length c8]]) (by simp [results, Tryz.results25, go_sem, x0, x1, k0, k1, k2, k3, k4, k5, k6]) rfl ?_
    refine ⟨⟨A7, cap7, z7⟩, ⟨n1, n2, n3, n4, n5, n6, A8, bs.length, c8, bs⟩, rfl, VI.out.symm, by rw [V.out, if_pos HE.out]; rfl, ?_, HR.out.below HB4.out, M.out.rin.below HB4.out, HB3.out⟩
    exact ⟨by constructor <;> (simp only; omega), by constructor <;> (simp only; omega), by constructor <;> (simp only; omega), by constructor <;> (simp only; omega), by constructor <;> (simp only; omega), by constructor <;> (simp only; omega), fun z hz => by have := HBY.out z hz; omega⟩
  · have he' : (z7.e != 0) = true := by simpa using he
    have HE := Lib.hid he
    clear he
    go_wp2_with (fail)
    obtain ⟨wz, hwz⟩ : ∃ wz, wz = ((((((((W7.setCell ⟨w.heap.size + 1, 0, none⟩ (.slice A7 z7.l.length cap7)).setCell ⟨w.heap.size + 1, 1, none⟩ (.int .i64 z7.e)).setCell ⟨w.heap.size + 1 + 1, 0, none⟩ (.int .u64 0)).setCell ⟨w.heap.size + 1 + 1, 1, none⟩ (.int .i64 0)).setCell ⟨w.heap.size + 1 + 1, 2, none⟩ (.int .u64 0)).setCell ⟨w.heap.size + 1 + 1, 3, none⟩ (.int .i64 0)).setCell ⟨w.heap.size + 1 + 1, 4, none⟩ (.int .u32 0)).setCell ⟨w.heap.size + 1 + 1, 5, none⟩ (.int .u64 0)).setCell ⟨w.heap.size + 1 + 1, 6, none⟩ (.slice none 0 0) := ⟨_, rfl⟩
    obtain ⟨B1, B2, B3, B4⟩ := M.out.fin Up.zero hwz
    rw [← hwz]
    have HB1 := Lib.hid B1
    have HB2 := Lib.hid B2
    have HB3 := Lib.hid B3
    have HB4 := Lib.hid (B4.mono hB)
    clear hwz B1 B2 B3 B4 x0 x1 q0 q1 r0 r1 r2 r3 r4 r5 r6 f0 f1 f2 f3 f4 f5 f6 k0 k1
    obtain ⟨x0, x1⟩ := ri_cells HB1.out
    obtain ⟨k0, k1, k2, k3, k4, k5, k6⟩ := cellsu7 HB2.out
    dsimp only at x0 x1
    go_wp2_with (fail)
    refine bodyPost_ret (v := .tuple #[.agg #[.slice A7 z7.l.length cap7, .int .i64 z7.e], .agg #[.int .u64 0, .int .i64 0, .int .u64 0, .int .i64 0, .int .u32 0, .int .u64 0, .slice none 0 0]]) (by simp [results, Tryz.results25, go_sem, x0, x1, k0, k1, k2, k3, k4, k5, k6, Up.zero]) rfl ?_
    refine ⟨⟨A7, cap7, z7⟩, Up.zero, rfl, VI.out.symm, by rw [V.out, if_neg HE.out]; rfl, ?_, Reads.none_, M.out.rin.below HB4.out, HB3.out⟩
    exact ⟨by constructor <;> (simp only [Up.zero]; omega), by constructor <;> (simp only [Up.zero]; omega), by constructor <;> (simp only [Up.zero]; omega), by constructor <;> (simp only [Up.zero]; omega), by constructor <;> (simp only [Up.zero]; omega), by constructor <;> (simp only [Up.zero]; omega), fun z hz => by cases hz⟩
end Go.Proofs.YtdpgpaobofdigaaGreatDoor

/- The reference's Update (an update's bytes); SameUpdate of both. -/
namespace Go.Proofs.YtdpgpaobofdigaaGreatDoor
open Go.RowKit
set_option linter.unusedSimpArgs false
set_option linter.unusedVariables false
set_option maxHeartbeats 4000000
set_option maxRecDepth 100000
attribute [local go_sem] Up.agg Up.cells

theorem relayLt {X w2 : World} {p q : Addr} {u v : Value} (h : Below X.heap.size X w2) (hs : X.cell? p = some u ∧ X.cell? q = some v) : w2.cell? p = some u ∧ w2.cell? q = some v :=
  ⟨(h.cell (World.block_lt_of_cell? X p hs.1)).trans hs.1, (h.cell (World.block_lt_of_cell? X q hs.2)).trans hs.2⟩
theorem bigOne (n : Nat) (h : n < 256) : big n 1 = [(n : Int)] := by simp [big, digit]; omega
theorem fitsB_lt (n k : Nat) (h : n < 256 ^ k) : fitsB n k = true := by rw [fitsB, decide_eq_true_eq]; exact h
/-- the memory of the reference's Update: its boxed update, the bytes so far -/
structure UbM (w W : World) (B : Nat) (u : Up) (A : Option Addr) (c n : Nat) (l : List Int) : Prop where
  box : Blk W w.heap.size 54 u.cells
  own : W.ownsRow (w.heap.size + 1) 5 1 (.slice A n c) n (l.map (Value.int .u8))
  bel : Below w.heap.size w W
theorem UbM.own_below {w W W2 : World} {B c n : Nat} {u : Up} {A : Option Addr} {l : List Int} (h : UbM w W B u A c n l) (h2 : Below W.heap.size W W2) : W2.ownsRow (w.heap.size + 1) 5 1 (.slice A n c) n (l.map (Value.int .u8)) :=
  own_block_same h.own (fun k hk => h2.block k (h.own.lt k hk).2)
theorem UbM.app {w W W2 W3 : World} {B c n m c3 : Nat} {u : Up} {A A3 : Option Addr} {l l2 : List Int} (h : UbM w W B u A c n l) (h2 : Below W.heap.size W W2)
    (ho : W3.ownsRow (w.heap.size + 1) 5 1 (.slice A3 (n + m) c3) (n + m) (l.map (Value.int .u8) ++ l2.map (Value.int .u8))) (hg : W2.grownBy W3 (Value.slice A n c).ownBlock) : UbM w W3 B u A3 c3 (n + m) (l ++ l2) := by
  have hb := h.box.below h2 h.box.lt
  have hne : ∀ k, (Value.slice A n c).ownBlock = some k → w.heap.size < k := fun k hk => (h.own.lt k hk).1
  refine ⟨(hg.block _ hb.lt (fun e => by have := hne _ e.symm; omega)).trans hb, by rw [List.map_append]; exact ho, (h.bel.trans (h2.mono h.bel.size)).grown hg (Nat.le_trans h.bel.size h2.size) (fun k hk => Nat.le_of_lt (hne k hk))⟩


theorem refUpdate_any (u : Up) (B : Nat) (w : World) (hu : UpIn w B u) (hB : B ≤ w.heap.size) (hp : u.put) :
    Calls Tryz.prog 18 #[u.agg] w fun e w' => ∃ A c, e = .returned (.slice A (upB u).length c) ∧ Reads w' w'.heap.size 1 A (upB u).length ((upB u).map (Value.int .u8)) ∧ Below w.heap.size w w' := by
  obtain ⟨i0, hi, hz0, hz1, hz2⟩ := info_parts byteInfo
  have hn := hu.len
  have w1 := hu.wf.seq
  have w3 := hu.wf.num
  have w5 := hu.wf.key
  have w6 := hu.wf.ver
  have w2 := hp.cl
  have w4 := hp.kd
  have w7 := hp.bs
  have f1 : IntKind.u8.wrap u.cl = u.cl := by rw [IntKind.wrap_u8']; omega
  have f2 : IntKind.u8.wrap u.kd = u.kd := by rw [IntKind.wrap_u8']; omega
  have f3 : IntKind.u64.wrap u.key = u.key := u64_keep (by omega)
  have K1 : Hid ([u.cl] = big u.cl.toNat 1) := Lib.hid (by rw [bigOne _ (by omega), Int.toNat_of_nonneg w2.1])
  have K2 : Hid ([u.kd] = big u.kd.toNat 1) := Lib.hid (by rw [bigOne _ (by omega), Int.toNat_of_nonneg w4.1])
  have HL := Lib.hid (upB_len u)
  have HN := Lib.hid hn
  have hn2 : u.n ≤ 2048 := by omega
  have RD := Lib.hid (fun W (h : Below w.heap.size w W) => hu.rd.below (h.mono hB))
  have G1 := Lib.hid (fun W => refBig_any u.seq.toNat 8 u.seq (by omega) (by omega) (by omega) (by omega) (fitsB_lt _ _ (by omega)) W)
  have G2 := Lib.hid (fun W => refBig_any u.num.toNat 8 u.num (by omega) (by omega) (by omega) (by omega) (fitsB_lt _ _ (by omega)) W)
  have G3 := Lib.hid (fun W => refBig_any u.key.toNat 4 u.key (by omega) (by omega) (by omega) (by omega) (fitsB_lt _ _ (by omega)) W)
  have G4 := Lib.hid (fun W => refBig_any u.ver.toNat 8 u.ver (by omega) (by omega) (by omega) (by omega) (fitsB_lt _ _ (by omega)) W)
  clear w1 w2 w3 w4 w5 w6 w7 hn hp hu
  obtain ⟨W5, hW5⟩ : ∃ W5, W5 = w.alloc (.cells u.cells 54) := ⟨_, rfl⟩
  have hbx : Blk W5 w.heap.size 54 u.cells := by rw [hW5]; exact Blk.new w _ _
  have hbw : Below w.heap.size w W5 := by rw [hW5]; exact (Below.refl _ _).alloc (Nat.le_refl _) _
  have hs5 : W5.heap.size = w.heap.size + 1 := by rw [hW5]; simp
  obtain ⟨y0, y1, _, _, _, _, _⟩ := cellsu7 hbx
  have HBX := Lib.hid hbx
  have HBW := Lib.hid hbw
  have HS5 := Lib.hid hs5
  have HW5 := Lib.hid hW5
  have hlt := hbx.lt
  clear hW5 hbx hbw hs5
  have Q1 : Hid (8 + 1 ≤ maxLen) := Lib.hid (by unfold maxLen; omega)
  have E5 : Hid (∀ X, Below W5.heap.size W5 X → Below w.heap.size w X ∧ Blk X w.heap.size 54 u.cells ∧ w.heap.size + 1 ≤ X.heap.size) := Lib.hid (fun X h => ⟨HBW.out.trans (h.mono HBW.out.size), HBX.out.below h hlt, Nat.le_trans (by rw [HS5.out]; exact Nat.le_refl _) h.size⟩)
  have FIN : Hid (∀ (X w3 : World) (A2 : Option Addr) (c2 : Nat) (v3 : Value), Below W5.heap.size W5 X → X.ownsRow (w.heap.size + 1) 5 1 (.slice A2 8 c2) 8 ((big u.seq.toNat 8).map (Value.int .u8)) → X.grownBy w3 (Value.slice A2 8 c2).ownBlock → w3.ownsRow (w.heap.size + 1) 5 1 v3 (8 + 1) ((big u.seq.toNat 8).map (Value.int .u8) ++ [u.cl].map (Value.int .u8)) →
      ∃ A c, v3 = .slice A 9 c ∧ UbM w w3 B u A c 9 (big u.seq.toNat 8 ++ big u.cl.toNat 1)) := Lib.hid (fun X w3 A2 c2 v3 hX ho hg h3 => by
    obtain ⟨A3, c3, rfl, _, _, _⟩ := own_slice h3
    obtain ⟨e1, e2, e3⟩ := E5.out X hX
    refine ⟨A3, c3, rfl, ?_⟩
    rw [← K1.out]
    exact UbM.app (n := 8) (m := 1) ⟨e2, ho, e1⟩ (Below.refl _ _) h3 hg)
  have OWA : Hid (∀ (A2 : Option Addr) (c2 : Nat) (w2 : World), w2.ownsRow (W5.alloc (.cells #[.int .u8 u.cl] 5)).drew.heap.size 5 1 (.slice A2 8 c2) 8 ((big u.seq.toNat 8).map (Value.int .u8)) → w2.ownsRow (w.heap.size + 1) 5 1 (.slice A2 8 c2) 8 ((big u.seq.toNat 8).map (Value.int .u8))) := Lib.hid (fun A2 c2 w2 h => Go.Joins.ownsRow_le h (by have := HS5.out; simp; omega))
  have OWB : Hid (∀ (A2 : Option Addr) (c2 : Nat) (w2 : World), w2.ownsRow W5.drew.heap.size 5 1 (.slice A2 8 c2) 8 ((big u.seq.toNat 8).map (Value.int .u8)) → (w2.alloc (.cells #[.int .u8 u.cl] 5)).ownsRow (w.heap.size + 1) 5 1 (.slice A2 8 c2) 8 ((big u.seq.toNat 8).map (Value.int .u8))) := Lib.hid (fun A2 c2 w2 h => Go.Joins.ownsRow_le (h.alloc _) (by have := HS5.out; simp; omega))
  have RLA : Hid (∀ w2, Below (W5.alloc (.cells #[.int .u8 u.cl] 5)).drew.heap.size (W5.alloc (.cells #[.int .u8 u.cl] 5)).drew w2 → Reads w2 (W5.heap.size + 1) 1 (some ⟨W5.heap.size, 0, none⟩) 1 ([u.cl].map (Value.int .u8))) := Lib.hid (fun w2 h => by
    have o := Reads.of_own (own_lit1 W5 u.cl 0 (Nat.zero_le _))
    rw [World.size_alloc] at o
    exact Reads.below (w := (W5.alloc (.cells #[.int .u8 u.cl] 5)).drew) o (h.mono (by simp)))
  have RLB : Hid (∀ w2 : World, Reads (w2.alloc (.cells #[.int .u8 u.cl] 5)) (w2.heap.size + 1) 1 (some ⟨w2.heap.size, 0, none⟩) 1 ([u.cl].map (Value.int .u8))) := Lib.hid (fun w2 => by
    have o := Reads.of_own (own_lit1 w2 u.cl 0 (Nat.zero_le _))
    rw [World.size_alloc] at o
    exact o)
  have BLA : Hid (∀ w2, Below (W5.alloc (.cells #[.int .u8 u.cl] 5)).drew.heap.size (W5.alloc (.cells #[.int .u8 u.cl] 5)).drew w2 → Below W5.heap.size W5 w2) := Lib.hid (fun w2 h => (((Below.refl W5.heap.size W5).alloc (Nat.le_refl _) (.cells #[.int .u8 u.cl] 5)).drew).trans (h.mono (by simp)))
  have BLB : Hid (∀ w2, Below W5.drew.heap.size W5.drew w2 → Below W5.heap.size W5 (w2.alloc (.cells #[.int .u8 u.cl] 5))) := Lib.hid (fun w2 h => (((Below.refl W5.heap.size W5).drew).trans (h.mono (by simp))).alloc (by simpa using h.size) _)
  show Calls Tryz.prog 18 #[.agg #[.int .u64 u.seq, .int .i64 u.cl, .int .u64 u.num, .int .i64 u.kd, .int .u32 u.key, .int .u64 u.ver, .slice u.A u.n u.c]] w _
  go_enter Tryz.func18, Tryz.ntmps18
  go_upto_region 1 with (fail)
  rw [show w.alloc (.cells #[Value.int .u64 u.seq, .int .i64 u.cl, .int .u64 u.num, .int .i64 u.kd, .int .u32 u.key, .int .u64 u.ver, .slice u.A u.n u.c] 54) = W5 from HW5.out.symm]
  go_cut [3] (fun v wx => ∃ A c, v = .slice A 9 c ∧ Hid (UbM w wx B u A c 9 (big u.seq.toNat 8 ++ big u.cl.toNat 1)))
  case first =>
    go_region_held3 (fun w' => w'.cell? ⟨w.heap.size, 0, none⟩ = some (.int .u64 u.seq) ∧ w'.cell? ⟨w.heap.size, 1, none⟩ = some (.int .i64 u.cl)) (go_keep) (first
      | (go_at_call 50; refine (G1.out _).mono ?_; rintro e w2 ⟨v2, rfl, h1, h2⟩; obtain ⟨A2, c2, rfl, r2, _, _⟩ := own_slice h1; have dd := relayLt (p := ⟨w.heap.size, 0, none⟩) (q := ⟨w.heap.size, 1, none⟩) h2 ‹_›; obtain ⟨d0, d1⟩ := dd; have H1 := Lib.hid h1; have H2 := Lib.hid h2; have hb2 := h2.size; clear h1 h2 r2)
      | (refine step_append_any _ ?_ (.tmp 8) (.tmp 12) 22 ?_ (w.heap.size + 1) 5 i0 (.int .u8 0) 1 1 Tryz.underlying22 hi hz0 hz1 hz2 rfl (by omega) (.slice A2 8 c2) 8 ((big u.seq.toNat 8).map (Value.int .u8)) ?_ ?_ (W5.heap.size + 1) (some ⟨W5.heap.size, 0, none⟩) 1 1 ([u.cl].map (Value.int .u8)) ?_ ?_ ?_ ?_ ?_ ?_ ?_; (· rfl); (· rfl); (· rfl); (· exact OWA.out _ _ _ H1.out); (· rfl); (· exact RLA.out _ H2.out); (· exact u8_one _); (· exact Q1.out); (· omega); (· exact (E5.out _ (BLA.out _ H2.out)).2.2); intro v3 w3 h5 h6 _; have ff := FIN.out _ _ _ _ _ (BLA.out _ H2.out) (OWA.out _ _ _ H1.out) h6 h5; obtain ⟨A3, c3, rfl, m3⟩ := ff; have g0 := (m3.box.cell 0).trans (show _ = some (Value.int .u64 u.seq) from rfl); have g1 := (m3.box.cell 1).trans (show _ = some (Value.int .i64 u.cl) from rfl); have M3 := Lib.hid m3; clear h5 h6 m3)
      | (refine step_append_any _ ?_ (.tmp 8) (.tmp 12) 22 ?_ (w.heap.size + 1) 5 i0 (.int .u8 0) 1 1 Tryz.underlying22 hi hz0 hz1 hz2 rfl (by omega) (.slice A2 8 c2) 8 ((big u.seq.toNat 8).map (Value.int .u8)) ?_ ?_ (w2.heap.size + 1) (some ⟨w2.heap.size, 0, none⟩) 1 1 ([u.cl].map (Value.int .u8)) ?_ ?_ ?_ ?_ ?_ ?_ ?_; (· rfl); (· rfl); (· rfl); (· exact OWB.out _ _ _ H1.out); (· rfl); (· exact RLB.out w2); (· exact u8_one _); (· exact Q1.out); (· omega); (· exact (E5.out _ (BLB.out _ H2.out)).2.2); intro v3 w3 h5 h6 _; have ff := FIN.out _ _ _ _ _ (BLB.out _ H2.out) (OWB.out _ _ _ H1.out) h6 h5; obtain ⟨A3, c3, rfl, m3⟩ := ff; have g0 := (m3.box.cell 0).trans (show _ = some (Value.int .u64 u.seq) from rfl); have g1 := (m3.box.cell 1).trans (show _ = some (Value.int .i64 u.cl) from rfl); have M3 := Lib.hid m3; clear h5 h6 m3)
      | fail)
    all_goals
      go_wp2_with (fail)
      go_meet
      case rel => exact ⟨A3, c3, rfl, M3⟩
  case rest =>
    obtain ⟨A1, c1, rfl, M1⟩ := hcut
    clear y0 y1 E5 FIN OWA OWB RLA RLB BLA BLB HBX HBW HS5 HW5 G1 hlt Q1
    obtain ⟨x0, x1, x2, x3, x4, x5, x6⟩ := cellsu7 M1.out.box
    have hw := M1.out.bel.size
    have hbl := M1.out.box.lt
    go_wp2_with (fail)
    refine (G2.out _).mono ?_
    rintro e z2 ⟨v2, rfl, h1, h2⟩
    obtain ⟨A2, c2, rfl, r2, _, _⟩ := own_slice h1
    have h0 := h2.size
    clear x0 x1 x2 x3 x4 x5 x6
    obtain ⟨x0, x1, x2, x3, x4, x5, x6⟩ := cellsu7 (M1.out.box.below h2 M1.out.box.lt)
    have MO := Lib.hid (M1.out.own_below h2)
    have H2 := Lib.hid h2
    have R2 := Lib.hid r2
    clear h1 h2 r2
    go_wp2_with (at_builtin; go_must (refine wpList_append_any _ rfl (.tmp 14) (.tmp 17) _ rfl (w.heap.size + 1) 5 i0 _ 1 1 Tryz.underlying22 hi hz0 hz1 hz2 rfl (by omega) _ _ _ rfl MO.out z2.heap.size A2 8 c2 ((big u.num.toNat 8).map (Value.int .u8)) rfl R2.out ?c1 ?c2 ?c3 ?c4 ?_))
    case c1 => exact u8_one _
    case c2 => unfold maxLen; omega
    case c3 => omega
    case c4 => (try simp); omega
    intro v5 y2 h5 h6 _
    obtain ⟨A5, c5, rfl, r5, hn5, hm5⟩ := own_slice h5
    have M2 := Lib.hid (M1.out.app (m := 8) (l2 := big u.num.toNat 8) H2.out h5 h6)
    clear h5 h6 r5 hn5 hm5 x0 x1 x2 x3 x4 x5 x6 hw hbl MO H2 R2 h0 G2
    obtain ⟨x0, x1, x2, x3, x4, x5, x6⟩ := cellsu7 M2.out.box
    have hw := M2.out.bel.size
    have hbl := M2.out.box.lt
    have MO := Lib.hid (M2.out.own_below ((Below.refl _ _).alloc (Nat.le_refl _) (.cells #[.int .u8 u.kd] 5)))
    have RL := Lib.hid (Reads.of_own (own_lit1 y2 u.kd 0 (Nat.zero_le _)))
    go_wp2_with (at_builtin; go_must (refine wpList_append_any _ rfl (.tmp 19) (.tmp 23) _ rfl (w.heap.size + 1) 5 i0 _ 1 1 Tryz.underlying22 hi hz0 hz1 hz2 rfl (by omega) _ _ _ rfl MO.out (y2.heap.size + 1) (some ⟨y2.heap.size, 0, none⟩) 1 1 ([u.kd].map (Value.int .u8)) rfl (by have := RL.out; simpa using this) ?c1 ?c2 ?c3 ?c4 ?_))
    case c1 => exact u8_one _
    case c2 => unfold maxLen; omega
    case c3 => (try simp); try omega
    case c4 => (try simp); omega
    intro v5 y3 h5 h6 _
    obtain ⟨A5, c5, rfl, r5, hn5, hm5⟩ := own_slice h5
    have M3 := Lib.hid (M2.out.app (m := 1) (l2 := [u.kd]) ((Below.refl _ _).alloc (Nat.le_refl _) (.cells #[.int .u8 u.kd] 5)) h5 h6)
    clear h5 h6 r5 hn5 hm5 x0 x1 x2 x3 x4 x5 x6 hw hbl MO RL
    obtain ⟨x0, x1, x2, x3, x4, x5, x6⟩ := cellsu7 M3.out.box
    have hw := M3.out.bel.size
    have hbl := M3.out.box.lt
    go_wp2_with (fail)
    refine (G3.out _).mono ?_
    rintro e z4 ⟨v2, rfl, h1, h2⟩
    obtain ⟨A2, c2, rfl, r2, _, _⟩ := own_slice h1
    have h0 := h2.size
    clear x0 x1 x2 x3 x4 x5 x6
    obtain ⟨x0, x1, x2, x3, x4, x5, x6⟩ := cellsu7 (M3.out.box.below h2 M3.out.box.lt)
    have MO := Lib.hid (M3.out.own_below h2)
    have H2 := Lib.hid h2
    have R2 := Lib.hid r2
    clear h1 h2 r2
    go_wp2_with (at_builtin; go_must (refine wpList_append_any _ rfl (.tmp 25) (.tmp 29) _ rfl (w.heap.size + 1) 5 i0 _ 1 1 Tryz.underlying22 hi hz0 hz1 hz2 rfl (by omega) _ _ _ rfl MO.out z4.heap.size A2 4 c2 ((big u.key.toNat 4).map (Value.int .u8)) rfl R2.out ?c1 ?c2 ?c3 ?c4 ?_))
    case c1 => exact u8_one _
    case c2 => unfold maxLen; omega
    case c3 => omega
    case c4 => (try simp); omega
    intro v5 y4 h5 h6 _
    obtain ⟨A5, c5, rfl, r5, hn5, hm5⟩ := own_slice h5
    have M4 := Lib.hid (M3.out.app (m := 4) (l2 := big u.key.toNat 4) H2.out h5 h6)
    clear h5 h6 r5 hn5 hm5 x0 x1 x2 x3 x4 x5 x6 hw hbl MO H2 R2 h0 G3
    obtain ⟨x0, x1, x2, x3, x4, x5, x6⟩ := cellsu7 M4.out.box
    have hw := M4.out.bel.size
    have hbl := M4.out.box.lt
    go_wp2_with (fail)
    refine (G4.out _).mono ?_
    rintro e z5 ⟨v2, rfl, h1, h2⟩
    obtain ⟨A2, c2, rfl, r2, _, _⟩ := own_slice h1
    have h0 := h2.size
    clear x0 x1 x2 x3 x4 x5 x6
    obtain ⟨x0, x1, x2, x3, x4, x5, x6⟩ := cellsu7 (M4.out.box.below h2 M4.out.box.lt)
    have MO := Lib.hid (M4.out.own_below h2)
    have H2 := Lib.hid h2
    have R2 := Lib.hid r2
    clear h1 h2 r2
    go_wp2_with (at_builtin; go_must (refine wpList_append_any _ rfl (.tmp 31) (.tmp 34) _ rfl (w.heap.size + 1) 5 i0 _ 1 1 Tryz.underlying22 hi hz0 hz1 hz2 rfl (by omega) _ _ _ rfl MO.out z5.heap.size A2 8 c2 ((big u.ver.toNat 8).map (Value.int .u8)) rfl R2.out ?c1 ?c2 ?c3 ?c4 ?_))
    case c1 => exact u8_one _
    case c2 => unfold maxLen; omega
    case c3 => omega
    case c4 => (try simp); omega
    intro v5 y5 h5 h6 _
    obtain ⟨A5, c5, rfl, r5, hn5, hm5⟩ := own_slice h5
    have M5 := Lib.hid (M4.out.app (m := 8) (l2 := big u.ver.toNat 8) H2.out h5 h6)
    clear h5 h6 r5 hn5 hm5 x0 x1 x2 x3 x4 x5 x6 hw hbl MO H2 R2 h0 G4
    obtain ⟨x0, x1, x2, x3, x4, x5, x6⟩ := cellsu7 M5.out.box
    have hw := M5.out.bel.size
    have hbl := M5.out.box.lt
    have RT := Lib.hid (RD.out _ M5.out.bel)
    go_wp2_with (fail)
    refine (refText_any u.A u.n u.c B u.bs _ (Nat.le_trans hB hw) RT.out (by omega)).mono ?_
    rintro e z6 ⟨v2, rfl, h1, h2⟩
    obtain ⟨A2, c2, rfl, r2, _, _⟩ := own_slice h1
    have h0 := h2.size
    have MO := Lib.hid (M5.out.own_below h2)
    have H2 := Lib.hid h2
    have R2 := Lib.hid r2
    clear h1 h2 r2
    go_wp2_with (at_builtin; go_must (refine wpList_append_any _ rfl (.tmp 42) (.tmp 43) _ rfl (w.heap.size + 1) 5 i0 _ 1 1 Tryz.underlying22 hi hz0 hz1 hz2 rfl (by omega) _ _ _ rfl MO.out z6.heap.size A2 (2 + u.n) c2 ((big u.n 2 ++ u.bs).map (Value.int .u8)) rfl R2.out ?c1 ?c2 ?c3 ?c4 ?_))
    case c1 => exact u8_one _
    case c2 => unfold maxLen; omega
    case c3 => omega
    case c4 => (try simp); omega
    intro v5 y6 h5 h6 _
    obtain ⟨A5, c5, rfl, r5, hn5, hm5⟩ := own_slice h5
    have M6 := Lib.hid (M5.out.app (m := 2 + u.n) (l2 := big u.n 2 ++ u.bs) H2.out h5 h6)
    clear h5 h6 r5 hn5 hm5 x0 x1 x2 x3 x4 x5 x6 hw hbl MO H2 R2 h0
    go_wp2_with (fail)
    go_ret
    have hl : (upB u).length = 9 + 8 + 1 + 4 + 8 + (2 + u.n) := by rw [HL.out, HN.out]; omega
    have hb : big u.seq.toNat 8 ++ big u.cl.toNat 1 ++ big u.num.toNat 8 ++ [u.kd] ++ big u.key.toNat 4 ++ big u.ver.toNat 8 ++ (big u.n 2 ++ u.bs) = upB u := by rw [upB, K2.out, HN.out]
    refine ⟨A5, c5, by rw [hl]; rfl, ?_, M6.out.bel⟩
    have := Reads.of_own M6.out.own
    rw [hb] at this
    rw [hl]; exact this
end Go.Proofs.YtdpgpaobofdigaaGreatDoor

/- SameUpdate of both where the values are the same; the law's far. -/
namespace Go.Proofs.YtdpgpaobofdigaaGreatDoor
open Go.RowKit
set_option linter.unusedSimpArgs false
set_option linter.unusedVariables false
set_option maxHeartbeats 4000000
set_option maxRecDepth 100000
attribute [local go_sem] Up.agg Up.cells Lt.agg Lt.cells Lt.zero

theorem upVal_eq {a b : Up} (h : a.val = b.val) : b = { a with A := b.A, n := b.n, c := b.c } := by
  obtain ⟨s, c1, n1, k1, y1, v1, A1, m1, cc, b1⟩ := a
  obtain ⟨s', c', n', k', y', v', A', m', cc', b'⟩ := b
  simp only [Up.val, Prod.mk.injEq] at h
  obtain ⟨rfl, rfl, rfl, rfl, rfl, rfl, rfl⟩ := h
  rfl
theorem convU8 {w : World} {B n c : Nat} {A : Option Addr} {l : List Int} (h : Reads w B 1 A n (l.map (Value.int .u8))) :
    (convert 22 9 (.slice A n c)).run Tryz.prog w = .ok (.string (strOfNums l)) w := by
  have hl : l.length = n := by have := h.1; simpa using this
  rcases Nat.eq_zero_or_pos n with hn | hn
  · subst hn
    obtain rfl : l = [] := List.eq_nil_of_length_eq_zero hl
    exact run_convert_bytes_zero (P := Tryz.prog) w 22 5 Tryz.underlying22 Tryz.underlying5 A c 9 Tryz.underlying9
  · obtain ⟨ad, hA, _, hc⟩ := h.2 hn
    subst hA
    obtain ⟨b, o, spot⟩ := ad
    have h0 : spot = none := by
      have h00 : (l.map (Value.int .u8))[0]? = some ((l.map (Value.int .u8))[0]'(by simp; omega)) := List.getElem?_eq_getElem _
      have := World.cell?_spot (hc 0 _ h00)
      simpa [Addr.add] using this
    subst h0
    refine run_convert_bytes_arg (P := Tryz.prog) w 22 5 Tryz.underlying22 Tryz.underlying5 b o n c l hl (fun i hi => ?_) 9 Tryz.underlying9
    have hli : i < l.length := by omega
    have := hc i (.int .u8 l[i]) (by rw [List.getElem?_map, List.getElem?_eq_getElem hli]; rfl)
    rw [Go.WideShapes.add_plain] at this
    rw [this, List.getD_eq_getElem?_getD, List.getElem?_eq_getElem hli]; rfl
theorem bytesTwo_any (A C : Option Addr) (n m c d B D : Nat) (l : List Int) (w : World) (hx : Reads w B 1 A n (l.map (Value.int .u8))) (hy : Reads w D 1 C m (l.map (Value.int .u8))) :
    Calls Tryz.prog 54 #[.slice A n c, .slice C m d] w fun e w' => e = .returned (.bool true) ∧ w = w' := by
  have h1 := convU8 (c := c) hx
  have h2 := convU8 (c := d) hy
  generalize strOfNums l = sx at *
  clear hx hy
  go_enter Tryz.func54, Tryz.ntmps54
  go_wp2
  go_ret
  exact ⟨by simp, rfl⟩
theorem letSameV_any (x y : Up) (hv : x.val = y.val) (B D : Nat) (w : World) (h1 : Reads w B 1 x.A x.n (x.bs.map (Value.int .u8))) (h2 : Reads w D 1 y.A y.n (y.bs.map (Value.int .u8))) (hB : B ≤ w.heap.size) (hD : D ≤ w.heap.size) :
    Calls Tryz.prog 22 #[x.agg, y.agg] w fun e w' => e = .returned (.bool true) ∧ Below w.heap.size w w' := by
  have hy := upVal_eq hv
  obtain ⟨s', c', n', k', y', v', A', m', cc', b'⟩ := y
  simp only at hy h2
  obtain ⟨rfl, rfl, rfl, rfl, rfl, rfl, rfl, _⟩ : s' = x.seq ∧ c' = x.cl ∧ n' = x.num ∧ k' = x.kd ∧ y' = x.key ∧ v' = x.ver ∧ b' = x.bs ∧ True := by
    injection hy with e1 e2 e3 e4 e5 e6 e7 e8 e9 e10
    exact ⟨e1, e2, e3, e4, e5, e6, e10, trivial⟩
  clear hy hv
  have HB : Hid (Below w.heap.size w ((w.alloc (.cells x.cells 54)).alloc (.cells (Up.cells ⟨x.seq, x.cl, x.num, x.kd, x.key, x.ver, A', m', cc', x.bs⟩) 54))) := Lib.hid (((Below.refl _ _).alloc (Nat.le_refl _) _).alloc (by simp) _)
  have R1 := Lib.hid h1
  have R2 := Lib.hid h2
  clear h1 h2
  go_enter Tryz.func22, Tryz.ntmps22
  go_wp2_with (fail)
  refine (bytesTwo_any x.A A' x.n m' x.c cc' B D x.bs _ (R1.out.below (HB.out.mono hB)) (R2.out.below (HB.out.mono hD))).mono ?_
  rintro e w1 ⟨rfl, rfl⟩
  go_wp2_with (fail)
  go_ret
  exact ⟨rfl, HB.out⟩
theorem refSameV_any (x y : Up) (hv : x.val = y.val) (B D : Nat) (w : World) (h1 : Reads w B 1 x.A x.n (x.bs.map (Value.int .u8))) (h2 : Reads w D 1 y.A y.n (y.bs.map (Value.int .u8))) (hB : B ≤ w.heap.size) (hD : D ≤ w.heap.size) (hn : x.n ≤ 1000000) :
    Calls Tryz.prog 23 #[x.agg, y.agg] w fun e w' => e = .returned (.bool true) ∧ Below w.heap.size w w' := by
  have hy := upVal_eq hv
  obtain ⟨s', c', n', k', y', v', A', m', cc', b'⟩ := y
  simp only at hy h2
  obtain ⟨rfl, rfl, rfl, rfl, rfl, rfl, rfl, _⟩ : s' = x.seq ∧ c' = x.cl ∧ n' = x.num ∧ k' = x.kd ∧ y' = x.key ∧ v' = x.ver ∧ b' = x.bs ∧ True := by
    injection hy with e1 e2 e3 e4 e5 e6 e7 e8 e9 e10
    exact ⟨e1, e2, e3, e4, e5, e6, e10, trivial⟩
  clear hy hv
  have HB : Hid (Below w.heap.size w ((w.alloc (.cells x.cells 54)).alloc (.cells (Up.cells ⟨x.seq, x.cl, x.num, x.kd, x.key, x.ver, A', m', cc', x.bs⟩) 54))) := Lib.hid (((Below.refl _ _).alloc (Nat.le_refl _) _).alloc (by simp) _)
  have HL := Lib.hid HB.out.size
  have R1 := Lib.hid h1
  have R2 := Lib.hid h2
  clear h1 h2
  go_enter Tryz.func23, Tryz.ntmps23
  go_wp2_with (fail)
  refine (same_any x.A A' x.n m' x.c cc' B D x.bs x.bs _ (Nat.le_trans hB HL.out) (Nat.le_trans hD HL.out) (R1.out.below (HB.out.mono hB)) (R2.out.below (HB.out.mono hD)) (by omega)).mono ?_
  rintro e w1 ⟨rfl, h⟩
  have H1 := Lib.hid (HB.out.trans (h.mono HL.out))
  clear h
  simp only [decide_true]
  go_wp2_with (fail)
  go_ret
  exact ⟨rfl, H1.out⟩
def uLet (A : Option Addr) (n c : Nat) : Lt := { Lt.zero with uA := A, un := n, up := c }
theorem farU_any (A : Option Addr) (n c B : Nat) (l : List Up) (w : World) (h : UpsIn w B A n l) (hB : B ≤ w.heap.size) (hn : n ≤ 4) :
    Calls Tryz.prog 13 #[(uLet A n c).agg] w fun e w' => ∃ b, e = .returned (.bool b) ∧ Below w.heap.size w w' := by
  have hbb : Below w.heap.size w (w.alloc (.cells (uLet A n c).cells 37)) := (Below.refl _ _).alloc (Nat.le_refl _) _
  obtain ⟨W0, hW0⟩ : ∃ W0, W0 = w.alloc (.cells (uLet A n c).cells 37) := ⟨_, rfl⟩
  have hbk : Blk W0 w.heap.size 37 (uLet A n c).cells := by rw [hW0]; exact Blk.new w _ _
  rw [← hW0] at hbb
  have H := Lib.hid (h.below (hbb.mono hB))
  have HB := Lib.hid hbb
  have x14 : W0.cell? ⟨w.heap.size, 19, none⟩ = some (.slice none 0 0) := hbk.cell 19
  have x15 : W0.cell? ⟨w.heap.size, 22, none⟩ = some (.slice none 0 0) := hbk.cell 22
  have x16 : W0.cell? ⟨w.heap.size, 23, none⟩ = some (.slice A n c) := hbk.cell 23
  have x17 : W0.cell? ⟨w.heap.size, 24, none⟩ = some (.slice none 0 0) := hbk.cell 24
  have hlt := hbk.lt
  have HW0 := Lib.hid hW0
  clear hbb hW0 h hbk
  go_enter Tryz.func13, Tryz.ntmps13
  go_upto_region 1 with (fail)
  have e0 := HW0.out
  simp only [Lt.cells] at e0
  rw [← e0]
  clear e0
  go_wp2_with (fail)
  go_loopw [3] (fun iv wr => ∃ k : Nat, k ≤ n ∧ iv = .int .i64 k ∧ W0 = wr) (fun iv _ => n - (intOf iv).toNat)
  case atStart => exact ⟨0, Nat.zero_le _, rfl, rfl⟩
  case round =>
    obtain ⟨k, hk, rfl, rfl⟩ := hrel
    by_cases hlk : k < n
    · obtain ⟨b, off, u, rfl, hb, hu, hui, h0, h1, h2, h3, h4, h5, h6⟩ := H.out.at_ hlk
      have hk9 : (k : Int) < 9 := by omega
      have hkn : (k : Int) < n := by omega
      by_cases hbig : 2100 < u.n
      · have hbi : (2100 : Int) < u.n := by omega
        go_wp2_with (fail)
        go_ret
        exact ⟨true, rfl, HB.out⟩
      · have hbi : ¬ (2100 : Int) < u.n := by omega
        go_wp2_with (fail)
        go_roundw
        case rel => exact ⟨k + 1, hlk, by go_num, by trivial⟩
        case measure => simp [intOf]; omega
    · obtain rfl : k = n := by omega
      have h8 : ¬ (8 : Int) < k := by omega
      go_wp2_with (fail)
      go_ret
      exact ⟨.inl rfl, HB.out⟩
end Go.Proofs.YtdpgpaobofdigaaGreatDoor

/- The walk of LetterUpdates, given its awake. -/


namespace Go.Proofs.YtdpgpaobofdigaaGreatDoor
open Go.RowKit
set_option linter.unusedSimpArgs false
set_option linter.unusedVariables false
set_option maxHeartbeats 8000000
set_option maxRecDepth 100000
attribute [local go_sem] Up.agg Up.cells RI.agg RI.cells RI.nil

/-- the table of kinds, and the name that the law asks for -/
structure KNAt (w : World) : Prop where
  k : KindsAt w
  n : w.cell? ⟨0, 70, none⟩ = some (.string ⟨#[108, 111, 99, 97, 116, 101]⟩)
theorem KNAt.below {w w' : World} (h : KNAt w) (hb : Below w.heap.size w w') : KNAt w' := ⟨h.k.below hb, (hb.cell (p := ⟨0, 70, none⟩) h.k.lt).trans h.n⟩
def AwakeP : Prop := ∀ W, KNAt W → Calls Tryz.prog 6 #[] W fun e w' => e = .returned (.bool true) ∧ Below W.heap.size W w'
theorem far_hdr (A : Option Addr) (n c : Nat) (w : World) : (Instr.build 37 #[(16, .slice A n c)]).run Tryz.prog w = .ok (uLet A n c).agg w := by kernel_rfl
theorem in_hdr (A : Option Addr) (n c : Nat) (w : World) : (Instr.build 64 #[(0, .slice A n c)]).run Tryz.prog w = .ok (.agg #[.slice A n c, .int .i64 0]) w := by kernel_rfl
def bytesOf (l : List Up) (k : Nat) : List Int := (l.take k).flatMap upB
theorem bytesOf_succ (l : List Up) (k : Nat) (u : Up) (h : l[k]? = some u) : bytesOf l (k + 1) = bytesOf l k ++ upB u := by
  unfold bytesOf
  rw [List.take_add_one, h]
  simp
theorem bytesOf_drop (l : List Up) (k : Nat) (u : Up) (h : l[k]? = some u) : (l.drop k).flatMap upB = upB u ++ (l.drop (k + 1)).flatMap upB := by
  have hk : k < l.length := (List.getElem?_eq_some_iff.1 h).1
  have e : l[k] = u := (List.getElem?_eq_some_iff.1 h).2
  rw [List.drop_eq_getElem_cons hk, List.flatMap_cons, e]
structure U7 (w : World) (b o : Nat) (u : Up) : Prop where
  c : w.cell? ⟨b, o, none⟩ = some (.int .u64 u.seq) ∧ w.cell? ⟨b, o + 1, none⟩ = some (.int .i64 u.cl) ∧ w.cell? ⟨b, o + 2, none⟩ = some (.int .u64 u.num) ∧ w.cell? ⟨b, o + 3, none⟩ = some (.int .i64 u.kd) ∧ w.cell? ⟨b, o + 4, none⟩ = some (.int .u32 u.key) ∧ w.cell? ⟨b, o + 5, none⟩ = some (.int .u64 u.ver) ∧ w.cell? ⟨b, o + 6, none⟩ = some (.slice u.A u.n u.c)
theorem U7.below {w w' : World} {b o : Nat} {u : Up} (h : U7 w b o u) (hb : b < w.heap.size) (h2 : Below w.heap.size w w') : w'.cell? ⟨b, o, none⟩ = some (.int .u64 u.seq) ∧ w'.cell? ⟨b, o + 1, none⟩ = some (.int .i64 u.cl) ∧ w'.cell? ⟨b, o + 2, none⟩ = some (.int .u64 u.num) ∧ w'.cell? ⟨b, o + 3, none⟩ = some (.int .i64 u.kd) ∧ w'.cell? ⟨b, o + 4, none⟩ = some (.int .u32 u.key) ∧ w'.cell? ⟨b, o + 5, none⟩ = some (.int .u64 u.ver) ∧ w'.cell? ⟨b, o + 6, none⟩ = some (.slice u.A u.n u.c) := by
  obtain ⟨c0, c1, c2, c3, c4, c5, c6⟩ := h.c
  exact ⟨(h2.cell hb).trans c0, (h2.cell hb).trans c1, (h2.cell hb).trans c2, (h2.cell hb).trans c3, (h2.cell hb).trans c4, (h2.cell hb).trans c5, (h2.cell hb).trans c6⟩

/-- the first loop: what is put, and what is to be -/
structure LpRel (w : World) (v u : Value) (bs : List Int) (k : Nat) (wr : World) : Prop where
  out : OutAt wr w.heap.size v ⟨bs, 20000, 0⟩
  all : wr.ownsRow (w.heap.size + 1) 5 1 u bs.length (bs.map (Value.int .u8))
  dis : ∀ j, u.ownBlock = some j → v.ownBlock ≠ some j
  bel : Below w.heap.size w wr
  len : bs.length ≤ k * 2080
theorem LpRel.put {w wr w' : World} {k : Nat} {v v' u : Value} {bs cs : List Int} (h : LpRel w v u bs k wr) (ho : OutAt w' w.heap.size v' ⟨cs, 20000, 0⟩) (hs : OutStep wr w' w.heap.size v v') :
    OutAt w' w.heap.size v' ⟨cs, 20000, 0⟩ ∧ w'.ownsRow (w.heap.size + 1) 5 1 u bs.length (bs.map (Value.int .u8)) ∧ (∀ j, u.ownBlock = some j → v'.ownBlock ≠ some j) ∧ Below w.heap.size w w' := by
  refine ⟨ho, hs.2.own h.all (fun j hj hx => ?_), fun j hj => ?_, h.bel.trans (hs.2.below h.bel.size (fun j hj hx => ?_))⟩
  · rcases hx with hx | hx
    · have := (h.all.lt j hj).1; omega
    · exact h.dis j hj hx
  · rcases hs.1 with e | e
    · rw [e]; exact h.dis j hj
    · intro hx; have := e j hx; have := (h.all.lt j hj).2; omega
  · rcases hx with hx | hx
    · omega
    · have := (h.out.2.1.lt j hx).1; omega
theorem lp_step {w w3 w4 : World} {u v v1 : Value} {s : FO} {n : Nat} {xs : List Value} (ho : OutAt w3 w.heap.size v s) (hu : w3.ownsRow (w.heap.size + 1) 5 1 u n xs) (hd : ∀ j, u.ownBlock = some j → v.ownBlock ≠ some j) (hb : Below w.heap.size w w3)
    (hg : w3.grownBy w4 u.ownBlock) (hat : v1.ownBlock = u.ownBlock ∨ v1.ownBlock = some w3.heap.size) : OutAt w4 w.heap.size v s ∧ (∀ j, v1.ownBlock = some j → v.ownBlock ≠ some j) ∧ Below w.heap.size w w4 := by
  refine ⟨ho.chg (Chg.of_grown hg) (fun e => ?_) (fun j hj e => hd j e.symm hj), fun j hj hv => ?_, hb.grown hg hb.size (fun j hj => ?_)⟩
  · have := (hu.lt _ e.symm).1; omega
  · rcases hat with e | e
    · exact hd j (by rw [← e]; exact hj) hv
    · rw [hj] at e; injection e with e
      have := (ho.2.1.lt j hv).2; omega
  · have := (hu.lt _ hj).1; omega
theorem LpRel.below {w wr w' : World} {k : Nat} {v u : Value} {bs cs : List Int} (h : OutAt wr w.heap.size v ⟨cs, 20000, 0⟩ ∧ wr.ownsRow (w.heap.size + 1) 5 1 u bs.length (bs.map (Value.int .u8)) ∧ (∀ j, u.ownBlock = some j → v.ownBlock ≠ some j) ∧ Below w.heap.size w wr) (hb : Below wr.heap.size wr w') :
    OutAt w' w.heap.size v ⟨cs, 20000, 0⟩ ∧ w'.ownsRow (w.heap.size + 1) 5 1 u bs.length (bs.map (Value.int .u8)) ∧ (∀ j, u.ownBlock = some j → v.ownBlock ≠ some j) ∧ Below w.heap.size w w' :=
  ⟨h.1.below hb, own_block_same h.2.1 (fun k hk => hb.block k (h.2.1.lt k hk).2), h.2.2.1, h.2.2.2.trans (hb.mono h.2.2.2.size)⟩
theorem FI.text_le (s : FI) (most : Int) : (s.text most).2.length ≤ s.l.length := by
  have h1 := s.next_short1 2
  unfold FI.text
  split
  · split
    · simp
    · rw [FI.raw, if_neg (by omega)]
      exact Nat.le_trans (FI.next_short _ _) h1
  · simp
theorem getUi_short (s : FI) : (getUi s).l.length ≤ s.l.length := Nat.le_trans (FI.text_short _ _) (gs_short s)
theorem getUv_short (s : FI) : (getUv s).2.2.2.2.2.2.length ≤ s.l.length := by
  unfold getUv
  split
  · exact Nat.le_trans (FI.text_le _ _) (gs_short s)
  · simp [Up.zval]
/-- the memory of the third loop -/
structure Lp3 (w w10 : World) (gj gr Bj : Nat) (s : FI) (y : RI) (wr : World) : Prop where
  inn : InAt wr gj Bj s
  blk : Blk wr gr 64 y.cells
  ys : y.s = s
  rin : RIn wr w.heap.size y
  bel : Below w10.heap.size w10 wr
  len : s.l.length ≤ 300

theorem letterUpdates_law (aw : AwakeP) (A A2 : Option Addr) (n c n2 c2 : Nat) (l : List Up) (b : List Int) (w : World) (hK : KNAt w) (h : UpsIn w w.heap.size A n l) (hn : n ≤ maxLen)
    (hb : Reads w w.heap.size 1 A2 n2 (b.map (Value.int .u8))) (hby : bytesB b) (hn2 : n2 ≤ c2) (hc2 : c2 ≤ maxLen) :
    Calls Tryz.prog 5 #[.slice A n c, .slice A2 n2 c2] w fun e w' => e = .returned (.bool true) ∧ Below w.heap.size w w' := by
  obtain ⟨i0, hi, hz0, hz1, hz2⟩ := info_parts byteInfo
  have hc2' : c2 ≤ maxLen := hc2
  unfold maxLen at hn hc2
  have AW := Lib.hid aw
  have HK := Lib.hid hK
  have HU := Lib.hid h
  have HBB := Lib.hid hb
  have HBY := Lib.hid hby
  have H9 : Hid (Below w.heap.size w w) := Lib.hid (Below.refl _ _)
  have fh := far_hdr
  have ih := in_hdr
  clear hK h hb hby aw
  by_cases h4 : n ≤ 4
  rotate_left
  · have h4' : (4 : Int) < n := by omega
    go_enter Tryz.func5, Tryz.ntmps5
    go_wp2_with (fail)
    refine (AW.out _ (HK.out.below H9.out)).mono ?_
    rintro e w8 ⟨rfl, hb8⟩
    have H10 := Lib.hid (H9.out.trans (hb8.mono H9.out.size))
    clear hb8
    go_wp2_with (fail)
    go_ret
    exact ⟨rfl, H10.out⟩
  · have h4' : ¬ (4 : Int) < n := by omega
    have CF := Lib.hid (farU_any A n c w.heap.size l w HU.out (Nat.le_refl _) h4)
    go_enter Tryz.func5, Tryz.ntmps5
    go_wp2_with (fail)
    refine CF.out.mono ?_
    rintro e w1 ⟨fb, rfl, hb1⟩
    replace H9 := Lib.hid hb1
    clear hb1 CF
    cases fb
    rotate_left
    · go_wp2_with (fail)
      refine (AW.out _ (HK.out.below H9.out)).mono ?_
      rintro e w8 ⟨rfl, hb8⟩
      have H10 := Lib.hid (H9.out.trans (hb8.mono H9.out.size))
      clear hb8
      go_wp2_with (fail)
      go_ret
      exact ⟨rfl, H10.out⟩
    · go_wp2_with (fail)
      refine (new_any 20000 (by omega) _).mono ?_
      rintro e w2 ⟨rfl, h1, h2⟩
      have HR0 : Hid (LpRel w1 (.slice none 0 0) (.slice none 0 0) (bytesOf l 0) 0 w2) := Lib.hid ⟨h1, World.ownsRow_nil _ _ _ _, (fun j hj => (by cases hj)), h2, (by simp [bytesOf])⟩
      clear h1 h2
      go_wp2_with (fail)
      go_loopw [6, 7] (fun u i wr => ∃ (k : Nat) (v : Value), k ≤ n ∧ i = .int .i64 k ∧ Hid (LpRel w1 v u (bytesOf l k) k wr) ∧ Hid (∀ j x, j < k → l[j]? = some x → x.put)) (fun _ i _ => n - (intOf i).toNat)
      case atStart => exact ⟨0, _, by omega, rfl, HR0, Lib.hid (fun j x hj => absurd hj (by omega))⟩
      case round =>
        clear HR0
        obtain ⟨k, v, hk, rfl, hR, hPut⟩ := hrel
        have HWR : Hid (Below w.heap.size w wr) := Lib.hid (H9.out.trans (hR.out.bel.mono H9.out.size))
        by_cases hlt : k < n
        · have hlt' : (k : Int) < n := by omega
          obtain ⟨b0, off, x, rfl, hb0, hx, hxi, p0, p1, p2, p3, p4, p5, p6⟩ := (HU.out.below HWR.out).at_ hlt
          have hxn := hxi.len
          by_cases hput : (0 ≤ x.cl ∧ x.cl ≤ 255) ∧ (0 ≤ x.kd ∧ x.kd ≤ 255) ∧ x.n ≤ 2048
          rotate_left
          · have hz9 : x.cl < 0 ∨ (¬ x.cl < 0 ∧ 255 < x.cl) ∨ (¬ x.cl < 0 ∧ ¬ 255 < x.cl ∧ x.kd < 0) ∨ (¬ x.cl < 0 ∧ ¬ 255 < x.cl ∧ ¬ x.kd < 0 ∧ 255 < x.kd) ∨ (¬ x.cl < 0 ∧ ¬ 255 < x.cl ∧ ¬ x.kd < 0 ∧ ¬ 255 < x.kd ∧ (2048 : Int) < x.n) := by omega
            clear hput
            rcases hz9 with hq | ⟨hq0, hq⟩ | ⟨hq0, hq1, hq⟩ | ⟨hq0, hq1, hq2, hq⟩ | ⟨hq0, hq1, hq2, hq3, hq⟩
            all_goals
              go_wp2_with (fail)
              refine (AW.out _ (HK.out.below HWR.out)).mono ?_
              rintro e w8 ⟨rfl, hb8⟩
              have H10 := Lib.hid (HWR.out.trans (hb8.mono HWR.out.size))
              clear hb8
              go_wp2_with (fail)
              go_ret
              exact ⟨rfl, H10.out⟩
          · obtain ⟨⟨q0, q1⟩, ⟨q2, q3⟩, q4⟩ := hput
            have HPU : Hid x.put := Lib.hid ⟨⟨q0, q1⟩, ⟨q2, q3⟩, by omega⟩
            have t0 : ¬ x.cl < 0 := by omega
            have t1 : ¬ 255 < x.cl := by omega
            have t2 : ¬ x.kd < 0 := by omega
            have t3 : ¬ 255 < x.kd := by omega
            have t4 : ¬ (2048 : Int) < x.n := by omega
            have HXI := Lib.hid hxi
            have HX := Lib.hid hx
            have hbb : b0 < wr.heap.size := Nat.lt_of_lt_of_le hb0 HWR.out.size
            have BR : Hid (U7 wr b0 (off + k * 7) x) := Lib.hid ⟨p0, p1, p2, p3, p4, p5, p6⟩
            have hlen := hR.out.len
            have CP := putUpdate_any w1.heap.size v x (bytesOf l k) 20000 w.heap.size wr HXI.out H9.out.size HPU.out hR.out.out (by omega) (by omega)
            clear hxi hx hxn q0 q1 q2 q3 q4
            go_wp2_with (fail)
            refine CP.mono ?_
            rintro e w3 ⟨rfl, v', ho, hs⟩
            have HP := Lib.hid (hR.out.put ho hs)
            have h3 : Below w.heap.size w w3 := H9.out.trans (HP.out.2.2.2.mono H9.out.size)
            have H3 := Lib.hid h3
            have HL := Lib.hid hlen
            have hbw : Below w.heap.size wr w3 := hs.bel hR.out.out H9.out.size
            have cc : ∀ {o : Nat} {v : Value}, wr.cell? ⟨b0, o, none⟩ = some v → w3.cell? ⟨b0, o, none⟩ = some v := fun h => (hbw.cell (p := ⟨b0, _, none⟩) hb0).trans h
            replace p0 := cc p0
            replace p1 := cc p1
            replace p2 := cc p2
            replace p3 := cc p3
            replace p4 := cc p4
            replace p5 := cc p5
            replace p6 := cc p6
            have HX3 := Lib.hid (HXI.out.below hbw)
            have CU := Lib.hid (refUpdate_any x w.heap.size w3 HX3.out H3.out.size HPU.out)
            have hub := Lib.hid (upB_len x)
            have hbs := HPU.out.bs
            clear CP ho hs h3 hbw cc hlen BR HXI
            obtain ⟨A0, c0, rfl, _, _, _⟩ := own_slice HP.out.2.1
            go_wp2_with (fail)
            refine CU.out.mono ?_
            rintro e w4 ⟨A4, c4, rfl, hrd, hb4⟩
            have HQ := Lib.hid (LpRel.below (k := 0) HP.out hb4)
            have HRD := Lib.hid hrd
            have hsz := hb4.size
            clear hrd hb4 CU HP p0 p1 p2 p3 p4 p5 p6
            generalize hub2 : (upB x).length = m at *
            have HUB2 := Lib.hid hub2
            clear hub2
            go_wp2_with (at_builtin; go_must (refine wpList_append_any _ rfl (.tmp 81) (.tmp 86) _ rfl (w1.heap.size + 1) 5 i0 _ 1 1 Tryz.underlying22 hi hz0 hz1 hz2 rfl (by omega) _ _ _ rfl HQ.out.2.1 w4.heap.size A4 m c4 ((upB x).map (Value.int .u8)) rfl HRD.out ?c1 ?c2 ?c3 ?c4 ?_))
            case c1 => exact u8_one _
            case c2 => unfold maxLen; have := HL.out; have := hub.out; omega
            case c3 => have := HL.out; have := hub.out; omega
            case c4 => have := HQ.out.1.1.lt; omega
            intro v1 w5 hown hg hat
            have HN := Lib.hid (lp_step HQ.out.1 HQ.out.2.1 HQ.out.2.2.1 HQ.out.2.2.2 hg hat)
            have HO : Hid (w5.ownsRow (w1.heap.size + 1) 5 1 v1 (bytesOf l (k + 1)).length ((bytesOf l (k + 1)).map (Value.int .u8))) := Lib.hid (by
              rw [bytesOf_succ l k x HX.out, List.length_append, HUB2.out, List.map_append]; exact hown)
            obtain ⟨A9, c9, rfl, _, _, _⟩ := own_slice HO.out
            clear hown hg hat HRD HQ
            go_wp2_with (fail)
            go_roundw
            case rel => exact ⟨k + 1, v', hlt, by go_num, Lib.hid ⟨by rw [bytesOf_succ l k x HX.out]; exact HN.out.1, HO.out, HN.out.2.1, HN.out.2.2, by rw [bytesOf_succ l k x HX.out, List.length_append]; have := HL.out; have := hub.out; have := HUB2.out; omega⟩, Lib.hid (fun j y hj hy => by
              by_cases hjk : j < k
              · exact hPut.out j y hjk hy
              · obtain rfl : j = k := by omega
                rw [HX.out] at hy
                injection hy with hy
                subst hy
                exact HPU.out)⟩
            case measure => simp [intOf]; omega
        · obtain rfl : k = n := by omega
          have hlen : (bytesOf l k).length ≤ 8320 := Nat.le_trans hR.out.len (by omega)
          have hll : l.length = k := HU.out.len
          have hall : bytesOf l k = (l.drop 0).flatMap upB := by unfold bytesOf; rw [List.take_of_length_le (by omega), List.drop_zero]
          have HALL := Lib.hid hall
          clear hall
          have D := done_any w1.heap.size v ⟨bytesOf l k, 20000, 0⟩ wr hR.out.out (Nat.le_trans hlen (by omega))
          simp only [if_true] at D
          obtain ⟨A0, c0, rfl, hrd, _, _⟩ := own_slice hR.out.all
          have HRD := Lib.hid hrd
          have HBW := Lib.hid (H9.out.trans (hR.out.bel.mono H9.out.size))
          have HLL := Lib.hid hll
          have hbts : bytesB (bytesOf l k) := fun z hz => by
            unfold bytesOf at hz
            obtain ⟨u, hu, hz⟩ := List.mem_flatMap.1 hz
            exact upB_bytes u (fun y hy => by have := (HU.out.mem u (List.mem_of_mem_take hu)).wf.bs y hy; omega) z hz
          have HBTS := Lib.hid hbts
          clear hrd hR HWR hlt hll hbts H9
          generalize hbl : bytesOf l k = bl at *
          clear hbl
          go_wp2_with (fail)
          refine D.mono ?_
          rintro e w3 ⟨x, rfl, hx, hb3⟩
          obtain ⟨AX, cX, rfl, hrx, hcx, hmx⟩ := own_slice hx
          have HX := Lib.hid hrx
          have H3 := Lib.hid (HBW.out.trans (hb3.mono HBW.out.size))
          have CS := Lib.hid (same_any AX A0 bl.length bl.length cX c0 w3.heap.size wr.heap.size bl bl w3 (Nat.le_refl _) hb3.size hrx (HRD.out.below hb3) (by omega))
          simp only [decide_true] at CS
          clear hx hb3 hrx D HRD HBW
          go_wp2_with (fail)
          refine CS.out.mono ?_
          rintro e w4 ⟨rfl, hb4⟩
          have H4 := Lib.hid (H3.out.trans (hb4.mono H3.out.size))
          have CO := Lib.hid (of_any AX bl.length cX w3.heap.size bl w4 hb4.size (HX.out.below hb4) HBTS.out (by omega))
          clear hb4 CS HX H3
          go_wp2_with (fail)
          refine CO.out.mono ?_
          rintro e w5 ⟨gi, rfl, hgi, hin, hb5⟩
          have H5 := Lib.hid (H4.out.trans (hb5.mono H4.out.size))
          have hgw : w.heap.size ≤ gi := Nat.le_trans H4.out.size hgi
          have HI0 := Lib.hid hin
          rw [HALL.out] at HI0
          have hBi := hin.lt
          clear hin hb5 H4 CO HALL
          go_wp2_with (fail)
          go_loopw [11] (fun iv wr => ∃ j : Nat, j ≤ k ∧ iv = .int .i64 j ∧ Hid (InAt wr gi w5.heap.size ⟨(l.drop j).flatMap upB, 0⟩) ∧ Hid (Below w.heap.size w wr)) (fun iv _ => k - (intOf iv).toNat)
          case atStart => exact ⟨0, by omega, rfl, HI0, H5⟩
          case round =>
            clear HI0 H5
            obtain ⟨j, hj, rfl, HI, HB⟩ := hrel
            by_cases hlt : j < k
            · have hlt' : (j : Int) < k := by omega
              obtain ⟨b0, off, u, rfl, hb0, hu, hui, p0, p1, p2, p3, p4, p5, p6⟩ := (HU.out.below HB.out).at_ hlt
              have hpu := hPut.out j u hlt hu
              rw [bytesOf_drop l j u hu] at HI
              obtain ⟨hb1, hb2⟩ := getU_back u hui.wf hpu ((l.drop (j + 1)).flatMap upB)
              have hsh : (upB u ++ (l.drop (j + 1)).flatMap upB).length ≤ 1000000 := by
                have h1 : ((l.drop j).flatMap upB).length ≤ 1000000 := by
                  have h2 : bytesOf l k = bytesOf l j ++ (l.drop j).flatMap upB := by
                    unfold bytesOf
                    rw [List.take_of_length_le (by have := HLL.out; omega), ← List.flatMap_append, List.take_append_drop]
                  have h3 : (l.drop j).flatMap upB = bytesOf (l.drop j) (l.drop j).length := by unfold bytesOf; rw [List.take_length]
                  have h4 : ∀ (q : List Up), (∀ x ∈ q, x.put) → (q.flatMap upB).length ≤ q.length * 2080 := by
                    intro q hq
                    induction q with
                    | nil => simp
                    | cons a q ih =>
                      rw [List.flatMap_cons, List.length_append, upB_len, List.length_cons]
                      have := (hq a (by simp)).bs
                      have := ih (fun x hx => hq x (List.mem_cons_of_mem _ hx))
                      omega
                  have h5 := h4 (l.drop j) (fun x hx => by
                    obtain ⟨i, hi⟩ := List.getElem?_of_mem hx
                    rw [List.getElem?_drop] at hi
                    have hil : j + i < l.length := (List.getElem?_eq_some_iff.1 hi).1
                    exact hPut.out (j + i) x (by have := HLL.out; omega) hi)
                  rw [List.length_drop] at h5
                  have := HLL.out
                  omega
                rwa [bytesOf_drop l j u hu] at h1
              have G := getUpdate_any gi w5.heap.size ⟨upB u ++ (l.drop (j + 1)).flatMap upB, 0⟩ wr HI.out hsh
              have HUI := Lib.hid hui
              have HPU := Lib.hid hpu
              have hun := hui.len
              have hb0w : b0 < wr.heap.size := Nat.lt_of_lt_of_le hb0 HB.out.size
              have BR : Hid (U7 wr b0 (off + j * 7) u) := Lib.hid ⟨p0, p1, p2, p3, p4, p5, p6⟩
              have hbs := hpu.bs
              clear hsh hui hpu p0 p1 p2 p3 p4 p5 p6
              unfold GuP at G
              rw [hb1, hb2] at G
              go_wp2_with (fail)
              refine G.mono ?_
              rintro e w6 ⟨x, rfl, hxv, hxw, hxo, hin, hch⟩
              have hbw : Below w.heap.size wr w6 := hch.below HB.out.size (fun q hq e => by simp only [isG] at e; omega)
              have hxe := upVal_eq hxv.symm
              obtain ⟨xs, xc, xn, xk, xy, xv, xA, xm, xcc, xb⟩ := x
              simp only at hxe hxo
              obtain ⟨rfl, rfl, rfl, rfl, rfl, rfl, rfl⟩ : xs = u.seq ∧ xc = u.cl ∧ xn = u.num ∧ xk = u.kd ∧ xy = u.key ∧ xv = u.ver ∧ xb = u.bs := by
                injection hxe with e1 e2 e3 e4 e5 e6 e7 e8 e9 e10
                exact ⟨e1, e2, e3, e4, e5, e6, e10⟩
              have hxr := Reads.of_own hxo
              obtain ⟨W7, hW7⟩ : ∃ W7, W7 = w6.alloc (.cells #[Value.int .u64 u.seq, .int .i64 u.cl, .int .u64 u.num, .int .i64 u.kd, .int .u32 u.key, .int .u64 u.ver, .slice xA xm xcc] 54) := ⟨_, rfl⟩
              have h67 : Below w6.heap.size w6 W7 := by rw [hW7]; exact (Below.refl _ _).alloc (Nat.le_refl _) _
              have hbx : Blk W7 w6.heap.size 54 #[Value.int .u64 u.seq, .int .i64 u.cl, .int .u64 u.num, .int .i64 u.kd, .int .u32 u.key, .int .u64 u.ver, .slice xA xm xcc] := by rw [hW7]; exact Blk.new _ _ _
              have BX := Lib.hid hbx
              have hBW7 : Below w.heap.size wr W7 := hbw.trans (h67.mono (Nat.le_trans HB.out.size hch.size))
              have H7 := Lib.hid (HB.out.trans hBW7)
              have BR7 : Hid (U7 W7 b0 (off + j * 7) u) := Lib.hid ⟨by
                obtain ⟨q0, q1, q2, q3, q4, q5, q6⟩ := BR.out.c
                exact ⟨(hBW7.cell hb0).trans q0, (hBW7.cell hb0).trans q1, (hBW7.cell hb0).trans q2, (hBW7.cell hb0).trans q3, (hBW7.cell hb0).trans q4, (hBW7.cell hb0).trans q5, (hBW7.cell hb0).trans q6⟩⟩
              have HI7 := Lib.hid (hin.below (h67.mono hin.le))
              have HRX := Lib.hid (hxr.below h67)
              have HUW := Lib.hid (HUI.out.rd.below hBW7)
              have HXW := Lib.hid hxw
              have z67 := h67.size
              have SL := Lib.hid (fun W (h9 : Below W7.heap.size W7 W) => letSameV_any ⟨u.seq, u.cl, u.num, u.kd, u.key, u.ver, xA, xm, xcc, u.bs⟩ u rfl w6.heap.size w.heap.size W (HRX.out.below (h9.mono z67)) (HUW.out.below (h9.mono H7.out.size)) (Nat.le_trans z67 h9.size) (Nat.le_trans H7.out.size h9.size))
              have hxm : xm ≤ 1000000 := by have := hxr.1; simp at this; omega
              have SR := Lib.hid (fun W (h9 : Below W7.heap.size W7 W) => refSameV_any ⟨u.seq, u.cl, u.num, u.kd, u.key, u.ver, xA, xm, xcc, u.bs⟩ u rfl w6.heap.size w.heap.size W (HRX.out.below (h9.mono z67)) (HUW.out.below (h9.mono H7.out.size)) (Nat.le_trans z67 h9.size) (Nat.le_trans H7.out.size h9.size) hxm)
              have hbl : b0 < W7.heap.size := Nat.lt_of_lt_of_le hb0 H7.out.size
              have HW7 := Lib.hid hW7
              clear G hxv hxw hxo hin hch hbw hxe hxr hW7 h67 hbx hBW7 HRX HUW HUI HI BR
              have BR := BR7
              go_wp2_with (fail)
              rw [← HW7.out]
              obtain ⟨x0, x1, x2, x3, x4, x5, x6⟩ := cellsu7 BX.out
              obtain ⟨r0, r1, r2, r3, r4, r5, r6⟩ := BR.out.c
              have hb : Below W7.heap.size W7 W7.drew := (Below.refl _ _).drew
              go_region_held3 (fun w' => (w'.cell? ⟨w6.heap.size, 0, none⟩ = some (.int .u64 u.seq) ∧ w'.cell? ⟨w6.heap.size, 1, none⟩ = some (.int .i64 u.cl) ∧ w'.cell? ⟨w6.heap.size, 2, none⟩ = some (.int .u64 u.num) ∧ w'.cell? ⟨w6.heap.size, 3, none⟩ = some (.int .i64 u.kd) ∧ w'.cell? ⟨w6.heap.size, 4, none⟩ = some (.int .u32 u.key) ∧ w'.cell? ⟨w6.heap.size, 5, none⟩ = some (.int .u64 u.ver) ∧ w'.cell? ⟨w6.heap.size, 6, none⟩ = some (.slice xA xm xcc)) ∧ w'.cell? ⟨b0, off + j * 7, none⟩ = some (.int .u64 u.seq) ∧ w'.cell? ⟨b0, off + j * 7 + 1, none⟩ = some (.int .i64 u.cl) ∧ w'.cell? ⟨b0, off + j * 7 + 2, none⟩ = some (.int .u64 u.num) ∧ w'.cell? ⟨b0, off + j * 7 + 3, none⟩ = some (.int .i64 u.kd) ∧ w'.cell? ⟨b0, off + j * 7 + 4, none⟩ = some (.int .u32 u.key) ∧ w'.cell? ⟨b0, off + j * 7 + 5, none⟩ = some (.int .u64 u.ver) ∧ w'.cell? ⟨b0, off + j * 7 + 6, none⟩ = some (.slice u.A u.n u.c)) (go_keep) (first
                | (go_at_call 22; refine (SL.out _ hb).mono ?_; rintro e w8 ⟨rfl, hb6⟩; replace hb := hb.trans (hb6.mono hb.size); obtain ⟨x0, x1, x2, x3, x4, x5, x6⟩ := cellsu7 (BX.out.below hb BX.out.lt); obtain ⟨r0, r1, r2, r3, r4, r5, r6⟩ := BR.out.below hbl hb; clear hb6)
                | (go_at_call 23; refine (SR.out _ hb).mono ?_; rintro e w8 ⟨rfl, hb6⟩; replace hb := hb.trans (hb6.mono hb.size); obtain ⟨x0, x1, x2, x3, x4, x5, x6⟩ := cellsu7 (BX.out.below hb BX.out.lt); obtain ⟨r0, r1, r2, r3, r4, r5, r6⟩ := BR.out.below hbl hb; clear hb6)
                | fail)
              all_goals
                have HBr := Lib.hid (H7.out.trans (hb.mono H7.out.size))
                have HIr := Lib.hid (HI7.out.below (hb.mono HI7.out.le))
                clear x0 x1 x2 x3 x4 x5 x6 r0 r1 r2 r3 r4 r5 r6 SL SR
                go_wp2_with (fail)
                go_roundw
                case rel => exact ⟨j + 1, hlt, by go_num, HIr, HBr⟩
                case measure => simp [intOf]; omega
            · obtain rfl : j = k := by omega
              rename World => wo
              have hd : (l.drop j).flatMap upB = [] := by rw [List.drop_eq_nil_of_le (by have := HLL.out; omega)]; rfl
              rw [hd] at HI
              have hct := HBB.out.take (cutN_le n2 300)
              rw [← List.map_take] at hct
              have HCT := Lib.hid (hct.below HB.out)
              have hc3 : cutN n2 300 ≤ 300 := cutN_le2 _ _
              have CC := Lib.hid (cut_any A2 n2 c2 300 hn2 (by omega) wo)
              have CO := Lib.hid (of_any A2 (cutN n2 300) c2 w.heap.size (b.take (cutN n2 300)) wo HB.out.size HCT.out (fun z hz => HBY.out z (List.mem_of_mem_take hz)) (by omega))
              have hcl : (b.take (cutN n2 300)).length = cutN n2 300 := by rw [List.length_take]; have h1 := HBB.out.1; simp at h1; have := cutN_le n2 300; omega
              have hcc : cutN n2 300 ≤ c2 := Nat.le_trans (cutN_le n2 300) hn2
              have HBY2 : Hid (bytesB (b.take (cutN n2 300))) := Lib.hid (fun z hz => HBY.out z (List.mem_of_mem_take hz))
              generalize cutN n2 300 = m at *
              generalize b.take m = bb at *
              clear hct hd HU hPut
              go_wp2_with (fail)
              refine CC.out.mono ?_
              rintro e w8 ⟨rfl, rfl⟩
              go_wp2_with (fail)
              refine CO.out.mono ?_
              rintro e w10 ⟨gj, rfl, hgj, hin, hb10⟩
              obtain ⟨W11, hW11⟩ : ∃ W11, W11 = w10.alloc (.cells #[.slice A2 m c2, .int .i64 0] 64) := ⟨_, rfl⟩
              have h11 : Below w10.heap.size w10 W11 := by rw [hW11]; exact (Below.refl _ _).alloc (Nat.le_refl _) _
              have hr11 : Blk W11 w10.heap.size 64 #[.slice A2 m c2, .int .i64 0] := by rw [hW11]; exact Blk.new _ _ _
              have hbw : Below wo.heap.size wo W11 := hb10.trans (h11.mono hb10.size)
              subst hcl
              have HL0 : Hid (Lp3 w wo gj w10.heap.size w10.heap.size ⟨bb, 0⟩ ⟨A2, c2, ⟨bb, 0⟩⟩ W11) := Lib.hid
                ⟨hin.below h11, hr11, rfl, ⟨HCT.out.below (hbw.mono HB.out.size), hcc, hc2', HBY2.out, fun hh => absurd rfl hh⟩, hbw, hc3⟩
              have hgn : gj ≠ w10.heap.size := by have := hin.lt; omega
              have HW11 := Lib.hid hW11
              have hgr : wo.heap.size ≤ w10.heap.size := hb10.size
              generalize hgz : w10.heap.size = gr at *
              clear hin hb10 h11 hr11 hbw hW11 CC CO HCT HBB
              go_wp2_with (fail)
              rw [← HW11.out]
              clear HW11
              go_loopw [15] (fun iv wq => ∃ (q : Nat) (s : FI) (y : RI), q ≤ 3 ∧ iv = .int .i64 q ∧ Hid (Lp3 w wo gj gr gr s y wq)) (fun iv _ => 3 - (intOf iv).toNat)
              case atStart => exact ⟨0, _, _, by omega, rfl, HL0⟩
              case round =>
                clear HL0
                obtain ⟨q, s0, y, hq, rfl, HL⟩ := hrel
                have hgj2 := HL.out.inn.lt
                have hwo := HB.out.size
                obtain ⟨yA, yc, s⟩ := y
                have e0 := HL.out.ys
                simp only at e0
                subst e0
                by_cases hq3 : q < 3
                · have hq3' : (q : Int) < 3 := by omega
                  have C1 := Lib.hid (getUpdate_any gj gr s wr HL.out.inn (by have := HL.out.len; omega))
                  go_wp2_with (fail)
                  refine C1.out.mono ?_
                  rintro e w6 ⟨x, rfl, hxv, hxw, hxo, hin, hch⟩
                  obtain ⟨xs, xc, xn, xk, xy, xv, xA, xm, xcc, xb⟩ := x
                  simp only at hxo
                  have hng : ¬ isG gj gr := by unfold isG; omega
                  have hwr : wo.heap.size ≤ wr.heap.size := HL.out.bel.size
                  have hB6 : Below wo.heap.size wr w6 := hch.below hwr (fun k hk e => by simp only [isG] at e; omega)
                  obtain ⟨W7, hW7⟩ : ∃ W7, W7 = w6.alloc (.cells #[Value.int .u64 xs, Value.int .i64 xc, Value.int .u64 xn, Value.int .i64 xk, Value.int .u32 xy, Value.int .u64 xv, .slice xA xm xcc] 54) := ⟨_, rfl⟩
                  have h67 : Below w6.heap.size w6 W7 := by rw [hW7]; exact (Below.refl _ _).alloc (Nat.le_refl _) _
                  have BX : Hid (Blk W7 w6.heap.size 54 #[Value.int .u64 xs, Value.int .i64 xc, Value.int .u64 xn, Value.int .i64 xk, Value.int .u32 xy, Value.int .u64 xv, .slice xA xm xcc]) := Lib.hid (by rw [hW7]; exact Blk.new _ _ _)
                  have hbg6 := hch.blk HL.out.blk hng
                  have BG : Hid (Blk W7 gr 64 #[.slice yA s.l.length yc, .int .i64 s.e]) := Lib.hid (hbg6.below h67 hbg6.lt)
                  have HI7 := Lib.hid (hin.below (h67.mono hin.le))
                  have hB7 : Below wo.heap.size wr W7 := hB6.trans (h67.mono (Nat.le_trans hwr hch.size))
                  have RY7 := Lib.hid (HL.out.rin.below (hB7.mono hwo))
                  have BE7 := Lib.hid (HL.out.bel.trans hB7)
                  have RX7 := Lib.hid ((Reads.of_own hxo).below h67)
                  have C2 := Lib.hid (refGetUpdate_any ⟨yA, yc, s⟩ w.heap.size W7 RY7.out (Nat.le_trans hwo BE7.out.size))
                  have HW7 := Lib.hid hW7
                  have HXV := Lib.hid hxv
                  have HXW := Lib.hid hxw
                  have lgr6 : gr < w6.heap.size := Nat.lt_of_lt_of_le HL.out.blk.lt hch.size
                  have hxn : xb.length ≤ 300 := by
                    have h1 := getUv_short s
                    rw [← hxv] at h1
                    exact Nat.le_trans h1 HL.out.len
                  have HXN := Lib.hid hxn
                  have hxf : ∀ ad, 0 < xm → xA = some ad → ad.block ≠ gr := fun ad h0 he => by
                    obtain ⟨g', cap, hv, hb, _⟩ := hxo.form h0
                    subst he
                    injection hv with hv
                    injection hv with hv
                    subst hv
                    have := HL.out.blk.lt
                    simp only
                    omega
                  have HXF := Lib.hid hxf
                  clear hxf
                  clear hxn
                  have hlt7 := BX.out.lt
                  have hlg7 := BG.out.lt
                  have LEN : Hid ((getUi s).l.length ≤ 300) := Lib.hid (Nat.le_trans (getUi_short s) HL.out.len)
                  clear hxv hxw hxo hin hch hB6 h67 hbg6 hB7 hW7 C1 HL
                  have y0 : W7.cell? ⟨gr, 0, none⟩ = some (.slice yA s.l.length yc) := BG.out.cell 0
                  have y1 : W7.cell? ⟨gr, 1, none⟩ = some (.int .i64 s.e) := BG.out.cell 1
                  go_upto_region 29 with (fail)
                  rw [← HW7.out]
                  go_wp2_with (fail)
                  refine C2.out.mono ?_
                  rintro e w8 ⟨⟨y2A, y2c, z⟩, u2, rfl, hys, huv, huw, hrd, hrin, hb8⟩
                  obtain ⟨us, uc, un, uk, uy, uv, uA, um, ucc, ub⟩ := u2
                  simp only at hys hrd
                  subst hys
                  have bg8 := BG.out.below hb8 hlg7
                  have bx8 := BX.out.below hb8 hlt7
                  have f0 := bg8.frozen 0
                  have f1 := bg8.frozen 1
                  have HI8 := Lib.hid (HI7.out.below (hb8.mono HI7.out.le))
                  have BE8 := Lib.hid (BE7.out.trans (hb8.mono BE7.out.size))
                  have RX8 := Lib.hid (RX7.out.below (hb8.mono (Nat.le_of_lt hlt7)))
                  have BG8 := Lib.hid bg8
                  have BX8 := Lib.hid bx8
                  have HRD := Lib.hid hrd
                  have HRI := Lib.hid hrin
                  have HUW := Lib.hid huw
                  have HVV : Hid (Up.val ⟨xs, xc, xn, xk, xy, xv, xA, xm, xcc, xb⟩ = Up.val ⟨us, uc, un, uk, uy, uv, uA, um, ucc, ub⟩) := Lib.hid (HXV.out.trans huv.symm)
                  have hs8 := hb8.size
                  generalize getUi s = s2 at *
                  clear bg8 bx8 hrd hrin huw huv hb8 HI7 BE7 RX7 BG BX C2 HXV y0 y1 RY7 HW7 f0 f1
                  go_upto_region 30 with (fail)
                  obtain ⟨W9, hW9⟩ : ∃ W9, W9 = (w8.alloc (.cells #[.slice y2A s2.l.length y2c, .int .i64 s2.e] 64)).alloc (.cells #[Value.int .u64 us, Value.int .i64 uc, Value.int .u64 un, Value.int .i64 uk, Value.int .u32 uy, Value.int .u64 uv, .slice uA um ucc] 54) := ⟨_, rfl⟩
                  rw [← hW9]
                  have h89 : Below w8.heap.size w8 W9 := by rw [hW9]; exact ((Below.refl _ _).alloc (Nat.le_refl _) _).alloc (by simp) _
                  have BR9 : Hid (Blk W9 w8.heap.size 64 #[.slice y2A s2.l.length y2c, .int .i64 s2.e]) := Lib.hid (by rw [hW9]; exact (Blk.new _ _ _).alloc _)
                  have BU9 : Hid (Blk W9 (w8.heap.size + 1) 54 #[Value.int .u64 us, Value.int .i64 uc, Value.int .u64 un, Value.int .i64 uk, Value.int .u32 uy, Value.int .u64 uv, .slice uA um ucc]) := Lib.hid (by rw [hW9]; exact blk_at _ _ _ (w8.heap.size + 1) (by simp))
                  have BX9 := Lib.hid (BX8.out.below h89 BX8.out.lt)
                  have BG9 := Lib.hid (BG8.out.below h89 BG8.out.lt)
                  have h89' := h89.size
                  have q0 : W9.cell? ⟨w8.heap.size, 0, none⟩ = some (.slice y2A s2.l.length y2c) := BR9.out.cell 0
                  have q1 : W9.cell? ⟨w8.heap.size, 1, none⟩ = some (.int .i64 s2.e) := BR9.out.cell 1
                  have f0 := BG9.out.frozen 0
                  have f1 := BG9.out.frozen 1
                  have g0 := (BG9.out.cell 0).trans (show _ = some (Value.slice yA s.l.length yc) from rfl)
                  have g1 := (BG9.out.cell 1).trans (show _ = some (Value.int .i64 s.e) from rfl)
                  have lg8 := BG8.out.lt
                  have lx8 := BX8.out.lt
                  have hgw6 : gr ≠ w6.heap.size := by omega
                  have hgw8 : gr ≠ w8.heap.size := by omega
                  have H89 := Lib.hid h89
                  clear h89 hW9 BX8 BG8
                  go_upto_region 31 with (fail)
                  obtain ⟨W, hW⟩ : ∃ W, W = (W9.setCell ⟨gr, 0, none⟩ (.slice y2A s2.l.length y2c)).setCell ⟨gr, 1, none⟩ (.int .i64 s2.e) := ⟨_, rfl⟩
                  rw [← hW]
                  have CH : Chg W9 W (isG gr) := by rw [hW]; exact set2_chg W9 gr _ _
                  have BG : Hid (Blk W gr 64 #[.slice y2A s2.l.length y2c, .int .i64 s2.e]) := Lib.hid (by rw [hW]; exact (BG9.out.set_ 0 _).set_ 1 _)
                  have BX := Lib.hid (CH.blk BX9.out (by unfold isG; omega))
                  have BU := Lib.hid (CH.blk BU9.out (by unfold isG; omega))
                  have hb9 : Below wo.heap.size W9 W := CH.below (Nat.le_trans BE8.out.size H89.out.size) (fun k hk e => by simp only [isG] at e; omega)
                  have hb9g : Below gr W9 W := CH.below (Nat.le_trans (Nat.le_of_lt lg8) H89.out.size) (fun k hk e => by simp only [isG] at e; omega)
                  have BE := Lib.hid ((BE8.out.trans (H89.out.mono BE8.out.size)).trans hb9)
                  have HIW := Lib.hid ((HI8.out.below (H89.out.mono (Nat.le_of_lt lg8))).below hb9g)
                  have RIW := Lib.hid ((HRI.out.below (H89.out.mono (Nat.le_trans hwo BE8.out.size))).below (hb9.mono hwo))
                  have RUW := Lib.hid ((HRD.out.below (H89.out.mono (Nat.le_trans hwo BE8.out.size))).below (hb9.mono hwo))
                  have RXW := Lib.hid (RX8.out.below (H89.out.mono (Nat.le_of_lt lx8)))
                  have LW : Hid (w6.heap.size ≤ W.heap.size ∧ w.heap.size ≤ W.heap.size) := Lib.hid ⟨Nat.le_of_lt BX.out.lt, Nat.le_trans hwo BE.out.size⟩
                  have hxm : xm ≤ 1000000 := by
                    have h1 := RXW.out.1
                    simp at h1
                    have := HXN.out
                    omega
                  have RXX : Hid (Reads W w6.heap.size 1 xA xm (xb.map (Value.int .u8))) := Lib.hid (CH.reads RXW.out (by have := H89.out.size; omega) (fun ad h0 he => by unfold isG; exact HXF.out ad h0 he))
                  have SR := Lib.hid (fun X (h9 : Below W.heap.size W X) => refSameV_any ⟨xs, xc, xn, xk, xy, xv, xA, xm, xcc, xb⟩ ⟨us, uc, un, uk, uy, uv, uA, um, ucc, ub⟩ HVV.out w6.heap.size w.heap.size X (RXX.out.below (h9.mono LW.out.1)) (RUW.out.below (h9.mono LW.out.2)) (Nat.le_trans LW.out.1 h9.size) (Nat.le_trans LW.out.2 h9.size) hxm)
                  have ER := Lib.hid (fun X (h9 : Below W.heap.size W X) => err_any gj s2 gr X (HIW.out.below (h9.mono HIW.out.le)))
                  have LR := Lib.hid (fun X (h9 : Below W.heap.size W X) => left_any gj s2 gr X (HIW.out.below (h9.mono HIW.out.le)))
                  clear hW CH hb9 hb9g BR9 BU9 BX9 BG9 HI8 HRI HRD RX8 q0 q1 f0 f1 g0 g1 hxm HVV HXW HUW
                  obtain ⟨x0, x1, x2, x3, x4, x5, x6⟩ := cellsu7 BX.out
                  obtain ⟨r0, r1, r2, r3, r4, r5, r6⟩ := cellsu7 BU.out
                  have g0 := (BG.out.cell 0).trans (show _ = some (Value.slice y2A s2.l.length y2c) from rfl)
                  have g1 := (BG.out.cell 1).trans (show _ = some (Value.int .i64 s2.e) from rfl)
                  have hb : Below W.heap.size W W.drew := (Below.refl _ _).drew
                  go_region_held3 (fun w' => (w'.cell? ⟨w6.heap.size, 0, none⟩ = some (.int .u64 xs) ∧ w'.cell? ⟨w6.heap.size, 1, none⟩ = some (.int .i64 xc) ∧ w'.cell? ⟨w6.heap.size, 2, none⟩ = some (.int .u64 xn) ∧ w'.cell? ⟨w6.heap.size, 3, none⟩ = some (.int .i64 xk) ∧ w'.cell? ⟨w6.heap.size, 4, none⟩ = some (.int .u32 xy) ∧ w'.cell? ⟨w6.heap.size, 5, none⟩ = some (.int .u64 xv) ∧ w'.cell? ⟨w6.heap.size, 6, none⟩ = some (.slice xA xm xcc)) ∧ (w'.cell? ⟨w8.heap.size + 1, 0, none⟩ = some (.int .u64 us) ∧ w'.cell? ⟨w8.heap.size + 1, 1, none⟩ = some (.int .i64 uc) ∧ w'.cell? ⟨w8.heap.size + 1, 2, none⟩ = some (.int .u64 un) ∧ w'.cell? ⟨w8.heap.size + 1, 3, none⟩ = some (.int .i64 uk) ∧ w'.cell? ⟨w8.heap.size + 1, 4, none⟩ = some (.int .u32 uy) ∧ w'.cell? ⟨w8.heap.size + 1, 5, none⟩ = some (.int .u64 uv) ∧ w'.cell? ⟨w8.heap.size + 1, 6, none⟩ = some (.slice uA um ucc)) ∧ w'.cell? ⟨gr, 0, none⟩ = some (.slice y2A s2.l.length y2c) ∧ w'.cell? ⟨gr, 1, none⟩ = some (.int .i64 s2.e)) (go_keep) (first
                    | (go_at_call 23; refine (SR.out _ hb).mono ?_; rintro e w8 ⟨rfl, hb6⟩; replace hb := hb.trans (hb6.mono hb.size); obtain ⟨x0, x1, x2, x3, x4, x5, x6⟩ := cellsu7 (BX.out.below hb BX.out.lt); obtain ⟨r0, r1, r2, r3, r4, r5, r6⟩ := cellsu7 (BU.out.below hb BU.out.lt); have g0 := ((BG.out.below hb BG.out.lt).cell 0).trans (show _ = some (Value.slice y2A s2.l.length y2c) from rfl); have g1 := ((BG.out.below hb BG.out.lt).cell 1).trans (show _ = some (Value.int .i64 s2.e) from rfl); clear hb6)
                    | (go_at_call 26; refine (ER.out _ hb).mono ?_; rintro e w8 ⟨rfl, rfl⟩)
                    | (go_at_call 27; refine (LR.out _ hb).mono ?_; rintro e w8 ⟨rfl, rfl⟩)
                    | fail)
                  all_goals
                    have HBE := Lib.hid (BE.out.trans (hb.mono BE.out.size))
                    have HIE := Lib.hid (HIW.out.below (hb.mono HIW.out.le))
                    have HRE := Lib.hid (RIW.out.below (hb.mono LW.out.2))
                    have HGE := Lib.hid (BG.out.below hb BG.out.lt)
                    clear x0 x1 x2 x3 x4 x5 x6 r0 r1 r2 r3 r4 r5 r6 g0 g1 SR ER LR
                    go_wp2_with (fail)
                    go_roundw
                    case rel => exact ⟨q + 1, s2, ⟨y2A, y2c, s2⟩, by omega, by go_num, Lib.hid ⟨HIE.out, HGE.out, rfl, HRE.out, HBE.out, LEN.out⟩⟩
                    case measure => simp [intOf]; omega
                · obtain rfl : q = 3 := by omega
                  have HDI := Lib.hid (HI.out.below (HL.out.bel.mono HI.out.le))
                  have CD : Hid (Calls Tryz.prog 28 #[.pointer (some ⟨gi, 0, none⟩)] wr fun e w' => e = .returned (.int .i64 0) ∧ wr = w') := Lib.hid (by have := doneIn_any gi ⟨[], 0⟩ w5.heap.size wr HDI.out; simpa [FI.done] using this)
                  have HE := Lib.hid (HB.out.trans (HL.out.bel.mono hwo))
                  go_wp2_with (fail)
                  refine CD.out.mono ?_
                  rintro e w6 ⟨rfl, rfl⟩
                  go_wp2_with (fail)
                  refine (AW.out _ (HK.out.below HE.out)).mono ?_
                  rintro e w8 ⟨rfl, hb8⟩
                  have H10 := Lib.hid (HE.out.trans (hb8.mono HE.out.size))
                  clear hb8
                  go_wp2_with (fail)
                  go_ret
                  exact ⟨rfl, H10.out⟩
end Go.Proofs.YtdpgpaobofdigaaGreatDoor
