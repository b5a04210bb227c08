/- The document's 'copied': a letter with a part of another one (printed by rckgen2.py). -/
import Derived.Test.YtmpedblelnpjdaaGreatDoorZRckD
import Derived.Test.YtmpedblelnpjdaaGreatDoorZTq
import Derived.Test.YtmpedblelnpjdaaGreatDoorZTk
namespace Go.Proofs.YtmpedblelnpjdaaGreatDoor
open Go.RowKit
set_option linter.unusedSimpArgs false
set_option linter.unusedVariables false
set_option maxHeartbeats 8000000
set_option maxRecDepth 100000
def cpy (i : Nat) (a b : Lt) : Lt := match i with
 | 0 => { a with ch := b.ch }
 | 1 => { a with ep := b.ep }
 | 2 => { a with bl := b.bl }
 | 3 => { a with sq := b.sq }
 | 4 => { a with dz := b.dz }
 | 5 => { a with sl := b.sl }
 | 6 => { a with nu := b.nu }
 | 7 => { a with cd := b.cd }
 | 8 => { a with ky := b.ky }
 | 9 => { a with vr := b.vr }
 | 10 => { a with qk := b.qk, qc := b.qc, qe := b.qe, qn := b.qn }
 | 11 => { a with fc := b.fc, fe := b.fe, fA := b.fA, fn := b.fn, fp := b.fp, ff := b.ff, fj := b.fj }
 | 12 => { a with vA := b.vA, vn := b.vn, vp := b.vp }
 | 13 => { a with uA := b.uA, un := b.un, up := b.up }
 | _ => { a with dA := b.dA, dn := b.dn, dp := b.dp }
theorem below_set {B : Nat} {w W : World} (h : Below B w W) (hB : B ≤ W.heap.size) {g : Nat} (hg : B ≤ g) (o : Nat) (v : Value) : Below B w (W.setCell ⟨g, o, none⟩ v) :=
 h.trans ((show Chg W (W.setCell ⟨g, o, none⟩ v) (fun k => k = g) from ⟨rfl, rfl, rfl, by simp [World.setCell], fun k hk hn => Below.heap_setCell _ _ _ k hn⟩).below hB (fun k hk e => by omega))
theorem size_set (W : World) (p : Addr) (v : Value) : (W.setCell p v).heap.size = W.heap.size := by simp [World.setCell]
theorem copied_c (a b : Lt) (w : World) : Calls Tryz.prog 142 #[.agg a.cells, .agg b.cells, .int .u8 99] w fun e w' => e = .returned (.agg (Lt.cells (cpy 0 a b))) ∧ Below w.heap.size w w' := by
 obtain ⟨r, hr⟩ : ∃ r, r = (cpy 0 a b) := ⟨_, rfl⟩
 rw [← hr]
 obtain ⟨W0, hW0⟩ : ∃ W0, W0 = ((w.alloc (.cells a.cells 37)).alloc (.cells b.cells 37)).alloc (.cells ZL 37) := ⟨_, rfl⟩
 have H1 : Hid (Blk W0 w.heap.size 37 a.cells) := Lib.hid (by rw [hW0]; exact ((Blk.new w _ _).alloc _).alloc _)
 have H2 : Hid (Blk W0 (w.heap.size + 1) 37 b.cells) := Lib.hid (by
  rw [hW0]
  have := (Blk.new (w.alloc (.cells a.cells 37)) 37 b.cells).alloc (.cells ZL 37)
  simpa using this)
 have H3 : Hid (Blk W0 (w.heap.size + 2) 37 ZL) := Lib.hid (by
  rw [hW0]
  have := Blk.new ((w.alloc (.cells a.cells 37)).alloc (.cells b.cells 37)) 37 ZL
  simpa using this)
 have HB : Hid (Below w.heap.size w W0) := Lib.hid (by rw [hW0]; exact (((Below.refl _ _).alloc (Nat.le_refl _) _).alloc (by simp) _).alloc (by simp; omega) _)
 have HW := Lib.hid hW0
 have n3 : w.heap.size + 2 ≠ w.heap.size := by omega
 have l1 := H1.out.lt
 have l2 := H2.out.lt
 have l3 := H3.out.lt
 clear hW0
 have s0 : W0.cell? ⟨w.heap.size + 1, 3, none⟩ = some (.int .i64 b.ch) := H2.out.cell 3
 have d0 : W0.cell? ⟨w.heap.size, 3, none⟩ = some (.int .i64 a.ch) := H1.out.cell 3
 have f0 := H1.out.frozen 3
 obtain ⟨W1, hW1⟩ : ∃ W1, W1 = (W0.setCell ⟨w.heap.size, 3, none⟩ (.int .i64 b.ch)) := ⟨_, rfl⟩
 have HX : Hid (Blk W1 w.heap.size 37 r.cells) := Lib.hid (by rw [hW1, hr]; exact (H1.out.set_ 3 (.int .i64 b.ch)))
 have HZ : Hid (Blk W1 (w.heap.size + 2) 37 ZL) := Lib.hid (by rw [hW1]; exact (H3.out.far (p := ⟨w.heap.size, 3, none⟩) n3 (.int .i64 b.ch)))
 have HB1 : Hid (Below w.heap.size w W1) := Lib.hid (by rw [hW1]; exact (below_set HB.out (by first | (have := HB.out.size; omega) | (have := HB.out.size; simp only [size_set]; omega)) (Nat.le_refl _) 3 (.int .i64 b.ch)))
 exact rp2
theorem copied_e (a b : Lt) (w : World) : Calls Tryz.prog 142 #[.agg a.cells, .agg b.cells, .int .u8 101] w fun e w' => e = .returned (.agg (Lt.cells (cpy 1 a b))) ∧ Below w.heap.size w w' := by
 obtain ⟨r, hr⟩ : ∃ r, r = (cpy 1 a b) := ⟨_, rfl⟩
 rw [← hr]
 obtain ⟨W0, hW0⟩ : ∃ W0, W0 = ((w.alloc (.cells a.cells 37)).alloc (.cells b.cells 37)).alloc (.cells ZL 37) := ⟨_, rfl⟩
 have H1 : Hid (Blk W0 w.heap.size 37 a.cells) := Lib.hid (by rw [hW0]; exact ((Blk.new w _ _).alloc _).alloc _)
 have H2 : Hid (Blk W0 (w.heap.size + 1) 37 b.cells) := Lib.hid (by
  rw [hW0]
  have := (Blk.new (w.alloc (.cells a.cells 37)) 37 b.cells).alloc (.cells ZL 37)
  simpa using this)
 have H3 : Hid (Blk W0 (w.heap.size + 2) 37 ZL) := Lib.hid (by
  rw [hW0]
  have := Blk.new ((w.alloc (.cells a.cells 37)).alloc (.cells b.cells 37)) 37 ZL
  simpa using this)
 have HB : Hid (Below w.heap.size w W0) := Lib.hid (by rw [hW0]; exact (((Below.refl _ _).alloc (Nat.le_refl _) _).alloc (by simp) _).alloc (by simp; omega) _)
 have HW := Lib.hid hW0
 have n3 : w.heap.size + 2 ≠ w.heap.size := by omega
 have l1 := H1.out.lt
 have l2 := H2.out.lt
 have l3 := H3.out.lt
 clear hW0
 have s0 : W0.cell? ⟨w.heap.size + 1, 4, none⟩ = some (.int .u64 b.ep) := H2.out.cell 4
 have d0 : W0.cell? ⟨w.heap.size, 4, none⟩ = some (.int .u64 a.ep) := H1.out.cell 4
 have f0 := H1.out.frozen 4
 obtain ⟨W1, hW1⟩ : ∃ W1, W1 = (W0.setCell ⟨w.heap.size, 4, none⟩ (.int .u64 b.ep)) := ⟨_, rfl⟩
 have HX : Hid (Blk W1 w.heap.size 37 r.cells) := Lib.hid (by rw [hW1, hr]; exact (H1.out.set_ 4 (.int .u64 b.ep)))
 have HZ : Hid (Blk W1 (w.heap.size + 2) 37 ZL) := Lib.hid (by rw [hW1]; exact (H3.out.far (p := ⟨w.heap.size, 4, none⟩) n3 (.int .u64 b.ep)))
 have HB1 : Hid (Below w.heap.size w W1) := Lib.hid (by rw [hW1]; exact (below_set HB.out (by first | (have := HB.out.size; omega) | (have := HB.out.size; simp only [size_set]; omega)) (Nat.le_refl _) 4 (.int .u64 b.ep)))
 exact rp2
theorem copied_b (a b : Lt) (w : World) : Calls Tryz.prog 142 #[.agg a.cells, .agg b.cells, .int .u8 98] w fun e w' => e = .returned (.agg (Lt.cells (cpy 2 a b))) ∧ Below w.heap.size w w' := by
 obtain ⟨r, hr⟩ : ∃ r, r = (cpy 2 a b) := ⟨_, rfl⟩
 rw [← hr]
 obtain ⟨W0, hW0⟩ : ∃ W0, W0 = ((w.alloc (.cells a.cells 37)).alloc (.cells b.cells 37)).alloc (.cells ZL 37) := ⟨_, rfl⟩
 have H1 : Hid (Blk W0 w.heap.size 37 a.cells) := Lib.hid (by rw [hW0]; exact ((Blk.new w _ _).alloc _).alloc _)
 have H2 : Hid (Blk W0 (w.heap.size + 1) 37 b.cells) := Lib.hid (by
  rw [hW0]
  have := (Blk.new (w.alloc (.cells a.cells 37)) 37 b.cells).alloc (.cells ZL 37)
  simpa using this)
 have H3 : Hid (Blk W0 (w.heap.size + 2) 37 ZL) := Lib.hid (by
  rw [hW0]
  have := Blk.new ((w.alloc (.cells a.cells 37)).alloc (.cells b.cells 37)) 37 ZL
  simpa using this)
 have HB : Hid (Below w.heap.size w W0) := Lib.hid (by rw [hW0]; exact (((Below.refl _ _).alloc (Nat.le_refl _) _).alloc (by simp) _).alloc (by simp; omega) _)
 have HW := Lib.hid hW0
 have n3 : w.heap.size + 2 ≠ w.heap.size := by omega
 have l1 := H1.out.lt
 have l2 := H2.out.lt
 have l3 := H3.out.lt
 clear hW0
 have s0 : W0.cell? ⟨w.heap.size + 1, 5, none⟩ = some (.int .u64 b.bl) := H2.out.cell 5
 have d0 : W0.cell? ⟨w.heap.size, 5, none⟩ = some (.int .u64 a.bl) := H1.out.cell 5
 have f0 := H1.out.frozen 5
 obtain ⟨W1, hW1⟩ : ∃ W1, W1 = (W0.setCell ⟨w.heap.size, 5, none⟩ (.int .u64 b.bl)) := ⟨_, rfl⟩
 have HX : Hid (Blk W1 w.heap.size 37 r.cells) := Lib.hid (by rw [hW1, hr]; exact (H1.out.set_ 5 (.int .u64 b.bl)))
 have HZ : Hid (Blk W1 (w.heap.size + 2) 37 ZL) := Lib.hid (by rw [hW1]; exact (H3.out.far (p := ⟨w.heap.size, 5, none⟩) n3 (.int .u64 b.bl)))
 have HB1 : Hid (Below w.heap.size w W1) := Lib.hid (by rw [hW1]; exact (below_set HB.out (by first | (have := HB.out.size; omega) | (have := HB.out.size; simp only [size_set]; omega)) (Nat.le_refl _) 5 (.int .u64 b.bl)))
 exact rp2
theorem copied_s (a b : Lt) (w : World) : Calls Tryz.prog 142 #[.agg a.cells, .agg b.cells, .int .u8 115] w fun e w' => e = .returned (.agg (Lt.cells (cpy 3 a b))) ∧ Below w.heap.size w w' := by
 obtain ⟨r, hr⟩ : ∃ r, r = (cpy 3 a b) := ⟨_, rfl⟩
 rw [← hr]
 obtain ⟨W0, hW0⟩ : ∃ W0, W0 = ((w.alloc (.cells a.cells 37)).alloc (.cells b.cells 37)).alloc (.cells ZL 37) := ⟨_, rfl⟩
 have H1 : Hid (Blk W0 w.heap.size 37 a.cells) := Lib.hid (by rw [hW0]; exact ((Blk.new w _ _).alloc _).alloc _)
 have H2 : Hid (Blk W0 (w.heap.size + 1) 37 b.cells) := Lib.hid (by
  rw [hW0]
  have := (Blk.new (w.alloc (.cells a.cells 37)) 37 b.cells).alloc (.cells ZL 37)
  simpa using this)
 have H3 : Hid (Blk W0 (w.heap.size + 2) 37 ZL) := Lib.hid (by
  rw [hW0]
  have := Blk.new ((w.alloc (.cells a.cells 37)).alloc (.cells b.cells 37)) 37 ZL
  simpa using this)
 have HB : Hid (Below w.heap.size w W0) := Lib.hid (by rw [hW0]; exact (((Below.refl _ _).alloc (Nat.le_refl _) _).alloc (by simp) _).alloc (by simp; omega) _)
 have HW := Lib.hid hW0
 have n3 : w.heap.size + 2 ≠ w.heap.size := by omega
 have l1 := H1.out.lt
 have l2 := H2.out.lt
 have l3 := H3.out.lt
 clear hW0
 have s0 : W0.cell? ⟨w.heap.size + 1, 7, none⟩ = some (.int .u64 b.sq) := H2.out.cell 7
 have d0 : W0.cell? ⟨w.heap.size, 7, none⟩ = some (.int .u64 a.sq) := H1.out.cell 7
 have f0 := H1.out.frozen 7
 obtain ⟨W1, hW1⟩ : ∃ W1, W1 = (W0.setCell ⟨w.heap.size, 7, none⟩ (.int .u64 b.sq)) := ⟨_, rfl⟩
 have HX : Hid (Blk W1 w.heap.size 37 r.cells) := Lib.hid (by rw [hW1, hr]; exact (H1.out.set_ 7 (.int .u64 b.sq)))
 have HZ : Hid (Blk W1 (w.heap.size + 2) 37 ZL) := Lib.hid (by rw [hW1]; exact (H3.out.far (p := ⟨w.heap.size, 7, none⟩) n3 (.int .u64 b.sq)))
 have HB1 : Hid (Below w.heap.size w W1) := Lib.hid (by rw [hW1]; exact (below_set HB.out (by first | (have := HB.out.size; omega) | (have := HB.out.size; simp only [size_set]; omega)) (Nat.le_refl _) 7 (.int .u64 b.sq)))
 exact rp2
theorem copied_d (a b : Lt) (w : World) : Calls Tryz.prog 142 #[.agg a.cells, .agg b.cells, .int .u8 100] w fun e w' => e = .returned (.agg (Lt.cells (cpy 4 a b))) ∧ Below w.heap.size w w' := by
 obtain ⟨r, hr⟩ : ∃ r, r = (cpy 4 a b) := ⟨_, rfl⟩
 rw [← hr]
 obtain ⟨W0, hW0⟩ : ∃ W0, W0 = ((w.alloc (.cells a.cells 37)).alloc (.cells b.cells 37)).alloc (.cells ZL 37) := ⟨_, rfl⟩
 have H1 : Hid (Blk W0 w.heap.size 37 a.cells) := Lib.hid (by rw [hW0]; exact ((Blk.new w _ _).alloc _).alloc _)
 have H2 : Hid (Blk W0 (w.heap.size + 1) 37 b.cells) := Lib.hid (by
  rw [hW0]
  have := (Blk.new (w.alloc (.cells a.cells 37)) 37 b.cells).alloc (.cells ZL 37)
  simpa using this)
 have H3 : Hid (Blk W0 (w.heap.size + 2) 37 ZL) := Lib.hid (by
  rw [hW0]
  have := Blk.new ((w.alloc (.cells a.cells 37)).alloc (.cells b.cells 37)) 37 ZL
  simpa using this)
 have HB : Hid (Below w.heap.size w W0) := Lib.hid (by rw [hW0]; exact (((Below.refl _ _).alloc (Nat.le_refl _) _).alloc (by simp) _).alloc (by simp; omega) _)
 have HW := Lib.hid hW0
 have n3 : w.heap.size + 2 ≠ w.heap.size := by omega
 have l1 := H1.out.lt
 have l2 := H2.out.lt
 have l3 := H3.out.lt
 clear hW0
 have s0 : W0.cell? ⟨w.heap.size + 1, 8, none⟩ = some (.int .u64 b.dz) := H2.out.cell 8
 have d0 : W0.cell? ⟨w.heap.size, 8, none⟩ = some (.int .u64 a.dz) := H1.out.cell 8
 have f0 := H1.out.frozen 8
 obtain ⟨W1, hW1⟩ : ∃ W1, W1 = (W0.setCell ⟨w.heap.size, 8, none⟩ (.int .u64 b.dz)) := ⟨_, rfl⟩
 have HX : Hid (Blk W1 w.heap.size 37 r.cells) := Lib.hid (by rw [hW1, hr]; exact (H1.out.set_ 8 (.int .u64 b.dz)))
 have HZ : Hid (Blk W1 (w.heap.size + 2) 37 ZL) := Lib.hid (by rw [hW1]; exact (H3.out.far (p := ⟨w.heap.size, 8, none⟩) n3 (.int .u64 b.dz)))
 have HB1 : Hid (Below w.heap.size w W1) := Lib.hid (by rw [hW1]; exact (below_set HB.out (by first | (have := HB.out.size; omega) | (have := HB.out.size; simp only [size_set]; omega)) (Nat.le_refl _) 8 (.int .u64 b.dz)))
 exact rp2
theorem copied_l (a b : Lt) (w : World) : Calls Tryz.prog 142 #[.agg a.cells, .agg b.cells, .int .u8 108] w fun e w' => e = .returned (.agg (Lt.cells (cpy 5 a b))) ∧ Below w.heap.size w w' := by
 obtain ⟨r, hr⟩ : ∃ r, r = (cpy 5 a b) := ⟨_, rfl⟩
 rw [← hr]
 obtain ⟨W0, hW0⟩ : ∃ W0, W0 = ((w.alloc (.cells a.cells 37)).alloc (.cells b.cells 37)).alloc (.cells ZL 37) := ⟨_, rfl⟩
 have H1 : Hid (Blk W0 w.heap.size 37 a.cells) := Lib.hid (by rw [hW0]; exact ((Blk.new w _ _).alloc _).alloc _)
 have H2 : Hid (Blk W0 (w.heap.size + 1) 37 b.cells) := Lib.hid (by
  rw [hW0]
  have := (Blk.new (w.alloc (.cells a.cells 37)) 37 b.cells).alloc (.cells ZL 37)
  simpa using this)
 have H3 : Hid (Blk W0 (w.heap.size + 2) 37 ZL) := Lib.hid (by
  rw [hW0]
  have := Blk.new ((w.alloc (.cells a.cells 37)).alloc (.cells b.cells 37)) 37 ZL
  simpa using this)
 have HB : Hid (Below w.heap.size w W0) := Lib.hid (by rw [hW0]; exact (((Below.refl _ _).alloc (Nat.le_refl _) _).alloc (by simp) _).alloc (by simp; omega) _)
 have HW := Lib.hid hW0
 have n3 : w.heap.size + 2 ≠ w.heap.size := by omega
 have l1 := H1.out.lt
 have l2 := H2.out.lt
 have l3 := H3.out.lt
 clear hW0
 have s0 : W0.cell? ⟨w.heap.size + 1, 10, none⟩ = some (.int .i64 b.sl) := H2.out.cell 10
 have d0 : W0.cell? ⟨w.heap.size, 10, none⟩ = some (.int .i64 a.sl) := H1.out.cell 10
 have f0 := H1.out.frozen 10
 obtain ⟨W1, hW1⟩ : ∃ W1, W1 = (W0.setCell ⟨w.heap.size, 10, none⟩ (.int .i64 b.sl)) := ⟨_, rfl⟩
 have HX : Hid (Blk W1 w.heap.size 37 r.cells) := Lib.hid (by rw [hW1, hr]; exact (H1.out.set_ 10 (.int .i64 b.sl)))
 have HZ : Hid (Blk W1 (w.heap.size + 2) 37 ZL) := Lib.hid (by rw [hW1]; exact (H3.out.far (p := ⟨w.heap.size, 10, none⟩) n3 (.int .i64 b.sl)))
 have HB1 : Hid (Below w.heap.size w W1) := Lib.hid (by rw [hW1]; exact (below_set HB.out (by first | (have := HB.out.size; omega) | (have := HB.out.size; simp only [size_set]; omega)) (Nat.le_refl _) 10 (.int .i64 b.sl)))
 exact rp2
theorem copied_n (a b : Lt) (w : World) : Calls Tryz.prog 142 #[.agg a.cells, .agg b.cells, .int .u8 110] w fun e w' => e = .returned (.agg (Lt.cells (cpy 6 a b))) ∧ Below w.heap.size w w' := by
 obtain ⟨r, hr⟩ : ∃ r, r = (cpy 6 a b) := ⟨_, rfl⟩
 rw [← hr]
 obtain ⟨W0, hW0⟩ : ∃ W0, W0 = ((w.alloc (.cells a.cells 37)).alloc (.cells b.cells 37)).alloc (.cells ZL 37) := ⟨_, rfl⟩
 have H1 : Hid (Blk W0 w.heap.size 37 a.cells) := Lib.hid (by rw [hW0]; exact ((Blk.new w _ _).alloc _).alloc _)
 have H2 : Hid (Blk W0 (w.heap.size + 1) 37 b.cells) := Lib.hid (by
  rw [hW0]
  have := (Blk.new (w.alloc (.cells a.cells 37)) 37 b.cells).alloc (.cells ZL 37)
  simpa using this)
 have H3 : Hid (Blk W0 (w.heap.size + 2) 37 ZL) := Lib.hid (by
  rw [hW0]
  have := Blk.new ((w.alloc (.cells a.cells 37)).alloc (.cells b.cells 37)) 37 ZL
  simpa using this)
 have HB : Hid (Below w.heap.size w W0) := Lib.hid (by rw [hW0]; exact (((Below.refl _ _).alloc (Nat.le_refl _) _).alloc (by simp) _).alloc (by simp; omega) _)
 have HW := Lib.hid hW0
 have n3 : w.heap.size + 2 ≠ w.heap.size := by omega
 have l1 := H1.out.lt
 have l2 := H2.out.lt
 have l3 := H3.out.lt
 clear hW0
 have s0 : W0.cell? ⟨w.heap.size + 1, 6, none⟩ = some (.int .u64 b.nu) := H2.out.cell 6
 have d0 : W0.cell? ⟨w.heap.size, 6, none⟩ = some (.int .u64 a.nu) := H1.out.cell 6
 have f0 := H1.out.frozen 6
 obtain ⟨W1, hW1⟩ : ∃ W1, W1 = (W0.setCell ⟨w.heap.size, 6, none⟩ (.int .u64 b.nu)) := ⟨_, rfl⟩
 have HX : Hid (Blk W1 w.heap.size 37 r.cells) := Lib.hid (by rw [hW1, hr]; exact (H1.out.set_ 6 (.int .u64 b.nu)))
 have HZ : Hid (Blk W1 (w.heap.size + 2) 37 ZL) := Lib.hid (by rw [hW1]; exact (H3.out.far (p := ⟨w.heap.size, 6, none⟩) n3 (.int .u64 b.nu)))
 have HB1 : Hid (Below w.heap.size w W1) := Lib.hid (by rw [hW1]; exact (below_set HB.out (by first | (have := HB.out.size; omega) | (have := HB.out.size; simp only [size_set]; omega)) (Nat.le_refl _) 6 (.int .u64 b.nu)))
 exact rp2
theorem copied_o (a b : Lt) (w : World) : Calls Tryz.prog 142 #[.agg a.cells, .agg b.cells, .int .u8 111] w fun e w' => e = .returned (.agg (Lt.cells (cpy 7 a b))) ∧ Below w.heap.size w w' := by
 obtain ⟨r, hr⟩ : ∃ r, r = (cpy 7 a b) := ⟨_, rfl⟩
 rw [← hr]
 obtain ⟨W0, hW0⟩ : ∃ W0, W0 = ((w.alloc (.cells a.cells 37)).alloc (.cells b.cells 37)).alloc (.cells ZL 37) := ⟨_, rfl⟩
 have H1 : Hid (Blk W0 w.heap.size 37 a.cells) := Lib.hid (by rw [hW0]; exact ((Blk.new w _ _).alloc _).alloc _)
 have H2 : Hid (Blk W0 (w.heap.size + 1) 37 b.cells) := Lib.hid (by
  rw [hW0]
  have := (Blk.new (w.alloc (.cells a.cells 37)) 37 b.cells).alloc (.cells ZL 37)
  simpa using this)
 have H3 : Hid (Blk W0 (w.heap.size + 2) 37 ZL) := Lib.hid (by
  rw [hW0]
  have := Blk.new ((w.alloc (.cells a.cells 37)).alloc (.cells b.cells 37)) 37 ZL
  simpa using this)
 have HB : Hid (Below w.heap.size w W0) := Lib.hid (by rw [hW0]; exact (((Below.refl _ _).alloc (Nat.le_refl _) _).alloc (by simp) _).alloc (by simp; omega) _)
 have HW := Lib.hid hW0
 have n3 : w.heap.size + 2 ≠ w.heap.size := by omega
 have l1 := H1.out.lt
 have l2 := H2.out.lt
 have l3 := H3.out.lt
 clear hW0
 have s0 : W0.cell? ⟨w.heap.size + 1, 12, none⟩ = some (.int .i64 b.cd) := H2.out.cell 12
 have d0 : W0.cell? ⟨w.heap.size, 12, none⟩ = some (.int .i64 a.cd) := H1.out.cell 12
 have f0 := H1.out.frozen 12
 obtain ⟨W1, hW1⟩ : ∃ W1, W1 = (W0.setCell ⟨w.heap.size, 12, none⟩ (.int .i64 b.cd)) := ⟨_, rfl⟩
 have HX : Hid (Blk W1 w.heap.size 37 r.cells) := Lib.hid (by rw [hW1, hr]; exact (H1.out.set_ 12 (.int .i64 b.cd)))
 have HZ : Hid (Blk W1 (w.heap.size + 2) 37 ZL) := Lib.hid (by rw [hW1]; exact (H3.out.far (p := ⟨w.heap.size, 12, none⟩) n3 (.int .i64 b.cd)))
 have HB1 : Hid (Below w.heap.size w W1) := Lib.hid (by rw [hW1]; exact (below_set HB.out (by first | (have := HB.out.size; omega) | (have := HB.out.size; simp only [size_set]; omega)) (Nat.le_refl _) 12 (.int .i64 b.cd)))
 exact rp2
theorem copied_k (a b : Lt) (w : World) : Calls Tryz.prog 142 #[.agg a.cells, .agg b.cells, .int .u8 107] w fun e w' => e = .returned (.agg (Lt.cells (cpy 8 a b))) ∧ Below w.heap.size w w' := by
 obtain ⟨r, hr⟩ : ∃ r, r = (cpy 8 a b) := ⟨_, rfl⟩
 rw [← hr]
 obtain ⟨W0, hW0⟩ : ∃ W0, W0 = ((w.alloc (.cells a.cells 37)).alloc (.cells b.cells 37)).alloc (.cells ZL 37) := ⟨_, rfl⟩
 have H1 : Hid (Blk W0 w.heap.size 37 a.cells) := Lib.hid (by rw [hW0]; exact ((Blk.new w _ _).alloc _).alloc _)
 have H2 : Hid (Blk W0 (w.heap.size + 1) 37 b.cells) := Lib.hid (by
  rw [hW0]
  have := (Blk.new (w.alloc (.cells a.cells 37)) 37 b.cells).alloc (.cells ZL 37)
  simpa using this)
 have H3 : Hid (Blk W0 (w.heap.size + 2) 37 ZL) := Lib.hid (by
  rw [hW0]
  have := Blk.new ((w.alloc (.cells a.cells 37)).alloc (.cells b.cells 37)) 37 ZL
  simpa using this)
 have HB : Hid (Below w.heap.size w W0) := Lib.hid (by rw [hW0]; exact (((Below.refl _ _).alloc (Nat.le_refl _) _).alloc (by simp) _).alloc (by simp; omega) _)
 have HW := Lib.hid hW0
 have n3 : w.heap.size + 2 ≠ w.heap.size := by omega
 have l1 := H1.out.lt
 have l2 := H2.out.lt
 have l3 := H3.out.lt
 clear hW0
 have s0 : W0.cell? ⟨w.heap.size + 1, 11, none⟩ = some (.int .u32 b.ky) := H2.out.cell 11
 have d0 : W0.cell? ⟨w.heap.size, 11, none⟩ = some (.int .u32 a.ky) := H1.out.cell 11
 have f0 := H1.out.frozen 11
 obtain ⟨W1, hW1⟩ : ∃ W1, W1 = (W0.setCell ⟨w.heap.size, 11, none⟩ (.int .u32 b.ky)) := ⟨_, rfl⟩
 have HX : Hid (Blk W1 w.heap.size 37 r.cells) := Lib.hid (by rw [hW1, hr]; exact (H1.out.set_ 11 (.int .u32 b.ky)))
 have HZ : Hid (Blk W1 (w.heap.size + 2) 37 ZL) := Lib.hid (by rw [hW1]; exact (H3.out.far (p := ⟨w.heap.size, 11, none⟩) n3 (.int .u32 b.ky)))
 have HB1 : Hid (Below w.heap.size w W1) := Lib.hid (by rw [hW1]; exact (below_set HB.out (by first | (have := HB.out.size; omega) | (have := HB.out.size; simp only [size_set]; omega)) (Nat.le_refl _) 11 (.int .u32 b.ky)))
 exact rp2
theorem copied_v (a b : Lt) (w : World) : Calls Tryz.prog 142 #[.agg a.cells, .agg b.cells, .int .u8 118] w fun e w' => e = .returned (.agg (Lt.cells (cpy 9 a b))) ∧ Below w.heap.size w w' := by
 obtain ⟨r, hr⟩ : ∃ r, r = (cpy 9 a b) := ⟨_, rfl⟩
 rw [← hr]
 obtain ⟨W0, hW0⟩ : ∃ W0, W0 = ((w.alloc (.cells a.cells 37)).alloc (.cells b.cells 37)).alloc (.cells ZL 37) := ⟨_, rfl⟩
 have H1 : Hid (Blk W0 w.heap.size 37 a.cells) := Lib.hid (by rw [hW0]; exact ((Blk.new w _ _).alloc _).alloc _)
 have H2 : Hid (Blk W0 (w.heap.size + 1) 37 b.cells) := Lib.hid (by
  rw [hW0]
  have := (Blk.new (w.alloc (.cells a.cells 37)) 37 b.cells).alloc (.cells ZL 37)
  simpa using this)
 have H3 : Hid (Blk W0 (w.heap.size + 2) 37 ZL) := Lib.hid (by
  rw [hW0]
  have := Blk.new ((w.alloc (.cells a.cells 37)).alloc (.cells b.cells 37)) 37 ZL
  simpa using this)
 have HB : Hid (Below w.heap.size w W0) := Lib.hid (by rw [hW0]; exact (((Below.refl _ _).alloc (Nat.le_refl _) _).alloc (by simp) _).alloc (by simp; omega) _)
 have HW := Lib.hid hW0
 have n3 : w.heap.size + 2 ≠ w.heap.size := by omega
 have l1 := H1.out.lt
 have l2 := H2.out.lt
 have l3 := H3.out.lt
 clear hW0
 have s0 : W0.cell? ⟨w.heap.size + 1, 9, none⟩ = some (.int .u64 b.vr) := H2.out.cell 9
 have d0 : W0.cell? ⟨w.heap.size, 9, none⟩ = some (.int .u64 a.vr) := H1.out.cell 9
 have f0 := H1.out.frozen 9
 obtain ⟨W1, hW1⟩ : ∃ W1, W1 = (W0.setCell ⟨w.heap.size, 9, none⟩ (.int .u64 b.vr)) := ⟨_, rfl⟩
 have HX : Hid (Blk W1 w.heap.size 37 r.cells) := Lib.hid (by rw [hW1, hr]; exact (H1.out.set_ 9 (.int .u64 b.vr)))
 have HZ : Hid (Blk W1 (w.heap.size + 2) 37 ZL) := Lib.hid (by rw [hW1]; exact (H3.out.far (p := ⟨w.heap.size, 9, none⟩) n3 (.int .u64 b.vr)))
 have HB1 : Hid (Below w.heap.size w W1) := Lib.hid (by rw [hW1]; exact (below_set HB.out (by first | (have := HB.out.size; omega) | (have := HB.out.size; simp only [size_set]; omega)) (Nat.le_refl _) 9 (.int .u64 b.vr)))
 exact rp2
theorem copied_m (a b : Lt) (w : World) : Calls Tryz.prog 142 #[.agg a.cells, .agg b.cells, .int .u8 109] w fun e w' => e = .returned (.agg (Lt.cells (cpy 10 a b))) ∧ Below w.heap.size w w' := by
 obtain ⟨r, hr⟩ : ∃ r, r = (cpy 10 a b) := ⟨_, rfl⟩
 rw [← hr]
 obtain ⟨W0, hW0⟩ : ∃ W0, W0 = ((w.alloc (.cells a.cells 37)).alloc (.cells b.cells 37)).alloc (.cells ZL 37) := ⟨_, rfl⟩
 have H1 : Hid (Blk W0 w.heap.size 37 a.cells) := Lib.hid (by rw [hW0]; exact ((Blk.new w _ _).alloc _).alloc _)
 have H2 : Hid (Blk W0 (w.heap.size + 1) 37 b.cells) := Lib.hid (by
  rw [hW0]
  have := (Blk.new (w.alloc (.cells a.cells 37)) 37 b.cells).alloc (.cells ZL 37)
  simpa using this)
 have H3 : Hid (Blk W0 (w.heap.size + 2) 37 ZL) := Lib.hid (by
  rw [hW0]
  have := Blk.new ((w.alloc (.cells a.cells 37)).alloc (.cells b.cells 37)) 37 ZL
  simpa using this)
 have HB : Hid (Below w.heap.size w W0) := Lib.hid (by rw [hW0]; exact (((Below.refl _ _).alloc (Nat.le_refl _) _).alloc (by simp) _).alloc (by simp; omega) _)
 have HW := Lib.hid hW0
 have n3 : w.heap.size + 2 ≠ w.heap.size := by omega
 have l1 := H1.out.lt
 have l2 := H2.out.lt
 have l3 := H3.out.lt
 clear hW0
 have s0 : W0.cell? ⟨w.heap.size + 1, 13, none⟩ = some (.int .i64 b.qk) := H2.out.cell 13
 have d0 : W0.cell? ⟨w.heap.size, 13, none⟩ = some (.int .i64 a.qk) := H1.out.cell 13
 have f0 := H1.out.frozen 13
 have s1 : W0.cell? ⟨w.heap.size + 1, 14, none⟩ = some (.int .i64 b.qc) := H2.out.cell 14
 have d1 : W0.cell? ⟨w.heap.size, 14, none⟩ = some (.int .i64 a.qc) := H1.out.cell 14
 have f1 := H1.out.frozen 14
 have s2 : W0.cell? ⟨w.heap.size + 1, 15, none⟩ = some (.int .u64 b.qe) := H2.out.cell 15
 have d2 : W0.cell? ⟨w.heap.size, 15, none⟩ = some (.int .u64 a.qe) := H1.out.cell 15
 have f2 := H1.out.frozen 15
 have s3 : W0.cell? ⟨w.heap.size + 1, 16, none⟩ = some (.int .i64 b.qn) := H2.out.cell 16
 have d3 : W0.cell? ⟨w.heap.size, 16, none⟩ = some (.int .i64 a.qn) := H1.out.cell 16
 have f3 := H1.out.frozen 16
 obtain ⟨W1, hW1⟩ : ∃ W1, W1 = ((((W0.setCell ⟨w.heap.size, 13, none⟩ (.int .i64 b.qk)).setCell ⟨w.heap.size, 14, none⟩ (.int .i64 b.qc)).setCell ⟨w.heap.size, 15, none⟩ (.int .u64 b.qe)).setCell ⟨w.heap.size, 16, none⟩ (.int .i64 b.qn)) := ⟨_, rfl⟩
 have HX : Hid (Blk W1 w.heap.size 37 r.cells) := Lib.hid (by rw [hW1, hr]; exact ((((H1.out.set_ 13 (.int .i64 b.qk)).set_ 14 (.int .i64 b.qc)).set_ 15 (.int .u64 b.qe)).set_ 16 (.int .i64 b.qn)))
 have HZ : Hid (Blk W1 (w.heap.size + 2) 37 ZL) := Lib.hid (by rw [hW1]; exact ((((H3.out.far (p := ⟨w.heap.size, 13, none⟩) n3 (.int .i64 b.qk)).far (p := ⟨w.heap.size, 14, none⟩) n3 (.int .i64 b.qc)).far (p := ⟨w.heap.size, 15, none⟩) n3 (.int .u64 b.qe)).far (p := ⟨w.heap.size, 16, none⟩) n3 (.int .i64 b.qn)))
 have HB1 : Hid (Below w.heap.size w W1) := Lib.hid (by rw [hW1]; exact (below_set (below_set (below_set (below_set HB.out (by first | (have := HB.out.size; omega) | (have := HB.out.size; simp only [size_set]; omega)) (Nat.le_refl _) 13 (.int .i64 b.qk)) (by first | (have := HB.out.size; omega) | (have := HB.out.size; simp only [size_set]; omega)) (Nat.le_refl _) 14 (.int .i64 b.qc)) (by first | (have := HB.out.size; omega) | (have := HB.out.size; simp only [size_set]; omega)) (Nat.le_refl _) 15 (.int .u64 b.qe)) (by first | (have := HB.out.size; omega) | (have := HB.out.size; simp only [size_set]; omega)) (Nat.le_refl _) 16 (.int .i64 b.qn)))
 exact rp2
theorem copied_f (a b : Lt) (w : World) : Calls Tryz.prog 142 #[.agg a.cells, .agg b.cells, .int .u8 102] w fun e w' => e = .returned (.agg (Lt.cells (cpy 11 a b))) ∧ Below w.heap.size w w' := by
 obtain ⟨r, hr⟩ : ∃ r, r = (cpy 11 a b) := ⟨_, rfl⟩
 rw [← hr]
 obtain ⟨W0, hW0⟩ : ∃ W0, W0 = ((w.alloc (.cells a.cells 37)).alloc (.cells b.cells 37)).alloc (.cells ZL 37) := ⟨_, rfl⟩
 have H1 : Hid (Blk W0 w.heap.size 37 a.cells) := Lib.hid (by rw [hW0]; exact ((Blk.new w _ _).alloc _).alloc _)
 have H2 : Hid (Blk W0 (w.heap.size + 1) 37 b.cells) := Lib.hid (by
  rw [hW0]
  have := (Blk.new (w.alloc (.cells a.cells 37)) 37 b.cells).alloc (.cells ZL 37)
  simpa using this)
 have H3 : Hid (Blk W0 (w.heap.size + 2) 37 ZL) := Lib.hid (by
  rw [hW0]
  have := Blk.new ((w.alloc (.cells a.cells 37)).alloc (.cells b.cells 37)) 37 ZL
  simpa using this)
 have HB : Hid (Below w.heap.size w W0) := Lib.hid (by rw [hW0]; exact (((Below.refl _ _).alloc (Nat.le_refl _) _).alloc (by simp) _).alloc (by simp; omega) _)
 have HW := Lib.hid hW0
 have n3 : w.heap.size + 2 ≠ w.heap.size := by omega
 have l1 := H1.out.lt
 have l2 := H2.out.lt
 have l3 := H3.out.lt
 clear hW0
 have s0 : W0.cell? ⟨w.heap.size + 1, 17, none⟩ = some (.int .i64 b.fc) := H2.out.cell 17
 have d0 : W0.cell? ⟨w.heap.size, 17, none⟩ = some (.int .i64 a.fc) := H1.out.cell 17
 have f0 := H1.out.frozen 17
 have s1 : W0.cell? ⟨w.heap.size + 1, 18, none⟩ = some (.int .u64 b.fe) := H2.out.cell 18
 have d1 : W0.cell? ⟨w.heap.size, 18, none⟩ = some (.int .u64 a.fe) := H1.out.cell 18
 have f1 := H1.out.frozen 18
 have s2 : W0.cell? ⟨w.heap.size + 1, 19, none⟩ = some (.slice b.fA b.fn b.fp) := H2.out.cell 19
 have d2 : W0.cell? ⟨w.heap.size, 19, none⟩ = some (.slice a.fA a.fn a.fp) := H1.out.cell 19
 have f2 := H1.out.frozen 19
 have s3 : W0.cell? ⟨w.heap.size + 1, 20, none⟩ = some (.bool b.ff) := H2.out.cell 20
 have d3 : W0.cell? ⟨w.heap.size, 20, none⟩ = some (.bool a.ff) := H1.out.cell 20
 have f3 := H1.out.frozen 20
 have s4 : W0.cell? ⟨w.heap.size + 1, 21, none⟩ = some (.int .i64 b.fj) := H2.out.cell 21
 have d4 : W0.cell? ⟨w.heap.size, 21, none⟩ = some (.int .i64 a.fj) := H1.out.cell 21
 have f4 := H1.out.frozen 21
 obtain ⟨W1, hW1⟩ : ∃ W1, W1 = (((((W0.setCell ⟨w.heap.size, 17, none⟩ (.int .i64 b.fc)).setCell ⟨w.heap.size, 18, none⟩ (.int .u64 b.fe)).setCell ⟨w.heap.size, 19, none⟩ (.slice b.fA b.fn b.fp)).setCell ⟨w.heap.size, 20, none⟩ (.bool b.ff)).setCell ⟨w.heap.size, 21, none⟩ (.int .i64 b.fj)) := ⟨_, rfl⟩
 have HX : Hid (Blk W1 w.heap.size 37 r.cells) := Lib.hid (by rw [hW1, hr]; exact (((((H1.out.set_ 17 (.int .i64 b.fc)).set_ 18 (.int .u64 b.fe)).set_ 19 (.slice b.fA b.fn b.fp)).set_ 20 (.bool b.ff)).set_ 21 (.int .i64 b.fj)))
 have HZ : Hid (Blk W1 (w.heap.size + 2) 37 ZL) := Lib.hid (by rw [hW1]; exact (((((H3.out.far (p := ⟨w.heap.size, 17, none⟩) n3 (.int .i64 b.fc)).far (p := ⟨w.heap.size, 18, none⟩) n3 (.int .u64 b.fe)).far (p := ⟨w.heap.size, 19, none⟩) n3 (.slice b.fA b.fn b.fp)).far (p := ⟨w.heap.size, 20, none⟩) n3 (.bool b.ff)).far (p := ⟨w.heap.size, 21, none⟩) n3 (.int .i64 b.fj)))
 have HB1 : Hid (Below w.heap.size w W1) := Lib.hid (by rw [hW1]; exact (below_set (below_set (below_set (below_set (below_set HB.out (by first | (have := HB.out.size; omega) | (have := HB.out.size; simp only [size_set]; omega)) (Nat.le_refl _) 17 (.int .i64 b.fc)) (by first | (have := HB.out.size; omega) | (have := HB.out.size; simp only [size_set]; omega)) (Nat.le_refl _) 18 (.int .u64 b.fe)) (by first | (have := HB.out.size; omega) | (have := HB.out.size; simp only [size_set]; omega)) (Nat.le_refl _) 19 (.slice b.fA b.fn b.fp)) (by first | (have := HB.out.size; omega) | (have := HB.out.size; simp only [size_set]; omega)) (Nat.le_refl _) 20 (.bool b.ff)) (by first | (have := HB.out.size; omega) | (have := HB.out.size; simp only [size_set]; omega)) (Nat.le_refl _) 21 (.int .i64 b.fj)))
 exact rp2
theorem copied_t (a b : Lt) (w : World) : Calls Tryz.prog 142 #[.agg a.cells, .agg b.cells, .int .u8 116] w fun e w' => e = .returned (.agg (Lt.cells (cpy 12 a b))) ∧ Below w.heap.size w w' := by
 obtain ⟨r, hr⟩ : ∃ r, r = (cpy 12 a b) := ⟨_, rfl⟩
 rw [← hr]
 obtain ⟨W0, hW0⟩ : ∃ W0, W0 = ((w.alloc (.cells a.cells 37)).alloc (.cells b.cells 37)).alloc (.cells ZL 37) := ⟨_, rfl⟩
 have H1 : Hid (Blk W0 w.heap.size 37 a.cells) := Lib.hid (by rw [hW0]; exact ((Blk.new w _ _).alloc _).alloc _)
 have H2 : Hid (Blk W0 (w.heap.size + 1) 37 b.cells) := Lib.hid (by
  rw [hW0]
  have := (Blk.new (w.alloc (.cells a.cells 37)) 37 b.cells).alloc (.cells ZL 37)
  simpa using this)
 have H3 : Hid (Blk W0 (w.heap.size + 2) 37 ZL) := Lib.hid (by
  rw [hW0]
  have := Blk.new ((w.alloc (.cells a.cells 37)).alloc (.cells b.cells 37)) 37 ZL
  simpa using this)
 have HB : Hid (Below w.heap.size w W0) := Lib.hid (by rw [hW0]; exact (((Below.refl _ _).alloc (Nat.le_refl _) _).alloc (by simp) _).alloc (by simp; omega) _)
 have HW := Lib.hid hW0
 have n3 : w.heap.size + 2 ≠ w.heap.size := by omega
 have l1 := H1.out.lt
 have l2 := H2.out.lt
 have l3 := H3.out.lt
 clear hW0
 have s0 : W0.cell? ⟨w.heap.size + 1, 22, none⟩ = some (.slice b.vA b.vn b.vp) := H2.out.cell 22
 have d0 : W0.cell? ⟨w.heap.size, 22, none⟩ = some (.slice a.vA a.vn a.vp) := H1.out.cell 22
 have f0 := H1.out.frozen 22
 obtain ⟨W1, hW1⟩ : ∃ W1, W1 = (W0.setCell ⟨w.heap.size, 22, none⟩ (.slice b.vA b.vn b.vp)) := ⟨_, rfl⟩
 have HX : Hid (Blk W1 w.heap.size 37 r.cells) := Lib.hid (by rw [hW1, hr]; exact (H1.out.set_ 22 (.slice b.vA b.vn b.vp)))
 have HZ : Hid (Blk W1 (w.heap.size + 2) 37 ZL) := Lib.hid (by rw [hW1]; exact (H3.out.far (p := ⟨w.heap.size, 22, none⟩) n3 (.slice b.vA b.vn b.vp)))
 have HB1 : Hid (Below w.heap.size w W1) := Lib.hid (by rw [hW1]; exact (below_set HB.out (by first | (have := HB.out.size; omega) | (have := HB.out.size; simp only [size_set]; omega)) (Nat.le_refl _) 22 (.slice b.vA b.vn b.vp)))
 exact rp2
theorem copied_u (a b : Lt) (w : World) : Calls Tryz.prog 142 #[.agg a.cells, .agg b.cells, .int .u8 117] w fun e w' => e = .returned (.agg (Lt.cells (cpy 13 a b))) ∧ Below w.heap.size w w' := by
 obtain ⟨r, hr⟩ : ∃ r, r = (cpy 13 a b) := ⟨_, rfl⟩
 rw [← hr]
 obtain ⟨W0, hW0⟩ : ∃ W0, W0 = ((w.alloc (.cells a.cells 37)).alloc (.cells b.cells 37)).alloc (.cells ZL 37) := ⟨_, rfl⟩
 have H1 : Hid (Blk W0 w.heap.size 37 a.cells) := Lib.hid (by rw [hW0]; exact ((Blk.new w _ _).alloc _).alloc _)
 have H2 : Hid (Blk W0 (w.heap.size + 1) 37 b.cells) := Lib.hid (by
  rw [hW0]
  have := (Blk.new (w.alloc (.cells a.cells 37)) 37 b.cells).alloc (.cells ZL 37)
  simpa using this)
 have H3 : Hid (Blk W0 (w.heap.size + 2) 37 ZL) := Lib.hid (by
  rw [hW0]
  have := Blk.new ((w.alloc (.cells a.cells 37)).alloc (.cells b.cells 37)) 37 ZL
  simpa using this)
 have HB : Hid (Below w.heap.size w W0) := Lib.hid (by rw [hW0]; exact (((Below.refl _ _).alloc (Nat.le_refl _) _).alloc (by simp) _).alloc (by simp; omega) _)
 have HW := Lib.hid hW0
 have n3 : w.heap.size + 2 ≠ w.heap.size := by omega
 have l1 := H1.out.lt
 have l2 := H2.out.lt
 have l3 := H3.out.lt
 clear hW0
 have s0 : W0.cell? ⟨w.heap.size + 1, 23, none⟩ = some (.slice b.uA b.un b.up) := H2.out.cell 23
 have d0 : W0.cell? ⟨w.heap.size, 23, none⟩ = some (.slice a.uA a.un a.up) := H1.out.cell 23
 have f0 := H1.out.frozen 23
 obtain ⟨W1, hW1⟩ : ∃ W1, W1 = (W0.setCell ⟨w.heap.size, 23, none⟩ (.slice b.uA b.un b.up)) := ⟨_, rfl⟩
 have HX : Hid (Blk W1 w.heap.size 37 r.cells) := Lib.hid (by rw [hW1, hr]; exact (H1.out.set_ 23 (.slice b.uA b.un b.up)))
 have HZ : Hid (Blk W1 (w.heap.size + 2) 37 ZL) := Lib.hid (by rw [hW1]; exact (H3.out.far (p := ⟨w.heap.size, 23, none⟩) n3 (.slice b.uA b.un b.up)))
 have HB1 : Hid (Below w.heap.size w W1) := Lib.hid (by rw [hW1]; exact (below_set HB.out (by first | (have := HB.out.size; omega) | (have := HB.out.size; simp only [size_set]; omega)) (Nat.le_refl _) 23 (.slice b.uA b.un b.up)))
 exact rp2
theorem copied_a (a b : Lt) (w : World) : Calls Tryz.prog 142 #[.agg a.cells, .agg b.cells, .int .u8 97] w fun e w' => e = .returned (.agg (Lt.cells (cpy 14 a b))) ∧ Below w.heap.size w w' := by
 obtain ⟨r, hr⟩ : ∃ r, r = (cpy 14 a b) := ⟨_, rfl⟩
 rw [← hr]
 obtain ⟨W0, hW0⟩ : ∃ W0, W0 = ((w.alloc (.cells a.cells 37)).alloc (.cells b.cells 37)).alloc (.cells ZL 37) := ⟨_, rfl⟩
 have H1 : Hid (Blk W0 w.heap.size 37 a.cells) := Lib.hid (by rw [hW0]; exact ((Blk.new w _ _).alloc _).alloc _)
 have H2 : Hid (Blk W0 (w.heap.size + 1) 37 b.cells) := Lib.hid (by
  rw [hW0]
  have := (Blk.new (w.alloc (.cells a.cells 37)) 37 b.cells).alloc (.cells ZL 37)
  simpa using this)
 have H3 : Hid (Blk W0 (w.heap.size + 2) 37 ZL) := Lib.hid (by
  rw [hW0]
  have := Blk.new ((w.alloc (.cells a.cells 37)).alloc (.cells b.cells 37)) 37 ZL
  simpa using this)
 have HB : Hid (Below w.heap.size w W0) := Lib.hid (by rw [hW0]; exact (((Below.refl _ _).alloc (Nat.le_refl _) _).alloc (by simp) _).alloc (by simp; omega) _)
 have HW := Lib.hid hW0
 have n3 : w.heap.size + 2 ≠ w.heap.size := by omega
 have l1 := H1.out.lt
 have l2 := H2.out.lt
 have l3 := H3.out.lt
 clear hW0
 have s0 : W0.cell? ⟨w.heap.size + 1, 24, none⟩ = some (.slice b.dA b.dn b.dp) := H2.out.cell 24
 have d0 : W0.cell? ⟨w.heap.size, 24, none⟩ = some (.slice a.dA a.dn a.dp) := H1.out.cell 24
 have f0 := H1.out.frozen 24
 obtain ⟨W1, hW1⟩ : ∃ W1, W1 = (W0.setCell ⟨w.heap.size, 24, none⟩ (.slice b.dA b.dn b.dp)) := ⟨_, rfl⟩
 have HX : Hid (Blk W1 w.heap.size 37 r.cells) := Lib.hid (by rw [hW1, hr]; exact (H1.out.set_ 24 (.slice b.dA b.dn b.dp)))
 have HZ : Hid (Blk W1 (w.heap.size + 2) 37 ZL) := Lib.hid (by rw [hW1]; exact (H3.out.far (p := ⟨w.heap.size, 24, none⟩) n3 (.slice b.dA b.dn b.dp)))
 have HB1 : Hid (Below w.heap.size w W1) := Lib.hid (by rw [hW1]; exact (below_set HB.out (by first | (have := HB.out.size; omega) | (have := HB.out.size; simp only [size_set]; omega)) (Nat.le_refl _) 24 (.slice b.dA b.dn b.dp)))
 exact rp2
end Go.Proofs.YtmpedblelnpjdaaGreatDoor
