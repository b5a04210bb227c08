/- bare: the letter with the parts of its kind alone. -/
import Derived.Laws.EntriesVeiled
import Derived.Laws.CopyOwn
import Derived.Laws.NewBlocks
import Derived.Test.YtfcjkkjgedcgpaaGreatDoorLetA

namespace Go.Proofs.YtfcjkkjgedcgpaaGreatDoor
open Go.RowKit
set_option linter.unusedSimpArgs false
set_option linter.unusedVariables false
set_option maxHeartbeats 8000000
set_option maxRecDepth 100000

def kindT : List (List Int) := [[0, 0, 0, 0, 0, 0], [4, 32, 0, 0, 0, 0], [4, 32, 4096, 0, 0, 0], [4, 32, 1024, 0, 0, 0], [4, 32, 0, 0, 0, 0], [32, 1024, 0, 0, 0, 0], [4, 32, 0, 0, 0, 0], [32, 0, 0, 0, 0, 0], [4, 0, 0, 0, 0, 0], [1024, 0, 0, 0, 0, 0], [1, 0, 0, 0, 0, 0], [2048, 0, 0, 0, 0, 0], [1, 2, 8, 16, 8192, 0], [1, 2, 8, 16, 64, 32], [1, 2, 8, 32, 64, 16384], [1, 2, 64, 256, 0, 0], [1, 2, 64, 256, 512, 0], [1, 2, 8192, 0, 0, 0], [64, 128, 512, 0, 0, 0], [1, 2, 64, 256, 0, 0], [64, 256, 512, 16384, 0, 0]]
def kindP (k j : Nat) : Int := (kindT.getD k []).getD j 0
/-- the table of kinds, in memory -/
structure KindsAt (w : World) : Prop where
  cell : ∀ k j, k < 21 → j < 6 → w.cell? ⟨0, k * 7 + 1 + j, none⟩ = some (.int .i64 (kindP k j))
theorem KindsAt.lt {w : World} (h : KindsAt w) : 0 < w.heap.size := World.block_lt_of_cell? w _ (h.cell 0 0 (by omega) (by omega))
theorem KindsAt.below {w w' : World} (h : KindsAt w) (hb : Below w.heap.size w w') : KindsAt w' := ⟨fun k j hk hj => (hb.cell (p := ⟨0, k * 7 + 1 + j, none⟩) h.lt).trans (h.cell k j hk hj)⟩
def orK (k : Nat) : Nat → Int
  | 0 => 0
  | j + 1 => bits .or .i64 (orK k j) (kindP k j)
def hasB (k i : Nat) : Bool := bits .and .i64 (orK k 6) (2 ^ i) != 0
def partF (k j : Nat) : Nat → Bool := fun i => decide (i < j) && hasB k i
theorem partF_yes (k j : Nat) (h : hasB k j = true) : partF k (j + 1) = updF (partF k j) j := by
  funext i
  unfold partF updF
  by_cases e : i = j
  · subst e; simp [h]
  · by_cases e2 : i < j
    · simp [e, e2, show i < j + 1 by omega]
    · simp [e, e2, show ¬ i < j + 1 by omega]
theorem partF_no (k j : Nat) (h : hasB k j = false) : partF k (j + 1) = partF k j := by
  funext i
  unfold partF
  by_cases e : i = j
  · subst e; simp [h]
  · by_cases e2 : i < j
    · simp [e2, show i < j + 1 by omega]
    · simp [e2, show ¬ i < j + 1 by omega]
theorem lt_cells {w : World} {g : Nat} {l : Lt} (h : Blk w g 75 l.cells) : w.cell? ⟨g, 0, none⟩ = some (.int .i64 l.kd) ∧ w.cell? ⟨g, 1, none⟩ = some (.int .i64 l.fr) ∧ w.cell? ⟨g, 2, none⟩ = some (.int .i64 l.tw) ∧ w.cell? ⟨g, 3, none⟩ = some (.int .i64 l.ch) ∧ w.cell? ⟨g, 4, none⟩ = some (.int .u64 l.ep) ∧ w.cell? ⟨g, 5, none⟩ = some (.int .u64 l.bl) ∧ w.cell? ⟨g, 6, none⟩ = some (.int .u64 l.nu) ∧ w.cell? ⟨g, 7, none⟩ = some (.int .u64 l.sq) ∧ w.cell? ⟨g, 8, none⟩ = some (.int .u64 l.dz) ∧ w.cell? ⟨g, 9, none⟩ = some (.int .u64 l.vr) ∧ w.cell? ⟨g, 10, none⟩ = some (.int .i64 l.sl) ∧ w.cell? ⟨g, 11, none⟩ = some (.int .u32 l.ky) ∧ w.cell? ⟨g, 12, none⟩ = some (.int .i64 l.cd) ∧ w.cell? ⟨g, 13, none⟩ = some (.int .i64 l.qk) ∧ w.cell? ⟨g, 14, none⟩ = some (.int .i64 l.qc) ∧ w.cell? ⟨g, 15, none⟩ = some (.int .u64 l.qe) ∧ w.cell? ⟨g, 16, none⟩ = some (.int .i64 l.qn) ∧ w.cell? ⟨g, 17, none⟩ = some (.int .i64 l.fc) ∧ w.cell? ⟨g, 18, none⟩ = some (.int .u64 l.fe) ∧ w.cell? ⟨g, 19, none⟩ = some (.slice l.fA l.fn l.fp) ∧ w.cell? ⟨g, 20, none⟩ = some (.bool l.ff) ∧ w.cell? ⟨g, 21, none⟩ = some (.int .i64 l.fj) ∧ w.cell? ⟨g, 22, none⟩ = some (.slice l.vA l.vn l.vp) ∧ w.cell? ⟨g, 23, none⟩ = some (.slice l.uA l.un l.up) ∧ w.cell? ⟨g, 24, none⟩ = some (.slice l.dA l.dn l.dp) := by
  refine ⟨?_, ?_, ?_, ?_, ?_, ?_, ?_, ?_, ?_, ?_, ?_, ?_, ?_, ?_, ?_, ?_, ?_, ?_, ?_, ?_, ?_, ?_, ?_, ?_, ?_⟩ <;> (rw [h.cell]; rfl)
theorem lt_frozen {w : World} {g : Nat} {l : Lt} (h : Blk w g 75 l.cells) : w.frozen? ⟨g, 0, none⟩ = false ∧ w.frozen? ⟨g, 1, none⟩ = false ∧ w.frozen? ⟨g, 2, none⟩ = false ∧ w.frozen? ⟨g, 3, none⟩ = false ∧ w.frozen? ⟨g, 4, none⟩ = false ∧ w.frozen? ⟨g, 5, none⟩ = false ∧ w.frozen? ⟨g, 6, none⟩ = false ∧ w.frozen? ⟨g, 7, none⟩ = false ∧ w.frozen? ⟨g, 8, none⟩ = false ∧ w.frozen? ⟨g, 9, none⟩ = false ∧ w.frozen? ⟨g, 10, none⟩ = false ∧ w.frozen? ⟨g, 11, none⟩ = false ∧ w.frozen? ⟨g, 12, none⟩ = false ∧ w.frozen? ⟨g, 13, none⟩ = false ∧ w.frozen? ⟨g, 14, none⟩ = false ∧ w.frozen? ⟨g, 15, none⟩ = false ∧ w.frozen? ⟨g, 16, none⟩ = false ∧ w.frozen? ⟨g, 17, none⟩ = false ∧ w.frozen? ⟨g, 18, none⟩ = false ∧ w.frozen? ⟨g, 19, none⟩ = false ∧ w.frozen? ⟨g, 20, none⟩ = false ∧ w.frozen? ⟨g, 21, none⟩ = false ∧ w.frozen? ⟨g, 22, none⟩ = false ∧ w.frozen? ⟨g, 23, none⟩ = false ∧ w.frozen? ⟨g, 24, none⟩ = false :=
  ⟨h.frozen 0, h.frozen 1, h.frozen 2, h.frozen 3, h.frozen 4, h.frozen 5, h.frozen 6, h.frozen 7, h.frozen 8, h.frozen 9, h.frozen 10, h.frozen 11, h.frozen 12, h.frozen 13, h.frozen 14, h.frozen 15, h.frozen 16, h.frozen 17, h.frozen 18, h.frozen 19, h.frozen 20, h.frozen 21, h.frozen 22, h.frozen 23, h.frozen 24⟩
def Lt.zero : Lt := ⟨0, 0, 0, 0, 0, 0, 0, 0, 0, 0, 0, 0, 0, 0, 0, 0, 0, 0, 0, none, 0, 0, false, 0, none, 0, 0, none, 0, 0, none, 0, 0⟩
def bareRow (cap : Array Value) : Array Value := #[.int .i64 1, .func (.func 54) #[] cap, .int .i64 2, .func (.func 55) #[] cap, .int .i64 4, .func (.func 56) #[] cap, .int .i64 8, .func (.func 57) #[] cap, .int .i64 16, .func (.func 58) #[] cap, .int .i64 32, .func (.func 59) #[] cap, .int .i64 64, .func (.func 60) #[] cap, .int .i64 128, .func (.func 61) #[] cap, .int .i64 256, .func (.func 62) #[] cap, .int .i64 512, .func (.func 63) #[] cap, .int .i64 1024, .func (.func 64) #[] cap, .int .i64 2048, .func (.func 65) #[] cap, .int .i64 4096, .func (.func 66) #[] cap, .int .i64 8192, .func (.func 67) #[] cap, .int .i64 16384, .func (.func 68) #[] cap]
theorem bareRow_at (cap : Array Value) (j : Nat) (hj : j < 15) : (bareRow cap)[j * 2]? = some (.int .i64 (2 ^ j)) ∧ (bareRow cap)[j * 2 + 1]? = some (.func (.func (54 + j)) #[] cap) := by
  match j, hj with
  | 0, _ => exact ⟨rfl, rfl⟩
  | 1, _ => exact ⟨rfl, rfl⟩
  | 2, _ => exact ⟨rfl, rfl⟩
  | 3, _ => exact ⟨rfl, rfl⟩
  | 4, _ => exact ⟨rfl, rfl⟩
  | 5, _ => exact ⟨rfl, rfl⟩
  | 6, _ => exact ⟨rfl, rfl⟩
  | 7, _ => exact ⟨rfl, rfl⟩
  | 8, _ => exact ⟨rfl, rfl⟩
  | 9, _ => exact ⟨rfl, rfl⟩
  | 10, _ => exact ⟨rfl, rfl⟩
  | 11, _ => exact ⟨rfl, rfl⟩
  | 12, _ => exact ⟨rfl, rfl⟩
  | 13, _ => exact ⟨rfl, rfl⟩
  | 14, _ => exact ⟨rfl, rfl⟩
attribute [local go_sem] Lt.cells Lt.agg
theorem bare_lit (cap : Array Value) (w : World) : (Instr.buildSlice 96 15 #[(0, .agg #[.int .i64 1, .func (.func 54) #[] cap]), (1, .agg #[.int .i64 2, .func (.func 55) #[] cap]), (2, .agg #[.int .i64 4, .func (.func 56) #[] cap]), (3, .agg #[.int .i64 8, .func (.func 57) #[] cap]), (4, .agg #[.int .i64 16, .func (.func 58) #[] cap]), (5, .agg #[.int .i64 32, .func (.func 59) #[] cap]), (6, .agg #[.int .i64 64, .func (.func 60) #[] cap]), (7, .agg #[.int .i64 128, .func (.func 61) #[] cap]), (8, .agg #[.int .i64 256, .func (.func 62) #[] cap]), (9, .agg #[.int .i64 512, .func (.func 63) #[] cap]), (10, .agg #[.int .i64 1024, .func (.func 64) #[] cap]), (11, .agg #[.int .i64 2048, .func (.func 65) #[] cap]), (12, .agg #[.int .i64 4096, .func (.func 66) #[] cap]), (13, .agg #[.int .i64 8192, .func (.func 67) #[] cap]), (14, .agg #[.int .i64 16384, .func (.func 68) #[] cap])]).run Tryz.prog w = .ok (.slice (some ⟨w.heap.size, 0, none⟩) 15 15) (w.alloc (.cells #[.int .i64 1, .func (.func 54) #[] cap, .int .i64 2, .func (.func 55) #[] cap, .int .i64 4, .func (.func 56) #[] cap, .int .i64 8, .func (.func 57) #[] cap, .int .i64 16, .func (.func 58) #[] cap, .int .i64 32, .func (.func 59) #[] cap, .int .i64 64, .func (.func 60) #[] cap, .int .i64 128, .func (.func 61) #[] cap, .int .i64 256, .func (.func 62) #[] cap, .int .i64 512, .func (.func 63) #[] cap, .int .i64 1024, .func (.func 64) #[] cap, .int .i64 2048, .func (.func 65) #[] cap, .int .i64 4096, .func (.func 66) #[] cap, .int .i64 8192, .func (.func 67) #[] cap, .int .i64 16384, .func (.func 68) #[] cap] 95)) := by kernel_rfl
theorem bare_one (n : Int) (fn : Fn) (cap : Array Value) (w : World) : (Instr.build 95 #[(0, .int .i64 n), (1, .func fn #[] cap)]).run Tryz.prog w = .ok (.agg #[.int .i64 n, .func fn #[] cap]) w := by kernel_rfl
theorem push_modify (h : Array Obj) (x : Obj) (f : Obj → Obj) : (h.push x).modify h.size f = h.push (f x) := by
  apply Array.ext
  · simp
  · intro i h1 h2
    rw [Array.getElem_modify]
    by_cases e : h.size = i
    · subst e; simp
    · rw [if_neg e]
      have : i < h.size := by simp at h2; omega
      rw [Array.getElem_push_lt this, Array.getElem_push_lt this]
theorem setRow_new (w : World) (old cells : Array Value) (t : TypeId) : (w.alloc (.cells old t)).setRow w.heap.size cells = w.alloc (.cells cells t) := by
  unfold World.setRow World.alloc
  simp only [push_modify]
theorem wpList_store_fresh {P : Program} {ops : Array Oper} {rest : List Oper} {o : Oper} {a : Act} {w : World} {Q : Exit → Act → World → Prop} (hgd : o.guard = none) (ty : TypeId) (x y : Operand) (ho : o.op = .store ty x y)
    (cells : Array Value) (t : TypeId) (old : Array Value) (hx : a.eval x = .pointer (some ⟨w.heap.size, 0, none⟩)) (hy : a.eval y = .agg cells) (hi : (P.info? ty).map (·.size) = some cells.size)
    (hold : old.size = cells.size) (h1 : cells.all (·.oneCell') = true)
    (h : wpList P ops Q rest (a.put o.dst undef) (w.alloc (.cells cells t))) : wpList P ops Q (o :: rest) a (w.alloc (.cells old t)) :=
  wpList_store_row hgd ty x y ho w.heap.size cells hx hy t old (heap_alloc_new w _) hi hold h1 (by rw [setRow_new]; exact h)
theorem bare_hdr (a b c : Int) (w : World) : (Instr.build 75 #[(0, .int .i64 a), (1, .int .i64 b), (2, .int .i64 c)]).run Tryz.prog w = .ok (.agg #[.int .i64 a, .int .i64 b, .int .i64 c, .int .i64 0, .int .u64 0, .int .u64 0, .int .u64 0, .int .u64 0, .int .u64 0, .int .u64 0, .int .i64 0, .int .u32 0, .int .i64 0, .int .i64 0, .int .i64 0, .int .u64 0, .int .i64 0, .int .i64 0, .int .u64 0, .slice none 0 0, .bool false, .int .i64 0, .slice none 0 0, .slice none 0 0, .slice none 0 0]) w := by kernel_rfl
theorem bare_any (l : Lt) (k : Nat) (hk : k < 21) (hkd : l.kd = k) (w : World) (hK : KindsAt w) :
    Calls Tryz.prog 44 #[l.agg] w fun e w' => e = .returned (l.mask (partF k 15)).agg ∧ Below w.heap.size w w' := by
  have hmf : ∀ (fn : Fn) (first cap : Array Value) (w : World), (Instr.makeFunc fn first cap).run Tryz.prog w = .ok (.func fn first cap) w := fun _ _ _ _ => rfl
  have HK := Lib.hid hK
  have q0 := hK.cell k 0 hk (by omega)
  have q1 := hK.cell k 1 hk (by omega)
  have q2 := hK.cell k 2 hk (by omega)
  have q3 := hK.cell k 3 hk (by omega)
  have q4 := hK.cell k 4 hk (by omega)
  have q5 := hK.cell k 5 hk (by omega)
  have hki : (k : Int) < 21 := by omega
  have h0w : 0 < w.heap.size := hK.lt
  have i0 : ∀ w, (Instr.index 91 (.agg #[.int .i64 (kindP k 0), .int .i64 (kindP k 1), .int .i64 (kindP k 2), .int .i64 (kindP k 3), .int .i64 (kindP k 4), .int .i64 (kindP k 5)]) (.int .i64 0)).run Tryz.prog w = .ok (.int .i64 (kindP k 0)) w := fun _ => by kernel_rfl
  have i1 : ∀ w, (Instr.index 91 (.agg #[.int .i64 (kindP k 0), .int .i64 (kindP k 1), .int .i64 (kindP k 2), .int .i64 (kindP k 3), .int .i64 (kindP k 4), .int .i64 (kindP k 5)]) (.int .i64 1)).run Tryz.prog w = .ok (.int .i64 (kindP k 1)) w := fun _ => by kernel_rfl
  have i2 : ∀ w, (Instr.index 91 (.agg #[.int .i64 (kindP k 0), .int .i64 (kindP k 1), .int .i64 (kindP k 2), .int .i64 (kindP k 3), .int .i64 (kindP k 4), .int .i64 (kindP k 5)]) (.int .i64 2)).run Tryz.prog w = .ok (.int .i64 (kindP k 2)) w := fun _ => by kernel_rfl
  have i3 : ∀ w, (Instr.index 91 (.agg #[.int .i64 (kindP k 0), .int .i64 (kindP k 1), .int .i64 (kindP k 2), .int .i64 (kindP k 3), .int .i64 (kindP k 4), .int .i64 (kindP k 5)]) (.int .i64 3)).run Tryz.prog w = .ok (.int .i64 (kindP k 3)) w := fun _ => by kernel_rfl
  have i4 : ∀ w, (Instr.index 91 (.agg #[.int .i64 (kindP k 0), .int .i64 (kindP k 1), .int .i64 (kindP k 2), .int .i64 (kindP k 3), .int .i64 (kindP k 4), .int .i64 (kindP k 5)]) (.int .i64 4)).run Tryz.prog w = .ok (.int .i64 (kindP k 4)) w := fun _ => by kernel_rfl
  have i5 : ∀ w, (Instr.index 91 (.agg #[.int .i64 (kindP k 0), .int .i64 (kindP k 1), .int .i64 (kindP k 2), .int .i64 (kindP k 3), .int .i64 (kindP k 4), .int .i64 (kindP k 5)]) (.int .i64 5)).run Tryz.prog w = .ok (.int .i64 (kindP k 5)) w := fun _ => by kernel_rfl
  clear hK
  go_enter Tryz.func44, Tryz.ntmps44
  go_wp2_with (fail)
  obtain ⟨W0, hW0⟩ : ∃ W0, W0 = (w.alloc (.cells #[.int .i64 (k : Int), .int .i64 l.fr, .int .i64 l.tw, .int .i64 l.ch, .int .u64 l.ep, .int .u64 l.bl, .int .u64 l.nu, .int .u64 l.sq, .int .u64 l.dz, .int .u64 l.vr, .int .i64 l.sl, .int .u32 l.ky, .int .i64 l.cd, .int .i64 l.qk, .int .i64 l.qc, .int .u64 l.qe, .int .i64 l.qn, .int .i64 l.fc, .int .u64 l.fe, .slice l.fA l.fn l.fp, .bool l.ff, .int .i64 l.fj, .slice l.vA l.vn l.vp, .slice l.uA l.un l.up, .slice l.dA l.dn l.dp] 75)).alloc (.cells #[.int .i64 0, .int .i64 0, .int .i64 0, .int .i64 0, .int .u64 0, .int .u64 0, .int .u64 0, .int .u64 0, .int .u64 0, .int .u64 0, .int .i64 0, .int .u32 0, .int .i64 0, .int .i64 0, .int .i64 0, .int .u64 0, .int .i64 0, .int .i64 0, .int .u64 0, .slice none 0 0, .bool false, .int .i64 0, .slice none 0 0, .slice none 0 0, .slice none 0 0] 75) := ⟨_, rfl⟩
  rw [← hW0]
  have HB1 : Hid (Blk W0 w.heap.size 75 l.cells) := Lib.hid (by
    rw [hW0, show l.cells = #[.int .i64 (k : Int), .int .i64 l.fr, .int .i64 l.tw, .int .i64 l.ch, .int .u64 l.ep, .int .u64 l.bl, .int .u64 l.nu, .int .u64 l.sq, .int .u64 l.dz, .int .u64 l.vr, .int .i64 l.sl, .int .u32 l.ky, .int .i64 l.cd, .int .i64 l.qk, .int .i64 l.qc, .int .u64 l.qe, .int .i64 l.qn, .int .i64 l.fc, .int .u64 l.fe, .slice l.fA l.fn l.fp, .bool l.ff, .int .i64 l.fj, .slice l.vA l.vn l.vp, .slice l.uA l.un l.up, .slice l.dA l.dn l.dp] from by unfold Lt.cells; rw [hkd]]
    exact (Blk.new w _ _).alloc _)
  have HB2 : Hid (Blk W0 (w.heap.size + 1) 75 Lt.zero.cells) := Lib.hid (by rw [hW0]; exact blk_at7 _ _ Lt.zero.cells _ (by simp))
  have HBW : Hid (Below w.heap.size w W0) := Lib.hid (by rw [hW0]; repeat (first | with_reducible exact Below.refl _ _ | with_reducible refine Below.setCell ?_ (by first | omega | (simp <;> omega)) _ | with_reducible refine Below.alloc ?_ (by first | omega | (simp <;> omega)) _ | with_reducible refine below_drewN ?_ _ | with_reducible refine Below.drew ?_))
  have hsz : W0.heap.size = w.heap.size + 2 := by rw [hW0]; simp
  have HKD := Lib.hid hkd
  clear hW0
  go_loopw [3, 5, 14] (fun bv _ iv wr => ∃ z : Int, 0 ≤ z ∧ z ≤ 6 ∧ iv = .int .i64 z ∧ bv = .int .i64 (orK k z.toNat) ∧ W0 = wr) (fun _ _ iv _ => 6 - (intOf iv).toNat)
  case atStart => exact ⟨0, by omega, by omega, rfl, rfl, rfl⟩
  case round =>
    obtain ⟨z, hz0, hz6, rfl, rfl, rfl⟩ := hrel
    by_cases hlt : z < 6
    · have HS : Hid (∀ j, orK k (j + 1) = bits .or .i64 (orK k j) (kindP k j)) := Lib.hid (fun _ => rfl)
      clear q0 q1 q2 q3 q4 q5
      have hjj : z = 0 ∨ z = 1 ∨ z = 2 ∨ z = 3 ∨ z = 4 ∨ z = 5 := by omega
      rcases hjj with rfl | rfl | rfl | rfl | rfl | rfl
      all_goals (
        clear hlt hz0 hz6
        go_wp2_with (fail)
        go_roundw
        case rel => exact ⟨_, by omega, by omega, rfl, rfl, (by first | rfl | trivial)⟩
        case measure => decide)
    · obtain rfl : z = 6 := by omega
      obtain ⟨r0, r1, r2, _⟩ := lt_cells HB1.out
      obtain ⟨cap, hcap⟩ : ∃ cap : Array Value, #[Value.pointer (some ⟨w.heap.size, 0, none⟩), .pointer (some ⟨w.heap.size + 2, 0, none⟩)] = cap := ⟨_, rfl⟩
      have hhdr := fun a b c w => bare_hdr a b c w
      have hone := fun n fn w => bare_one n fn cap w
      have hlit := fun w => bare_lit cap w
      have HOR : Hid (orK k (Int.toNat 6) = orK k 6) := Lib.hid rfl
      go_upto_region 7 with (fail)
      iterate 25 go_step
      refine wpList_store_fresh rfl 75 (.tmp 6) (.tmp 27) rfl _ _ _ (by rw [hsz]; rfl) rfl (by kernel_rfl) rfl (by first | kernel_rfl | (simp [Value.oneCell'])) ?_
      go_wp2_with (fail)
      obtain ⟨W1, hW1⟩ : ∃ W1, W1 = (W0.alloc (.cells #[.int .i64 (k : Int), .int .i64 l.fr, .int .i64 l.tw, .int .i64 0, .int .u64 0, .int .u64 0, .int .u64 0, .int .u64 0, .int .u64 0, .int .u64 0, .int .i64 0, .int .u32 0, .int .i64 0, .int .i64 0, .int .i64 0, .int .u64 0, .int .i64 0, .int .i64 0, .int .u64 0, .slice none 0 0, .bool false, .int .i64 0, .slice none 0 0, .slice none 0 0, .slice none 0 0] 75)).alloc (.cells #[.int .i64 1, .func (.func 54) #[] cap, .int .i64 2, .func (.func 55) #[] cap, .int .i64 4, .func (.func 56) #[] cap, .int .i64 8, .func (.func 57) #[] cap, .int .i64 16, .func (.func 58) #[] cap, .int .i64 32, .func (.func 59) #[] cap, .int .i64 64, .func (.func 60) #[] cap, .int .i64 128, .func (.func 61) #[] cap, .int .i64 256, .func (.func 62) #[] cap, .int .i64 512, .func (.func 63) #[] cap, .int .i64 1024, .func (.func 64) #[] cap, .int .i64 2048, .func (.func 65) #[] cap, .int .i64 4096, .func (.func 66) #[] cap, .int .i64 8192, .func (.func 67) #[] cap, .int .i64 16384, .func (.func 68) #[] cap] 95) := ⟨_, rfl⟩
      rw [← hW1]
      have HC1 : Hid (Blk W1 w.heap.size 75 l.cells) := Lib.hid (by rw [hW1]; exact (HB1.out.alloc _).alloc _)
      have HC2 : Hid (Blk W1 (w.heap.size + 1) 75 Lt.zero.cells) := Lib.hid (by rw [hW1]; exact (HB2.out.alloc _).alloc _)
      have HC3 : Hid (Blk W1 (w.heap.size + 2) 75 (l.mask (partF k 0)).cells) := Lib.hid (by
        rw [hW1, show (l.mask (partF k 0)).cells = #[.int .i64 (k : Int), .int .i64 l.fr, .int .i64 l.tw, .int .i64 0, .int .u64 0, .int .u64 0, .int .u64 0, .int .u64 0, .int .u64 0, .int .u64 0, .int .i64 0, .int .u32 0, .int .i64 0, .int .i64 0, .int .i64 0, .int .u64 0, .int .i64 0, .int .i64 0, .int .u64 0, .slice none 0 0, .bool false, .int .i64 0, .slice none 0 0, .slice none 0 0, .slice none 0 0] from (by rw [← hkd]; rfl)]
        exact (blk_at7 _ _ _ _ hsz.symm).alloc _)
      have HC4 : Hid (Blk W1 (w.heap.size + 3) 95 (bareRow cap)) := Lib.hid (by rw [hW1]; exact blk_at7 _ _ (bareRow cap) _ (by simp [hsz]))
      have HCW : Hid (Below w.heap.size w W1) := Lib.hid (by rw [hW1]; exact (HBW.out.alloc (by omega) _).alloc (by simp; omega) _)
      clear hW1 HB1 HB2 HBW hsz r0 r1 r2 hhdr hone hlit q0 q1 q2 q3 q4 q5 i0 i1 i2 i3 i4 i5 hmf hki
      go_loopw [8, 60] (fun _ iv wr => ∃ j : Nat, j ≤ 15 ∧ iv = .int .i64 j ∧ Below w.heap.size w wr ∧ Blk wr w.heap.size 75 l.cells ∧ Blk wr (w.heap.size + 1) 75 Lt.zero.cells ∧ Blk wr (w.heap.size + 2) 75 (l.mask (partF k j)).cells ∧ Blk wr (w.heap.size + 3) 95 (bareRow cap)) (fun _ iv _ => 15 - (intOf iv).toNat)
      case atStart => exact ⟨0, by omega, rfl, HCW.out, HC1.out, HC2.out, HC3.out, HC4.out⟩
      case round =>
        obtain ⟨j, hj, rfl, hbw, hc1, hc2, hc3, hc4⟩ := hrel
        have HD1 := Lib.hid hc1
        have HD2 := Lib.hid hc2
        have HD3 := Lib.hid hc3
        have HD4 := Lib.hid hc4
        have HDW := Lib.hid hbw
        by_cases hlt : j < 15
        · have f0 := (hc4.cell (j * 2)).trans (bareRow_at cap j hlt).1
          have f1 := (hc4.cell (j * 2 + 1)).trans (bareRow_at cap j hlt).2
          have l4 := hc4.lt
          have hl2 : (j : Int) < 15 := by omega
          clear hc1 hc2 hc3 hc4 hbw
          have hent := bare_enter j hlt
          have HBE : Hid (∀ W, Blk W w.heap.size 75 l.cells → Blk W (w.heap.size + 2) 75 (l.mask (partF k j)).cells → Calls Tryz.prog (54 + j) cap W (BareP l (partF k j) j (w.heap.size + 2) W)) := Lib.hid (fun W hb ho => by rw [← hcap]; exact bareF_any l (partF k j) w.heap.size (w.heap.size + 2) j hlt W hb ho (by omega))
          have HHC := Lib.hid hcap
          clear hcap
          go_wp2_with (fail)
          · have hbit : hasB k j = true := by unfold hasB; assumption
            refine (HBE.out _ (HD1.out.alloc _) (HD3.out.alloc _)).mono ?_
            rintro e W2 ⟨rfl, hm2, hch⟩
            have HN1 := Lib.hid (hch.blk (HD1.out.alloc _) (by simp [isB]))
            have HN2 := Lib.hid (hch.blk (HD2.out.alloc _) (by simp [isB]))
            have HN4 := Lib.hid (hch.blk (HD4.out.alloc _) (by simp [isB]))
            have HNW := Lib.hid ((HDW.out.alloc (by omega) _).trans (hch.below (B := w.heap.size) (by simp; omega) (by intro k hk; simp [isB]; omega)))
            have HN3 : Hid (Blk W2 (w.heap.size + 2) 75 (l.mask (partF k (j + 1))).cells) := Lib.hid (by rw [partF_yes k j hbit] ; exact hm2)
            clear hm2 hch f0 f1 l4
            go_wp2_with (fail)
            exact ⟨⟨j + 1, by omega, by simp, HNW.out, HN1.out, HN2.out, HN3.out, HN4.out⟩, by simp [intOf]; omega⟩
          · have hbit : hasB k j = false := by unfold hasB; assumption
            refine ⟨⟨j + 1, by omega, by simp, HDW.out.alloc (by omega) _, HD1.out.alloc _, HD2.out.alloc _, ?_, HD4.out.alloc _⟩, by simp [intOf]; omega⟩
            rw [partF_no k j hbit]
            exact HD3.out.alloc _
        · obtain rfl : j = 15 := by omega
          obtain ⟨m, hm⟩ : ∃ m, m = l.mask (partF k 15) := ⟨_, rfl⟩
          rw [← hm] at hc3
          clear HD1 HD4 HD3
          obtain ⟨fs, hu⟩ : ∃ fs, Tryz.prog.underlying 75 = some (.struct fs) := ⟨_, rfl⟩
          have hi : (Tryz.prog.info? 75).map (·.size) = some m.cells.size := by kernel_rfl
          go_upto_region 14 with (fail)
          go_step
          refine wpList_load_row rfl 75 (.tmp 6) rfl (w.heap.size + 2) rfl 75 m.cells (0, 0) (.struct fs) hc3 hu rfl hi ?_
          refine wpList_store_row rfl 75 (.tmp 2) (.tmp 73) rfl (w.heap.size + 1) m.cells rfl rfl 75 Lt.zero.cells hc2 hi rfl (by first | kernel_rfl | (simp [Lt.cells, Value.oneCell'])) ?_
          go_wp2_with (fail)
          refine bodyPost_ret_by (v := .agg m.cells) (results_cell_row Tryz.results44 _ _ (w.heap.size + 1) 75 m.cells (0, 0) (.struct fs) rfl (setRow_heap _ _ _ _ _ _ hc2) hu rfl hi) rfl ⟨?_, ?_⟩
          · rw [← hm]; rfl
          · exact below_setRow hbw (by omega) _
end Go.Proofs.YtfcjkkjgedcgpaaGreatDoor
