/- A board of counts: NewBoard, Add, At. -/
import Derived.Test.YtnnegldaekmgbaaGreatDoorZGD
namespace Go.Proofs.YtnnegldaekmgbaaGreatDoor
open Go.RowKit
set_option linter.unusedSimpArgs false
set_option linter.unusedVariables false
set_option maxRecDepth 100000
set_option maxHeartbeats 4000000

theorem a64add_any (a : Addr) (x y : Int) (w : World) (hr : IntKind.i64.wrap (x + y) = x + y) (hc : w.cell? a = some (.int .i64 x)) (hz : w.frozen? a = false) : Calls Tryz.prog 136 #[.pointer (some a), .int .i64 y] w fun e w' => e = .returned (.int .i64 (x + y)) ∧ w' = w.setCell a (.int .i64 (x + y)) := by
  have hadd := run_call_add (P := Tryz.prog) Tryz.func207 (by kernel_rfl) (by kernel_rfl) (by kernel_rfl) .i64 (by kernel_rfl) (y := y) (s := x + y) hc hz (by simp [go_sem, hr])
  go_enter Tryz.func136, Tryz.ntmps136
  go_wp2
  go_ret
  exact ⟨rfl, rfl⟩
theorem a64load_any (a : Addr) (x : Int) (w : World) (hc : w.cell? a = some (.int .i64 x)) : Calls Tryz.prog 146 #[.pointer (some a)] w fun e w' => e = .returned (.int .i64 x) ∧ w = w' := by
  have hl := run_call_load (P := Tryz.prog) Tryz.func212 (by kernel_rfl) (by kernel_rfl) (by kernel_rfl) .i64 (by kernel_rfl) hc
  go_enter Tryz.func146, Tryz.ntmps146
  go_wp2
  go_ret
  exact ⟨rfl, rfl⟩
/-- a board's counts -/
structure Bd where
  a : Int
  b : Int
  c : Int
  d : Int
def Bd.cells (s : Bd) : Array Value := #[.int .i64 s.a, .int .i64 s.b, .int .i64 s.c, .int .i64 s.d, .int .i64 0, .int .i64 0, .int .i64 0, .int .i64 0, .int .i64 0, .int .i64 0, .int .i64 0, .int .i64 0, .int .i64 0, .int .i64 0, .int .i64 0, .int .i64 0]
def BdAt (w : World) (g : Nat) (s : Bd) : Prop := Blk w g 223 s.cells
def Bd.get (s : Bd) (i : Nat) : Int := match i with
  | 0 => s.a
  | 1 => s.b
  | 2 => s.c
  | 3 => s.d
  | _ => 0
def Bd.add (s : Bd) (i : Nat) (n : Int) : Bd := match i with
  | 0 => { s with a := s.a + n }
  | 1 => { s with b := s.b + n }
  | 2 => { s with c := s.c + n }
  | 3 => { s with d := s.d + n }
  | _ => s
theorem bdNew_any (w : World) : Calls Tryz.prog 73 #[] w fun e w' => e = .returned (.pointer (some ⟨w.heap.size, 0, none⟩)) ∧ BdAt w' w.heap.size ⟨0, 0, 0, 0⟩ ∧ Below w.heap.size w w' := by
  go_enter Tryz.func73, Tryz.ntmps73
  go_wp2
  go_ret
  exact ⟨rfl, Blk.new _ _ _, (Below.refl _ _).alloc (Nat.le_refl _) _⟩
theorem bdOn_any (g : Nat) (i : Nat) (hi : i < 4) (w : World) : Calls Tryz.prog 135 #[.pointer (some ⟨g, 0, none⟩), .int .i64 i] w fun e w' => e = .returned (.bool true) ∧ w = w' := by
  have h1 : (i : Int) < 16 := by omega
  go_enter Tryz.func135, Tryz.ntmps135
  go_wp2_with (fail)
  go_ret
  exact ⟨rfl, rfl⟩
theorem Bd.cell (s : Bd) (i : Nat) (hi : i < 4) : s.cells[i]? = some (.int .i64 (s.get i)) := by
  match i, hi with
  | 0, _ => rfl
  | 1, _ => rfl
  | 2, _ => rfl
  | 3, _ => rfl
  | (n + 4), h => omega
theorem Bd.set (s : Bd) (i : Nat) (hi : i < 4) (n : Int) {w : World} {g : Nat} (h : BdAt w g s) : BdAt (w.setCell ⟨g, i, none⟩ (.int .i64 (s.get i + n))) g (s.add i n) := by
  have := Blk.set_ h i (.int .i64 (s.get i + n))
  match i, hi with
  | 0, _ => exact this
  | 1, _ => exact this
  | 2, _ => exact this
  | 3, _ => exact this
  | (n + 4), h => omega
theorem bdAdd_any (g : Nat) (s : Bd) (i : Nat) (hi : i < 4) (n : Int) (w : World) (hr : IntKind.i64.wrap (s.get i + n) = s.get i + n) (h : BdAt w g s) : Calls Tryz.prog 76 #[.pointer (some ⟨g, 0, none⟩), .int .i64 i, .int .i64 n] w fun e w' => e = .returned (.bool true) ∧ BdAt w' g (s.add i n) ∧ Chg w w' (fun k => k = g) := by
  have c0 := (Blk.cell h i).trans (s.cell i hi)
  have f0 := Blk.frozen h i
  have hl := Blk.lt h
  have ON := bdOn_any g i hi
  have AD := Lib.hid (a64add_any ⟨g, i, none⟩ (s.get i) n w hr c0 f0)
  have HS := Lib.hid (s.set i hi n h)
  have h1 : (i : Int) < 16 := by omega
  clear h
  go_enter Tryz.func76, Tryz.ntmps76
  go_wp2_with (first | (go_at_call 135; refine (ON _).mono ?_; rintro e w' ⟨rfl, rfl⟩) | fail)
  refine AD.out.mono ?_
  rintro e w' ⟨rfl, rfl⟩
  go_wp2_with (fail)
  go_ret
  exact ⟨rfl, HS.out, ⟨rfl, rfl, rfl, by simp [World.setCell], fun k hk hn => Below.heap_setCell _ _ _ k hn⟩⟩
theorem bdAt_any (g : Nat) (s : Bd) (i : Nat) (hi : i < 4) (w : World) (h : BdAt w g s) : Calls Tryz.prog 88 #[.pointer (some ⟨g, 0, none⟩), .int .i64 i] w fun e w' => e = .returned (.int .i64 (s.get i)) ∧ w = w' := by
  have c0 := (Blk.cell h i).trans (s.cell i hi)
  have hl := Blk.lt h
  have ON := bdOn_any g i hi
  have AD := Lib.hid (fun w h => a64load_any ⟨g, i, none⟩ (s.get i) w h)
  have h1 : (i : Int) < 16 := by omega
  clear h
  go_enter Tryz.func88, Tryz.ntmps88
  go_wp2_with (first | (go_at_call 135; refine (ON _).mono ?_; rintro e w' ⟨rfl, rfl⟩) | fail)
  refine (AD.out _ c0).mono ?_
  rintro e w' ⟨rfl, rfl⟩
  go_wp2_with (fail)
  go_ret
  exact ⟨rfl, rfl⟩
end Go.Proofs.YtnnegldaekmgbaaGreatDoor
