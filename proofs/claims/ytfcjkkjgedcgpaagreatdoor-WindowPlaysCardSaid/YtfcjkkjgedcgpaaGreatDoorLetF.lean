/- What letter demands of each part, of letters of one update; the parts' functions. -/
import Derived.Test.YtfcjkkjgedcgpaaGreatDoorLetE

namespace Go.Proofs.YtfcjkkjgedcgpaaGreatDoor
open Go.RowKit
set_option linter.unusedSimpArgs false
set_option linter.unusedVariables false
set_option maxHeartbeats 8000000
set_option maxRecDepth 100000

theorem fineCh_any (k : Int) (A : Option Addr) (c : Nat) (w : World) : Calls Tryz.prog 72 #[(uLt k A c).agg] w fun e w' => e = .returned (.bool true) ∧ Below w.heap.size w w' := by
  show Calls Tryz.prog 72 #[.agg #[.int .i64 k, .int .i64 1, .int .i64 1, .int .i64 0, .int .u64 1, .int .u64 0, .int .u64 0, .int .u64 0, .int .u64 0, .int .u64 0, .int .i64 0, .int .u32 0, .int .i64 0, .int .i64 0, .int .i64 0, .int .u64 0, .int .i64 0, .int .i64 0, .int .u64 0, .slice none 0 0, .bool false, .int .i64 0, .slice none 0 0, .slice A 1 c, .slice none 0 0]] w _
  go_enter Tryz.func72, Tryz.ntmps72
  go_upto_region 1 with (fail)
  obtain ⟨W0, hW0⟩ : ∃ W0, W0 = w.alloc (.cells #[.int .i64 k, .int .i64 1, .int .i64 1, .int .i64 0, .int .u64 1, .int .u64 0, .int .u64 0, .int .u64 0, .int .u64 0, .int .u64 0, .int .i64 0, .int .u32 0, .int .i64 0, .int .i64 0, .int .i64 0, .int .u64 0, .int .i64 0, .int .i64 0, .int .u64 0, .slice none 0 0, .bool false, .int .i64 0, .slice none 0 0, .slice A 1 c, .slice none 0 0] 75) := ⟨_, rfl⟩
  rw [← hW0]
  have hb1 : Blk W0 w.heap.size 75 (uLt k A c).cells := by rw [hW0]; exact Blk.new w _ _
  have x0 := (hb1.cell 3).trans (show _ = some (.int .i64 0) from rfl)
  have HBW : Hid (Below w.heap.size w W0) := Lib.hid (by rw [hW0]; repeat (first | with_reducible exact Below.refl _ _ | with_reducible refine Below.setCell ?_ (by first | omega | (simp <;> omega)) _ | with_reducible refine Below.alloc ?_ (by first | omega | (simp <;> omega)) _ | with_reducible refine below_drewN ?_ _ | with_reducible refine Below.drew ?_))
  clear hW0 hb1
  go_wp2_with (fail)
  go_ret
  exact ⟨rfl, HBW.out⟩
theorem fineEp_any (k : Int) (A : Option Addr) (c : Nat) (w : World) : Calls Tryz.prog 77 #[(uLt k A c).agg] w fun e w' => e = .returned (.bool true) ∧ Below w.heap.size w w' := by
  show Calls Tryz.prog 77 #[.agg #[.int .i64 k, .int .i64 1, .int .i64 1, .int .i64 0, .int .u64 1, .int .u64 0, .int .u64 0, .int .u64 0, .int .u64 0, .int .u64 0, .int .i64 0, .int .u32 0, .int .i64 0, .int .i64 0, .int .i64 0, .int .u64 0, .int .i64 0, .int .i64 0, .int .u64 0, .slice none 0 0, .bool false, .int .i64 0, .slice none 0 0, .slice A 1 c, .slice none 0 0]] w _
  go_enter Tryz.func77, Tryz.ntmps77
  go_upto_region 1 with (fail)
  obtain ⟨W0, hW0⟩ : ∃ W0, W0 = w.alloc (.cells #[.int .i64 k, .int .i64 1, .int .i64 1, .int .i64 0, .int .u64 1, .int .u64 0, .int .u64 0, .int .u64 0, .int .u64 0, .int .u64 0, .int .i64 0, .int .u32 0, .int .i64 0, .int .i64 0, .int .i64 0, .int .u64 0, .int .i64 0, .int .i64 0, .int .u64 0, .slice none 0 0, .bool false, .int .i64 0, .slice none 0 0, .slice A 1 c, .slice none 0 0] 75) := ⟨_, rfl⟩
  rw [← hW0]
  have hb1 : Blk W0 w.heap.size 75 (uLt k A c).cells := by rw [hW0]; exact Blk.new w _ _
  have x0 := (hb1.cell 4).trans (show _ = some (.int .u64 1) from rfl)
  have HBW : Hid (Below w.heap.size w W0) := Lib.hid (by rw [hW0]; repeat (first | with_reducible exact Below.refl _ _ | with_reducible refine Below.setCell ?_ (by first | omega | (simp <;> omega)) _ | with_reducible refine Below.alloc ?_ (by first | omega | (simp <;> omega)) _ | with_reducible refine below_drewN ?_ _ | with_reducible refine Below.drew ?_))
  clear hW0 hb1
  go_wp2_with (fail)
  go_ret
  exact ⟨rfl, HBW.out⟩
theorem fineAny_any (k : Int) (A : Option Addr) (c : Nat) (w : World) : Calls Tryz.prog 82 #[(uLt k A c).agg] w fun e w' => e = .returned (.bool true) ∧ Below w.heap.size w w' := by
  show Calls Tryz.prog 82 #[.agg #[.int .i64 k, .int .i64 1, .int .i64 1, .int .i64 0, .int .u64 1, .int .u64 0, .int .u64 0, .int .u64 0, .int .u64 0, .int .u64 0, .int .i64 0, .int .u32 0, .int .i64 0, .int .i64 0, .int .i64 0, .int .u64 0, .int .i64 0, .int .i64 0, .int .u64 0, .slice none 0 0, .bool false, .int .i64 0, .slice none 0 0, .slice A 1 c, .slice none 0 0]] w _
  go_enter Tryz.func82, Tryz.ntmps82
  go_upto_region 1 with (fail)
  obtain ⟨W0, hW0⟩ : ∃ W0, W0 = w.alloc (.cells #[.int .i64 k, .int .i64 1, .int .i64 1, .int .i64 0, .int .u64 1, .int .u64 0, .int .u64 0, .int .u64 0, .int .u64 0, .int .u64 0, .int .i64 0, .int .u32 0, .int .i64 0, .int .i64 0, .int .i64 0, .int .u64 0, .int .i64 0, .int .i64 0, .int .u64 0, .slice none 0 0, .bool false, .int .i64 0, .slice none 0 0, .slice A 1 c, .slice none 0 0] 75) := ⟨_, rfl⟩
  rw [← hW0]
  have hb1 : Blk W0 w.heap.size 75 (uLt k A c).cells := by rw [hW0]; exact Blk.new w _ _
  have x0 := (hb1.cell 0).trans (show _ = some (.int .i64 k) from rfl)
  have HBW : Hid (Below w.heap.size w W0) := Lib.hid (by rw [hW0]; repeat (first | with_reducible exact Below.refl _ _ | with_reducible refine Below.setCell ?_ (by first | omega | (simp <;> omega)) _ | with_reducible refine Below.alloc ?_ (by first | omega | (simp <;> omega)) _ | with_reducible refine below_drewN ?_ _ | with_reducible refine Below.drew ?_))
  clear hW0 hb1
  go_wp2_with (fail)
  go_ret
  exact ⟨rfl, HBW.out⟩
theorem small_any (n : Int) (f q : Fn) (w : World) : Calls Tryz.prog 71 #[.int .i64 n, .func f #[] #[], .func q #[] #[]] w fun e w' => ∃ x y z : Array Value, e = .returned (.agg #[.func f #[] #[], .func (.func 88) #[] x, .func (.func 90) #[] y]) ∧ Below w.heap.size w w' := by
  go_enter Tryz.func71, Tryz.ntmps71
  go_wp2_with (fail)
  refine bodyPost_ret (v := .agg #[.func f #[] #[], .func (.func 88) #[] #[.pointer (some ⟨w.heap.size + 1, 0, none⟩), .pointer (some ⟨w.heap.size, 0, none⟩)], .func (.func 90) #[] #[.pointer (some ⟨w.heap.size, 0, none⟩), .pointer (some ⟨w.heap.size + 1, 0, none⟩)]]) (by simp [results, Tryz.results71, go_sem]) rfl ?_
  exact ⟨_, _, #[], rfl, by repeat (first | with_reducible exact Below.refl _ _ | with_reducible refine Below.setCell ?_ (by first | omega | (simp <;> omega)) _ | with_reducible refine Below.alloc ?_ (by first | omega | (simp <;> omega)) _ | with_reducible refine below_drewN ?_ _ | with_reducible refine Below.drew ?_)⟩
theorem word_any (f q : Fn) (w : World) : Calls Tryz.prog 76 #[.func f #[] #[], .func q #[] #[]] w fun e w' => ∃ x y z : Array Value, e = .returned (.agg #[.func f #[] #[], .func (.func 92) #[] x, .func (.func 93) #[] y]) ∧ Below w.heap.size w w' := by
  go_enter Tryz.func76, Tryz.ntmps76
  go_wp2_with (fail)
  refine bodyPost_ret (v := .agg #[.func f #[] #[], .func (.func 92) #[] #[.pointer (some ⟨w.heap.size, 0, none⟩)], .func (.func 93) #[] #[.pointer (some ⟨w.heap.size, 0, none⟩)]]) (by simp [results, Tryz.results76, go_sem]) rfl ?_
  exact ⟨_, _, #[], rfl, by repeat (first | with_reducible exact Below.refl _ _ | with_reducible refine Below.setCell ?_ (by first | omega | (simp <;> omega)) _ | with_reducible refine Below.alloc ?_ (by first | omega | (simp <;> omega)) _ | with_reducible refine below_drewN ?_ _ | with_reducible refine Below.drew ?_)⟩
/-- a part whose demand is the function f -/
def PartOf (f : FuncId) (w : World) (e : Ending) (w' : World) : Prop := ∃ (a b : Fn) (x y : Array Value), e = .returned (.agg #[.func (.func f) #[] #[], .func a #[] x, .func b #[] y]) ∧ Below w.heap.size w w'
theorem of1_any (w : World) : Calls Tryz.prog 69 #[.int .i64 1] w (PartOf 72 w) := by
  have HB : Hid (Below w.heap.size w (w.alloc (.cells #[.nilFunc, .nilFunc, .nilFunc] 85))) := Lib.hid (by repeat (first | with_reducible exact Below.refl _ _ | with_reducible refine Below.setCell ?_ (by first | omega | (simp <;> omega)) _ | with_reducible refine Below.alloc ?_ (by first | omega | (simp <;> omega)) _ | with_reducible refine below_drewN ?_ _ | with_reducible refine Below.drew ?_))
  have hblk : Hid (Blk (w.alloc (.cells #[.nilFunc, .nilFunc, .nilFunc] 85)) w.heap.size 85 #[.nilFunc, .nilFunc, .nilFunc]) := Lib.hid (Blk.new _ _ _)
  go_enter Tryz.func69, Tryz.ntmps69
  go_wp2_with (fail)
  refine (small_any 1 (.func 72) (.func 73) _).mono ?_
  rintro e w2 ⟨x, y, z, rfl, h⟩
  have hb2 := hblk.out.below h hblk.out.lt
  have hr : w2.heap[w.heap.size]? = some (.cells #[.nilFunc, .nilFunc, .nilFunc] 85 (0, 0)) := hb2
  have p0 := hb2.cell 0
  have p1 := hb2.cell 1
  have p2 := hb2.cell 2
  have z0 := hb2.frozen 0
  have z1 := hb2.frozen 1
  have z2 := hb2.frozen 2
  have hl := hb2.lt
  simp at p0 p1 p2
  have HB2 := Lib.hid (HB.out.trans (h.mono HB.out.size))
  clear h hb2 hr
  go_wp2_with (fail)
  refine bodyPost_ret (v := .agg #[.func (.func 72) #[] #[], _, _]) (by simp [results, Tryz.results69, go_sem, p0, p1, p2]; exact ⟨rfl, rfl⟩) rfl ?_
  exact ⟨_, _, _, _, rfl, by repeat (first | with_reducible exact HB2.out | with_reducible refine Below.setCell ?_ (by first | omega | (simp <;> omega) | simp) _)⟩
theorem of2_any (w : World) : Calls Tryz.prog 69 #[.int .i64 2] w (PartOf 77 w) := by
  have HB : Hid (Below w.heap.size w (w.alloc (.cells #[.nilFunc, .nilFunc, .nilFunc] 85))) := Lib.hid (by repeat (first | with_reducible exact Below.refl _ _ | with_reducible refine Below.setCell ?_ (by first | omega | (simp <;> omega)) _ | with_reducible refine Below.alloc ?_ (by first | omega | (simp <;> omega)) _ | with_reducible refine below_drewN ?_ _ | with_reducible refine Below.drew ?_))
  have hblk : Hid (Blk (w.alloc (.cells #[.nilFunc, .nilFunc, .nilFunc] 85)) w.heap.size 85 #[.nilFunc, .nilFunc, .nilFunc]) := Lib.hid (Blk.new _ _ _)
  go_enter Tryz.func69, Tryz.ntmps69
  go_wp2_with (fail)
  refine (word_any (.func 77) (.func 78) _).mono ?_
  rintro e w2 ⟨x, y, z, rfl, h⟩
  have hb2 := hblk.out.below h hblk.out.lt
  have hr : w2.heap[w.heap.size]? = some (.cells #[.nilFunc, .nilFunc, .nilFunc] 85 (0, 0)) := hb2
  have p0 := hb2.cell 0
  have p1 := hb2.cell 1
  have p2 := hb2.cell 2
  have z0 := hb2.frozen 0
  have z1 := hb2.frozen 1
  have z2 := hb2.frozen 2
  have hl := hb2.lt
  simp at p0 p1 p2
  have HB2 := Lib.hid (HB.out.trans (h.mono HB.out.size))
  clear h hb2 hr
  go_wp2_with (fail)
  refine bodyPost_ret (v := .agg #[.func (.func 77) #[] #[], _, _]) (by simp [results, Tryz.results69, go_sem, p0, p1, p2]; exact ⟨rfl, rfl⟩) rfl ?_
  exact ⟨_, _, _, _, rfl, by repeat (first | with_reducible exact HB2.out | with_reducible refine Below.setCell ?_ (by first | omega | (simp <;> omega) | simp) _)⟩
theorem of8_any (w : World) : Calls Tryz.prog 69 #[.int .i64 8] w (PartOf 82 w) := by
  have HB : Hid (Below w.heap.size w (w.alloc (.cells #[.nilFunc, .nilFunc, .nilFunc] 85))) := Lib.hid (by repeat (first | with_reducible exact Below.refl _ _ | with_reducible refine Below.setCell ?_ (by first | omega | (simp <;> omega)) _ | with_reducible refine Below.alloc ?_ (by first | omega | (simp <;> omega)) _ | with_reducible refine below_drewN ?_ _ | with_reducible refine Below.drew ?_))
  have hblk : Hid (Blk (w.alloc (.cells #[.nilFunc, .nilFunc, .nilFunc] 85)) w.heap.size 85 #[.nilFunc, .nilFunc, .nilFunc]) := Lib.hid (Blk.new _ _ _)
  go_enter Tryz.func69, Tryz.ntmps69
  go_wp2_with (fail)
  refine (word_any (.func 82) (.func 83) _).mono ?_
  rintro e w2 ⟨x, y, z, rfl, h⟩
  have hb2 := hblk.out.below h hblk.out.lt
  have hr : w2.heap[w.heap.size]? = some (.cells #[.nilFunc, .nilFunc, .nilFunc] 85 (0, 0)) := hb2
  have p0 := hb2.cell 0
  have p1 := hb2.cell 1
  have p2 := hb2.cell 2
  have z0 := hb2.frozen 0
  have z1 := hb2.frozen 1
  have z2 := hb2.frozen 2
  have hl := hb2.lt
  simp at p0 p1 p2
  have HB2 := Lib.hid (HB.out.trans (h.mono HB.out.size))
  clear h hb2 hr
  go_wp2_with (fail)
  refine bodyPost_ret (v := .agg #[.func (.func 82) #[] #[], _, _]) (by simp [results, Tryz.results69, go_sem, p0, p1, p2]; exact ⟨rfl, rfl⟩) rfl ?_
  exact ⟨_, _, _, _, rfl, by repeat (first | with_reducible exact HB2.out | with_reducible refine Below.setCell ?_ (by first | omega | (simp <;> omega) | simp) _)⟩
theorem of16_any (w : World) : Calls Tryz.prog 69 #[.int .i64 16] w (PartOf 82 w) := by
  have HB : Hid (Below w.heap.size w (w.alloc (.cells #[.nilFunc, .nilFunc, .nilFunc] 85))) := Lib.hid (by repeat (first | with_reducible exact Below.refl _ _ | with_reducible refine Below.setCell ?_ (by first | omega | (simp <;> omega)) _ | with_reducible refine Below.alloc ?_ (by first | omega | (simp <;> omega)) _ | with_reducible refine below_drewN ?_ _ | with_reducible refine Below.drew ?_))
  have hblk : Hid (Blk (w.alloc (.cells #[.nilFunc, .nilFunc, .nilFunc] 85)) w.heap.size 85 #[.nilFunc, .nilFunc, .nilFunc]) := Lib.hid (Blk.new _ _ _)
  go_enter Tryz.func69, Tryz.ntmps69
  go_wp2_with (fail)
  refine (word_any (.func 82) (.func 84) _).mono ?_
  rintro e w2 ⟨x, y, z, rfl, h⟩
  have hb2 := hblk.out.below h hblk.out.lt
  have hr : w2.heap[w.heap.size]? = some (.cells #[.nilFunc, .nilFunc, .nilFunc] 85 (0, 0)) := hb2
  have p0 := hb2.cell 0
  have p1 := hb2.cell 1
  have p2 := hb2.cell 2
  have z0 := hb2.frozen 0
  have z1 := hb2.frozen 1
  have z2 := hb2.frozen 2
  have hl := hb2.lt
  simp at p0 p1 p2
  have HB2 := Lib.hid (HB.out.trans (h.mono HB.out.size))
  clear h hb2 hr
  go_wp2_with (fail)
  refine bodyPost_ret (v := .agg #[.func (.func 82) #[] #[], _, _]) (by simp [results, Tryz.results69, go_sem, p0, p1, p2]; exact ⟨rfl, rfl⟩) rfl ?_
  exact ⟨_, _, _, _, rfl, by repeat (first | with_reducible exact HB2.out | with_reducible refine Below.setCell ?_ (by first | omega | (simp <;> omega) | simp) _)⟩
theorem other_any (w : World) : Calls Tryz.prog 87 #[.int .i64 8192] w fun e w' => e = .returned (.agg #[.func (.func 114) #[] #[], .func (.func 115) #[] #[], .func (.func 116) #[] #[]]) ∧ Below w.heap.size w w' := by
  go_enter Tryz.func87, Tryz.ntmps87
  go_wp2_with (fail)
  refine bodyPost_ret (v := .agg #[.func (.func 114) #[] #[], .func (.func 115) #[] #[], .func (.func 116) #[] #[]]) (by simp [results, Tryz.results87, go_sem]) rfl ?_
  exact ⟨rfl, by repeat (first | with_reducible exact Below.refl _ _ | with_reducible refine Below.setCell ?_ (by first | omega | (simp <;> omega)) _ | with_reducible refine Below.alloc ?_ (by first | omega | (simp <;> omega)) _ | with_reducible refine below_drewN ?_ _ | with_reducible refine Below.drew ?_)⟩
theorem of8192_any (w : World) : Calls Tryz.prog 69 #[.int .i64 8192] w (PartOf 114 w) := by
  have HB : Hid (Below w.heap.size w (w.alloc (.cells #[.nilFunc, .nilFunc, .nilFunc] 85))) := Lib.hid (by repeat (first | with_reducible exact Below.refl _ _ | with_reducible refine Below.setCell ?_ (by first | omega | (simp <;> omega)) _ | with_reducible refine Below.alloc ?_ (by first | omega | (simp <;> omega)) _ | with_reducible refine below_drewN ?_ _ | with_reducible refine Below.drew ?_))
  have hblk : Hid (Blk (w.alloc (.cells #[.nilFunc, .nilFunc, .nilFunc] 85)) w.heap.size 85 #[.nilFunc, .nilFunc, .nilFunc]) := Lib.hid (Blk.new _ _ _)
  go_enter Tryz.func69, Tryz.ntmps69
  go_wp2_with (fail)
  refine (other_any _).mono ?_
  rintro e w2 ⟨rfl, h⟩
  have hb2 := hblk.out.below h hblk.out.lt
  have hr : w2.heap[w.heap.size]? = some (.cells #[.nilFunc, .nilFunc, .nilFunc] 85 (0, 0)) := hb2
  have p0 := hb2.cell 0
  have p1 := hb2.cell 1
  have p2 := hb2.cell 2
  have z0 := hb2.frozen 0
  have z1 := hb2.frozen 1
  have z2 := hb2.frozen 2
  have hl := hb2.lt
  simp at p0 p1 p2
  have HB2 := Lib.hid (HB.out.trans (h.mono HB.out.size))
  clear h hb2 hr
  go_wp2_with (fail)
  refine bodyPost_ret (v := .agg #[.func (.func 114) #[] #[], _, _]) (by simp [results, Tryz.results69, go_sem, p0, p1, p2]; exact ⟨rfl, rfl⟩) rfl ?_
  exact ⟨_, _, _, _, rfl, by repeat (first | with_reducible exact HB2.out | with_reducible refine Below.setCell ?_ (by first | omega | (simp <;> omega) | simp) _)⟩
end Go.Proofs.YtfcjkkjgedcgpaaGreatDoor
