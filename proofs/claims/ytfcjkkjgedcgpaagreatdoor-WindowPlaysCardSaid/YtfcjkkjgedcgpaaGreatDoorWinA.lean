/- A window, in memory; New, Low, End, Done, Dirty, Room, Held. -/
import Derived.Test.YtfcjkkjgedcgpaaGreatDoorHeld
import Derived.Test.YtfcjkkjgedcgpaaGreatDoorUpdI
import Derived.Test.YtfcjkkjgedcgpaaGreatDoorLetA
import Derived.Test.YtfcjkkjgedcgpaaGreatDoorMemA

namespace Go.Proofs.YtfcjkkjgedcgpaaGreatDoor
open Go.RowKit
set_option linter.unusedSimpArgs false
set_option linter.unusedVariables false
set_option maxHeartbeats 4000000
set_option maxRecDepth 100000

structure Wn where
  low : Int
  done : Int
  l : List Up
def Wn.lend (s : Wn) : Int := s.low + s.l.length
/-- numbers one behind the other -/
def Row1 (a : Int) (l : List Up) : Prop := ∀ (i : Nat) (u : Up), l[i]? = some u → u.seq = a + 1 + i
structure Wn.ok (s : Wn) : Prop where
  low : 0 ≤ s.low
  ld : s.low ≤ s.done
  de : s.done ≤ s.lend
  big : s.lend ≤ 9000000000000000000
  row : Row1 s.low s.l
  len : s.l.length ≤ 900000
  dat : ∀ u ∈ s.l, u.n ≤ 100000
structure WinAt (b0 : Nat) (W : World) (g : Nat) (v : Value) (s : Wn) : Prop where
  box : Blk W g 56 #[.int .u64 s.low, .int .u64 s.done, v]
  own : W.ownsRow b0 29 7 v s.l.length (s.l.flatMap Up.row)
  dat : ∀ u ∈ s.l, UpOwn W b0 u
  hg : b0 ≤ g
  ok : s.ok
theorem WinAt.below {b0 : Nat} {W W' : World} {g : Nat} {v : Value} {s : Wn} (h : WinAt b0 W g v s) (hb : Below W.heap.size W W') : WinAt b0 W' g v s :=
  ⟨h.box.below hb h.box.lt, (Chg.of_below hb (fun _ => False)).own h.own (fun _ _ x => x), fun u hu => ⟨(Chg.of_below hb (fun _ => False)).own (h.dat u hu).1 (fun _ _ x => x), (h.dat u hu).2⟩, h.hg, h.ok⟩
theorem WinAt.ups {b0 : Nat} {W : World} {g : Nat} {v : Value} {s : Wn} (h : WinAt b0 W g v s) : ∃ A c, v = .slice A s.l.length c ∧ UpsIn W W.heap.size A s.l.length s.l ∧ s.l.length ≤ c ∧ c ≤ maxLen := by
  obtain ⟨A, c, hv, hr, hc, hm⟩ := own_slice h.own
  exact ⟨A, c, hv, ⟨hr, fun u hu => (h.dat u hu).in_⟩, hc, hm⟩
/-- what a call of a window's changes: its own block, and its row's -/
def isW (g : Nat) (v : Value) : Nat → Prop := fun k => k = g ∨ v.ownBlock = some k
theorem win_cells {b0 : Nat} {W : World} {g n c : Nat} {A : Option Addr} {s : Wn} (h : WinAt b0 W g (.slice A n c) s) : W.cell? ⟨g, 0, none⟩ = some (.int .u64 s.low) ∧ W.cell? ⟨g, 1, none⟩ = some (.int .u64 s.done) ∧ W.cell? ⟨g, 2, none⟩ = some (.slice A n c) :=
  ⟨h.box.cell 0, h.box.cell 1, h.box.cell 2⟩
theorem wnew_any (a : Int) (w : World) (h0 : 0 ≤ a) (h1 : a ≤ 8000000000000000000) :
    Calls Tryz.prog 6 #[.int .u64 a] w fun e w' => e = .returned (.pointer (some ⟨w.heap.size, 0, none⟩)) ∧ WinAt w.heap.size w' w.heap.size (.slice none 0 0) ⟨a, a, []⟩ ∧ Below w.heap.size w w' := by
  have HW : Hid (WinAt w.heap.size (w.alloc (.cells #[.int .u64 a, .int .u64 a, .slice none 0 0] 56)) w.heap.size (.slice none 0 0) ⟨a, a, []⟩) :=
    Lib.hid ⟨Blk.new _ _ _, World.ownsRow_nil _ _ _ _, by simp, Nat.le_refl _, ⟨h0, Int.le_refl _, by simp [Wn.lend], by simp [Wn.lend]; omega, by intro i u h; simp at h, by simp, by simp⟩⟩
  go_enter Tryz.func6, Tryz.ntmps6
  go_wp2_with (fail)
  go_ret
  exact ⟨rfl, HW.out, by repeat (first | with_reducible exact Below.refl _ _ | with_reducible refine Below.setCell ?_ (by first | omega | (simp <;> omega)) _ | with_reducible refine Below.alloc ?_ (by first | omega | (simp <;> omega)) _ | with_reducible refine below_drewN ?_ _ | with_reducible refine Below.drew ?_)⟩
theorem wlow_any (b0 : Nat) (W : World) (g : Nat) (v : Value) (s : Wn) (h : WinAt b0 W g v s) : Calls Tryz.prog 14 #[.pointer (some ⟨g, 0, none⟩)] W fun e w' => e = .returned (.int .u64 s.low) ∧ W = w' := by
  obtain ⟨A, c, rfl, _, _, _⟩ := h.ups
  obtain ⟨c0, c1, c2⟩ := win_cells h
  clear h
  go_enter Tryz.func14, Tryz.ntmps14
  go_wp2_with (fail)
  go_ret
  exact ⟨rfl, rfl⟩
theorem wdone_any (b0 : Nat) (W : World) (g : Nat) (v : Value) (s : Wn) (h : WinAt b0 W g v s) : Calls Tryz.prog 11 #[.pointer (some ⟨g, 0, none⟩)] W fun e w' => e = .returned (.int .u64 s.done) ∧ W = w' := by
  obtain ⟨A, c, rfl, _, _, _⟩ := h.ups
  obtain ⟨c0, c1, c2⟩ := win_cells h
  clear h
  go_enter Tryz.func11, Tryz.ntmps11
  go_wp2_with (fail)
  go_ret
  exact ⟨rfl, rfl⟩
theorem wheld_any (b0 : Nat) (W : World) (g : Nat) (v : Value) (s : Wn) (h : WinAt b0 W g v s) : Calls Tryz.prog 12 #[.pointer (some ⟨g, 0, none⟩)] W fun e w' => e = .returned (.int .i64 s.l.length) ∧ W = w' := by
  obtain ⟨A, c, rfl, _, _, _⟩ := h.ups
  obtain ⟨c0, c1, c2⟩ := win_cells h
  clear h
  go_enter Tryz.func12, Tryz.ntmps12
  go_wp2_with (fail)
  go_ret
  exact ⟨rfl, rfl⟩
theorem wend_any (b0 : Nat) (W : World) (g : Nat) (v : Value) (s : Wn) (h : WinAt b0 W g v s) : Calls Tryz.prog 9 #[.pointer (some ⟨g, 0, none⟩)] W fun e w' => e = .returned (.int .u64 s.lend) ∧ Below W.heap.size W w' := by
  obtain ⟨A, c, rfl, _, _, _⟩ := h.ups
  obtain ⟨c0, c1, c2⟩ := win_cells h
  have hlen := h.ok.len
  have hlow := h.ok.low
  have hbig := h.ok.big
  have hw1 : IntKind.u64.wrap (s.l.length : Int) = (s.l.length : Int) := by rw [IntKind.wrap_u64]; omega
  have hw2 : IntKind.u64.wrap (s.low + (s.l.length : Int)) = s.low + (s.l.length : Int) := by rw [IntKind.wrap_u64]; unfold Wn.lend at hbig; omega
  have HL : Hid (s.low + (s.l.length : Int) = s.lend) := Lib.hid rfl
  clear h hlen hlow hbig
  go_enter Tryz.func9, Tryz.ntmps9
  go_wp2_with (fail)
  go_quiet (fail)
  go_wp2_with (fail)
  go_ret
  exact ⟨by rw [← HL.out]; rfl, by repeat (first | with_reducible exact Below.refl _ _ | with_reducible refine Below.setCell ?_ (by first | omega | (simp <;> omega)) _ | with_reducible refine Below.alloc ?_ (by first | omega | (simp <;> omega)) _ | with_reducible refine below_drewN ?_ _ | with_reducible refine Below.drew ?_)⟩
theorem wdirty_any (b0 : Nat) (W : World) (g : Nat) (v : Value) (s : Wn) (h : WinAt b0 W g v s) : Calls Tryz.prog 13 #[.pointer (some ⟨g, 0, none⟩)] W fun e w' => e = .returned (.int .i64 (s.lend - s.done)) ∧ Below W.heap.size W w' := by
  have H := Lib.hid h
  have hw1 : IntKind.u64.wrap (s.lend - s.done) = s.lend - s.done := by have := h.ok.de; have := h.ok.big; have := h.ok.ld; have := h.ok.low; rw [IntKind.wrap_u64]; omega
  have hw2 : IntKind.i64.wrap (s.lend - s.done) = s.lend - s.done := by have := h.ok.de; have := h.ok.big; have := h.ok.ld; have := h.ok.low; rw [IntKind.wrap_i64]; omega
  clear h
  go_enter Tryz.func13, Tryz.ntmps13
  go_wp2_with (fail)
  refine (wend_any b0 W g v s H.out).mono ?_
  rintro e w1 ⟨rfl, h1⟩
  have H1 := Lib.hid h1
  clear h1
  go_wp2_with (fail)
  refine (wdone_any b0 w1 g v s (H.out.below H1.out)).mono ?_
  rintro e w2 ⟨rfl, rfl⟩
  go_wp2_with (fail)
  go_ret
  exact ⟨rfl, H1.out⟩
theorem wroom_any (b0 : Nat) (W : World) (g : Nat) (v : Value) (s : Wn) (h : WinAt b0 W g v s) : Calls Tryz.prog 23 #[.pointer (some ⟨g, 0, none⟩)] W fun e w' => e = .returned (.bool (decide (s.lend - s.done < 16))) ∧ Below W.heap.size W w' := by
  have H := Lib.hid h
  clear h
  go_enter Tryz.func23, Tryz.ntmps23
  go_wp2_with (fail)
  refine (wdirty_any b0 W g v s H.out).mono ?_
  rintro e w1 ⟨rfl, h1⟩
  have H1 := Lib.hid h1
  clear h1
  go_wp2_with (fail)
  go_ret
  exact ⟨rfl, H1.out⟩
end Go.Proofs.YtfcjkkjgedcgpaaGreatDoor
