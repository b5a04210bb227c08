/- The reference's check of an update, outcome, made, request. -/
import Derived.Test.YtfcjkkjgedcgpaaGreatDoorLetI

namespace Go.Proofs.YtfcjkkjgedcgpaaGreatDoor
open Go.RowKit
set_option linter.unusedSimpArgs false
set_option linter.unusedVariables false
set_option maxHeartbeats 8000000
set_option maxRecDepth 100000
attribute [local go_sem] Up.agg Up.cells

theorem updE_bad {u : Up} {r : Bool} (hk : u.kd = 2 ∨ u.kd = 3) (hn : ¬ 2048 < u.n) (h : ¬ upOkP u r) : (4 : Int) = updE u r := by
  have hb : writesB u.kd = true := by unfold writesB; simpa using hk
  unfold updE
  rw [if_neg (by rw [hb]; simp), if_neg hn, ← upOk_no h]; rfl
theorem updE_ok {u : Up} {r : Bool} (hk : u.kd = 2 ∨ u.kd = 3) (hn : ¬ 2048 < u.n) (h : upOkP u r) : (0 : Int) = updE u r := by
  have hb : writesB u.kd = true := by unfold writesB; simpa using hk
  unfold updE
  rw [if_neg (by rw [hb]; simp), if_neg hn, ← upOk_yes h]; rfl
theorem refUpdCheck_any (u : Up) (s : Bool) (w : World) (hw : u.wf) (hn : u.n ≤ 1000000) :
    Calls Tryz.prog 36 #[u.agg, .bool s] w fun e w' => e = .returned (.int .i64 (updE u (!s))) ∧ Below w.heap.size w w' := by
  have HB : Hid (Below w.heap.size w (w.alloc (.cells u.cells 29))) := Lib.hid (by repeat (first | with_reducible exact Below.refl _ _ | with_reducible refine Below.setCell ?_ (by first | omega | (simp <;> omega)) _ | with_reducible refine Below.alloc ?_ (by first | omega | (simp <;> omega)) _ | with_reducible refine below_drewN ?_ _ | with_reducible refine Below.drew ?_))
  have hn1 : (u.n : Int) ≤ 1000000 := by omega
  have hsq := hw.seq.1
  have hnm := hw.num.1
  have hvr := hw.ver.1
  clear hn
  by_cases hk : u.kd = 2 ∨ u.kd = 3
  rotate_left
  · have h2 : (u.kd != 2) = true := by simp; intro e; exact hk (.inl e)
    have h3 : (u.kd != 3) = true := by simp; intro e; exact hk (.inr e)
    have HX : Hid ((1 : Int) = updE u (!s)) := Lib.hid (by unfold updE writesB; rw [if_pos (by simpa using hk)])
    clear hw hk
    go_enter Tryz.func36, Tryz.ntmps36
    go_wp2_with (fail)
    go_ret
    exact ⟨by rw [← HX.out]; rfl, by repeat (first | with_reducible exact Below.refl _ _ | with_reducible refine Below.setCell ?_ (by first | omega | (simp <;> omega)) _ | with_reducible refine Below.alloc ?_ (by first | omega | (simp <;> omega)) _ | with_reducible refine below_drewN ?_ _ | with_reducible refine Below.drew ?_)⟩
  by_cases hl : (2048 : Int) < u.n
  · have HX : Hid ((6 : Int) = updE u (!s)) := Lib.hid (by unfold updE writesB; rw [if_neg (by simp; omega), if_pos (by omega)])
    rcases hk with hk | hk
    all_goals
      clear hw
      go_enter Tryz.func36, Tryz.ntmps36
      go_wp2_with (fail)
      go_ret
      exact ⟨by rw [← HX.out]; rfl, by repeat (first | with_reducible exact Below.refl _ _ | with_reducible refine Below.setCell ?_ (by first | omega | (simp <;> omega)) _ | with_reducible refine Below.alloc ?_ (by first | omega | (simp <;> omega)) _ | with_reducible refine below_drewN ?_ _ | with_reducible refine Below.drew ?_)⟩
  rcases (show s = true ∨ s = false from by cases s <;> simp) with rfl | rfl
  · by_cases h1 : u.seq = 0
    · have hks := hk
      rcases hks with hkk | hkk
      all_goals (have HX := Lib.hid (updE_bad (u := u) (r := false) hk (by omega) (fun h => by unfold upOkP at h; simp at h; omega)); clear hw; go_enter Tryz.func36, Tryz.ntmps36; go_wp2_with (fail); go_ret; exact ⟨by rw [← HX.out]; rfl, by repeat (first | with_reducible exact Below.refl _ _ | with_reducible refine Below.setCell ?_ (by first | omega | (simp <;> omega)) _ | with_reducible refine Below.alloc ?_ (by first | omega | (simp <;> omega)) _ | with_reducible refine below_drewN ?_ _ | with_reducible refine Below.drew ?_)⟩)
    have h1p : 0 < u.seq := by omega
    clear h1
    by_cases h2 : u.cl < 1
    · have hks := hk
      rcases hks with hkk | hkk
      all_goals (have HX := Lib.hid (updE_bad (u := u) (r := false) hk (by omega) (fun h => by unfold upOkP at h; simp at h; omega)); clear hw; go_enter Tryz.func36, Tryz.ntmps36; go_wp2_with (fail); go_ret; exact ⟨by rw [← HX.out]; rfl, by repeat (first | with_reducible exact Below.refl _ _ | with_reducible refine Below.setCell ?_ (by first | omega | (simp <;> omega)) _ | with_reducible refine Below.alloc ?_ (by first | omega | (simp <;> omega)) _ | with_reducible refine below_drewN ?_ _ | with_reducible refine Below.drew ?_)⟩)
    by_cases h3 : 6 < u.cl
    · have hks := hk
      rcases hks with hkk | hkk
      all_goals (have HX := Lib.hid (updE_bad (u := u) (r := false) hk (by omega) (fun h => by unfold upOkP at h; simp at h; omega)); clear hw; go_enter Tryz.func36, Tryz.ntmps36; go_wp2_with (fail); go_ret; exact ⟨by rw [← HX.out]; rfl, by repeat (first | with_reducible exact Below.refl _ _ | with_reducible refine Below.setCell ?_ (by first | omega | (simp <;> omega)) _ | with_reducible refine Below.alloc ?_ (by first | omega | (simp <;> omega)) _ | with_reducible refine below_drewN ?_ _ | with_reducible refine Below.drew ?_)⟩)
    by_cases h4 : u.num = 0
    · have hks := hk
      rcases hks with hkk | hkk
      all_goals (have HX := Lib.hid (updE_bad (u := u) (r := false) hk (by omega) (fun h => by unfold upOkP at h; simp at h; omega)); clear hw; go_enter Tryz.func36, Tryz.ntmps36; go_wp2_with (fail); go_ret; exact ⟨by rw [← HX.out]; rfl, by repeat (first | with_reducible exact Below.refl _ _ | with_reducible refine Below.setCell ?_ (by first | omega | (simp <;> omega)) _ | with_reducible refine Below.alloc ?_ (by first | omega | (simp <;> omega)) _ | with_reducible refine below_drewN ?_ _ | with_reducible refine Below.drew ?_)⟩)
    have h4p : (u.num == 0) = false := by simpa using h4
    have hks := hk
    rcases hks with hkk | hkk
    · by_cases h5 : 0 < u.ver
      · (have HX := Lib.hid (updE_bad (u := u) (r := false) hk (by omega) (fun h => by unfold upOkP at h; simp at h; omega)); clear hw; go_enter Tryz.func36, Tryz.ntmps36; go_wp2_with (fail); go_ret; exact ⟨by rw [← HX.out]; rfl, by repeat (first | with_reducible exact Below.refl _ _ | with_reducible refine Below.setCell ?_ (by first | omega | (simp <;> omega)) _ | with_reducible refine Below.alloc ?_ (by first | omega | (simp <;> omega)) _ | with_reducible refine below_drewN ?_ _ | with_reducible refine Below.drew ?_)⟩)
      · (have HX := Lib.hid (updE_ok (u := u) (r := false) hk (by omega) (by unfold upOkP; simp; omega)); clear hw; go_enter Tryz.func36, Tryz.ntmps36; go_wp2_with (fail); go_ret; exact ⟨by rw [← HX.out]; rfl, by repeat (first | with_reducible exact Below.refl _ _ | with_reducible refine Below.setCell ?_ (by first | omega | (simp <;> omega)) _ | with_reducible refine Below.alloc ?_ (by first | omega | (simp <;> omega)) _ | with_reducible refine below_drewN ?_ _ | with_reducible refine Below.drew ?_)⟩)
    · (have HX := Lib.hid (updE_ok (u := u) (r := false) hk (by omega) (by unfold upOkP; simp; omega)); clear hw; go_enter Tryz.func36, Tryz.ntmps36; go_wp2_with (fail); go_ret; exact ⟨by rw [← HX.out]; rfl, by repeat (first | with_reducible exact Below.refl _ _ | with_reducible refine Below.setCell ?_ (by first | omega | (simp <;> omega)) _ | with_reducible refine Below.alloc ?_ (by first | omega | (simp <;> omega)) _ | with_reducible refine below_drewN ?_ _ | with_reducible refine Below.drew ?_)⟩)
  · by_cases h1 : 0 < u.seq
    · have hks := hk
      rcases hks with hkk | hkk
      all_goals (have HX := Lib.hid (updE_bad (u := u) (r := true) hk (by omega) (fun h => by unfold upOkP at h; simp at h; omega)); clear hw; go_enter Tryz.func36, Tryz.ntmps36; go_wp2_with (fail); go_ret; exact ⟨by rw [← HX.out]; rfl, by repeat (first | with_reducible exact Below.refl _ _ | with_reducible refine Below.setCell ?_ (by first | omega | (simp <;> omega)) _ | with_reducible refine Below.alloc ?_ (by first | omega | (simp <;> omega)) _ | with_reducible refine below_drewN ?_ _ | with_reducible refine Below.drew ?_)⟩)
    have h1p : u.seq ≤ 0 := by omega
    clear h1
    by_cases h2 : u.cl < 1
    · have hks := hk
      rcases hks with hkk | hkk
      all_goals (have HX := Lib.hid (updE_bad (u := u) (r := true) hk (by omega) (fun h => by unfold upOkP at h; simp at h; omega)); clear hw; go_enter Tryz.func36, Tryz.ntmps36; go_wp2_with (fail); go_ret; exact ⟨by rw [← HX.out]; rfl, by repeat (first | with_reducible exact Below.refl _ _ | with_reducible refine Below.setCell ?_ (by first | omega | (simp <;> omega)) _ | with_reducible refine Below.alloc ?_ (by first | omega | (simp <;> omega)) _ | with_reducible refine below_drewN ?_ _ | with_reducible refine Below.drew ?_)⟩)
    by_cases h3 : 6 < u.cl
    · have hks := hk
      rcases hks with hkk | hkk
      all_goals (have HX := Lib.hid (updE_bad (u := u) (r := true) hk (by omega) (fun h => by unfold upOkP at h; simp at h; omega)); clear hw; go_enter Tryz.func36, Tryz.ntmps36; go_wp2_with (fail); go_ret; exact ⟨by rw [← HX.out]; rfl, by repeat (first | with_reducible exact Below.refl _ _ | with_reducible refine Below.setCell ?_ (by first | omega | (simp <;> omega)) _ | with_reducible refine Below.alloc ?_ (by first | omega | (simp <;> omega)) _ | with_reducible refine below_drewN ?_ _ | with_reducible refine Below.drew ?_)⟩)
    by_cases h4 : u.num = 0
    · have hks := hk
      rcases hks with hkk | hkk
      all_goals (have HX := Lib.hid (updE_bad (u := u) (r := true) hk (by omega) (fun h => by unfold upOkP at h; simp at h; omega)); clear hw; go_enter Tryz.func36, Tryz.ntmps36; go_wp2_with (fail); go_ret; exact ⟨by rw [← HX.out]; rfl, by repeat (first | with_reducible exact Below.refl _ _ | with_reducible refine Below.setCell ?_ (by first | omega | (simp <;> omega)) _ | with_reducible refine Below.alloc ?_ (by first | omega | (simp <;> omega)) _ | with_reducible refine below_drewN ?_ _ | with_reducible refine Below.drew ?_)⟩)
    have h4p : (u.num == 0) = false := by simpa using h4
    have hks := hk
    rcases hks with hkk | hkk
    · by_cases h5 : 0 < u.ver
      · (have HX := Lib.hid (updE_bad (u := u) (r := true) hk (by omega) (fun h => by unfold upOkP at h; simp at h; omega)); clear hw; go_enter Tryz.func36, Tryz.ntmps36; go_wp2_with (fail); go_ret; exact ⟨by rw [← HX.out]; rfl, by repeat (first | with_reducible exact Below.refl _ _ | with_reducible refine Below.setCell ?_ (by first | omega | (simp <;> omega)) _ | with_reducible refine Below.alloc ?_ (by first | omega | (simp <;> omega)) _ | with_reducible refine below_drewN ?_ _ | with_reducible refine Below.drew ?_)⟩)
      · (have HX := Lib.hid (updE_ok (u := u) (r := true) hk (by omega) (by unfold upOkP; simp; omega)); clear hw; go_enter Tryz.func36, Tryz.ntmps36; go_wp2_with (fail); go_ret; exact ⟨by rw [← HX.out]; rfl, by repeat (first | with_reducible exact Below.refl _ _ | with_reducible refine Below.setCell ?_ (by first | omega | (simp <;> omega)) _ | with_reducible refine Below.alloc ?_ (by first | omega | (simp <;> omega)) _ | with_reducible refine below_drewN ?_ _ | with_reducible refine Below.drew ?_)⟩)
    · (have HX := Lib.hid (updE_ok (u := u) (r := true) hk (by omega) (by unfold upOkP; simp; omega)); clear hw; go_enter Tryz.func36, Tryz.ntmps36; go_wp2_with (fail); go_ret; exact ⟨by rw [← HX.out]; rfl, by repeat (first | with_reducible exact Below.refl _ _ | with_reducible refine Below.setCell ?_ (by first | omega | (simp <;> omega)) _ | with_reducible refine Below.alloc ?_ (by first | omega | (simp <;> omega)) _ | with_reducible refine below_drewN ?_ _ | with_reducible refine Below.drew ?_)⟩)
end Go.Proofs.YtfcjkkjgedcgpaaGreatDoor
