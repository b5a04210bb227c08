/- No window. -/
import Derived.Test.YtfcjkkjgedcgpaaGreatDoorWinE

namespace Go.Proofs.YtfcjkkjgedcgpaaGreatDoor
open Go.RowKit
set_option linter.unusedSimpArgs false
set_option linter.unusedVariables false
set_option maxHeartbeats 8000000
set_option maxRecDepth 100000
attribute [local go_sem] Up.agg Up.cells

theorem nilAdd (u : Up) (w : World) : Calls Tryz.prog 7 #[.pointer none, u.agg] w fun e w' => e = .returned (.int .i64 2) ∧ Below w.heap.size w w' := by
  go_enter Tryz.func7, Tryz.ntmps7
  go_wp2_with (fail)
  go_ret
  exact ⟨rfl, by repeat (first | with_reducible exact Below.refl _ _ | with_reducible refine Below.setCell ?_ (by first | omega | (simp <;> omega)) _ | with_reducible refine Below.alloc ?_ (by first | omega | (simp <;> omega)) _ | with_reducible refine below_drewN ?_ _ | with_reducible refine Below.drew ?_)⟩
theorem nilReach (d : Int) (w : World) : Calls Tryz.prog 10 #[.pointer none, .int .u64 d] w fun e w' => e = .returned (.slice none 0 0) ∧ w = w' := by
  go_enter Tryz.func10, Tryz.ntmps10
  go_wp2_with (fail)
  go_ret
  exact ⟨rfl, rfl⟩
theorem nilFrom (d m : Int) (w : World) : Calls Tryz.prog 20 #[.pointer none, .int .u64 d, .int .i64 m] w fun e w' => e = .returned (.tuple #[.slice none 0 0, .bool false]) ∧ w = w' := by
  go_enter Tryz.func20, Tryz.ntmps20
  go_wp2_with (fail)
  go_ret2
  exact ⟨rfl, rfl⟩
theorem nilLow (w : World) : Calls Tryz.prog 14 #[.pointer none] w fun e w' => e = .returned (.int .u64 0) ∧ w = w' := by
  go_enter Tryz.func14, Tryz.ntmps14
  go_wp2_with (fail)
  go_ret
  exact ⟨rfl, rfl⟩
theorem nilEnd (w : World) : Calls Tryz.prog 9 #[.pointer none] w fun e w' => e = .returned (.int .u64 0) ∧ w = w' := by
  go_enter Tryz.func9, Tryz.ntmps9
  go_wp2_with (fail)
  go_ret
  exact ⟨rfl, rfl⟩
theorem nilDone (w : World) : Calls Tryz.prog 11 #[.pointer none] w fun e w' => e = .returned (.int .u64 0) ∧ w = w' := by
  go_enter Tryz.func11, Tryz.ntmps11
  go_wp2_with (fail)
  go_ret
  exact ⟨rfl, rfl⟩
theorem nilHeld (w : World) : Calls Tryz.prog 12 #[.pointer none] w fun e w' => e = .returned (.int .i64 0) ∧ w = w' := by
  go_enter Tryz.func12, Tryz.ntmps12
  go_wp2_with (fail)
  go_ret
  exact ⟨rfl, rfl⟩
theorem nilDirty (w : World) : Calls Tryz.prog 13 #[.pointer none] w fun e w' => e = .returned (.int .i64 0) ∧ w = w' := by
  go_enter Tryz.func13, Tryz.ntmps13
  go_wp2_with (first | (go_at_call 9; refine (nilEnd _).mono ?_; rintro e w' ⟨rfl, rfl⟩) | (go_at_call 11; refine (nilDone _).mono ?_; rintro e w' ⟨rfl, rfl⟩) | fail)
  go_ret
  exact ⟨rfl, rfl⟩
theorem nilRoom (w : World) : Calls Tryz.prog 23 #[.pointer none] w fun e w' => e = .returned (.bool false) ∧ w = w' := by
  go_enter Tryz.func23, Tryz.ntmps23
  go_wp2_with (fail)
  go_ret
  exact ⟨rfl, rfl⟩
theorem windowNil_law (u : Up) (n m : Int) (w : World) (hK : KindsAt w) :
    Calls Tryz.prog 5 #[u.agg, .int .u64 n, .int .i64 m] w fun e w' => e = .returned (.bool true) ∧ Below w.heap.size w w' := by
  have HK := Lib.hid hK
  have HB1 : Hid (Below w.heap.size w (w.alloc (.cells u.cells 29))) := Lib.hid (by repeat (first | with_reducible exact Below.refl _ _ | with_reducible refine Below.setCell ?_ (by first | omega | (simp <;> omega)) _ | with_reducible refine Below.alloc ?_ (by first | omega | (simp <;> omega)) _ | with_reducible refine below_drewN ?_ _ | with_reducible refine Below.drew ?_))
  clear hK
  go_enter Tryz.func5, Tryz.ntmps5
  go_wp2_with (first | (go_at_call 20; refine (nilFrom _ _ _).mono ?_; rintro e w' ⟨rfl, rfl⟩) | fail)
  refine (nilAdd u _).mono ?_
  rintro e w1 ⟨rfl, hb⟩
  have H1 := Lib.hid (HB1.out.trans (hb.mono HB1.out.size))
  clear hb
  go_wp2_with (first | (go_at_call 10; refine (nilReach _ _).mono ?_; rintro e w' ⟨rfl, rfl⟩) | (go_at_call 14; refine (nilLow _).mono ?_; rintro e w' ⟨rfl, rfl⟩) | (go_at_call 9; refine (nilEnd _).mono ?_; rintro e w' ⟨rfl, rfl⟩) | (go_at_call 11; refine (nilDone _).mono ?_; rintro e w' ⟨rfl, rfl⟩) | (go_at_call 13; refine (nilDirty _).mono ?_; rintro e w' ⟨rfl, rfl⟩) | (go_at_call 23; refine (nilRoom _).mono ?_; rintro e w' ⟨rfl, rfl⟩) | (go_at_call 12; refine (nilHeld _).mono ?_; rintro e w' ⟨rfl, rfl⟩) | fail)
  refine (awake_win _ (HK.out.below H1.out)).mono ?_
  rintro e w2 ⟨rfl, hb⟩
  have H2 := Lib.hid (H1.out.trans (hb.mono H1.out.size))
  clear hb
  go_wp2_with (fail)
  go_ret
  exact ⟨rfl, H2.out⟩
end Go.Proofs.YtfcjkkjgedcgpaaGreatDoor
