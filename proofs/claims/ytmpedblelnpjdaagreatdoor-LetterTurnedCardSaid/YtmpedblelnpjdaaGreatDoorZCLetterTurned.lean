/- LetterTurned: the closed facts of its row, each by itself. No condition. -/
import Derived.Test.YtmpedblelnpjdaaGreatDoorRows
import Derived.WalkKit
import Derived.JoinedOf
namespace Go.Proofs.YtmpedblelnpjdaaGreatDoor.letterTurned

theorem both {a b : Bool} (ha : a = true) (hb : b = true) : (a && b) = true := by rw [ha, hb]; rfl

theorem named : Tryz.pinned.checked.prog.funcNamed Rows.letterTurnedRow.func = some 4 := by kernel_rfl
theorem inst : Tryz.f4.isInstance Tryz.pinned.checked.prog Rows.letterTurnedRow.origin Rows.letterTurnedRow.targs := of_decide_eq_true (by kernel_rfl)
theorem wrap : Tryz.f4.isWrapper Tryz.pinned.checked.prog Rows.letterTurnedRow.wrapper Rows.letterTurnedRow.mainSum := by
  unfold Func.isWrapper; first | (rw [if_pos (by decide +kernel)]; kernel_rfl) | (rw [if_neg (by decide +kernel)]; exact ⟨rfl, rfl⟩)
set_option maxHeartbeats 4000000 in
theorem closed : joinedFacts Tryz.pinned.checked.prog 4 Tryz.f4 Rows.letterTurnedSpec Rows.letterTurnedRow = true := by
  unfold joinedFacts
  repeat' (with_reducible refine both ?_ ?_)
  all_goals (as_aux_lemma => kernel_rfl)
end Go.Proofs.YtmpedblelnpjdaaGreatDoor.letterTurned
