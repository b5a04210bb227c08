/- CallerPlays: the closed facts of its row, each by itself. No condition. -/
import Derived.Test.YtmpedblelnpjdaaGreatDoorRows
import Derived.WalkKit
import Derived.JoinedOf
namespace Go.Proofs.YtmpedblelnpjdaaGreatDoor.callerPlays
theorem both {a b : Bool} (ha : a = true) (hb : b = true) : (a && b) = true := by rw [ha, hb]; rfl
theorem named : Tryz.pinned.checked.prog.funcNamed Rows.callerPlaysRow.func = some 5 := by kernel_rfl
theorem inst : Tryz.f5.isInstance Tryz.pinned.checked.prog Rows.callerPlaysRow.origin Rows.callerPlaysRow.targs := of_decide_eq_true (by kernel_rfl)
theorem wrap : Tryz.f5.isWrapper Tryz.pinned.checked.prog Rows.callerPlaysRow.wrapper Rows.callerPlaysRow.mainSum := by
 unfold Func.isWrapper; first | (rw [if_pos (by decide +kernel)]; kernel_rfl) | (rw [if_neg (by decide +kernel)]; exact ⟨rfl, rfl⟩)
set_option maxHeartbeats 4000000 in
theorem closed : joinedFacts Tryz.pinned.checked.prog 5 Tryz.f5 Rows.callerPlaysSpec Rows.callerPlaysRow = true := by
 unfold joinedFacts
 repeat' (with_reducible refine both ?_ ?_)
 all_goals (as_aux_lemma => kernel_rfl)
end Go.Proofs.YtmpedblelnpjdaaGreatDoor.callerPlays
