/- LetterDecodes: the closed facts of its row, each by itself. No condition. -/
import Derived.Test.YtmpedblelnpjdaaGreatDoorRows
import Derived.WalkKit
import Derived.JoinedOf
namespace Go.Proofs.YtmpedblelnpjdaaGreatDoor.letterDecodes
theorem both {a b : Bool} (ha : a = true) (hb : b = true) : (a && b) = true := by rw [ha, hb]; rfl
theorem named : Tryz.pinned.checked.prog.funcNamed Rows.letterDecodesRow.func = some 3 := by kernel_rfl
theorem inst : Tryz.f3.isInstance Tryz.pinned.checked.prog Rows.letterDecodesRow.origin Rows.letterDecodesRow.targs := of_decide_eq_true (by kernel_rfl)
theorem wrap : Tryz.f3.isWrapper Tryz.pinned.checked.prog Rows.letterDecodesRow.wrapper Rows.letterDecodesRow.mainSum := by
 unfold Func.isWrapper; first | (rw [if_pos (by decide +kernel)]; kernel_rfl) | (rw [if_neg (by decide +kernel)]; exact ⟨rfl, rfl⟩)
set_option maxHeartbeats 4000000 in
theorem closed : joinedFacts Tryz.pinned.checked.prog 3 Tryz.f3 Rows.letterDecodesSpec Rows.letterDecodesRow = true := by
 unfold joinedFacts
 repeat' (with_reducible refine both ?_ ?_)
 all_goals (as_aux_lemma => kernel_rfl)
end Go.Proofs.YtmpedblelnpjdaaGreatDoor.letterDecodes
