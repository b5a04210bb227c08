/- The reference's Check, Asked, Outcome, Made; Made; versions the same. -/
import Derived.Test.YtfcjkkjgedcgpaaGreatDoorLetJ

namespace Go.Proofs.YtfcjkkjgedcgpaaGreatDoor
open Go.RowKit
set_option linter.unusedSimpArgs false
set_option linter.unusedVariables false
set_option maxHeartbeats 8000000
set_option maxRecDepth 100000
attribute [local go_sem] Up.agg Up.cells

theorem refCheckT_any (u : Up) (w : World) (hw : u.wf) (hn : u.n ≤ 1000000) :
    Calls Tryz.prog 28 #[u.agg] w fun e w' => e = .returned (.int .i64 (updE u false)) ∧ Below w.heap.size w w' := by
  have HB : Hid (Below w.heap.size w (w.alloc (.cells u.cells 29))) := Lib.hid (by repeat (first | with_reducible exact Below.refl _ _ | with_reducible refine Below.setCell ?_ (by first | omega | (simp <;> omega)) _ | with_reducible refine Below.alloc ?_ (by first | omega | (simp <;> omega)) _ | with_reducible refine below_drewN ?_ _ | with_reducible refine Below.drew ?_))
  have C := fun W => Lib.hid (refUpdCheck_any u true W hw hn)
  clear hw
  go_enter Tryz.func28, Tryz.ntmps28
  go_wp2_with (fail)
  refine (C _).out.mono ?_
  rintro e w2 ⟨rfl, h2⟩
  have H3 := Lib.hid (HB.out.trans (h2.mono HB.out.size))
  clear h2
  go_wp2_with (fail)
  go_ret
  exact ⟨rfl, H3.out⟩
def MadeP (u : Up) (ver : Int) (w : World) (e : Ending) (w' : World) : Prop := ∃ (A : Option Addr) (c : Nat), e = .returned (.agg #[.int .u64 ver, .int .u64 u.seq, .slice A u.n c]) ∧ Reads w' w'.heap.size 1 A u.n (u.bs.map (Value.int .u8)) ∧ Below w.heap.size w w'
end Go.Proofs.YtfcjkkjgedcgpaaGreatDoor
