/- LetterTurned: what is turned is refused, unless nothing was turned. -/
import Derived.Test.YtmpedblelnpjdaaGreatDoorZNcA
namespace Go.Proofs.YtmpedblelnpjdaaGreatDoor
open Go.RowKit
set_option linter.unusedSimpArgs false
set_option linter.unusedVariables false
set_option maxHeartbeats 4000000
set_option maxRecDepth 100000
theorem bI_inj : ∀ x y : List Nat, bI x = bI y → x = y := fun x y e => (List.map_inj_right (fun a b hab => by omega)).1 e
theorem turned_same (x : LV) (w : World) (B : Nat) (h : LIn w B x) (h0 : chkX x = 0) (bit pat : Nat) (hb : bit < 8 * (encX x).length) (hd : dE (turnV (bit : Int) pat (encX x)) = 0) : turnV (bit : Int) pat (encX x) = encX x := by
  obtain ⟨k, l, hl, hk, e, e2, h4, h5⟩ := encX_form x w B h h0
  have hf := dE_fits _ hd
  have hs : putS k l = sealB (putB k l) := by unfold putS; rw [if_pos e]
  have hbs := putB_bs k l hk hl (by omega)
  have hn := putS_len k l e
  rw [e2, hn] at hb
  rw [e2, hs, burst_V (putB k l) hbs bit pat (by simp [putB]; omega), decide_eq_true_eq, ← hs] at hf
  rw [e2]
  exact bI_inj _ _ hf
end Go.Proofs.YtmpedblelnpjdaaGreatDoor
