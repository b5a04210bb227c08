/- GT: FrmG FrmH -/
import Derived.Test.YtmpedblelnpjdaaGreatDoorZGE
/- The law's awake of chapter 3; the walks of FrameNil and FrameCuts. -/
namespace Go.Proofs.YtmpedblelnpjdaaGreatDoor
open Go.RowKit
set_option linter.unusedSimpArgs false
set_option linter.unusedVariables false
set_option maxRecDepth 100000
set_option maxHeartbeats 2000000

end Go.Proofs.YtmpedblelnpjdaaGreatDoor

/- The walk of FrameBack: what is put is got; beginnings; bursts. Plain part. -/
namespace Go.Proofs.YtmpedblelnpjdaaGreatDoor
open Go.RowKit
set_option linter.unusedSimpArgs false
set_option linter.unusedVariables false
set_option maxRecDepth 100000
set_option maxHeartbeats 2000000

theorem putS_form (k : Nat) (l : List Nat) (h : putE k l = 0) : putS k l = k :: (l.length / 256) :: (l.length % 256) :: (l ++ le4 (crc (putB k l))) := by
  unfold putS; rw [if_pos h]; rfl
theorem back_frN (k : Nat) (l : List Nat) (h : putE k l = 0) : frN (putS k l) = l.length := by
  rw [putS_form k l h]
  show numN [l.length / 256, l.length % 256] = _
  simp [numN]; omega
theorem putE_ne (k : Nat) (l : List Nat) (h : putE k l = 0) : k ≠ 0 ∧ l.length ≤ 16384 := by
  unfold putE at h
  split at h
  · cases h
  · split at h
    · cases h
    · exact ⟨by assumption, by omega⟩
/-- what is put is got -/
theorem back_get (k : Nat) (l : List Nat) (h : putE k l = 0) : getE (putS k l) = 0 ∧ getK (putS k l) = k ∧ getB (putS k l) = l := by
  have hn := putS_len k l h
  have hf := back_frN k l h
  obtain ⟨hk, hl⟩ := putE_ne k l h
  have h0 : (putS k l).getD 0 0 = k := by rw [putS_form k l h]; rfl
  have hfit : fitsL ((putS k l).take (frN (putS k l) + 7)) = true := by
    rw [hf, ← hn, List.take_length]
    have : putS k l = sealB (putB k l) := by unfold putS; rw [if_pos h]
    rw [this]
    exact fits_seal _
  have hE : cutE (putS k l) = 0 := by
    unfold cutE
    rw [if_neg (by omega), if_neg (by rw [h0]; exact hk), if_neg (by rw [hf]; omega), if_neg (by rw [hf]; omega), hfit]; rfl
  obtain ⟨c1, c2, c3⟩ := cut_some _ hE
  have hG : getE (putS k l) = 0 := by
    unfold getE
    rw [if_neg (fun x => by rw [c3, hf] at x; omega), hE]
  obtain ⟨g1, g2⟩ := get_some _ hG
  refine ⟨hG, by rw [g1, c1, h0], ?_⟩
  rw [g2, c2, hf, putS_form k l h]
  show (l ++ le4 (crc (putB k l))).take l.length = l
  exact List.take_left
/-- what is got whole fits, whatever stands there -/
theorem get_fits (x : List Nat) (h : getE x = 0) : fitsL x = true := by
  have hc : cutE x = 0 ∧ x.length ≤ cutL x := by
    unfold getE at h
    split at h
    · cases h
    · rename_i hn
      exact ⟨h, by rcases Nat.lt_or_ge (cutL x) x.length with hl | hl; exact absurd ⟨h, hl⟩ hn; exact hl⟩
  obtain ⟨c1, c2, c3⟩ := cut_some x hc.1
  rcases cut_cases x x.length rfl with ⟨h3, hE⟩ | ⟨h3, h0, hE⟩ | ⟨h3, h0, hb1, hE⟩ | ⟨h3, h0, hb1, hb2, hE⟩ | ⟨h3, h0, hb1, hb2, hE⟩
  all_goals rw [hc.1] at hE
  · cases hE
  · cases hE
  · cases hE
  · cases hE
  · have hl : frN x + 7 = x.length := by have := hc.2; rw [c3] at this; omega
    rw [hl, List.take_length] at hE
    cases hf : fitsL x
    · rw [hf] at hE; cases hE
    · rfl
end Go.Proofs.YtmpedblelnpjdaaGreatDoor
