/- Send. -/
import Derived.Test.YtmpedblelnpjdaaGreatDoorZNtT
import Derived.Test.YtmpedblelnpjdaaGreatDoorZGT


namespace Go.Proofs.YtmpedblelnpjdaaGreatDoor
open Go.RowKit
set_option linter.unusedSimpArgs false
set_option linter.unusedVariables false
set_option maxHeartbeats 8000000
set_option maxRecDepth 100000

theorem Nv.ok.mono {n : Nv} {M M' : Int} (h : n.ok M) (hM : M ≤ M') : n.ok M' := by
  obtain ⟨a0, a1, a2, a3, a4, a5⟩ := h
  exact ⟨by omega, by omega, by omega, by omega, by omega, by omega⟩
theorem dE_back (x : LV) (w : World) (B : Nat) (h : LIn w B x) (h0 : chkX x = 0) : dE (encX x) = 0 ∧ dV (encX x) = x.val := by
  have h1 := h0
  unfold chkX at h1
  split at h1
  · omega
  · rename_i hk
    have hr := room_ok x w B h h0
    have hz2 : bytesB (bodyB x.l (partsI x.l.kd.toNat) (partB x)) := bytesB_app (bytesB_app (big_bytes _ _) (big_bytes _ _)) (bytes_flat _ _ (fun i _ => partB_bytes x w B i h))
    have hlen : (bodyB x.l (partsI x.l.kd.toNat) (partB x)).length ≤ 16384 := by unfold bodyB; rw [List.length_append, hdr_len]; omega
    obtain ⟨e1, e2⟩ := enc_putS x.l.kd.toNat (bodyB x.l (partsI x.l.kd.toNat) (partB x)) (by omega) hlen
    obtain ⟨g1, g2, g3⟩ := back_get _ _ e1
    have he : putS x.l.kd.toNat (natB (bodyB x.l (partsI x.l.kd.toNat) (partB x))) = encX x := e2
    rw [he] at g1 g2 g3
    have hd := decode_back x w B h h0 (encX x) rfl g2 (by rw [g3]; exact bI_toNat _ hz2)
    refine ⟨?_, by unfold dV; rw [hd]⟩
    unfold dE decE
    rw [if_neg (by simpa using g1), if_neg (by rw [g2]; omega), hd, if_neg]
    rintro (e | e)
    · exact e rfl
    · exact e (by rw [← chk_val x w B h]; exact h0)
theorem dE_fits (f : List Nat) (h : dE f = 0) : fitsL f = true := by
  refine get_fits f ?_
  unfold dE decE at h
  by_cases hg : getE f = 0
  · exact hg
  · rw [if_pos hg] at h; omega
end Go.Proofs.YtmpedblelnpjdaaGreatDoor
