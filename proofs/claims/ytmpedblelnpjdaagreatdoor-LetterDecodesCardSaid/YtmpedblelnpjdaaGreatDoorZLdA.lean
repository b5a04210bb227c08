/- LetterDecodes: what was decoded has these bytes. Plain. -/
import Derived.Test.YtmpedblelnpjdaaGreatDoorZNtU
import Derived.Test.YtmpedblelnpjdaaGreatDoorZRdA
namespace Go.Proofs.YtmpedblelnpjdaaGreatDoor
open Go.RowKit
set_option linter.unusedSimpArgs false
set_option linter.unusedVariables false
set_option maxHeartbeats 4000000
set_option maxRecDepth 100000
theorem frame_back (b : List Nat) (hb : isBs b) (h : getE b = 0) : sealB (putB (getK b) (getB b)) = b ∧ 1 ≤ getK b ∧ (getB b).length ≤ 16384 ∧ isBs (getB b) := by
 have h1 := getE_eq b
 rw [h] at h1
 have hc : cutE b = 0 ∧ ¬ cutL b < b.length := by
  split at h1
  ·omega
  ·rename_i h2
   exact ⟨h1.symm, fun h3 => h2 ⟨h1.symm, h3⟩⟩
 obtain ⟨hk, hB⟩ := get_some b h
 obtain ⟨c1, c2, c3⟩ := cut_some b hc.1
 rw [c3] at hc
 rw [hk, hB, c1, c2]
 have hE := hc.1
 unfold cutE at hE
 split at hE
 ·omega
 split at hE
 ·omega
 split at hE
 ·omega
 split at hE
 ·omega
 split at hE
 rotate_left
 ·omega
 rename_i h3 h0 h4 h5 hf
 have hlen : b.length = frN b + 7 := by omega
 rw [← hlen, List.take_length] at hf
 unfold fitsL at hf
 rw [Bool.and_eq_true, decide_eq_true_eq, decide_eq_true_eq] at hf
 have hs := hf.2
 refine ⟨?_, by omega, by rw [List.length_take, List.length_drop]; omega, fun z hz => hb z (List.mem_of_mem_drop (List.mem_of_mem_take hz))⟩
 rw [hlen, show frN b + 7 - 4 = frN b + 3 by omega] at hs
 obtain ⟨n, hn⟩ : ∃ n, n = frN b := ⟨_, rfl⟩
 rw [← hn] at hs hlen ⊢
 match b, hb, hlen, hs, hn with
 | b0 :: b1 :: b2 :: r, hb, hlen, hs, hn =>
  have q1 : b1 < 256 := hb b1 (by simp)
  have q2 : b2 < 256 := hb b2 (by simp)
  have hr : r.length = n + 4 := by simpa using hlen
  have hnn : n = b1 * 256 + b2 := by
   rw [hn]
   simp [frN, numN]
  have e : putB b0 (r.take n) = (b0 :: b1 :: b2 :: r).take (n + 3) := by
   unfold putB
   rw [List.length_take, Nat.min_eq_left (by omega), show n / 256 = b1 by omega, show n % 256 = b2 by omega]
   simp
  show sealB (putB b0 (r.take n)) = _
  rw [e]; exact hs
theorem enc_of_dec (b : List Nat) (hb : isBs b) (h : dE b = 0) (x : LV) (hv : x.val = dV b) (hn : x.ns.length = x.l.fn) : encX x = b := by
 unfold dE decE at h
 by_cases hg : getE b = 0
 rotate_left
 ·rw [if_pos hg] at h; omega
 rw [if_neg (fun h => h hg)] at h
 by_cases hk : 1 ≤ getK b ∧ getK b ≤ 20
 rotate_left
 ·rw [if_pos hk] at h; omega
 rw [if_neg (fun h => h hk)] at h
 by_cases hd : (decS stX b).1.done = 0
 rotate_left
 ·rw [if_pos (.inl hd)] at h; omega
 obtain ⟨f1, f2, f3, f4⟩ := frame_back b hb hg
 have hs : (decS stX b).1.e = 0 ∧ (decS stX b).1.l = [] := by
  unfold FI.done at hd
  split at hd
  ·rename_i h1; exact absurd hd h1
  ·rename_i h1
   split at hd
   ·rename_i h2; exact ⟨Classical.not_not.1 h1, h2⟩
   ·omega
 have b0 : bytesB (bI (getB b)) := bytesB_bI _ f4
 have b1 : bytesB (dec1 b).1.l := FI.upto_bytes _ _ _ b0
 have b2 : bytesB (dec2 b).1.l := FI.upto_bytes _ _ _ b1
 have hlt := (partsI_all (getK b)).1
 obtain ⟨e2, l2⟩ := stF_fwd (partsI (getK b)) (dec2 b).1 (decV b) hlt (partsI_all _).2.1 b2 (fun _ => rfl) (fun _ => rfl) hs.1
 obtain ⟨e1, l1, _⟩ := upto_fwd (dec1 b).1 2 18446744073709551615 b1 (by decide) (by decide) e2
 obtain ⟨e0, l0, _⟩ := upto_fwd (⟨bI (getB b), 0⟩ : FI) 2 18446744073709551615 b0 (by decide) (by decide) e1
 obtain ⟨k1, k2, k3⟩ := stF_kd (partsI (getK b)) (dec2 b).1 (decV b) hlt
 have hkd : x.l.kd = getK b := by
  have : x.val.kd = (decV b).kd := by rw [hv]; exact k1
  exact this
 have hfr : x.l.fr = (dec1 b).2 := by
  have : x.val.fr = (decV b).fr := by rw [hv]; exact k2
  exact this
 have htw : x.l.tw = (dec2 b).2 := by
  have : x.val.tw = (decV b).tw := by rw [hv]; exact k3
  exact this
 have hflat : (partsI (getK b)).flatMap (partB x) = (dec2 b).1.l := by
  rw [l2]
  have e : (stF stX (partsI (getK b)) (dec2 b).1 (decV b)).1.l = [] := hs.2
  rw [e, List.append_nil]
  have e3 : (stF stX (partsI (getK b)) (dec2 b).1 (decV b)).2 = x.val := hv.symm
  rw [e3]
  congr 1
  funext i
  exact partW_of x hn i
 have hbody : bodyB x.l (partsI x.l.kd.toNat) (partB x) = bI (getB b) := by
  unfold bodyB hdrB
  rw [hkd, hfr, htw, Int.toNat_natCast, Int.toNat_natCast, Int.toNat_natCast, hflat, List.append_assoc]
  have l0' : bI (getB b) = big (dec1 b).2 2 ++ (dec1 b).1.l := l0
  have l1' : (dec1 b).1.l = big (dec2 b).2 2 ++ (dec2 b).1.l := l1
  rw [l0', l1']
 unfold encX encB
 rw [hbody, hkd, Int.toNat_natCast]
 have hnat : natB (bI (getB b)) = getB b := by
  unfold natB bI
  rw [List.map_map]
  conv => rhs; rw [← List.map_id (getB b)]
  apply List.map_congr_left
  intro a _
  simp
 rw [hnat]
 exact f1
end Go.Proofs.YtmpedblelnpjdaaGreatDoor
