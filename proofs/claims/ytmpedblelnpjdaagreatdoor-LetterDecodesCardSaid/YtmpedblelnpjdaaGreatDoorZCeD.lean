/- What was read is put as the same bytes: every part of a letter. -/
import Derived.Test.YtmpedblelnpjdaaGreatDoorZCeB
namespace Go.Proofs.YtmpedblelnpjdaaGreatDoor
open Go.RowKit
set_option linter.unusedSimpArgs false
set_option linter.unusedVariables false
set_option maxHeartbeats 2000000
set_option maxRecDepth 100000
theorem next_cases (s : FI) (n : Nat) (hs : s.e = 0) : (s.l.length < n ∧ s.next n = (s.fail 3, [], false)) ∨ (n ≤ s.l.length ∧ s.next n = (⟨s.l.drop n, 0⟩, s.l.take n, true)) := by
 unfold FI.next
 rw [if_neg (by simp [hs])]
 by_cases h : s.l.length < n
 ·left; exact ⟨h, by rw [if_pos h]⟩
 ·right; exact ⟨by omega, by rw [if_neg h]⟩
theorem upto_fwd (s : FI) (j most : Nat) (hb : bytesB s.l) (h1 : 1 ≤ j) (h8 : j ≤ 8) (he : (s.upto j most).1.e = 0) : s.e = 0 ∧ s.l = big (s.upto j most).2 j ++ (s.upto j most).1.l ∧ (s.upto j most).2 ≤ most := by
 have hk : knownB (j : Int) = true := (knownB_iff _).2 (by omega)
 by_cases hs : s.e = 0
 rotate_left
 ·rw [FI.upto, if_pos hs] at he; exact absurd he hs
 rcases next_cases s j hs with ⟨hl, hn⟩ | ⟨hl, hn⟩
 ·rw [FI.upto, if_neg (by simp [hs]), if_pos hk, Int.toNat_natCast, hn, if_neg (by simp)] at he
  exact absurd he (FI.fail_e _ _ (by decide))
 ·have hU : s.upto j most = if most < numB (s.l.take j) then (FI.fail ⟨s.l.drop j, 0⟩ 4, 0) else (⟨s.l.drop j, 0⟩, numB (s.l.take j)) := by
   rw [FI.upto, if_neg (by simp [hs]), if_pos hk, Int.toNat_natCast, hn, if_pos rfl]
  rw [hU] at he ⊢
  by_cases hm : most < numB (s.l.take j)
  ·rw [if_pos hm] at he; exact absurd he (FI.fail_e _ _ (by decide))
  ·rw [if_neg hm]
   refine ⟨hs, ?_, by simp only; omega⟩
   have := big_numB (s.l.take j) (bytesB_take _ _ hb)
   rw [List.length_take, Nat.min_eq_left hl] at this
   simp only [this, List.take_append_drop]
theorem raw_fwd (s : FI) (n : Nat) (he : (s.raw n).1.e = 0) : s.e = 0 ∧ s.l = (s.raw n).2 ++ (s.raw n).1.l ∧ (s.raw n).2.length = n := by
 have hR : s.raw n = ((s.next n).1, (s.next n).2.1) := by rw [FI.raw, if_neg (by omega), Int.toNat_natCast]
 rw [hR] at he ⊢
 by_cases hs : s.e = 0
 rotate_left
 ·rw [FI.next_of_e _ _ hs] at he; exact absurd he hs
 rcases next_cases s n hs with ⟨hl, hn⟩ | ⟨hl, hn⟩
 ·rw [hn] at he; exact absurd he (FI.fail_e _ _ (by decide))
 ·rw [hn]
  exact ⟨hs, by simp only [List.take_append_drop], by simp only [List.length_take]; omega⟩
theorem text_fwd (s : FI) (most : Int) (hb : bytesB s.l) (he : (s.text most).1.e = 0) : s.e = 0 ∧ s.l = (big (s.text most).2.length 2 ++ (s.text most).2) ++ (s.text most).1.l ∧ ((s.text most).2.length : Int) ≤ most := by
 by_cases hs : s.e = 0
 rotate_left
 ·rw [FI.text, FI.next_of_e _ _ hs, if_neg (by simp)] at he; exact absurd he hs
 rcases next_cases s 2 hs with ⟨hl, hn⟩ | ⟨hl, hn⟩
 ·rw [FI.text, hn, if_neg (by simp)] at he; exact absurd he (FI.fail_e _ _ (by decide))
 ·have hT : s.text most = if most < numB (s.l.take 2) then (FI.fail ⟨s.l.drop 2, 0⟩ 6, []) else FI.raw ⟨s.l.drop 2, 0⟩ (numB (s.l.take 2)) := by
   rw [FI.text, hn, if_pos rfl]
  rw [hT] at he ⊢
  by_cases hm : most < numB (s.l.take 2)
  ·rw [if_pos hm] at he; exact absurd he (FI.fail_e _ _ (by decide))
  ·rw [if_neg hm] at he ⊢
   obtain ⟨_, r1, r2⟩ := raw_fwd ⟨s.l.drop 2, 0⟩ _ he
   have := big_numB (s.l.take 2) (bytesB_take _ _ hb)
   rw [List.length_take, Nat.min_eq_left hl] at this
   refine ⟨hs, ?_, by rw [r2]; omega⟩
   rw [r2, this, List.append_assoc, ← r1, List.take_append_drop]
theorem upto_ok (s : FI) (j : Nat) (hs : s.e = 0) (hb : bytesB s.l) (h1 : 1 ≤ j) (h8 : j ≤ 8) (hl : j ≤ s.l.length) : (s.upto j 18446744073709551615).1.e = 0 := by
 have hk : knownB (j : Int) = true := (knownB_iff _).2 (by omega)
 rcases next_cases s j hs with ⟨hl2, hn⟩ | ⟨_, hn⟩
 ·omega
 ·have h := FI.upto_lt s j 18446744073709551615 hb
  rw [FI.upto, if_neg (by simp [hs]), if_pos hk, Int.toNat_natCast, hn, if_pos rfl]
  have hn2 : numB (s.l.take j) < 256 ^ j := by
   have := numB_lt (s.l.take j) (bytesB_take _ _ hb)
   rwa [List.length_take, Nat.min_eq_left hl] at this
  have : (256 : Nat) ^ j ≤ 18446744073709551616 := Nat.le_trans (Nat.pow_le_pow_right (by omega) h8) (by decide)
  rw [if_neg (show ¬ 18446744073709551615 < numB (s.l.take j) by omega)]
theorem cmd_fwd (b : List Int) (hb : bytesB b) (hl : b.length = 11) : cmdB (cmdP b).k (cmdP b).c (cmdP b).e (cmdP b).n = b := by
 have q1 : (cp1 b).1.e = 0 := upto_ok ⟨b, 0⟩ 1 rfl hb (by omega) (by omega) (by simp only; omega)
 have r1 : b = big (cp1 b).2 1 ++ (cp1 b).1.l := (upto_fwd ⟨b, 0⟩ 1 18446744073709551615 hb (by omega) (by omega) q1).2.1
 have b1 : bytesB (cp1 b).1.l := FI.upto_bytes _ _ _ hb
 have l1 : (cp1 b).1.l.length = 10 := by
  have := congrArg List.length r1
  rw [List.length_append, big_len] at this; omega
 have q2 : (cp2 b).1.e = 0 := upto_ok (cp1 b).1 1 q1 b1 (by omega) (by omega) (by omega)
 have r2 : (cp1 b).1.l = big (cp2 b).2 1 ++ (cp2 b).1.l := (upto_fwd (cp1 b).1 1 18446744073709551615 b1 (by omega) (by omega) q2).2.1
 have b2 : bytesB (cp2 b).1.l := FI.upto_bytes _ _ _ b1
 have l2 : (cp2 b).1.l.length = 9 := by
  have := congrArg List.length r2
  rw [List.length_append, big_len] at this; omega
 have q3 : (cp3 b).1.e = 0 := upto_ok (cp2 b).1 8 q2 b2 (by omega) (by omega) (by omega)
 have r3 : (cp2 b).1.l = big (cp3 b).2 8 ++ (cp3 b).1.l := (upto_fwd (cp2 b).1 8 18446744073709551615 b2 (by omega) (by omega) q3).2.1
 have b3 : bytesB (cp3 b).1.l := FI.upto_bytes _ _ _ b2
 have l3 : (cp3 b).1.l.length = 1 := by
  have := congrArg List.length r3
  rw [List.length_append, big_len] at this; omega
 have q4 : (cp4 b).1.e = 0 := upto_ok (cp3 b).1 1 q3 b3 (by omega) (by omega) (by omega)
 have r4 : (cp3 b).1.l = big (cp4 b).2 1 ++ (cp4 b).1.l := (upto_fwd (cp3 b).1 1 18446744073709551615 b3 (by omega) (by omega) q4).2.1
 have l4 : (cp4 b).1.l = [] := by
  have := congrArg List.length r4
  rw [List.length_append, big_len] at this
  exact List.eq_nil_of_length_eq_zero (by omega)
 rw [r2, r3, r4, l4] at r1
 conv => rhs; rw [r1]
 simp only [cmdB, cmdP, Int.toNat_natCast, List.append_assoc, List.append_nil]
theorem cmdG_fwd (s : FI) (hb : bytesB s.l) (h : cmdGe s = 0) : s.e = 0 ∧ s.l = cmdB (cmdGv s).k (cmdGv s).c (cmdGv s).e (cmdGv s).n ++ (s.raw 11).1.l ∧ (s.raw 11).1.e = 0 ∧ (cmdGv s).err = 0 := by
 unfold cmdGe at h
 by_cases h1 : (s.raw 11).1.e = 0
 rotate_left
 ·rw [if_pos h1] at h; exact absurd h h1
 rw [if_neg (by simpa using h1)] at h
 by_cases h2 : (cmdP (s.raw 11).2).err = 0
 rotate_left
 ·rw [if_pos h2] at h; omega
 obtain ⟨r1, r2, r3⟩ := raw_fwd s 11 h1
 have hv : cmdGv s = cmdP (s.raw 11).2 := by rw [cmdGv, if_neg (by simpa using h1), if_neg (by simpa using h2)]
 have := cmd_fwd (s.raw 11).2 (raw_bytes2 _ _ hb) r3
 rw [hv, this]
 exact ⟨r1, r2, h1, h2⟩
theorem vote_fwd (s : FI) (hb : bytesB s.l) (h : cmdGe (w2 s).1 = 0) : s.e = 0 ∧ s.l = voteB (voteV s) ++ (voteI s).l ∧ (voteI s).e = 0 := by
 have b1 : bytesB (w1 s).1.l := FI.upto_bytes _ _ _ hb
 have b2 : bytesB (w2 s).1.l := FI.upto_bytes _ _ _ b1
 obtain ⟨r1, r2, r3, _⟩ := cmdG_fwd (w2 s).1 b2 h
 obtain ⟨t1, t2, _⟩ := upto_fwd (w1 s).1 8 18446744073709551615 b1 (by omega) (by omega) r1
 obtain ⟨u1, u2, _⟩ := upto_fwd s 2 18446744073709551615 hb (by omega) (by omega) t1
 refine ⟨u1, ?_, r3⟩
 have e1 : s.l = big (w1 s).2 2 ++ (w1 s).1.l := u2
 have e2 : (w1 s).1.l = big (w2 s).2 8 ++ (w2 s).1.l := t2
 conv => lhs; rw [e1, e2, r2]
 simp only [voteB, voteV, voteI, Int.toNat_natCast, List.append_assoc]
theorem voteI_bytes (s : FI) (hb : bytesB s.l) : bytesB (voteI s).l := FI.raw_bytesI _ _ (FI.upto_bytes _ _ _ (FI.upto_bytes _ _ _ hb))
theorem votsG_bytes (s : FI) (hb : bytesB s.l) : ∀ j, bytesB (votsG s j).1.l
 | 0 => hb
 | j + 1 => by
  have ih := votsG_bytes s hb j
  rw [votsG]
  split
  ·exact ih
  ·split
   ·simp only [wrongF_l]; exact bytesB_nil
   ·exact voteI_bytes _ ih
theorem votes_fwd (s : FI) (hb : bytesB s.l) : ∀ j, (votsG s j).1.e = 0 → s.e = 0 ∧ s.l = (votsG s j).2.1.flatMap voteB ++ (votsG s j).1.l ∧ (votsG s j).2.1.length = j ∧ (votsG s j).2.2 = false
 | 0, he => ⟨he, rfl, rfl, rfl⟩
 | j + 1, he => by
  rw [votsG] at he ⊢
  by_cases hq : (votsG s j).2.2 = true
  ·rw [if_pos hq] at he
   have := (votes_fwd s hb j he).2.2.2
   rw [this] at hq; cases hq
  rw [if_neg hq] at he ⊢
  by_cases hc : cmdGe (w2 (votsG s j).1).1 = 0
  ·rw [if_neg (by simpa using hc)] at he ⊢
   obtain ⟨r1, r2, r3⟩ := vote_fwd (votsG s j).1 (votsG_bytes s hb j) hc
   obtain ⟨t1, t2, t3, _⟩ := votes_fwd s hb j r1
   refine ⟨t1, ?_, by simp only [List.length_append, List.length_singleton, t3], rfl⟩
   conv => lhs; rw [t2, r2]
   simp only [List.flatMap_append, List.flatMap_cons, List.flatMap_nil, List.append_nil, List.append_assoc]
  ·rw [if_pos hc] at he
   exact absurd he (wrongF_e _)
def upBt (t : Int × Int × Int × Int × Int × Int × List Int) : List Int := big t.1.toNat 8 ++ big t.2.1.toNat 1 ++ big t.2.2.1.toNat 8 ++ big t.2.2.2.1.toNat 1 ++ big t.2.2.2.2.1.toNat 4 ++ big t.2.2.2.2.2.1.toNat 8 ++ (big t.2.2.2.2.2.2.length 2 ++ t.2.2.2.2.2.2)
theorem getU_fwd (s : FI) (hb : bytesB s.l) (h : (getUi s).e = 0) : s.e = 0 ∧ s.l = upBt (getUv s) ++ (getUi s).l := by
 obtain ⟨b1, b2, b3, b4, b5, b6⟩ := gs_bytes s hb
 obtain ⟨r7, t7, _⟩ := text_fwd (g6 s).1 2048 b6 h
 obtain ⟨r6, t6, _⟩ := upto_fwd (g5 s).1 8 18446744073709551615 b5 (by omega) (by omega) r7
 obtain ⟨r5, t5, _⟩ := upto_fwd (g4 s).1 4 18446744073709551615 b4 (by omega) (by omega) r6
 obtain ⟨r4, t4, _⟩ := upto_fwd (g3 s).1 1 18446744073709551615 b3 (by omega) (by omega) r5
 obtain ⟨r3, t3, _⟩ := upto_fwd (g2 s).1 8 18446744073709551615 b2 (by omega) (by omega) r4
 obtain ⟨r2, t2, _⟩ := upto_fwd (g1 s).1 1 18446744073709551615 b1 (by omega) (by omega) r3
 obtain ⟨r1, t1, _⟩ := upto_fwd s 8 18446744073709551615 hb (by omega) (by omega) r2
 refine ⟨r1, ?_⟩
 have e1 : s.l = big (g1 s).2 8 ++ (g1 s).1.l := t1
 have e2 : (g1 s).1.l = big (g2 s).2 1 ++ (g2 s).1.l := t2
 have e3 : (g2 s).1.l = big (g3 s).2 8 ++ (g3 s).1.l := t3
 have e4 : (g3 s).1.l = big (g4 s).2 1 ++ (g4 s).1.l := t4
 have e5 : (g4 s).1.l = big (g5 s).2 4 ++ (g5 s).1.l := t5
 have e6 : (g5 s).1.l = big (g6 s).2 8 ++ (g6 s).1.l := t6
 have e7 : (g6 s).1.l = (big (g7 s).2.length 2 ++ (g7 s).2) ++ (getUi s).l := t7
 have hv : getUv s = (((g1 s).2 : Int), ((g2 s).2 : Int), ((g3 s).2 : Int), ((g4 s).2 : Int), ((g5 s).2 : Int), ((g6 s).2 : Int), (g7 s).2) := by unfold getUv; rw [if_pos (show (g7 s).1.e = 0 from h)]
 rw [hv]
 conv => lhs; rw [e1, e2, e3, e4, e5, e6, e7]
 simp only [upBt, Int.toNat_natCast, List.append_assoc]
theorem upsG_bytes (s : FI) (hb : bytesB s.l) : ∀ j, bytesB (upsG s j).1.l
 | 0 => hb
 | j + 1 => getUi_bytes _ (upsG_bytes s hb j)
theorem upds_fwd (s : FI) (hb : bytesB s.l) : ∀ j, (upsG s j).1.e = 0 → s.e = 0 ∧ s.l = (upsG s j).2.flatMap upBt ++ (upsG s j).1.l
 | 0, he => ⟨he, rfl⟩
 | j + 1, he => by
  rw [upsG] at he ⊢
  obtain ⟨r1, r2⟩ := getU_fwd (upsG s j).1 (upsG_bytes s hb j) he
  obtain ⟨t1, t2⟩ := upds_fwd s hb j r1
  refine ⟨t1, ?_⟩
  conv => lhs; rw [t2, r2]
  simp only [List.flatMap_append, List.flatMap_cons, List.flatMap_nil, List.append_nil, List.append_assoc]
theorem nodes_fwd (l : List Int) (h : bytesB l) : nodesB l = l := by
 unfold nodesB
 induction l with
 | nil => rfl
 | cons a l ih =>
  have := h a List.mem_cons_self
  rw [List.flatMap_cons, ih (fun z hz => h z (List.mem_cons_of_mem _ hz)), bigOne a (by omega)]; rfl
def confBt (q : Cn) : List Int := big q.ch.toNat 1 ++ big q.ep.toNat 8 ++ big (oneB q.fr) 1 ++ big q.jn.toNat 1 ++ big q.ns.length 1 ++ nodesB q.ns
theorem conf_fwd (s : FI) (hb : bytesB s.l) (h : confGe s = 0) : s.e = 0 ∧ s.l = confBt (confGv s) ++ (k6 s).1.l ∧ (k6 s).1.e = 0 ∧ (confGv s).right = true := by
 unfold confGe at h
 by_cases h1 : (k6 s).1.e = 0
 rotate_left
 ·rw [if_pos h1] at h; exact absurd h h1
 rw [if_neg (by simpa using h1)] at h
 by_cases h2 : (confP s).right = true
 rotate_left
 ·rw [if_neg h2] at h; omega
 have hv : confGv s = confP s := by rw [confGv, if_neg (by simpa using h1), if_pos h2]
 obtain ⟨b1, b2, b3, b4, b5⟩ := ks_bytes s hb
 obtain ⟨r6, t6, n6⟩ := raw_fwd (k5 s).1 (k5 s).2 h1
 obtain ⟨r5, t5, _⟩ := upto_fwd (k4 s).1 1 18446744073709551615 b4 (by omega) (by omega) r6
 obtain ⟨r4, t4, _⟩ := upto_fwd (k3 s).1 1 18446744073709551615 b3 (by omega) (by omega) r5
 obtain ⟨r3, t3, m3⟩ := upto_fwd (k2 s).1 1 1 b2 (by omega) (by omega) r4
 obtain ⟨r2, t2, _⟩ := upto_fwd (k1 s).1 8 18446744073709551615 b1 (by omega) (by omega) r3
 obtain ⟨r1, t1, _⟩ := upto_fwd s 1 18446744073709551615 hb (by omega) (by omega) r2
 have e1 : s.l = big (k1 s).2 1 ++ (k1 s).1.l := t1
 have e2 : (k1 s).1.l = big (k2 s).2 8 ++ (k2 s).1.l := t2
 have e3 : (k2 s).1.l = big (k3 s).2 1 ++ (k3 s).1.l := t3
 have e4 : (k3 s).1.l = big (k4 s).2 1 ++ (k4 s).1.l := t4
 have e5 : (k4 s).1.l = big (k5 s).2 1 ++ (k5 s).1.l := t5
 have e6 : (k5 s).1.l = (k6 s).2 ++ (k6 s).1.l := t6
 have n6 : (k6 s).2.length = (k5 s).2 := n6
 have o3 : oneB (decide ((k3 s).2 = 1)) = (k3 s).2 := by
  have m3 : (k3 s).2 ≤ 1 := m3
  unfold oneB
  by_cases hz : (k3 s).2 = 1
  ·simp [hz]
  ·simp [hz]; omega
 refine ⟨r1, ?_, h1, by rw [hv]; exact h2⟩
 rw [hv]
 conv => lhs; rw [e1, e2, e3, e4, e5, e6]
 simp only [confBt, confP, Int.toNat_natCast, o3, n6, nodes_fwd _ (k6_bytes s hb), List.append_assoc]
def partW (y : LVal) (i : Nat) : List Int := match i with
 | 0 => big y.ch.toNat 1
 | 1 => big y.ep.toNat 8
 | 2 => big y.bl.toNat 8
 | 3 => big y.sq.toNat 8
 | 4 => big y.dz.toNat 8
 | 5 => big y.sl.toNat 2
 | 6 => big y.nu.toNat 8
 | 7 => big y.cd.toNat 1
 | 8 => big y.ky.toNat 4
 | 9 => big y.vr.toNat 8
 | 10 => cmdB y.qk y.qc y.qe y.qn
 | 11 => confBt ⟨y.fc, y.fe, y.ff, y.fj, y.ns⟩
 | 12 => votesPB y.vs
 | 13 => big y.us.length 1 ++ y.us.flatMap upBt
 | 14 => big y.ds.length 2 ++ y.ds
 | _ => []
theorem partW_of (x : LV) (hn : x.ns.length = x.l.fn) (i : Nat) : partB x i = partW x.val i := by
 match i with
 | 0 => rfl
 | 1 => rfl
 | 2 => rfl
 | 3 => rfl
 | 4 => rfl
 | 5 => rfl
 | 6 => rfl
 | 7 => rfl
 | 8 => rfl
 | 9 => rfl
 | 10 => rfl
 | 11 =>
  show confB x.conf = confBt ⟨x.l.fc, x.l.fe, x.l.ff, x.l.fj, x.ns⟩
  simp only [confB, confBt, hn]; rfl
 | 12 => rfl
 | 13 =>
  show updsPB x.us = big (x.us.map Up.val).length 1 ++ (x.us.map Up.val).flatMap upBt
  rw [List.length_map, List.flatMap_map]; rfl
 | 14 => rfl
 | (_ + 15) => rfl
theorem partW_sel (f : Nat → Bool) (v y : LVal) (i : Nat) : partW (LVal.sel f v y) i = if f i = true then partW y i else partW v i := by
 match i with
 | 0 => cases h : f 0 <;> simp only [partW, LVal.sel, h, if_true, if_false, Bool.false_eq_true]
 | 1 => cases h : f 1 <;> simp only [partW, LVal.sel, h, if_true, if_false, Bool.false_eq_true]
 | 2 => cases h : f 2 <;> simp only [partW, LVal.sel, h, if_true, if_false, Bool.false_eq_true]
 | 3 => cases h : f 3 <;> simp only [partW, LVal.sel, h, if_true, if_false, Bool.false_eq_true]
 | 4 => cases h : f 4 <;> simp only [partW, LVal.sel, h, if_true, if_false, Bool.false_eq_true]
 | 5 => cases h : f 5 <;> simp only [partW, LVal.sel, h, if_true, if_false, Bool.false_eq_true]
 | 6 => cases h : f 6 <;> simp only [partW, LVal.sel, h, if_true, if_false, Bool.false_eq_true]
 | 7 => cases h : f 7 <;> simp only [partW, LVal.sel, h, if_true, if_false, Bool.false_eq_true]
 | 8 => cases h : f 8 <;> simp only [partW, LVal.sel, h, if_true, if_false, Bool.false_eq_true]
 | 9 => cases h : f 9 <;> simp only [partW, LVal.sel, h, if_true, if_false, Bool.false_eq_true]
 | 10 => cases h : f 10 <;> simp only [partW, LVal.sel, h, if_true, if_false, Bool.false_eq_true]
 | 11 => cases h : f 11 <;> simp only [partW, LVal.sel, h, if_true, if_false, Bool.false_eq_true]
 | 12 => cases h : f 12 <;> simp only [partW, LVal.sel, h, if_true, if_false, Bool.false_eq_true]
 | 13 => cases h : f 13 <;> simp only [partW, LVal.sel, h, if_true, if_false, Bool.false_eq_true]
 | 14 => cases h : f 14 <;> simp only [partW, LVal.sel, h, if_true, if_false, Bool.false_eq_true]
 | (_ + 15) => simp only [partW]; split <;> rfl
theorem st_sel (i : Nat) (hi : i < 15) (s : FI) (v : LVal) : (stX i s v).2 = LVal.sel (isJ i) v (stX i s v).2 := by
 match i with
 | 0 => rfl
 | 1 => rfl
 | 2 => rfl
 | 3 => rfl
 | 4 => rfl
 | 5 => rfl
 | 6 => rfl
 | 7 => rfl
 | 8 => rfl
 | 9 => rfl
 | 10 => rfl
 | 11 => rfl
 | 12 => rfl
 | 13 => rfl
 | 14 => rfl
 | (n + 15) => omega
theorem num_fwd (s : FI) (j : Nat) (hb : bytesB s.l) (h1 : 1 ≤ j) (h8 : j ≤ 8) (he : (s.upto j 18446744073709551615).1.e = 0) : s.e = 0 ∧ s.l = big ((s.upto j 18446744073709551615).2 : Int).toNat j ++ (s.upto j 18446744073709551615).1.l := by
 obtain ⟨h1, h2, _⟩ := upto_fwd s j _ hb h1 h8 he
 rw [Int.toNat_natCast]
 exact ⟨h1, h2⟩
theorem st_fwd (i : Nat) (hi : i < 15) (s : FI) (v : LVal) (hb : bytesB s.l) (h12 : i = 12 → v.vs = []) (h13 : i = 13 → v.us = []) (he : (stX i s v).1.e = 0) : s.e = 0 ∧ s.l = partW (stX i s v).2 i ++ (stX i s v).1.l := by
 match i, he with
 | 0, he => exact num_fwd s 1 hb (by omega) (by omega) he
 | 1, he => exact num_fwd s 8 hb (by omega) (by omega) he
 | 2, he => exact num_fwd s 8 hb (by omega) (by omega) he
 | 3, he => exact num_fwd s 8 hb (by omega) (by omega) he
 | 4, he => exact num_fwd s 8 hb (by omega) (by omega) he
 | 5, he => exact num_fwd s 2 hb (by omega) (by omega) he
 | 6, he => exact num_fwd s 8 hb (by omega) (by omega) he
 | 7, he => exact num_fwd s 1 hb (by omega) (by omega) he
 | 8, he => exact num_fwd s 4 hb (by omega) (by omega) he
 | 9, he => exact num_fwd s 8 hb (by omega) (by omega) he
 | 10, he =>
  have he : (st10 s v).1.e = 0 := he
  by_cases hc : cmdGe s = 0
  ·obtain ⟨r1, r2, _, _⟩ := cmdG_fwd s hb hc
   refine ⟨r1, ?_⟩
   show s.l = cmdB (cmdGv s).k (cmdGv s).c (cmdGv s).e (cmdGv s).n ++ (st10 s v).1.l
   rw [st10, if_neg (by simpa using hc)]; exact r2
  ·rw [st10, if_pos hc] at he; exact absurd he (wrongF_e _)
 | 11, he =>
  have he : (st11 s v).1.e = 0 := he
  by_cases hc : confGe s = 0
  ·obtain ⟨r1, r2, _, _⟩ := conf_fwd s hb hc
   refine ⟨r1, ?_⟩
   show s.l = confBt ⟨(confGv s).ch, (confGv s).ep, (confGv s).fr, (confGv s).jn, (confGv s).ns⟩ ++ (st11 s v).1.l
   rw [st11, if_neg (by simpa using hc)]; exact r2
  ·rw [st11, if_pos hc] at he; exact absurd he (wrongF_e _)
 | 12, he =>
  have he : (votsG (s.upto 2 512).1 (s.upto 2 512).2).1.e = 0 := he
  obtain ⟨r1, r2, r3, _⟩ := votes_fwd _ (FI.upto_bytes _ _ _ hb) _ he
  obtain ⟨t1, t2, _⟩ := upto_fwd s 2 512 hb (by omega) (by omega) r1
  refine ⟨t1, ?_⟩
  show s.l = votesPB (v.vs ++ (votsG (s.upto 2 512).1 (s.upto 2 512).2).2.1) ++ (votsG (s.upto 2 512).1 (s.upto 2 512).2).1.l
  rw [h12 rfl, List.nil_append, votesPB, r3, List.append_assoc, ← r2]; exact t2
 | 13, he =>
  have he : (upsG (s.upto 1 4).1 (s.upto 1 4).2).1.e = 0 := he
  obtain ⟨r1, r2⟩ := upds_fwd _ (FI.upto_bytes _ _ _ hb) _ he
  obtain ⟨t1, t2, _⟩ := upto_fwd s 1 4 hb (by omega) (by omega) r1
  refine ⟨t1, ?_⟩
  show s.l = (big (v.us ++ (upsG (s.upto 1 4).1 (s.upto 1 4).2).2).length 1 ++ (v.us ++ (upsG (s.upto 1 4).1 (s.upto 1 4).2).2).flatMap upBt) ++ (upsG (s.upto 1 4).1 (s.upto 1 4).2).1.l
  rw [h13 rfl, List.nil_append, upsG_len, List.append_assoc, ← r2]; exact t2
 | 14, he =>
  obtain ⟨r1, r2, _⟩ := text_fwd s (roomV v.kd) hb he
  exact ⟨r1, r2⟩
 | (n + 15), _ => omega
theorem stO_bytes (i : Nat) (s : FI) (v : LVal) (hb : bytesB s.l) : bytesB (stO i s v).1.l := by
 unfold stO
 split
 ·unfold st10
  simp only
  split
  ·rw [wrongF_l]; exact bytesB_nil
  ·exact FI.raw_bytesI _ _ hb
 ·unfold st11
  simp only
  split
  ·rw [wrongF_l]; exact bytesB_nil
  ·exact FI.raw_bytesI _ _ (ks_bytes s hb).2.2.2.2
 ·exact votsG_bytes _ (FI.upto_bytes _ _ _ hb) _
 ·exact upsG_bytes _ (FI.upto_bytes _ _ _ hb) _
 ·exact FI.text_bytesI _ _ hb
 ·exact hb
theorem stX_bytes (i : Nat) (s : FI) (v : LVal) (hb : bytesB s.l) : bytesB (stX i s v).1.l := by
 unfold stX stG
 split <;> first | exact FI.upto_bytes _ _ _ hb | exact stO_bytes _ _ _ hb
theorem LVal.sel_sel2 (f g : Nat → Bool) (v z y : LVal) (h2 : z = LVal.sel g v z) (h1 : y = LVal.sel f z y) : y = LVal.sel (fun j => g j || f j) v y := by
 rw [h2] at h1
 have key : ∀ {α : Type} (a b : Bool) (p q r : α), p = (if a = true then p else if b = true then q else r) → p = if (b || a) = true then p else r := by
  intro α a b p q r e
  cases a
  ·cases b
   ·exact e
   ·rfl
  ·cases b <;> rfl
 simp only [LVal.sel] at h1 ⊢
 refine LVal.ext' ⟨?_, ?_, ?_, ?_, ?_, ?_, ?_, ?_, ?_, ?_, ?_, ?_, ?_, ?_, ?_, ?_, ?_, ?_, ?_, ?_, ?_, ?_, ?_, ?_, ?_⟩
 ·have := congrArg LVal.kd h1; exact this
 ·have := congrArg LVal.fr h1; exact this
 ·have := congrArg LVal.tw h1; exact this
 ·exact key _ _ _ _ _ (congrArg LVal.ch h1)
 ·exact key _ _ _ _ _ (congrArg LVal.ep h1)
 ·exact key _ _ _ _ _ (congrArg LVal.bl h1)
 ·exact key _ _ _ _ _ (congrArg LVal.nu h1)
 ·exact key _ _ _ _ _ (congrArg LVal.sq h1)
 ·exact key _ _ _ _ _ (congrArg LVal.dz h1)
 ·exact key _ _ _ _ _ (congrArg LVal.vr h1)
 ·exact key _ _ _ _ _ (congrArg LVal.sl h1)
 ·exact key _ _ _ _ _ (congrArg LVal.ky h1)
 ·exact key _ _ _ _ _ (congrArg LVal.cd h1)
 ·exact key _ _ _ _ _ (congrArg LVal.qk h1)
 ·exact key _ _ _ _ _ (congrArg LVal.qc h1)
 ·exact key _ _ _ _ _ (congrArg LVal.qe h1)
 ·exact key _ _ _ _ _ (congrArg LVal.qn h1)
 ·exact key _ _ _ _ _ (congrArg LVal.fc h1)
 ·exact key _ _ _ _ _ (congrArg LVal.fe h1)
 ·exact key _ _ _ _ _ (congrArg LVal.ff h1)
 ·exact key _ _ _ _ _ (congrArg LVal.fj h1)
 ·exact key _ _ _ _ _ (congrArg LVal.ns h1)
 ·exact key _ _ _ _ _ (congrArg LVal.vs h1)
 ·exact key _ _ _ _ _ (congrArg LVal.us h1)
 ·exact key _ _ _ _ _ (congrArg LVal.ds h1)
theorem stF_sel (is : List Nat) : ∀ (s : FI) (v : LVal), (∀ i ∈ is, i < 15) → (stF stX is s v).2 = LVal.sel (fun j => is.contains j) v (stF stX is s v).2 := by
 induction is with
 | nil => intro s v _; show v = LVal.sel (fun _ => false) v v; rw [LVal.sel_no]
 | cons i is ih =>
  intro s v hi
  have h1 := ih (stX i s v).1 (stX i s v).2 (fun j hj => hi j (List.mem_cons_of_mem _ hj))
  have h2 := st_sel i (hi i List.mem_cons_self) s v
  have h3 := LVal.sel_sel2 _ _ _ _ _ h2 h1
  exact h3.trans (LVal.sel_congr _ _ (fun j _ => by simp only [isJ, List.contains_cons]))
theorem stF_kd (is : List Nat) (s : FI) (v : LVal) (hi : ∀ i ∈ is, i < 15) : (stF stX is s v).2.kd = v.kd ∧ (stF stX is s v).2.fr = v.fr ∧ (stF stX is s v).2.tw = v.tw := by
 have h := stF_sel is s v hi
 generalize (stF stX is s v).2 = y at *
 rw [h]; exact ⟨rfl, rfl, rfl⟩
theorem stF_fwd (is : List Nat) : ∀ (s : FI) (v : LVal), (∀ i ∈ is, i < 15) → is.Nodup → bytesB s.l → (12 ∈ is → v.vs = []) → (13 ∈ is → v.us = []) → (stF stX is s v).1.e = 0 → s.e = 0 ∧ s.l = is.flatMap (partW (stF stX is s v).2) ++ (stF stX is s v).1.l := by
 induction is with
 | nil => intro s v _ _ _ _ _ he; exact ⟨he, rfl⟩
 | cons i is ih =>
  intro s v hi hn hb h12 h13 he
  have hn := List.nodup_cons.1 hn
  rw [stF_cons] at he ⊢
  have hsel := st_sel i (hi i List.mem_cons_self) s v
  have q12 : 12 ∈ is → (stX i s v).2.vs = [] := by
   intro e
   have hne : isJ i 12 = false := by simp only [isJ, beq_eq_false_iff_ne]; intro e2; exact hn.1 (e2 ▸ e)
   rw [hsel]
   show (if isJ i 12 = true then _ else v.vs) = _
   rw [hne, if_neg (by simp)]; exact h12 (List.mem_cons_of_mem _ e)
  have q13 : 13 ∈ is → (stX i s v).2.us = [] := by
   intro e
   have hne : isJ i 13 = false := by simp only [isJ, beq_eq_false_iff_ne]; intro e2; exact hn.1 (e2 ▸ e)
   rw [hsel]
   show (if isJ i 13 = true then _ else v.us) = _
   rw [hne, if_neg (by simp)]; exact h13 (List.mem_cons_of_mem _ e)
  obtain ⟨r1, r2⟩ := ih (stX i s v).1 (stX i s v).2 (fun j hj => hi j (List.mem_cons_of_mem _ hj)) hn.2 (stX_bytes i s v hb) q12 q13 he
  obtain ⟨t1, t2⟩ := st_fwd i (hi i List.mem_cons_self) s v hb (fun e => h12 (e ▸ List.mem_cons_self)) (fun e => h13 (e ▸ List.mem_cons_self)) r1
  refine ⟨t1, ?_⟩
  have hp : partW (stF stX is (stX i s v).1 (stX i s v).2).2 i = partW (stX i s v).2 i := by
   rw [stF_sel is _ _ (fun j hj => hi j (List.mem_cons_of_mem _ hj)), partW_sel, if_neg]
   simp only [List.contains_iff_mem]; exact hn.1
  rw [List.flatMap_cons, hp, List.append_assoc, ← r2]; exact t2
end Go.Proofs.YtmpedblelnpjdaaGreatDoor
