/- one, awake; no window. -/
import Derived.Test.YtfcjkkjgedcgpaaGreatDoorWinD

namespace Go.Proofs.YtfcjkkjgedcgpaaGreatDoor
open Go.RowKit
set_option linter.unusedSimpArgs false
set_option linter.unusedVariables false
set_option maxHeartbeats 8000000
set_option maxRecDepth 100000

def oneU (q : Int) : Up := ⟨q, 1, 1, 2, 0, 0, none, 0, 0, []⟩
theorem one_in (q : Int) (h0 : 0 ≤ q) (h1 : q ≤ 18446744073709551615) (w : World) (B : Nat) : UpIn w B (oneU q) :=
  ⟨Reads.none_, Nat.le_refl _, Nat.zero_le _, ⟨⟨h0, h1⟩, by constructor <;> simp [oneU], by constructor <;> simp [oneU], by constructor <;> simp [oneU], by constructor <;> simp [oneU], by constructor <;> simp [oneU], by simp [oneU]⟩⟩
theorem updE_one (q : Int) (h : 1 ≤ q) : updE (oneU q) false = 0 := by
  have hp : upOkP (oneU q) false := by unfold upOkP oneU; simp; omega
  unfold updE
  rw [if_neg (by simp [oneU, writesB]), if_neg (by simp [oneU]), ← upOk_yes hp]; rfl
theorem one_any (q : Int) (w : World) : Calls Tryz.prog 8 #[.int .u64 q] w fun e w' => e = .returned (oneU q).agg ∧ Below w.heap.size w w' := by
  go_enter Tryz.func8, Tryz.ntmps8
  go_wp2_with (fail)
  refine bodyPost_ret (v := (oneU q).agg) (by simp [results, Tryz.results8, go_sem, oneU, Up.agg]) rfl ?_
  exact ⟨rfl, by repeat (first | with_reducible exact Below.refl _ _ | with_reducible refine Below.setCell ?_ (by first | omega | (simp <;> omega)) _ | with_reducible refine Below.alloc ?_ (by first | omega | (simp <;> omega)) _ | with_reducible refine below_drewN ?_ _ | with_reducible refine Below.drew ?_)⟩
theorem Wn.addE_one (s : Wn) (h : s.ok) : s.addE (oneU (s.lend + 1)) = 0 := by
  have : 0 ≤ s.lend := by have := h.de; have := h.ld; have := h.low; omega
  unfold Wn.addE
  rw [updE_one _ (by omega), if_neg (by simp), if_neg (by simp [oneU])]
theorem trim_small {s : Wn} (h : s.lend < 32) : s.trim = s := by unfold Wn.trim; rw [if_pos h]
theorem awake_win (w : World) (hK : KindsAt w) : Calls Tryz.prog 15 #[] w fun e w' => e = .returned (.bool true) ∧ Below w.heap.size w w' := by
  have HK := Lib.hid hK
  clear hK
  go_enter Tryz.func15, Tryz.ntmps15
  go_wp2_with (fail)
  refine (wnew_any 5 w (by omega) (by omega)).mono ?_
  rintro e w1 ⟨rfl, hA, hb⟩
  have HA := Lib.hid hA
  have H1 := Lib.hid hb
  clear hA hb
  go_wp2_with (fail)
  refine (one_any 6 w1).mono ?_
  rintro e w2 ⟨rfl, hb⟩
  replace HA := Lib.hid (HA.out.below hb)
  have H2 := Lib.hid (H1.out.trans (hb.mono H1.out.size))
  clear hb
  go_wp2_with (fail)
  refine (add_any w.heap.size w2 w.heap.size _ _ (oneU 6) 0 HA.out (HK.out.below H2.out) (one_in 6 (by omega) (by omega) _ _) (Nat.zero_le _) (by simp [oneU]) (by simp) (by simp [Wn.lend])).mono ?_
  rintro e w3 ⟨v3, s3, rfl, hA3, hs3, hc3, hn3⟩
  have hE : (Wn.mk 5 5 []).addE (oneU 6) = 0 := Wn.addE_one ⟨5, 5, []⟩ HA.out.ok
  obtain ⟨u1, hu1, rfl⟩ : ∃ u1 : Up, u1.val = (oneU 6).val ∧ s3 = ⟨5, 5, [u1]⟩ := by
    rcases hs3 with ⟨h1, _⟩ | ⟨_, u1, h1, h2⟩
    · exact absurd hE h1
    · exact ⟨u1, h1, by rw [h2, trim_small (by simp [Wn.lend])]; rfl⟩
  rw [hE]
  have HV1 := Lib.hid hu1
  have H3 := Lib.hid (H2.out.trans (hc3.below H2.out.size (fun k hk e => by
    rcases e with e | e
    · omega
    · simp [Value.ownBlock] at e)))
  replace HA := Lib.hid hA3
  have HVB : Hid (∀ k, v3.ownBlock = some k → w.heap.size ≤ k) := Lib.hid (fun k hk => (hA3.own.lt k hk).1)
  clear hA3 hs3 hc3 hn3 hE hu1
  go_wp2_with (fail)
  refine (one_any 7 w3).mono ?_
  rintro e w4 ⟨rfl, hb⟩
  replace HA := Lib.hid (HA.out.below hb)
  have H4 := Lib.hid (H3.out.trans (hb.mono H3.out.size))
  clear hb
  go_wp2_with (fail)
  refine (add_any w.heap.size w4 w.heap.size _ _ (oneU 7) 0 HA.out (HK.out.below H4.out) (one_in 7 (by omega) (by omega) _ _) (Nat.zero_le _) (by simp [oneU]) (by simp) (by simp [Wn.lend])).mono ?_
  rintro e w5 ⟨v5, s5, rfl, hA5, hs5, hc5, hn5⟩
  have hE : (Wn.mk 5 5 [u1]).addE (oneU 7) = 0 := Wn.addE_one ⟨5, 5, [u1]⟩ HA.out.ok
  obtain ⟨u2, hu2, rfl⟩ : ∃ u2 : Up, u2.val = (oneU 7).val ∧ s5 = ⟨5, 5, [u1, u2]⟩ := by
    rcases hs5 with ⟨h1, _⟩ | ⟨_, u2, h1, h2⟩
    · exact absurd hE h1
    · exact ⟨u2, h1, by rw [h2, trim_small (by simp [Wn.lend])]; rfl⟩
  rw [hE]
  have HV2 := Lib.hid hu2
  have H5 := Lib.hid (H4.out.trans (hc5.below H4.out.size (fun k hk e => by
    rcases e with e | e
    · omega
    · have := HVB.out k e; omega)))
  replace HA := Lib.hid hA5
  replace HVB : Hid (∀ k, v5.ownBlock = some k → w.heap.size ≤ k) := Lib.hid (fun k hk => (hA5.own.lt k hk).1)
  clear hA5 hs5 hc5 hn5 hE hu2
  go_wp2_with (fail)
  refine (reach_any w.heap.size w5 w.heap.size _ _ 6 HA.out (by omega) (by omega)).mono ?_
  rintro e w6 ⟨v6, vo, o, rfl, hO, hA6, hc6, hn6⟩
  have hq1 : u1.seq = 6 := congrArg Prod.fst HV1.out
  have hq2 : u2.seq = 7 := congrArg Prod.fst HV2.out
  have htold : (Wn.mk 5 5 [u1, u2]).told 6 = [u1] := by
    unfold Wn.told Wn.upTo Wn.lend
    have hm : max (5 : Int) (min 6 7) = 6 := by decide
    simp [pickL, batchStep, hq1, hq2, hm]
  have hreach : (Wn.mk 5 5 [u1, u2]).reach 6 = ⟨5, 6, [u1, u2]⟩ := by
    unfold Wn.reach Wn.upTo Wn.lend
    rw [trim_small (by simp [Wn.lend])]
    have hm : max (5 : Int) (min 6 7) = 6 := by decide
    simp [hm]
  rw [htold] at hO
  rw [hreach] at hA6
  obtain ⟨A6, c6, rfl, hup, _, _⟩ := hO.ups
  have hol : o.length = 1 := hO.len
  rw [hol] at hup ⊢
  obtain ⟨b, off, x, rfl, hbx, hx, hin, p0, p1, p2, p3, p4, p5, p6⟩ := hup.at_ (k := 0) (by omega)
  have hxs : x.seq = 6 := by
    have hv := hO.val
    match o, hol with
    | [y], _ =>
      simp at hx hv
      subst hx
      rw [← hq1]
      exact congrArg Prod.fst hv
  rw [hxs] at p0
  simp only [Nat.zero_mul, Nat.add_zero] at p0
  have H6 := Lib.hid (H5.out.trans (hc6.below H5.out.size (fun k hk e => by
    rcases e with e | e
    · omega
    · have := HVB.out k e; omega)))
  replace HA := Lib.hid hA6
  clear hO hA6 hc6 hn6 hq1 hq2 htold hreach hol hup hbx hx hin p1 p2 p3 p4 p5 p6 hxs
  go_wp2_with (fail)
  refine (wdirty_any w.heap.size w6 w.heap.size _ _ HA.out).mono ?_
  rintro e w7 ⟨rfl, hb⟩
  have H7 := Lib.hid (H6.out.trans (hb.mono H6.out.size))
  clear hb
  simp only [Wn.lend, List.length_cons, List.length_nil]
  go_wp2_with (fail)
  go_ret
  exact ⟨rfl, H7.out⟩
end Go.Proofs.YtfcjkkjgedcgpaaGreatDoor
