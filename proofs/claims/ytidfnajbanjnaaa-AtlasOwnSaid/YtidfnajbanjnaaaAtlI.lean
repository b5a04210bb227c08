/- awake; the law AtlasChains. -/
import Derived.Test.YtidfnajbanjnaaaAtlH
namespace Go.Proofs.Ytidfnajbanjnaaa
open Go.RowKit
set_option linter.unusedSimpArgs false
set_option linter.unusedVariables false
set_option maxHeartbeats 8000000
set_option maxRecDepth 100000

theorem awake_val {y : Cf} (h : OneOf ((List.range 2).map (begV 3)) 1 y) : y.headV = 4 ∧ y.readV 4 = 5 := by
  have h1 := one_beg h
  rw [show (chainV 1 ((2 : Nat) : Int)).toNat = 1 by decide] at h1
  have h2 : (((1 : Nat) : Int), ((1 : Nat) : Int), [(4 : Int), 5, 6], false, (0 : Int)) = y.val := h1
  obtain ⟨_, _, hz, _, _, hl⟩ := val_cf h2 h.2
  obtain ⟨hr, _⟩ := right_of h2 h.2 (by omega) (by simp) (unl_nodesI 3 3 (by omega))
  constructor
  · unfold Cf.headV; rw [hr, if_pos rfl, hz]; rfl
  · unfold Cf.readV; rw [hr, if_pos rfl, hz, hl]; rfl
theorem awake_any (w : World) : Calls Try.prog 8 #[] w fun e w' => e = .returned (.bool true) ∧ Below w.heap.size w w' := by
  have CH := chain_any 1 (by omega) 2 (by omega)
  rw [show chainV 1 2 = 1 by decide] at CH
  go_enter Try.func8, Try.ntmps8
  go_wp2_with (fail)
  refine (begin_any 2 3 _ (by omega) (by omega) (by omega) (by omega)).mono ?_
  rintro e w1 ⟨v, l, rfl, hb⟩
  obtain ⟨A, c, rfl, hr, _, _⟩ := own_slice hb.own
  have HC := Lib.hid hb.cfs
  have HL : Hid (allB l = true) := Lib.hid (beg_all hb.val (fun x hx => (hb.mem x hx).len_) (by omega) (by omega) (by omega) (by omega))
  have HV := Lib.hid hb.val
  have HN : Hid (l.length = 2) := Lib.hid hb.len
  have B1 := Lib.hid hb.bel
  have hs1 := hb.bel.size
  clear hb hr
  go_wp2_with (fail)
  refine (new_any A l.length c w1.heap.size l w1 HC.out (Nat.le_refl _)).mono ?_
  rintro e w2 ⟨hb2, ⟨hno, _⟩ | ⟨_, G, rfl, hat⟩⟩
  · rw [HL.out] at hno; cases hno
  rw [HV.out] at hat
  obtain ⟨q, h, cB, o, hx, hov⟩ := hat
  have hol : o.length = 2 := by have := congrArg List.length hov; simpa using this
  have AX := Lib.hid hx
  have HOV := Lib.hid hov
  have HOL := Lib.hid hol
  have B2 := Lib.hid (B1.out.trans (hb2.mono hs1))
  have hs2 := B2.out.size
  clear hx hov hol hb2
  go_wp2_with (first | (go_at_call 6; refine (CH _).mono ?_; rintro e w' ⟨rfl, rfl⟩) | fail)
  refine (aHead_any w1.heap.size G q h cB o 1 (by omega) w2 AX.out).mono ?_
  rintro e w3 ⟨y3, hy3, rfl, hb3⟩
  rw [HOV.out] at hy3
  rw [(awake_val hy3).1]
  have AX3 := Lib.hid (AX.out.below hb3)
  have B3 := Lib.hid (B2.out.trans (hb3.mono hs2))
  have hs3 := B3.out.size
  clear hy3 hb3
  go_wp2_with (fail)
  refine (aReader_any w1.heap.size G q h cB o 1 (by omega) 4 (by omega) w3 AX3.out).mono ?_
  rintro e w4 ⟨y4, hy4, rfl, hb4⟩
  rw [HOV.out] at hy4
  rw [(awake_val hy4).2]
  have AX4 := Lib.hid (AX3.out.below hb4)
  have B4 := Lib.hid (B3.out.trans (hb4.mono hs3))
  clear hy4 hb4
  go_wp2_with (fail)
  have CC := chains_any _ _ _ _ _ _ _ AX4.out
  rw [HOL.out] at CC
  refine CC.mono ?_
  rintro e w5 ⟨rfl, rfl⟩
  clear CC
  go_wp2
  go_ret
  exact ⟨rfl, B4.out⟩
theorem atlasChains_law (k : Nat) (hk : k < 4294967296) (n : Int) (hn : n ≤ 9223372036854775807) (w : World) :
    Calls Try.prog 3 #[.int .u32 k, .int .i64 n] w fun e w' => e = .returned (.bool true) ∧ Below w.heap.size w w' := by
  have C1 := chain_any k hk n hn
  have C2 := refChain_any k hk n hn
  have AW := awake_any
  by_cases h : n < 1
  · rw [show chainV k n = 0 by unfold chainV; rw [if_pos h]] at C1 C2
    go_enter Try.func3, Try.ntmps3
    go_wp2_with (first | (go_at_call 6; refine (C1 _).mono ?_; rintro e w' ⟨rfl, rfl⟩) | (go_at_call 7; refine (C2 _).mono ?_; rintro e w' ⟨rfl, rfl⟩) | fail)
    refine (AW _).mono ?_
    rintro e w1 ⟨rfl, hb⟩
    have B := Lib.hid hb
    clear hb
    go_wp2
    go_ret
    exact ⟨rfl, B.out⟩
  · obtain ⟨h0, h1⟩ := chainV_lt k n h
    generalize chainV k n = c at *
    have h0' : decide (0 ≤ c) = true := by simp [h0]
    have h1' : decide (c < n) = true := by simp [h1]
    go_enter Try.func3, Try.ntmps3
    go_wp2_with (first | (go_at_call 6; refine (C1 _).mono ?_; rintro e w' ⟨rfl, rfl⟩) | (go_at_call 7; refine (C2 _).mono ?_; rintro e w' ⟨rfl, rfl⟩) | fail)
    refine (AW _).mono ?_
    rintro e w1 ⟨rfl, hb⟩
    have B := Lib.hid hb
    clear hb
    go_wp2
    go_ret
    exact ⟨rfl, B.out⟩
end Go.Proofs.Ytidfnajbanjnaaa
