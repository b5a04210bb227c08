/- The contract of the reference's With, and the walk of BallotSets. -/
import Derived.Test.YtckfjkpcebklnaaBalJ
namespace Go.Proofs.Ytckfjkpcebklnaa
open Go.RowKit
set_option linter.unusedSimpArgs false
set_option linter.unusedVariables false

theorem with_any' (n : Nat) (hn : n < 18446744073709551616) (A : Option Addr) (len c B : Nat) (zs : List Int) (w : World) (hlen : len ≤ 9223372036854775807) (h : Reads w B 1 A len (zs.map (Value.int .i64)))
    (hw : ∀ z ∈ zs, -9223372036854775808 ≤ z ∧ z ≤ 9223372036854775807) :
    Calls Try.prog 20 #[.int .u64 n, .slice A len c] w fun e w' => e = .returned (.int .u64 (setTo (listTo n 64 ++ zs) 64 : Nat)) ∧ w = w' := by
  rw [← with_eq n hn zs]
  exact with_any n hn A len c B zs w hlen h hw

theorem refWith_any (n : Nat) (hn : n < 18446744073709551616) (A : Option Addr) (len c : Nat) (zs : List Int) (w : World) (hlen : len ≤ 65536) (h : Reads w w.heap.size 1 A len (zs.map (Value.int .i64))) :
    Calls Try.prog 21 #[.int .u64 n, .slice A len c] w fun e w' => e = .returned (.int .u64 (setTo (listTo n 64 ++ zs) 64 : Nat)) ∧ Below w.heap.size w w' := by
  obtain ⟨i0, hi, hz0, hz1, hz2⟩ := info_parts intInfo
  have hll := listTo_len n 64
  have H := Lib.hid h
  clear h
  go_enter Try.func21, Try.ntmps21
  go_wp2_with (fail)
  refine (refList_any n hn _).mono ?_
  rintro e w1 ⟨v, rfl, hv⟩
  have HV := Lib.hid hv
  have H1 := Lib.hid (H.out.below hv.2)
  clear hv
  go_wp2_with (at_builtin; refine wpList_append_any _ rfl (.tmp 6) (.tmp 7) _ rfl w.heap.size 3 i0 _ 1 8 Try.underlying33 hi hz0 hz1 hz2 rfl (by omega) _ _ _ rfl HV.out.own w.heap.size A len c _ rfl H1.out ?c1 ?c2 ?c3 ?c4 ?_)
  case c1 => intro u hu; obtain ⟨z, _, rfl⟩ := List.mem_map.1 hu; rfl
  case c2 => unfold maxLen; omega
  case c3 => omega
  case c4 => exact HV.out.2.size
  intro v2 w2 hown hg hat
  rw [← List.map_append] at hown
  obtain ⟨A2, c2, rfl, hr, _, _⟩ := own_slice hown
  have HR := Lib.hid hr
  have HB : Hid (Below w.heap.size w w2) := Lib.hid (HV.out.2.grown hg HV.out.2.size (fun g hg' => (HV.out.own.lt g hg').1))
  clear hown hg hat hr
  go_wp2_with (go_at_call 35; refine (set_any A2 _ c2 _ _ _ (by omega) HR.out).mono ?_; rintro e w' ⟨rfl, rfl⟩)
  go_ret
  exact ⟨rfl, HB.out⟩

theorem ballotSets_law (a b : Nat) (ha : a < 18446744073709551616) (hb : b < 18446744073709551616) (A : Option Addr) (len c : Nat) (zs : List Int) (w : World)
    (h : Reads w w.heap.size 1 A len (zs.map (Value.int .i64))) (hz : ∀ z ∈ zs, -9223372036854775808 ≤ z ∧ z ≤ 9223372036854775807) (hlen : len ≤ 9223372036854775807) :
    Calls Try.prog 6 #[.int .u64 a, .int .u64 b, .slice A len c] w fun e w' => e = .returned (.bool true) ∧ Below w.heap.size w w' := by
  have H := Lib.hid h
  clear h
  have hl1 := listTo_len a 64
  have hl2 := listTo_len (a &&& b) 64
  by_cases h40 : 40 < len
  · go_enter Try.func6, Try.ntmps6
    go_wp2_with (first | (go_at_call 10; refine (awake_any _).mono ?_; rintro e w' ⟨rfl, rfl⟩) | fail)
    go_ret
    exact ⟨rfl, Below.refl _ _⟩
  have h40 : len ≤ 65536 := by omega
  by_cases h0 : len = 0
  · subst h0
    have hq := Lib.hid hz
    clear hz
    go_enter Try.func6, Try.ntmps6
    go_wp2_with (first | (go_at_call 20; refine (with_any' a ha _ _ c w.heap.size zs _ (by omega) H.out hq.out).mono ?_; rintro e w' ⟨rfl, rfl⟩) | fail)
    refine (refWith_any a ha _ _ c zs _ (by omega) H.out).mono ?_
    rintro e w1 ⟨rfl, hb1⟩
    have B1 := Lib.hid hb1
    clear hb1
    go_wp2_with (first | (go_at_call 22; refine (has_any a ha _ _).mono ?_; rintro e w' ⟨rfl, rfl⟩) | (go_at_call 23; refine (refHas_any a ha _ _).mono ?_; rintro e w' ⟨rfl, rfl⟩) | fail)
    refine (list_any a ha _).mono ?_
    rintro e w2 ⟨v2, rfl, hv2⟩
    obtain ⟨A2, c2, rfl, hr2, _, _⟩ := own_slice hv2.own
    have R2 := Lib.hid hr2
    have B2 := Lib.hid (B1.out.trans (hv2.2.mono B1.out.size))
    clear hv2 hr2
    go_wp2_with (fail)
    refine (refList_any a ha _).mono ?_
    rintro e w3 ⟨v3, rfl, hv3⟩
    obtain ⟨A3, c3, rfl, hr3, _, _⟩ := own_slice hv3.own
    have R3 := Lib.hid hr3
    have R2' := Lib.hid (R2.out.below hv3.2)
    have B3 := Lib.hid (B2.out.trans (hv3.2.mono B2.out.size))
    clear hv3 hr3
    go_wp2_with (fail)
    refine (same_any A2 A3 _ c2 c3 _ _ _ _ (by omega) R2'.out R3.out).mono ?_
    rintro e w4 ⟨rfl, m4, rfl⟩
    go_wp2_with (first | (go_at_call 27; refine (count_any a ha _).mono ?_; rintro e w' ⟨rfl, rfl⟩) | fail)
    refine (refList_any a ha _).mono ?_
    rintro e w5 ⟨v5, rfl, hv5⟩
    obtain ⟨A5, c5, rfl, hr5, _, _⟩ := own_slice hv5.own
    have B5 := Lib.hid ((below_drewN B3.out m4).trans (hv5.2.mono B3.out.size))
    clear hv5 hr5
    go_wp2_with (first | (go_at_call 28; refine (quorum_any _ _ (by omega)).mono ?_; rintro e w' ⟨rfl, rfl⟩) | (go_at_call 29; refine (refQuorum_any _ _ (by omega)).mono ?_; rintro e w' ⟨rfl, rfl⟩) | (go_at_call 18; refine (enough_any a ha _ _ (by omega)).mono ?_; rintro e w' ⟨rfl, rfl⟩) | (go_at_call 30; refine (refEnough_any a ha _ _ (by omega)).mono ?_; rintro e w' ⟨rfl, rfl⟩) | fail)
    refine (meet_any a b ha hb _).mono ?_
    rintro e w6 ⟨v6, rfl, hv6⟩
    obtain ⟨A6, c6, rfl, hr6, _, _⟩ := own_slice hv6.own
    have R6 := Lib.hid hr6
    have B6 := Lib.hid (B5.out.trans (hv6.2.mono B5.out.size))
    clear hv6 hr6
    go_wp2_with (fail)
    refine (refMeet_any a b ha hb _).mono ?_
    rintro e w7 ⟨v7, rfl, hv7⟩
    obtain ⟨A7, c7, rfl, hr7, _, _⟩ := own_slice hv7.own
    have R7 := Lib.hid hr7
    have R6' := Lib.hid (R6.out.below hv7.2)
    have B7 := Lib.hid (B6.out.trans (hv7.2.mono B6.out.size))
    clear hv7 hr7
    go_wp2_with (fail)
    refine (same_any A6 A7 _ c6 c7 _ _ _ _ (by omega) R6'.out R7.out).mono ?_
    rintro e w8 ⟨rfl, m8, rfl⟩
    go_wp2_with (first | (go_at_call 10; refine (awake_any _).mono ?_; rintro e w' ⟨rfl, rfl⟩) | fail)
    go_ret
    exact ⟨rfl, below_drewN B7.out m8⟩

  · have h0' : 0 < len := by omega
    obtain ⟨a1, z, rfl, hb1, x1, y1⟩ := reads_int H.out h0'
    have hzz := hz z (List.mem_of_getElem? x1)
    have hq := Lib.hid hz
    rw [show a1.add 0 = a1 from by simp [Addr.add]] at y1
    clear x1 hz
    go_enter Try.func6, Try.ntmps6
    go_wp2_with (first | (go_at_call 20; refine (with_any' a ha _ _ c w.heap.size zs _ (by omega) H.out hq.out).mono ?_; rintro e w' ⟨rfl, rfl⟩) | fail)
    refine (refWith_any a ha _ _ c zs _ (by omega) H.out).mono ?_
    rintro e w1 ⟨rfl, hb1⟩
    have B1 := Lib.hid hb1
    clear hb1
    go_wp2_with (first | (go_at_call 22; refine (has_any a ha _ _).mono ?_; rintro e w' ⟨rfl, rfl⟩) | (go_at_call 23; refine (refHas_any a ha _ _).mono ?_; rintro e w' ⟨rfl, rfl⟩) | fail)
    refine (list_any a ha _).mono ?_
    rintro e w2 ⟨v2, rfl, hv2⟩
    obtain ⟨A2, c2, rfl, hr2, _, _⟩ := own_slice hv2.own
    have R2 := Lib.hid hr2
    have B2 := Lib.hid (B1.out.trans (hv2.2.mono B1.out.size))
    clear hv2 hr2
    go_wp2_with (fail)
    refine (refList_any a ha _).mono ?_
    rintro e w3 ⟨v3, rfl, hv3⟩
    obtain ⟨A3, c3, rfl, hr3, _, _⟩ := own_slice hv3.own
    have R3 := Lib.hid hr3
    have R2' := Lib.hid (R2.out.below hv3.2)
    have B3 := Lib.hid (B2.out.trans (hv3.2.mono B2.out.size))
    clear hv3 hr3
    go_wp2_with (fail)
    refine (same_any A2 A3 _ c2 c3 _ _ _ _ (by omega) R2'.out R3.out).mono ?_
    rintro e w4 ⟨rfl, m4, rfl⟩
    go_wp2_with (first | (go_at_call 27; refine (count_any a ha _).mono ?_; rintro e w' ⟨rfl, rfl⟩) | fail)
    refine (refList_any a ha _).mono ?_
    rintro e w5 ⟨v5, rfl, hv5⟩
    obtain ⟨A5, c5, rfl, hr5, _, _⟩ := own_slice hv5.own
    have B5 := Lib.hid ((below_drewN B3.out m4).trans (hv5.2.mono B3.out.size))
    clear hv5 hr5
    go_wp2_with (first | (go_at_call 28; refine (quorum_any _ _ (by omega)).mono ?_; rintro e w' ⟨rfl, rfl⟩) | (go_at_call 29; refine (refQuorum_any _ _ (by omega)).mono ?_; rintro e w' ⟨rfl, rfl⟩) | (go_at_call 18; refine (enough_any a ha _ _ (by omega)).mono ?_; rintro e w' ⟨rfl, rfl⟩) | (go_at_call 30; refine (refEnough_any a ha _ _ (by omega)).mono ?_; rintro e w' ⟨rfl, rfl⟩) | fail)
    refine (meet_any a b ha hb _).mono ?_
    rintro e w6 ⟨v6, rfl, hv6⟩
    obtain ⟨A6, c6, rfl, hr6, _, _⟩ := own_slice hv6.own
    have R6 := Lib.hid hr6
    have B6 := Lib.hid (B5.out.trans (hv6.2.mono B5.out.size))
    clear hv6 hr6
    go_wp2_with (fail)
    refine (refMeet_any a b ha hb _).mono ?_
    rintro e w7 ⟨v7, rfl, hv7⟩
    obtain ⟨A7, c7, rfl, hr7, _, _⟩ := own_slice hv7.own
    have R7 := Lib.hid hr7
    have R6' := Lib.hid (R6.out.below hv7.2)
    have B7 := Lib.hid (B6.out.trans (hv7.2.mono B6.out.size))
    clear hv7 hr7
    go_wp2_with (fail)
    refine (same_any A6 A7 _ c6 c7 _ _ _ _ (by omega) R6'.out R7.out).mono ?_
    rintro e w8 ⟨rfl, m8, rfl⟩
    go_wp2_with (first | (go_at_call 10; refine (awake_any _).mono ?_; rintro e w' ⟨rfl, rfl⟩) | fail)
    go_ret
    exact ⟨rfl, below_drewN B7.out m8⟩


end Go.Proofs.Ytckfjkpcebklnaa
