/- Package fix: In: contracts of Upto, Get, Bool, Raw, Text, Left, Err, Done, Of. -/
import Derived.Test.YtcmaekkfeilclaaFixF
namespace Go.Proofs.Ytcmaekkfeilclaa
open Go.RowKit
set_option linter.unusedSimpArgs false
set_option linter.unusedVariables false
set_option maxHeartbeats 1000000

theorem FI.next_len (s : FI) (n : Nat) : (s.next n).2.1.length ≤ n := by
  unfold FI.next; split
  · simp
  · split
    · simp
    · simp; omega
theorem FI.next_bytes (s : FI) (n : Nat) (h : bytesB s.l) : bytesB (s.next n).2.1 := by
  unfold FI.next; split
  · intro z hz; cases hz
  · split
    · intro z hz; cases hz
    · exact fun z hz => h z (List.mem_of_mem_take hz)

theorem upto_any (g : Nat) (s : FI) (k : Int) (most B : Nat) (w : World) (h : InAt w g B s) :
    Calls Try.prog 36 #[.pointer (some ⟨g, 0, none⟩), .int .i64 k, .int .u64 most] w fun e w' => e = .returned (.int .u64 (s.upto k most).2) ∧ InAt w' g B (s.upto k most).1 ∧ Chg w w' (isG g) := by
  obtain ⟨A, c, hb, hr, hA, hc1, hc2⟩ := h.mem
  have c1 := hb.cell 1
  simp only [List.getElem?_toArray, List.getElem?_cons_succ, List.getElem?_cons_zero] at c1
  have HI := Lib.hid h
  clear hb hr hA h
  by_cases he : s.e = 0
  · have he' : (s.e != 0) = false := by simp [he]
    cases hk : knownB k
    · have hU : s.upto k most = (s.fail 1, 0) := by rw [FI.upto, if_neg (by simp [he]), hk]; rfl
      rw [hU]
      clear he hU
      go_enter Try.func36, Try.ntmps36
      go_wp2_with (first | (go_at_call 41; refine (known_any _ _).mono ?_; rintro e w' ⟨rfl, rfl⟩) | fail)
      refine (failIn_any g s 1 B _ HI.out).mono ?_
      rintro e w1 ⟨rfl, h1, h2⟩
      have H1 := Lib.hid h1
      have H2 := Lib.hid h2
      clear h1 h2
      go_wp2
      go_ret
      exact ⟨rfl, H1.out, H2.out⟩
    · obtain ⟨hk1, hk8⟩ := (knownB_iff k).1 hk
      obtain ⟨j, rfl⟩ := Int.eq_ofNat_of_zero_le (show 0 ≤ k by omega)
      have hU : s.upto j most = if (s.next j).2.2 then (if most < numB (s.next j).2.1 then ((s.next j).1.fail 4, 0) else ((s.next j).1, numB (s.next j).2.1)) else ((s.next j).1, 0) := by
        rw [FI.upto, if_neg (by simp [he]), hk, if_pos rfl, Int.toNat_natCast]
      rw [hU]
      clear he hU
      have HL := Lib.hid (s.next_len j)
      have HB := Lib.hid (s.next_bytes j HI.out.bytes)
      have N := next_any g s j B w HI.out (by omega)
      generalize s.next j = r at N HL HB ⊢
      obtain ⟨s', b, ok⟩ := r
      cases ok
      · go_enter Try.func36, Try.ntmps36
        go_wp2_with (first | (go_at_call 41; refine (known_any _ _).mono ?_; rintro e w' ⟨rfl, rfl⟩) | fail)
        refine N.mono ?_
        rintro e w1 ⟨A1, n1, rfl, h1, h2, h3⟩
        have H1 := Lib.hid h1
        have H2 := Lib.hid h2
        clear h1 h2 h3
        go_wp2
        go_ret
        exact ⟨rfl, H1.out, H2.out⟩
      · by_cases hm : most < numB b
        · go_enter Try.func36, Try.ntmps36
          go_wp2_with (first | (go_at_call 41; refine (known_any _ _).mono ?_; rintro e w' ⟨rfl, rfl⟩) | fail)
          refine N.mono ?_
          rintro e w1 ⟨A1, n1, rfl, h1, h2, h3⟩
          have H1 := Lib.hid h1
          have H2 := Lib.hid h2
          have H3 := Lib.hid h3
          clear h1 h2 h3
          go_wp2_with (first | (go_at_call 49; refine (number_any _ _ _ _ _ _ H3.out HB.out (Nat.le_trans HL.out (by omega))).mono ?_; rintro e w' ⟨rfl, rfl⟩) | fail)
          refine (failIn_any g s' 4 B _ H1.out).mono ?_
          rintro e w2 ⟨rfl, h1, h2⟩
          have H4 := Lib.hid h1
          have H5 := Lib.hid (H2.out.trans h2 (fun _ _ x => x))
          clear h1 h2
          go_wp2
          go_ret
          refine ⟨?_, ?_, H5.out⟩
          · first | rfl | (rw [if_pos rfl, if_pos hm]; rfl)
          · first | exact H4.out | (rw [if_pos rfl, if_pos hm]; exact H4.out)
        · go_enter Try.func36, Try.ntmps36
          go_wp2_with (first | (go_at_call 41; refine (known_any _ _).mono ?_; rintro e w' ⟨rfl, rfl⟩) | fail)
          refine N.mono ?_
          rintro e w1 ⟨A1, n1, rfl, h1, h2, h3⟩
          have H1 := Lib.hid h1
          have H2 := Lib.hid h2
          have H3 := Lib.hid h3
          clear h1 h2 h3
          go_wp2_with (first | (go_at_call 49; refine (number_any _ _ _ _ _ _ H3.out HB.out (Nat.le_trans HL.out (by omega))).mono ?_; rintro e w' ⟨rfl, rfl⟩) | fail)
          go_ret
          refine ⟨?_, ?_, H2.out⟩
          · first | rfl | (rw [if_pos rfl, if_neg hm]; rfl)
          · first | exact H1.out | (rw [if_pos rfl, if_neg hm]; exact H1.out)
  · have he' : (s.e != 0) = true := by simp [he]
    have hU : s.upto k most = (s, 0) := by rw [FI.upto, if_pos he]
    rw [hU]
    clear he hU
    go_enter Try.func36, Try.ntmps36
    go_wp2_with (fail)
    go_ret
    exact ⟨rfl, HI.out, Chg.refl _ _⟩

theorem upto_at (g : Nat) (s : FI) (k z : Int) (most B : Nat) (hz : z = most) (w : World) (h : InAt w g B s) :
    Calls Try.prog 36 #[.pointer (some ⟨g, 0, none⟩), .int .i64 k, .int .u64 z] w fun e w' => e = .returned (.int .u64 (s.upto k most).2) ∧ InAt w' g B (s.upto k most).1 ∧ Chg w w' (isG g) := by
  subst hz; exact upto_any g s k most B w h

theorem get_any (g : Nat) (s : FI) (k : Int) (B : Nat) (w : World) (h : InAt w g B s) :
    Calls Try.prog 37 #[.pointer (some ⟨g, 0, none⟩), .int .i64 k] w fun e w' => e = .returned (.int .u64 (s.upto k 18446744073709551615).2) ∧ InAt w' g B (s.upto k 18446744073709551615).1 ∧ Chg w w' (isG g) := by
  have HI := Lib.hid h
  clear h
  go_enter Try.func37, Try.ntmps37
  go_wp2_with (fail)
  refine (upto_at g s k _ 18446744073709551615 B rfl _ HI.out).mono ?_
  rintro e w1 ⟨rfl, h1, h2⟩
  have H1 := Lib.hid h1
  have H2 := Lib.hid h2
  clear h1 h2
  go_wp2
  go_ret
  exact ⟨rfl, H1.out, H2.out⟩

theorem left_any (g : Nat) (s : FI) (B : Nat) (w : World) (h : InAt w g B s) :
    Calls Try.prog 29 #[.pointer (some ⟨g, 0, none⟩)] w fun e w' => e = .returned (.int .i64 s.l.length) ∧ w = w' := by
  obtain ⟨A, c, hb, hr, hA, hc1, hc2⟩ := h.mem
  have c0 := hb.cell 0
  simp only [List.getElem?_toArray, List.getElem?_cons_succ, List.getElem?_cons_zero] at c0
  clear hb hr hA h
  go_enter Try.func29, Try.ntmps29
  go_wp2
  go_ret
  exact ⟨rfl, rfl⟩

theorem err_any (g : Nat) (s : FI) (B : Nat) (w : World) (h : InAt w g B s) :
    Calls Try.prog 38 #[.pointer (some ⟨g, 0, none⟩)] w fun e w' => e = .returned (.int .i64 s.e) ∧ w = w' := by
  obtain ⟨A, c, hb, hr, hA, hc1, hc2⟩ := h.mem
  have c1 := hb.cell 1
  simp only [List.getElem?_toArray, List.getElem?_cons_succ, List.getElem?_cons_zero] at c1
  clear hb hr hA h
  go_enter Try.func38, Try.ntmps38
  go_wp2
  go_ret
  exact ⟨rfl, rfl⟩

end Go.Proofs.Ytcmaekkfeilclaa
