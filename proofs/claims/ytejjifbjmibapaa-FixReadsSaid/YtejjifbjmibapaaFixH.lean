/- Package fix: In: Raw, Text, Of. -/
import Derived.Test.YtejjifbjmibapaaFixG
namespace Go.Proofs.Ytejjifbjmibapaa
open Go.RowKit
set_option linter.unusedSimpArgs false
set_option linter.unusedVariables false
set_option maxHeartbeats 1000000

theorem FI.next_false (s : FI) (n : Nat) (h : (s.next n).2.2 = false) : (s.next n).2.1 = [] := by
  unfold FI.next at h ⊢
  split
  · rfl
  · split
    · rfl
    · next h1 h2 => rw [if_neg h1, if_neg h2] at h; cases h
theorem FI.next_short (s : FI) (n : Nat) : (s.next n).2.1.length ≤ s.l.length := by
  unfold FI.next; split
  · simp
  · split
    · simp
    · rw [List.length_take]; omega
theorem FI.next_short1 (s : FI) (n : Nat) : (s.next n).1.l.length ≤ s.l.length := by
  unfold FI.next; split
  · exact Nat.le_refl _
  · split
    · simp [FI.fail]
    · rw [List.length_drop]; omega
theorem FI.fail_e (s : FI) (x : Int) (hx : x ≠ 0) : (s.fail x).e ≠ 0 := by
  unfold FI.fail; simp; split <;> omega
theorem FI.next_of_e (s : FI) (n : Nat) (h : s.e ≠ 0) : s.next n = (s, [], false) := by rw [FI.next, if_pos h]

theorem rawIn_any (g : Nat) (s : FI) (n : Int) (B : Nat) (w : World) (h : InAt w g B s) (hn : n ≤ 9223372036854775807) (hl : s.l.length ≤ 1000000000) :
    Calls Try.prog 20 #[.pointer (some ⟨g, 0, none⟩), .int .i64 n] w fun e w' => ∃ A c, e = .returned (.slice A (s.raw n).2.length c) ∧ InAt w' g B (s.raw n).1 ∧ Chg w w' (isG g) ∧ Reads w' w'.heap.size 1 A (s.raw n).2.length ((s.raw n).2.map (Value.int .u8)) := by
  have HI := Lib.hid h
  clear h
  by_cases h0 : n < 0
  · have hm : (if (0 : Int) < n then n else 0) = 0 := if_neg (by omega)
    have hR : s.raw n = (s.fail 1, []) := by rw [FI.raw, if_pos h0]
    rw [hR]
    clear hR
    go_enter Try.func20, Try.ntmps20
    go_wp2_with (fail)
    refine (failIn_any g s 1 B _ HI.out).mono ?_
    rintro e w1 ⟨rfl, h1, h2⟩
    have H1 := Lib.hid h1
    have H2 := Lib.hid h2
    clear h1 h2
    go_wp2_with (fail)
    refine (next_any g (s.fail 1) 0 B _ H1.out (by omega)).mono ?_
    rw [FI.next_of_e _ _ (s.fail_e 1 (by decide))]
    rintro e w2 ⟨A1, n1, rfl, h1, h2, h3⟩
    have H3 := Lib.hid h1
    have H4 := Lib.hid (H2.out.trans h2 (fun _ _ x => x))
    clear h1 h2 h3
    go_wp2
    go_ret
    exact ⟨none, 0, rfl, H3.out, H4.out, Reads.none_⟩
  · obtain ⟨k, rfl⟩ := Int.eq_ofNat_of_zero_le (show 0 ≤ n by omega)
    have hR : s.raw k = ((s.next k).1, (s.next k).2.1) := by rw [FI.raw, if_neg h0, Int.toNat_natCast]
    rw [hR]
    clear hR
    have HF := Lib.hid (s.next_false k)
    have HL := Lib.hid (s.next_short k)
    have N := next_any g s k B w HI.out (by omega)
    generalize s.next k = r at N HF HL ⊢
    obtain ⟨s', b, ok⟩ := r
    cases ok
    · obtain rfl : b = [] := HF.out rfl
      go_enter Try.func20, Try.ntmps20
      go_wp2_with (fail)
      refine N.mono ?_
      rintro e w1 ⟨A1, n1, rfl, h1, h2, h3⟩
      have H1 := Lib.hid h1
      have H2 := Lib.hid h2
      clear h1 h2 h3
      go_wp2
      go_ret
      exact ⟨none, 0, rfl, H1.out, H2.out, Reads.none_⟩
    · go_enter Try.func20, Try.ntmps20
      go_wp2_with (fail)
      refine N.mono ?_
      rintro e w1 ⟨A1, n1, rfl, h1, h2, h3⟩
      have H1 := Lib.hid h1
      have H2 := Lib.hid h2
      have H3 := Lib.hid h3
      clear h1 h2 h3
      go_wp2_with (fail)
      refine (clone_any A1 b.length n1 B b _ H1.out.le H3.out (Nat.le_trans HL.out hl)).mono ?_
      rintro e w2 ⟨u, rfl, h1, h2⟩
      obtain ⟨A2, c2, rfl, h3, _, _⟩ := own_slice h1
      have H4 := Lib.hid (H1.out.below (h2.mono H1.out.le))
      have H5 := Lib.hid (H2.out.trans (Chg.of_below h2 (isG g)) (fun _ _ x => x))
      have H6 := Lib.hid h3
      clear h1 h2 h3
      go_wp2
      go_ret
      exact ⟨A2, c2, rfl, H4.out, H5.out, H6.out⟩

theorem textIn_any (g : Nat) (s : FI) (most : Int) (B : Nat) (w : World) (h : InAt w g B s) (hl : s.l.length ≤ 1000000000) :
    Calls Try.prog 21 #[.pointer (some ⟨g, 0, none⟩), .int .i64 most] w fun e w' => ∃ A c, e = .returned (.slice A (s.text most).2.length c) ∧ InAt w' g B (s.text most).1 ∧ Chg w w' (isG g) ∧ Reads w' w'.heap.size 1 A (s.text most).2.length ((s.text most).2.map (Value.int .u8)) := by
  have HI := Lib.hid h
  clear h
  unfold FI.text
  have HF := Lib.hid (s.next_false 2)
  have HL := Lib.hid (s.next_len 2)
  have HL1 := Lib.hid (s.next_short1 2)
  have HB := Lib.hid (s.next_bytes 2 HI.out.bytes)
  have N := next_any g s 2 B w HI.out (by omega)
  generalize s.next 2 = r at N HF HL HL1 HB ⊢
  obtain ⟨s', b, ok⟩ := r
  cases ok
  · simp only [Bool.false_eq_true, if_false]
    go_enter Try.func21, Try.ntmps21
    go_wp2_with (fail)
    refine N.mono ?_
    rintro e w1 ⟨A1, n1, rfl, h1, h2, h3⟩
    have H1 := Lib.hid h1
    have H2 := Lib.hid h2
    clear h1 h2 h3
    go_wp2
    go_ret
    exact ⟨none, 0, rfl, H1.out, H2.out, Reads.none_⟩
  · simp only [if_true]
    have hq : numB b < 65536 := by
      have h1 := numB_lt b HB.out
      have h2 : 256 ^ b.length ≤ 256 ^ 2 := Nat.pow_le_pow_right (by decide) HL.out
      omega
    have hw : IntKind.i64.wrap (numB b : Int) = numB b := by rw [IntKind.wrap_i64]; omega
    by_cases hm : most < numB b
    · rw [if_pos hm]
      go_enter Try.func21, Try.ntmps21
      go_wp2_with (fail)
      refine N.mono ?_
      rintro e w1 ⟨A1, n1, rfl, h1, h2, h3⟩
      have H1 := Lib.hid h1
      have H2 := Lib.hid h2
      have H3 := Lib.hid h3
      clear h1 h2 h3
      go_wp2_with (first | (go_at_call 44; refine (number_any _ _ _ _ _ _ H3.out HB.out (Nat.le_trans HL.out (by omega))).mono ?_; rintro e w' ⟨rfl, rfl⟩) | fail)
      refine (failIn_any g s' 6 B _ H1.out).mono ?_
      rintro e w2 ⟨rfl, h1, h2⟩
      have H4 := Lib.hid h1
      have H5 := Lib.hid (H2.out.trans h2 (fun _ _ x => x))
      clear h1 h2
      go_wp2
      go_ret
      exact ⟨none, 0, rfl, H4.out, H5.out, Reads.none_⟩
    · rw [if_neg hm]
      go_enter Try.func21, Try.ntmps21
      go_wp2_with (fail)
      refine N.mono ?_
      rintro e w1 ⟨A1, n1, rfl, h1, h2, h3⟩
      have H1 := Lib.hid h1
      have H2 := Lib.hid h2
      have H3 := Lib.hid h3
      clear h1 h2 h3
      go_wp2_with (first | (go_at_call 44; refine (number_any _ _ _ _ _ _ H3.out HB.out (Nat.le_trans HL.out (by omega))).mono ?_; rintro e w' ⟨rfl, rfl⟩) | fail)
      refine (rawIn_any g s' _ B _ H1.out (by omega) (Nat.le_trans HL1.out hl)).mono ?_
      rintro e w2 ⟨A2, n2, rfl, h1, h2, h3⟩
      have H4 := Lib.hid h1
      have H5 := Lib.hid (H2.out.trans h2 (fun _ _ x => x))
      have H6 := Lib.hid h3
      clear h1 h2 h3
      go_wp2
      go_ret
      exact ⟨A2, n2, rfl, H4.out, H5.out, H6.out⟩

theorem of_any (A : Option Addr) (n c B : Nat) (b : List Int) (w : World) (hB : B ≤ w.heap.size) (hr : Reads w B 1 A n (b.map (Value.int .u8))) (hb : bytesB b) (hn : n ≤ 1000000000) :
    Calls Try.prog 14 #[.slice A n c] w fun e w' => ∃ g, e = .returned (.pointer (some ⟨g, 0, none⟩)) ∧ w.heap.size ≤ g ∧ InAt w' g w'.heap.size ⟨b, 0⟩ ∧ Below w.heap.size w w' := by
  have HR := Lib.hid hr
  have HB := Lib.hid hb
  have hbl : Hid (b.length = n) := Lib.hid (by have := hr.1; simpa using this)
  clear hr hb
  go_enter Try.func14, Try.ntmps14
  go_wp2_with (fail)
  refine (clone_any A n c B b _ hB HR.out hn).mono ?_
  rintro e w1 ⟨u, rfl, h1, h2⟩
  obtain ⟨A2, c2, rfl, h3, h4, h5⟩ := own_slice h1
  have H1 := Lib.hid h1
  have H2 := Lib.hid h2
  have H3 := Lib.hid h3
  have hs := h2.size
  clear h1 h2 h3
  go_wp2
  go_ret
  refine ⟨w1.heap.size, rfl, hs, ⟨⟨A2, c2, ?_, ?_, ?_, by rw [hbl.out]; exact h4, h5⟩, HB.out, by simp, Nat.le_refl _⟩, H2.out.alloc hs _⟩
  · rw [hbl.out]; exact Blk.new _ _ _
  · rw [hbl.out]; exact (H3.out.alloc (Nat.le_refl _) _).more (by simp)
  · intro ad e
    subst e
    have := (H1.out.lt ad.block rfl).2
    omega
end Go.Proofs.Ytejjifbjmibapaa
