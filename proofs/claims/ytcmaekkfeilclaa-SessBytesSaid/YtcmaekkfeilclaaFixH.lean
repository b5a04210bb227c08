/- Package fix: In: Raw, Text, Of. -/
import Derived.Test.YtcmaekkfeilclaaFixG
namespace Go.Proofs.Ytcmaekkfeilclaa
open Go.RowKit
set_option linter.unusedSimpArgs false
set_option linter.unusedVariables false
set_option maxHeartbeats 1000000

theorem FI.next_false (s : FI) (n : Nat) (h : (s.next n).2.2 = false) : (s.next n).2.1 = [] := by
  unfold FI.next at h ⊢
  split
  · rfl
  · split
    · rfl
    · next h1 h2 => rw [if_neg h1, if_neg h2] at h; cases h
theorem FI.next_short (s : FI) (n : Nat) : (s.next n).2.1.length ≤ s.l.length := by
  unfold FI.next; split
  · simp
  · split
    · simp
    · rw [List.length_take]; omega
theorem FI.next_short1 (s : FI) (n : Nat) : (s.next n).1.l.length ≤ s.l.length := by
  unfold FI.next; split
  · exact Nat.le_refl _
  · split
    · simp [FI.fail]
    · rw [List.length_drop]; omega
theorem FI.fail_e (s : FI) (x : Int) (hx : x ≠ 0) : (s.fail x).e ≠ 0 := by
  unfold FI.fail; simp; split <;> omega
theorem FI.next_of_e (s : FI) (n : Nat) (h : s.e ≠ 0) : s.next n = (s, [], false) := by rw [FI.next, if_pos h]

theorem of_any (A : Option Addr) (n c B : Nat) (b : List Int) (w : World) (hB : B ≤ w.heap.size) (hr : Reads w B 1 A n (b.map (Value.int .u8))) (hb : bytesB b) (hn : n ≤ 1000000000) :
    Calls Try.prog 26 #[.slice A n c] w fun e w' => ∃ g, e = .returned (.pointer (some ⟨g, 0, none⟩)) ∧ w.heap.size ≤ g ∧ InAt w' g w'.heap.size ⟨b, 0⟩ ∧ Below w.heap.size w w' := by
  have HR := Lib.hid hr
  have HB := Lib.hid hb
  have hbl : Hid (b.length = n) := Lib.hid (by have := hr.1; simpa using this)
  clear hr hb
  go_enter Try.func26, Try.ntmps26
  go_wp2_with (fail)
  refine (clone_any A n c B b _ hB HR.out hn).mono ?_
  rintro e w1 ⟨u, rfl, h1, h2⟩
  obtain ⟨A2, c2, rfl, h3, h4, h5⟩ := own_slice h1
  have H1 := Lib.hid h1
  have H2 := Lib.hid h2
  have H3 := Lib.hid h3
  have hs := h2.size
  clear h1 h2 h3
  go_wp2
  go_ret
  refine ⟨w1.heap.size, rfl, hs, ⟨⟨A2, c2, ?_, ?_, ?_, by rw [hbl.out]; exact h4, h5⟩, HB.out, by simp, Nat.le_refl _⟩, H2.out.alloc hs _⟩
  · rw [hbl.out]; exact Blk.new _ _ _
  · rw [hbl.out]; exact (H3.out.alloc (Nat.le_refl _) _).more (by simp)
  · intro ad e
    subst e
    have := (H1.out.lt ad.block rfl).2
    omega
end Go.Proofs.Ytcmaekkfeilclaa
