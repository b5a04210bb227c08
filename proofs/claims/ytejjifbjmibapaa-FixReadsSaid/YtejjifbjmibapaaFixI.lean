/- The law's awake. -/
import Derived.Test.YtejjifbjmibapaaFixH
import Derived.Lib.SlBytesConst
import Derived.Laws.BytesArg
import Derived.Lib.SmallJoins
namespace Go.Proofs.Ytejjifbjmibapaa
open Go.RowKit
set_option linter.unusedSimpArgs false
set_option linter.unusedVariables false
set_option maxHeartbeats 1000000

theorem fo_awake : ((((⟨[], atLeast0 9, 0⟩ : FO).num 258 2).bool true).text [97]) = ⟨[1, 2, 1, 0, 1, 97], 9, 0⟩ := by rfl
theorem fi_awake : ((⟨[1, 2, 1, 0, 1, 97], 0⟩ : FI).upto 2 18446744073709551615).2 = 258 := by rfl
theorem str_awake : strOfNums [1, 2, 1, 0, 1, 97] = ⟨#[1, 2, 1, 0, 1, 97]⟩ := by rfl
theorem conv_awake (w : World) (base : Nat) (v : Value) (xs : List Int) (n : Nat) (h : w.ownsRow base 5 1 v n (xs.map (Value.int .u8))) (h0 : 0 < n) :
    ∃ g c, v = .slice (some ⟨g, 0, none⟩) n c ∧ base ≤ g ∧ Reads w w.heap.size 1 (some ⟨g, 0, none⟩) n (xs.map (Value.int .u8)) ∧ (convert 25 9 (.slice (some ⟨g, 0, none⟩) n c)).run Try.prog w = .ok (.string (strOfNums xs)) w := by
  obtain ⟨g, c, rfl, hg, hlt⟩ := h.form h0
  have hr := Reads.of_own h
  refine ⟨g, c, rfl, hg, hr, ?_⟩
  refine run_convert_bytes_arg w 25 5 Try.underlying25 Try.underlying5 g 0 n c xs (by have := hr.1; simpa using this) (fun i hi => ?_) _ Try.underlying9
  obtain ⟨ad, z, e, _, hz, hc⟩ := reads_int hr hi
  injection e with e
  subst e
  rw [Go.WideShapes.add_plain] at hc
  rw [List.getD_eq_getElem?_getD, hz]
  exact hc

theorem awake_any (w : World) :
    Calls Try.prog 11 #[] w fun e w' => e = .returned (.bool true) ∧ Below w.heap.size w w' := by
  go_enter Try.func11, Try.ntmps11
  go_wp2_with (fail)
  refine (new_any 9 (by decide) _).mono ?_
  rintro e w1 ⟨rfl, h1, h2⟩
  have H1 := Lib.hid h1
  have HB := Lib.hid h2
  clear h1 h2
  go_wp2_with (fail)
  refine (putNum_any _ _ _ 258 2 _ (by decide) H1.out (by simp)).mono ?_
  rintro e w2 ⟨rfl, v2, h1, h2⟩
  have H2 := Lib.hid h1
  have HS2 := Lib.hid h2
  clear h1 h2
  go_wp2_with (fail)
  refine (putBool_any _ _ _ true _ H2.out (by decide)).mono ?_
  rintro e w3 ⟨rfl, v3, h1, h2⟩
  have H3 := Lib.hid h1
  have HS3 := Lib.hid (HS2.out.trans h2)
  clear h1 h2
  have kc := fun (w : World) (C : Array Value) (n c : Nat) => Lib.run_convert_bytes_const (P := Try.prog) w 25 5 C n c Try.underlying25 Try.underlying5
  go_wp2_with (fail)
  clear kc
  have hb3 : Below w3.heap.size w3 (w3.alloc (.cells #[Value.int .u8 97] 5 (1, 2))) := (Below.refl _ _).alloc (Nat.le_refl _) _
  refine (text_any _ _ _ _ 1 1 (w3.heap.size + 1) [97] _ (H3.out.below hb3) (by simp) ⟨rfl, fun _ => ⟨_, rfl, by simp, fun j u hu => ?_⟩⟩ rfl (by decide) (by decide)).mono ?_
  · cases j with
    | zero => rw [Go.WideShapes.add_plain, World.cell?_alloc_mark]; exact hu
    | succ j => simp at hu
  rw [fo_awake]
  rintro e w4 ⟨rfl, v4, h1, h2⟩
  have H4 := Lib.hid h1
  have HS4 := Lib.hid (HS3.out.trans (OutStep.pre hb3 h2))
  clear h1 h2 hb3
  go_wp2_with (fail)
  refine (done_any _ _ _ _ H4.out (by decide)).mono ?_
  rintro e w5 ⟨u, rfl, h1, h2⟩
  have h1 : w5.ownsRow w4.heap.size 5 1 u 6 (([1, 2, 1, 0, 1, 97] : List Int).map (Value.int .u8)) := h1
  obtain ⟨gb, cb, rfl, _, hr, hcv⟩ := conv_awake w5 _ u _ 6 h1 (by decide)
  rw [str_awake] at hcv
  have hB5 : Below w.heap.size w w5 := (HB.out.trans (HS4.out.2.below HB.out.size (fun k hk hx => by
    rcases hx with hx | hx
    · omega
    · cases hx))).trans (h2.mono (Nat.le_trans HB.out.size HS4.out.2.size))
  have HR := Lib.hid hr
  have H5 := Lib.hid hB5
  clear h1 h2 hr hB5
  go_wp2_with (fail)
  refine (of_any _ 6 _ _ _ _ (Nat.le_refl _) HR.out (by unfold bytesB; decide) (by decide)).mono ?_
  rintro e w6 ⟨gi, rfl, h1, h2, h3⟩
  have H6 := Lib.hid h2
  have HB6 := Lib.hid (H5.out.trans (h3.mono H5.out.size))
  have hgi := Nat.le_trans H5.out.size h1
  clear h1 h2 h3
  go_wp2_with (fail)
  refine (get_any _ _ _ _ _ H6.out).mono ?_
  rw [fi_awake]
  rintro e w7 ⟨rfl, h1, h2⟩
  have HB7 := Lib.hid (HB6.out.trans (h2.below HB6.out.size (fun k hk (hx : k = gi) => by omega)))
  clear h1 h2
  go_wp2_with (fail)
  go_ret
  exact ⟨rfl, HB7.out⟩
end Go.Proofs.Ytejjifbjmibapaa
