/- Package crc: the reference's Fits; Turn. -/
import Derived.Test.YtoifaeabieojbaaCrcJ
namespace Go.Proofs.Ytoifaeabieojbaa
open Go.RowKit
set_option linter.unusedSimpArgs false
set_option linter.unusedVariables false
set_option maxRecDepth 100000
set_option maxHeartbeats 1000000

theorem fits_ref (l : List Nat) (m : Nat) (h : l.length = m + 4) : fitsL l = decide (bI (sealB (l.take m)) = bI l) := by
  have hinj : ∀ x y : List Nat, bI x = bI y ↔ x = y := fun x y => ⟨fun e => (List.map_inj_right (fun a b hab => by omega)).1 e, fun e => by rw [e]⟩
  unfold fitsL
  rw [h, show m + 4 - 4 = m by omega, decide_eq_true (by omega), Bool.true_and, Bool.eq_iff_iff, decide_eq_true_eq, decide_eq_true_eq, hinj]
theorem refFits_any (A : Option Addr) (n c B : Nat) (l : List Nat) (hl : isBs l) (w : World) (hr : Reads w B 1 A n ((bI l).map (Value.int .u8))) (hB : B ≤ w.heap.size) (hn : n ≤ 900000000) (hnc : n ≤ c) (hc : c ≤ 9223372036854775807) :
    Calls Try.prog 39 #[.slice A n c] w fun e w' => e = .returned (.bool (fitsL l)) ∧ Below w.heap.size w w' := by
  have HR := Lib.hid hr
  have LN := Lib.hid (reads_len hr)
  by_cases h4 : 4 ≤ n
  · obtain ⟨m, rfl⟩ : ∃ m, n = m + 4 := ⟨n - 4, by omega⟩
    have HF := Lib.hid (fits_ref l m LN.out)
    rw [HF.out]
    have ht := hr.take (k := m) (by omega)
    rw [bI_take_map] at ht
    have C := Lib.hid (refSeal_any A m c B (l.take m) (isBs_take hl m) w ht hB (by omega))
    clear hr h4 ht
    have hm0 : (0 : Int) ≤ (m : Int) := by omega
    have hm2 : (m : Int) ≤ (c : Int) := by omega
    go_enter Try.func39, Try.ntmps39
    go_wp2_with (fail)
    refine C.out.mono ?_
    rintro e w1 ⟨v, rfl, h0, h1⟩
    obtain ⟨A1, c1, rfl, h3, _, _⟩ := own_slice h0
    have HR1 := Lib.hid (HR.out.below (h1.mono hB))
    have H1 := Lib.hid h1
    have H3 := Lib.hid h3
    have hs := h1.size
    clear h0 h1 h3 C
    go_wp2_with (fail)
    refine (same_any A1 A (m + 4) (m + 4) c1 c w1.heap.size B (bI (sealB (l.take m))) (bI l) w1 (Nat.le_refl _) (by omega) H3.out HR1.out (by omega)).mono ?_
    rintro e w2 ⟨rfl, h2⟩
    have H2 := Lib.hid (H1.out.trans (h2.mono hs))
    clear h2
    go_wp2
    go_ret
    exact ⟨rfl, H2.out⟩
  · have hf : Hid (fitsL l = false) := Lib.hid (by
      unfold fitsL
      rw [decide_eq_false (by have := LN.out; omega), Bool.false_and])
    rw [hf.out]
    clear hr
    have hd : decide (4 ≤ (n : Int)) = false := by simp; omega
    go_enter Try.func39, Try.ntmps39
    go_wp2_with (fail)
    go_ret
    exact ⟨rfl, Below.refl _ _⟩
def turnV (bit : Int) (pat : Nat) (l : List Nat) : List Nat := if 0 ≤ bit ∧ bit.toNat / 8 < l.length then turnK bit.toNat pat l 32 else l
theorem turn_no (bit : Int) (pat n : Nat) (l : List Nat) (hn : l.length = n) (h : bit < 0 ∨ (n : Int) ≤ bit / 8) : turnV bit pat l = l := by
  unfold turnV
  rw [if_neg]
  rintro ⟨h1, h2⟩
  omega
end Go.Proofs.Ytoifaeabieojbaa
