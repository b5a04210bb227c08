/- Package crc: Fits; the reference's Seal, Fits. -/
import Derived.Test.YtoifaeabieojbaaCrcH
namespace Go.Proofs.Ytoifaeabieojbaa
open Go.RowKit
set_option linter.unusedSimpArgs false
set_option linter.unusedVariables false
set_option maxRecDepth 100000
set_option maxHeartbeats 1000000

theorem fits_parts (l : List Nat) (m : Nat) (h : l.length = m + 4) : fitsL l = decide (bI (l.drop m) = bI (le4 (crc (l.take m)))) := by
  have hinj : ∀ x y : List Nat, bI x = bI y ↔ x = y := fun x y => ⟨fun e => (List.map_inj_right (fun a b hab => by omega)).1 e, fun e => by rw [e]⟩
  unfold fitsL sealB
  rw [h, show m + 4 - 4 = m by omega, decide_eq_true (by omega), Bool.true_and, Bool.eq_iff_iff, decide_eq_true_eq, decide_eq_true_eq, hinj]
  have e := List.take_append_drop m l
  constructor
  · intro h1
    exact (List.append_cancel_left (h1.trans e.symm)).symm
  · intro h1
    rw [← h1]; exact e
theorem crcFits_any (g : Nat) (d : Bool) (A : Option Addr) (n c B : Nat) (l : List Nat) (hl : isBs l) (w : World) (h : Tb w g d) (hr : Reads w B 1 A n ((bI l).map (Value.int .u8))) (hB : B ≤ w.heap.size)
    (hA : ∀ ad, 0 < n → A = some ad → ad.block ≠ g) (hn : n ≤ 900000000) (hnc : n ≤ c) (hc : c ≤ 9223372036854775807) :
    Calls Try.prog 54 #[.pointer (some ⟨g, 0, none⟩), .slice A n c] w fun e w' => e = .returned (.bool (fitsL l)) ∧ Tb w' g true ∧ Chg w w' (fun k => k = g) := by
  have HR := Lib.hid hr
  have HAA := Lib.hid hA
  have LN := Lib.hid (reads_len hr)
  have C := Lib.hid (crcReady_any g d w h)
  by_cases h4 : 4 ≤ n
  · obtain ⟨m, rfl⟩ : ∃ m, n = m + 4 := ⟨n - 4, by omega⟩
    have HF := Lib.hid (fits_parts l m LN.out)
    rw [HF.out]
    obtain ⟨ad, hAd, _, _⟩ := hr.2 (by omega)
    subst hAd
    clear h hr hA h4
    have hg0 : decide ((0 : Int) ≤ (m : Int)) = true := by simp
    have hm0 : (0 : Int) ≤ (m : Int) := by omega
    have hm1 : (m : Int) ≤ (m : Int) + 4 := by omega
    have hm2 : (m : Int) ≤ (c : Int) := by omega
    have hm3 : (m : Int) + 4 ≤ (c : Int) := by omega
    have hcm : ¬ c = m := by omega
    go_enter Try.func54, Try.ntmps54
    go_wp2_with (fail)
    with_reducible refine C.out.mono ?_
    rintro e w1 ⟨rfl, h1, h2⟩
    have HR1 := Lib.hid (h2.reads HR.out hB (fun ad h0 he => HAA.out ad h0 he))
    have H1 := Lib.hid h1
    have H2 := Lib.hid h2
    clear h1 h2 C
    have hs1 : B ≤ w1.heap.size := Nat.le_trans hB H2.out.size
    have ht := HR1.out.take (k := m) (by omega)
    rw [bI_take_map] at ht
    have hd := HR1.out.cut (k := m) (cap := c) (by omega) (by omega)
    rw [Nat.mul_one, bI_drop_map, if_neg hcm, show m + 4 - m = 4 by omega] at hd
    have HD := Lib.hid hd
    have CB := Lib.hid (behind_any g true (some ad) m c B (l.take m) (isBs_take hl m) w1.drew H1.out ht.drew hs1 (fun ad' h0 he => HAA.out ad' (by omega) he) (by omega))
    have HS1 := Lib.hid hs1
    have HNE : Hid (∀ ad' : Addr, 0 < 4 → (some ad).map (fun x : Addr => x.add m) = some ad' → ad'.block ≠ g) := Lib.hid (by
      intro ad' _ he
      simp only [Option.map_some, Option.some.injEq] at he
      subst he
      rw [block_of_add]
      exact HAA.out ad (by omega) rfl)
    clear ht hd hs1
    go_wp2_with (fail)
    go_region_held3 (fun w' => True) (trivial) (first
      | (go_at_call 48; refine CB.out.mono ?_; rintro e w2 ⟨v, rfl, h0, h1, h2⟩; obtain ⟨A1, c1, rfl, h3, _, _⟩ := own_slice h0; have H0 := Lib.hid h0; have H5 := Lib.hid h1; have H6 := Lib.hid h2; have H7 := Lib.hid h3; have E1 := Lib.hid (h2.reads HD.out.drew HS1.out HNE.out); have E2 := Lib.hid (Nat.le_trans HS1.out h2.size); clear h0 h1 h2 h3)
      | (go_at_call 64; refine (slEqual_any (some (ad.add m)) A1 4 4 (c - m) c1 B w2.heap.size (bI (l.drop m)) (bI (le4 (crc (l.take m)))) w2 E2.out (Nat.le_refl _) E1.out H7.out (Nat.le_of_ble_eq_true rfl)).mono ?_; rintro e w3 ⟨rfl, k, rfl⟩)
      | fail)
    go_wp2_with (fail)
    go_ret
    exact ⟨rfl, TabC.drewN H5.out _, (H2.out.trans (Chg.drewN (Chg.refl w1 (fun k => k = g)) 1) (fun _ _ h => h)).trans (Chg.drewN H6.out _) (fun _ _ h => h)⟩
  · have hf : Hid (fitsL l = false) := Lib.hid (by
      unfold fitsL
      rw [decide_eq_false (by have := LN.out; omega), Bool.false_and])
    rw [hf.out]
    clear h hr hA
    have hd : decide (4 ≤ (n : Int)) = false := by simp; omega
    go_enter Try.func54, Try.ntmps54
    go_wp2_with (fail)
    with_reducible refine C.out.mono ?_
    rintro e w1 ⟨rfl, h1, h2⟩
    have H1 := Lib.hid h1
    have H2 := Lib.hid h2
    clear h1 h2 C
    go_wp2_with (fail)
    go_quiet (fail)
    go_wp2
    go_ret
    exact ⟨rfl, H1.out.drewN _, H2.out.drewN _⟩
end Go.Proofs.Ytoifaeabieojbaa
