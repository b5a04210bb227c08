/- Package crc: the reference's Fits; Turn. -/
import Derived.Test.YtpgkidmcigefjaaCrcJ
namespace Go.Proofs.Ytpgkidmcigefjaa
open Go.RowKit
set_option linter.unusedSimpArgs false
set_option linter.unusedVariables false
set_option maxRecDepth 100000
set_option maxHeartbeats 1000000

theorem fits_ref (l : List Nat) (m : Nat) (h : l.length = m + 4) : fitsL l = decide (bI (sealB (l.take m)) = bI l) := by
  have hinj : ∀ x y : List Nat, bI x = bI y ↔ x = y := fun x y => ⟨fun e => (List.map_inj_right (fun a b hab => by omega)).1 e, fun e => by rw [e]⟩
  unfold fitsL
  rw [h, show m + 4 - 4 = m by omega, decide_eq_true (by omega), Bool.true_and, Bool.eq_iff_iff, decide_eq_true_eq, decide_eq_true_eq, hinj]
theorem refFits_any (A : Option Addr) (n c B : Nat) (l : List Nat) (hl : isBs l) (w : World) (hr : Reads w B 1 A n ((bI l).map (Value.int .u8))) (hB : B ≤ w.heap.size) (hn : n ≤ 900000000) (hnc : n ≤ c) (hc : c ≤ 9223372036854775807) :
    Calls Try.prog 23 #[.slice A n c] w fun e w' => e = .returned (.bool (fitsL l)) ∧ Below w.heap.size w w' := by
  have HR := Lib.hid hr
  have LN := Lib.hid (reads_len hr)
  by_cases h4 : 4 ≤ n
  · obtain ⟨m, rfl⟩ : ∃ m, n = m + 4 := ⟨n - 4, by omega⟩
    have HF := Lib.hid (fits_ref l m LN.out)
    rw [HF.out]
    have ht := hr.take (k := m) (by omega)
    rw [bI_take_map] at ht
    have C := Lib.hid (refSeal_any A m c B (l.take m) (isBs_take hl m) w ht hB (by omega))
    clear hr h4 ht
    have hm0 : (0 : Int) ≤ (m : Int) := by omega
    have hm2 : (m : Int) ≤ (c : Int) := by omega
    go_enter Try.func23, Try.ntmps23
    go_wp2_with (fail)
    refine C.out.mono ?_
    rintro e w1 ⟨v, rfl, h0, h1⟩
    obtain ⟨A1, c1, rfl, h3, _, _⟩ := own_slice h0
    have HR1 := Lib.hid (HR.out.below (h1.mono hB))
    have H1 := Lib.hid h1
    have H3 := Lib.hid h3
    have hs := h1.size
    clear h0 h1 h3 C
    go_wp2_with (fail)
    refine (same_any A1 A (m + 4) (m + 4) c1 c w1.heap.size B (bI (sealB (l.take m))) (bI l) w1 (Nat.le_refl _) (by omega) H3.out HR1.out (by omega)).mono ?_
    rintro e w2 ⟨rfl, h2⟩
    have H2 := Lib.hid (H1.out.trans (h2.mono hs))
    clear h2
    go_wp2
    go_ret
    exact ⟨rfl, H2.out⟩
  · have hf : Hid (fitsL l = false) := Lib.hid (by
      unfold fitsL
      rw [decide_eq_false (by have := LN.out; omega), Bool.false_and])
    rw [hf.out]
    clear hr
    have hd : decide (4 ≤ (n : Int)) = false := by simp; omega
    go_enter Try.func23, Try.ntmps23
    go_wp2_with (fail)
    go_ret
    exact ⟨rfl, Below.refl _ _⟩
def turnV (bit : Int) (pat : Nat) (l : List Nat) : List Nat := if 0 ≤ bit ∧ bit.toNat / 8 < l.length then turnK bit.toNat pat l 32 else l
theorem turn_no (bit : Int) (pat n : Nat) (l : List Nat) (hn : l.length = n) (h : bit < 0 ∨ (n : Int) ≤ bit / 8) : turnV bit pat l = l := by
  unfold turnV
  rw [if_neg]
  rintro ⟨h1, h2⟩
  omega
theorem crcTurn_any (A : Option Addr) (n c B : Nat) (l : List Nat) (bit : Int) (pat : Nat) (hl : isBs l) (w : World) (hr : Reads w B 1 A n ((bI l).map (Value.int .u8))) (hB : B ≤ w.heap.size) (hn : n ≤ 900000000) (hp : pat < 4294967296)
    (hb0 : -9223372036854775808 ≤ bit) (hb1 : bit ≤ 9223372036854775807) :
    Calls Try.prog 24 #[.slice A n c, .int .i64 bit, .int .u32 (pat : Int)] w fun e w' => ∃ v, e = .returned v ∧ w'.ownsRow w.heap.size 5 1 v n ((bI (turnV bit pat l)).map (Value.int .u8)) ∧ Below w.heap.size w w' := by
  have LN := Lib.hid (reads_len hr)
  have C := Lib.hid (clone_any A n c B (bI l) w hB hr (by omega))
  clear hr
  by_cases h0 : 0 ≤ bit
  · obtain ⟨k, rfl⟩ := Int.eq_ofNat_of_zero_le h0
    by_cases h1 : k / 8 < n
    · have HT : Hid (turnV (k : Int) pat l = turnK k pat l 32) := Lib.hid (by unfold turnV; rw [if_pos ⟨h0, by have := LN.out; simp; omega⟩]; simp)
      rw [HT.out]
      have hd1 : ¬ (n : Int) ≤ (k : Int) / 8 := by omega
      have hd1' : decide ((n : Int) ≤ (k : Int) / 8) = false := by simpa using hd1
      have hk : k ≤ 7200000008 := by omega
      clear hb0 hb1 HT
      go_enter Try.func24, Try.ntmps24
      go_wp2_with (fail)
      refine C.out.mono ?_
      rintro e w1 ⟨v, rfl, h2, h3⟩
      obtain ⟨g, cc, rfl, hg1, hg2⟩ := h2.form (by omega)
      have H2 := Lib.hid h2
      have H3 := Lib.hid h3
      clear h2 h3 C
      go_wp2_with (fail)
      go_loopw [8, 9, 22] (fun s8 s9 i wr => ∃ t : Nat, t ≤ 32 ∧ i = .int .i64 t ∧ Hid (wr.ownsRow w.heap.size 5 1 (.slice (some ⟨g, 0, none⟩) n cc) n ((bI (turnK k pat l t)).map (Value.int .u8))) ∧ Hid (Below w.heap.size w wr)) (fun _ _ i _ => 32 - (intOf i).toNat)
      case atStart => exact ⟨0, by omega, rfl, H2, H3⟩
      case round =>
        obtain ⟨t, ht, rfl, HO, HB⟩ := hrel
        by_cases hlt : t < 32
        · obtain ⟨a, ha⟩ : ∃ a : Nat, (k : Int) + t = (a : Int) := ⟨k + t, by omega⟩
          obtain ⟨j, hj⟩ : ∃ j : Nat, (a : Int) / 8 = (j : Int) := ⟨a / 8, by omega⟩
          by_cases hjn : j < n
          · have hjn' : ((j : Int) < (n : Int)) := by omega
            have hj0 : (0 : Int) ≤ (j : Int) := by omega
            by_cases hbit : pat / 2 ^ t % 2 = 1
            · have hbb : (bits .and .u32 ((pat : Int) / 2 ^ t) 1 == 1) = true := by
                have e : ((pat : Int) / 2 ^ t) = ((pat / 2 ^ t : Nat) : Int) := by simp
                rw [e, and1 _ (Nat.lt_of_le_of_lt (Nat.div_le_self _ _) hp), hbit]; rfl
              obtain ⟨q, hq⟩ : ∃ q : Nat, (a : Int) % 8 = (q : Int) := ⟨a % 8, by omega⟩
              have hq8 : q < 8 := by omega
              obtain ⟨z, hz⟩ : ∃ z, (turnK k pat l t)[j]? = some z := ⟨_, List.getElem?_eq_getElem (by rw [turnK_len]; have := LN.out; omega)⟩
              have hz8 := turnK_lt k pat l hl t z (List.mem_of_getElem? hz)
              have hc : wr.cell? ⟨g, j, none⟩ = some (.int .u8 (z : Int)) := (HO.out.cellAt j (by omega)).trans (by simp [bI, hz])
              have hf := HO.out.frozenAt j
              have hx : bits .xor .u8 (z : Int) ((2 : Int) ^ q % 256) = ((z ^^^ 2 ^ q : Nat) : Int) := by
                have h2 : 2 ^ q < 256 := by
                  have : 2 ^ q ≤ 2 ^ 7 := Nat.pow_le_pow_right (by decide) (by omega)
                  omega
                have e : ((2 : Int) ^ q % 256) = ((2 ^ q : Nat) : Int) := by
                  have e1 : ((2 ^ q : Nat) : Int) = (2 : Int) ^ q := by simp
                  rw [← e1]; exact Int.emod_eq_of_lt (Int.natCast_nonneg _) (by exact_mod_cast h2)
                rw [e]; exact u8_xor_nat z (2 ^ q) hz8 h2
              have HT1 : Hid (turnK k pat l (t + 1) = (turnK k pat l t).set j (z ^^^ 2 ^ q)) := Lib.hid (by
                rw [turnK, turn1, if_pos ⟨by rw [turnK_len]; have := LN.out; omega, hbit⟩, show (k + t) / 8 = j by omega, show (k + t) % 8 = q by omega, List.getD_eq_getElem?_getD, hz]; rfl)
              have HX := Lib.hid hx
              clear hz hx
              go_wp2_with (fail)
              go_region
              go_wp2
              go_roundw
              case rel =>
                refine ⟨t + 1, by omega, by go_num, Lib.hid ?_, Lib.hid ?_⟩
                · rw [HX.out, HT1.out, bI, List.map_set, List.map_set]
                  exact (HO.out.stored j _).1
                · exact (HB.out.grown (HO.out.stored j _).2 HB.out.size (fun k hk => by injection hk with hk; omega)).drew
              case measure => simp [intOf]; omega
            · have hbb : (bits .and .u32 ((pat : Int) / 2 ^ t) 1 == 1) = false := by
                have e : ((pat : Int) / 2 ^ t) = ((pat / 2 ^ t : Nat) : Int) := by simp
                rw [e, and1 _ (Nat.lt_of_le_of_lt (Nat.div_le_self _ _) hp)]; simp; omega
              have HT1 : Hid (turnK k pat l (t + 1) = turnK k pat l t) := Lib.hid (by
                rw [turnK, turn1, if_neg (fun h => hbit h.2)])
              clear hbit
              go_wp2_with (fail)
              go_roundw
              case rel => exact ⟨t + 1, by omega, by go_num, Lib.hid (by rw [HT1.out]; exact HO.out), HB⟩
              case measure => simp [intOf]; omega
          · have HT1 : Hid (turnK k pat l (t + 1) = turnK k pat l t) := Lib.hid (by
              rw [turnK, turn1, if_neg (fun h => by have h1 := h.1; rw [turnK_len] at h1; have := LN.out; omega)])
            have hjn' : decide ((j : Int) < (n : Int)) = false := by simp; omega
            go_wp2_with (fail)
            go_roundw
            case rel => exact ⟨t + 1, by omega, by go_num, Lib.hid (by rw [HT1.out]; exact HO.out), HB⟩
            case measure => simp [intOf]; omega
        · obtain rfl : t = 32 := by omega
          go_wp2_with (fail)
          go_ret
          exact ⟨_, rfl, HO.out, HB.out⟩
    · have HT := Lib.hid (turn_no (k : Int) pat n l LN.out (.inr (by omega)))
      rw [HT.out]
      have hd1 : (n : Int) ≤ (k : Int) / 8 := by omega
      have hd1' : decide ((n : Int) ≤ (k : Int) / 8) = true := by simpa using hd1
      go_enter Try.func24, Try.ntmps24
      go_wp2_with (fail)
      refine C.out.mono ?_
      rintro e w1 ⟨v, rfl, h2, h3⟩
      obtain ⟨A1, c1, rfl, _, _, _⟩ := own_slice h2
      have H2 := Lib.hid h2
      have H3 := Lib.hid h3
      clear h2 h3 C
      go_wp2_with (fail)
      go_ret
      exact ⟨_, rfl, H2.out, H3.out⟩
  · have HT := Lib.hid (turn_no bit pat n l LN.out (.inl (by omega)))
    rw [HT.out]
    go_enter Try.func24, Try.ntmps24
    go_wp2_with (fail)
    refine C.out.mono ?_
    rintro e w1 ⟨v, rfl, h2, h3⟩
    obtain ⟨A1, c1, rfl, _, _, _⟩ := own_slice h2
    have H2 := Lib.hid h2
    have H3 := Lib.hid h3
    clear h2 h3 C
    go_wp2_with (fail)
    go_ret
    exact ⟨_, rfl, H2.out, H3.out⟩
end Go.Proofs.Ytpgkidmcigefjaa
