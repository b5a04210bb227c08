/- The walk of CrcOnce. -/
import Derived.Test.YtpgkidmcigefjaaCrcN


namespace Go.Proofs.Ytpgkidmcigefjaa
open Go.RowKit
set_option linter.unusedSimpArgs false
set_option linter.unusedVariables false
set_option maxRecDepth 100000
set_option maxHeartbeats 4000000

theorem crcFits_nil (v : Value) (w : World) : Calls Try.prog 20 #[.pointer none, v] w fun e w' => e = .returned (.bool false) ∧ w = w' := by
  go_enter Try.func20, Try.ntmps20
  go_wp2
  go_ret
  exact ⟨rfl, rfl⟩
theorem crcOnce_law (LA A : Option Addr) (m mc n c : Nat) (zs : List Int) (l : List Nat) (w : World) (hz : Reads w w.heap.size 1 LA m (zs.map (Value.int .i64))) (hmc : m ≤ mc) (hmm : mc ≤ maxLen)
    (hl : isBs l) (hr : Reads w w.heap.size 1 A n ((bI l).map (Value.int .u8))) (hn : n ≤ c) (hc : c ≤ maxLen) :
    Calls Try.prog 5 #[.slice LA m mc, .slice A n c] w fun e w' => e = .returned (.bool true) ∧ Below w.heap.size w w' := by
  unfold maxLen at hc hmm
  have hR := hr.take (cutN_le n 60)
  rw [bI_take_map] at hR
  have HR0 := Lib.hid hR
  have HZ := Lib.hid hz
  have HL := Lib.hid (isBs_take hl (cutN n 60))
  have h300 := cutN_le2 n 60
  have hnc := Nat.le_trans (cutN_le n 60) hn
  have e1 : dI true = 1 := rfl
  clear hR hr hl hz
  go_enter Try.func5, Try.ntmps5
  go_wp2_with (fail)
  refine (cut_any A n c 60 hn (by omega) _).mono ?_
  rintro e w1 ⟨rfl, rfl⟩
  generalize cutN n 60 = nb at *
  generalize l.take nb = b at *
  go_wp2_with (fail)
  refine (crcNew_any _).mono ?_
  rintro e w2 ⟨rfl, h1, h2⟩
  obtain ⟨g, hg⟩ : ∃ g, g = w.heap.size := ⟨_, rfl⟩
  rw [← hg] at h1 ⊢
  have hA : ∀ ad, 0 < nb → A = some ad → ad.block ≠ g := fun ad h0 he => by
    obtain ⟨ad', h', hb, _⟩ := HR0.out.2 h0
    rw [he] at h'
    cases h'
    omega
  have HA := Lib.hid hA
  have HG := Lib.hid hg
  have HT0 := Lib.hid h1
  have HB0 := Lib.hid h2
  have HR1 := Lib.hid (HR0.out.below h2)
  clear h1 h2 hA hg HR0
  go_wp2_with (fail)
  go_loopw [6, 7, 8] (fun ia s7 s8 wr => ∃ (k : Nat) (d : Bool), k ≤ m ∧ k ≤ 20 ∧ ia = .int .i64 k ∧ Hid (Tb wr g d) ∧ Hid (Reads wr w.heap.size 1 A nb ((bI b).map (Value.int .u8))) ∧ Hid (Below w.heap.size w wr)) (fun ia _ _ _ => 20 - (intOf ia).toNat)
  case atStart => exact ⟨0, false, by omega, by omega, rfl, HT0, HR1, HB0⟩
  case round =>
    clear HT0 HR1 HB0
    obtain ⟨k, d, hkm, hk20, rfl, HT, HR, HB⟩ := hrel
    have hsz := HB.out.size
    by_cases hl : k < m ∧ k < 20
    · obtain ⟨hl1, hl2⟩ := hl
      have hl1' : (k : Int) < m := by omega
      have hl2' : (k : Int) < 20 := by omega
      obtain ⟨ad, z, rfl, had, hzz, hcell⟩ := reads_int (HZ.out.below HB.out) hl1
      clear hzz
      go_wp2_with (fail)
      with_reducible refine (crcMade_any g d _ HT.out).mono ?_
      rintro e w' ⟨rfl, rfl⟩
      by_cases z0 : z = 0
      · subst z0
        have C := Lib.hid (of_one g d A nb c w.heap.size b HL.out wr HT.out HR.out hsz HA.out (by omega))
        go_wp2_with (fail)
        with_reducible refine C.out.mono ?_
        rintro e w2 ⟨rfl, h1, h2⟩
        have HB2 := Lib.hid (below_chg HB.out (Nat.le_of_eq HG.out.symm) HT.out.lt h2); have HR2 := Lib.hid (h2.reads HR.out hsz HA.out); have HT2 := Lib.hid h1; have hs2 := h2.size; clear h1 h2 C
        go_wp2_with (fail)
        with_reducible refine (crcMade_any g true _ HT2.out).mono ?_
        rintro e w' ⟨rfl, rfl⟩
        go_wp2_with (fail)
        go_roundw
        case rel => exact ⟨k + 1, true, by omega, by omega, by go_num, HT2, HR2, HB2⟩
        case measure => simp [intOf]; omega
      by_cases z1 : z = 1
      · subst z1
        have C := Lib.hid (crcMore_any g d A nb c w.heap.size 7 b HL.out (by decide) wr HT.out HR.out hsz HA.out (by omega))
        go_wp2_with (fail)
        refine C.out.mono ?_
        rintro e w2 ⟨rfl, h1, h2⟩
        have HB2 := Lib.hid (below_chg HB.out (Nat.le_of_eq HG.out.symm) HT.out.lt h2); have HR2 := Lib.hid (h2.reads HR.out hsz HA.out); have HT2 := Lib.hid h1; have hs2 := h2.size; clear h1 h2 C
        go_wp2_with (fail)
        with_reducible refine (crcMade_any g true _ HT2.out).mono ?_
        rintro e w' ⟨rfl, rfl⟩
        go_wp2_with (fail)
        go_roundw
        case rel => exact ⟨k + 1, true, by omega, by omega, by go_num, HT2, HR2, HB2⟩
        case measure => simp [intOf]; omega
      by_cases z2 : z = 2
      · subst z2
        have C := Lib.hid (crcSeal_any g d A nb c w.heap.size b HL.out wr HT.out HR.out hsz HA.out (by omega))
        go_wp2_with (fail)
        with_reducible refine C.out.mono ?_
        rintro e w2 ⟨v, rfl, h0, h1, h2⟩
        clear h0
        have HB2 := Lib.hid (below_chg HB.out (Nat.le_of_eq HG.out.symm) HT.out.lt h2); have HR2 := Lib.hid (h2.reads HR.out hsz HA.out); have HT2 := Lib.hid h1; have hs2 := h2.size; clear h1 h2 C
        go_wp2_with (fail)
        with_reducible refine (crcMade_any g true _ HT2.out).mono ?_
        rintro e w' ⟨rfl, rfl⟩
        go_wp2_with (fail)
        go_roundw
        case rel => exact ⟨k + 1, true, by omega, by omega, by go_num, HT2, HR2, HB2⟩
        case measure => simp [intOf]; omega
      by_cases z3 : z = 3
      · subst z3
        have C := Lib.hid (crcFits_any g d A nb c w.heap.size b HL.out wr HT.out HR.out hsz HA.out (by omega) (by omega) (by omega))
        go_wp2_with (fail)
        with_reducible refine C.out.mono ?_
        rintro e w2 ⟨rfl, h1, h2⟩
        have HB2 := Lib.hid (below_chg HB.out (Nat.le_of_eq HG.out.symm) HT.out.lt h2); have HR2 := Lib.hid (h2.reads HR.out hsz HA.out); have HT2 := Lib.hid h1; have hs2 := h2.size; clear h1 h2 C
        go_wp2_with (fail)
        with_reducible refine (crcMade_any g true _ HT2.out).mono ?_
        rintro e w' ⟨rfl, rfl⟩
        go_wp2_with (fail)
        go_roundw
        case rel => exact ⟨k + 1, true, by omega, by omega, by go_num, HT2, HR2, HB2⟩
        case measure => simp [intOf]; omega
      have b0 : (z == 0) = false := by simp [z0]
      have b1 : (z == 1) = false := by simp [z1]
      have b2 : (z == 2) = false := by simp [z2]
      have b3 : (z == 3) = false := by simp [z3]
      clear z0 z1 z2 z3
      have C := Lib.hid (crcAt_any g d z wr HT.out)
      by_cases hz1 : 0 ≤ z ∧ z ≤ 255
      · obtain ⟨hz1, hz2⟩ := hz1
        rw [decide_eq_true (show 0 ≤ z ∧ z ≤ 255 from ⟨hz1, hz2⟩), Bool.or_true] at C
        have bz : decide (0 ≤ z) = true := by simpa using hz1
        have bz2 : decide (z ≤ 255) = true := by simpa using hz2
        go_wp2_with (fail)
        with_reducible refine C.out.mono ?_
        rintro e w2 ⟨rfl, h1, h2⟩
        have HB2 := Lib.hid (below_chg HB.out (Nat.le_of_eq HG.out.symm) HT.out.lt h2); have HR2 := Lib.hid (h2.reads HR.out hsz HA.out); have HT2 := Lib.hid h1; have hs2 := h2.size; clear h1 h2 C
        go_wp2_with (fail)
        with_reducible refine (crcMade_any g true _ HT2.out).mono ?_
        rintro e w' ⟨rfl, rfl⟩
        go_wp2_with (fail)
        go_roundw
        case rel => exact ⟨k + 1, true, by omega, by omega, by go_num, HT2, HR2, HB2⟩
        case measure => simp [intOf]; omega
      · rw [decide_eq_false hz1, Bool.or_false] at C
        by_cases hz0 : 0 ≤ z
        · have bz : decide (0 ≤ z) = true := by simpa using hz0
          have bz3 : 255 < z := by omega
          have bz2 : decide (z ≤ 255) = false := by simp; omega
          clear hz1
          go_wp2_with (fail)
          with_reducible refine C.out.mono ?_
          rintro e w2 ⟨rfl, h1, h2⟩
          have HB2 := Lib.hid (below_chg HB.out (Nat.le_of_eq HG.out.symm) HT.out.lt h2); have HR2 := Lib.hid (h2.reads HR.out hsz HA.out); have HT2 := Lib.hid h1; have hs2 := h2.size; clear h1 h2 C
          go_wp2_with (fail)
          with_reducible refine (crcMade_any g d _ HT2.out).mono ?_
          rintro e w' ⟨rfl, rfl⟩
          go_wp2_with (fail)
          go_roundw
          case rel => exact ⟨k + 1, d, by omega, by omega, by go_num, HT2, HR2, HB2⟩
          case measure => simp [intOf]; omega
        · have bz : decide (0 ≤ z) = false := by simpa using hz0
          clear hz1
          go_wp2_with (fail)
          with_reducible refine C.out.mono ?_
          rintro e w2 ⟨rfl, h1, h2⟩
          have HB2 := Lib.hid (below_chg HB.out (Nat.le_of_eq HG.out.symm) HT.out.lt h2); have HR2 := Lib.hid (h2.reads HR.out hsz HA.out); have HT2 := Lib.hid h1; have hs2 := h2.size; clear h1 h2 C
          go_wp2_with (fail)
          with_reducible refine (crcMade_any g d _ HT2.out).mono ?_
          rintro e w' ⟨rfl, rfl⟩
          go_wp2_with (fail)
          go_roundw
          case rel => exact ⟨k + 1, d, by omega, by omega, by go_num, HT2, HR2, HB2⟩
          case measure => simp [intOf]; omega
    · have hd : (decide ((k : Int) < m) && decide ((k : Int) < 20)) = false := by simp; omega
      have hd' : ((m : Int) ≤ k) ∨ ((k : Int) < m ∧ (20 : Int) ≤ k) := by omega
      clear hl
      rcases hd' with h1 | ⟨h1, h2⟩
      all_goals
        clear hd
        go_wp2_with (fail)
        refine (crcOf_nil A nb c wr.heap.size _ (by exact cells_new_at _ _ _ _ rfl 0 _ rfl)).mono ?_
        rintro e w' ⟨rfl, rfl⟩
        go_wp2_with (fail)
        refine (crcMore_nil 9 (.slice A nb c) _).mono ?_
        rintro e w' ⟨rfl, rfl⟩
        go_wp2_with (fail)
        refine (crcSeal_nil (.slice A nb c) _).mono ?_
        rintro e w' ⟨rfl, rfl⟩
        go_wp2_with (fail)
        refine (crcFits_nil (.slice A nb c) _).mono ?_
        rintro e w' ⟨rfl, rfl⟩
        go_wp2_with (fail)
        refine (crcMade_nil _).mono ?_
        rintro e w' ⟨rfl, rfl⟩
        go_wp2_with (fail)
        refine (crcAt_nil 1 _).mono ?_
        rintro e w' ⟨rfl, rfl⟩
        go_wp2_with (fail)
        refine (awake_any _).mono ?_
        rintro e w12 ⟨rfl, h4⟩
        have HB12 := Lib.hid ((HB.out.alloc HB.out.size (.cells #[.slice A nb c] 25)).trans (h4.mono (by have := HB.out.size; simp; omega)))
        clear h4
        go_wp2
        go_ret
        exact ⟨rfl, HB12.out⟩
end Go.Proofs.Ytpgkidmcigefjaa
