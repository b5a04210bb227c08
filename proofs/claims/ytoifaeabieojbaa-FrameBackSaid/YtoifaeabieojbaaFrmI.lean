/- The walk of FrameBack. -/
import Derived.Test.YtoifaeabieojbaaFrmH
namespace Go.Proofs.Ytoifaeabieojbaa
open Go.RowKit
set_option linter.unusedSimpArgs false
set_option linter.unusedVariables false
set_option maxRecDepth 100000
set_option maxHeartbeats 4000000

theorem frameBack_law (k : Nat) (A : Option Addr) (n cp u pat : Nat) (l : List Nat) (w : World) (hk : k < 256) (hl : isBs l) (hr : Reads w w.heap.size 1 A n ((bI l).map (Value.int .u8))) (hn : n ≤ cp) (hc : cp ≤ maxLen) (hp : pat < 4294967296) (hu : u < 65536) :
    Calls Try.prog 5 #[.agg #[.int .u8 k, .slice A n cp], .int .u16 u, .int .u32 pat] w fun e w' => e = .returned (.bool true) ∧ Below w.heap.size w w' := by
  unfold maxLen at hc
  have HR := Lib.hid hr
  have HL := Lib.hid hl
  have LN := Lib.hid (reads_len hr)
  have hb0 : Below w.heap.size w (w.alloc (.cells #[.int .u8 k, .slice A n cp] 24)) := (Below.refl _ _).alloc (Nat.le_refl _) _
  have HB0 := Lib.hid hb0
  have BX0 : Hid (Blk (w.alloc (.cells #[.int .u8 k, .slice A n cp] 24)) w.heap.size 24 #[.int .u8 k, .slice A n cp]) := Lib.hid (Blk.new w _ _)
  clear hr hl hb0
  by_cases hout : k = 0 ∨ 200 < n
  · have hcase : ((k : Int) == 0) = true ∨ (((k : Int) == 0) = false ∧ (200 : Int) < n) := by
      by_cases h0 : k = 0
      · exact .inl (by rw [h0]; rfl)
      · refine .inr ⟨by simp; omega, ?_⟩
        rcases hout with h | h
        · exact absurd h h0
        · omega
    clear hout
    rcases hcase with h0 | ⟨h0, h1⟩
    all_goals
      go_enter Try.func5, Try.ntmps5
      go_wp2_with (fail)
      refine (awake_any _).mono ?_
      rintro e w12 ⟨rfl, h1⟩
      have HB12 := Lib.hid (HB0.out.trans (h1.mono (by simp)))
      clear h1
      go_wp2_with (fail)
      go_ret
      exact ⟨rfl, HB12.out⟩
  · have hk0 : ((k : Int) == 0) = false := by simp; omega
    have hn200 : (n : Int) ≤ 200 := by omega
    have HE : Hid (putE k l = 0) := Lib.hid (putE_zero k l (by omega) (by have := LN.out; omega))
    have HBK := Lib.hid (back_get k l HE.out)
    have HPL : Hid ((putS k l).length = n + 7) := Lib.hid (by rw [putS_len k l HE.out, LN.out])
    have hA : ∀ g, w.heap.size ≤ g → ∀ ad, 0 < n → A = some ad → ad.block ≠ g := fun g hg ad h0 he => by
      obtain ⟨ad', h', hb, _⟩ := HR.out.2 h0
      rw [he] at h'
      cases h'
      omega
    have HA := Lib.hid hA
    clear hA hout
    go_enter Try.func5, Try.ntmps5
    go_wp2_with (fail)
    refine (frNew_nil _).mono ?_
    rintro e w1 ⟨c, rfl, hcw, h1, h2⟩
    obtain ⟨g, hg⟩ : ∃ g, g = (w.alloc (.cells #[.int .u8 k, .slice A n cp] 24)).heap.size := ⟨_, rfl⟩
    rw [← hg] at h1 hcw
    have hgw : g = w.heap.size + 1 := by rw [hg]; simp
    have HGW := Lib.hid hgw
    have hb1 : Below w.heap.size w w1 := HB0.out.trans (h2.mono (by simp))
    have BX1 := Lib.hid (BX0.out.below h2 (by simp))
    have CD1 := Lib.hid h1
    have HB1 := Lib.hid hb1
    have hs1 := hb1.size
    have b0 : w1.cell? ⟨w.heap.size, 0, none⟩ = some (.int .u8 k) := BX1.out.cell 0
    have b1 : w1.cell? ⟨w.heap.size, 1, none⟩ = some (.slice A n cp) := BX1.out.cell 1
    clear h1 h2 hg hb1 hgw
    go_wp2_with (fail)
    refine (ours_any k A n cp _).mono ?_
    rintro e w2 ⟨rfl, h2⟩
    have HB2 := Lib.hid (HB1.out.trans (h2.mono hs1))
    have hcl := CD1.out.1.lt
    have hgl := CD1.out.2.lt
    have BX2 := Lib.hid (BX1.out.below h2 BX1.out.lt)
    have P := Lib.hid (cdPut_any c g false 0 0 k A n cp w.heap.size l w2 (CD1.out.below h2 hcl hgl) (HR.out.below HB2.out) HL.out HB2.out.size (HA.out g (by have := HGW.out; omega)) (by omega) hk)
    rw [HE.out] at P
    have hs2 := h2.size
    clear h2 b0 b1
    go_wp2_with (fail)
    refine P.out.mono ?_
    rintro e w3 ⟨v, rfl, h3, ⟨d3, h4⟩, h5⟩
    obtain ⟨A3, c3, rfl, r3, f3, l3, m3⟩ := own_far (g := g) h3 (by omega)
    have BX3 := Lib.hid (h5.blk BX2.out (by have := HGW.out; omega))
    have HB3 := Lib.hid (chg_far1 HB2.out h5 (by have := HGW.out; omega))
    have hs3 := h5.size
    have hPB := putS_bs k l hk HL.out
    have hc3 : c3 ≤ 9223372036854775807 := by unfold maxLen at m3; omega
    have G := Lib.hid (cdGet_any c g d3 0 0 A3 (putS k l).length c3 w3.heap.size (putS k l) w3 h4 r3 hPB (Nat.le_refl _) f3 (by have := HPL.out; omega) l3 hc3 (by omega) (by omega))
    rw [HBK.out.1, HBK.out.2.1, HBK.out.2.2] at G
    have O3 := Lib.hid h3
    have HPB := Lib.hid hPB
    have hpl : (putS k l).length = n + 7 := HPL.out
    have SH : Hid (∀ i, i < n + 7 → cutE ((putS k l).take i) = 3) := Lib.hid (fun i hi => back_short k l HE.out i (by have := LN.out; omega))
    have BB : Hid (∀ q, q < 8 * (n + 7) → (decide (getE (turnV (q : Int) pat (putS k l)) = 0)) = decide (bI (turnV (q : Int) pat (putS k l)) = bI (putS k l))) := Lib.hid (fun q hq => back_burst k l hk HL.out HE.out q pat (by have := LN.out; omega))
    rw [hpl] at G O3
    clear h3 h4 h5 P r3 f3 m3 hPB HBK BX2
    generalize putS k l = s at *
    rw [hpl] at l3
    rw [hpl]
    clear hpl
    go_wp2_with (fail)
    refine G.out.mono ?_
    rintro e w4 ⟨v, rfl, h3, ⟨d4, h4⟩, h5⟩
    obtain ⟨A4, c4, rfl, _, _, _⟩ := own_slice h3
    have BX4 := Lib.hid (h5.blk BX3.out (by have := HGW.out; omega))
    have O4 := Lib.hid (own_chg3 O3.out h5 (by omega) (by omega))
    have HB4 := Lib.hid (chg_far HB3.out h5 (by have := HGW.out; omega) (by have := HGW.out; omega))
    have hs4 := h5.size
    have hb5 : Below w4.heap.size w4 (w4.alloc (.cells #[.int .u8 k, .slice A4 l.length c4] 33)) := (Below.refl _ _).alloc (Nat.le_refl _) _
    have hbx := BX4.out.lt
    have p0 : w4.cell? ⟨w.heap.size, 0, none⟩ = some (.int .u8 k) := BX4.out.cell 0
    have p1 : w4.cell? ⟨w.heap.size, 1, none⟩ = some (.slice A n cp) := BX4.out.cell 1
    have LK := Lib.hid (like_yes k A4 A l.length n c4 cp w4.heap.size w.heap.size (bI l) _ (by simp) (Nat.le_trans HB4.out.size hb5.size) (Reads.below (Reads.of_own h3) hb5) (HR.out.below (HB4.out.trans (hb5.mono HB4.out.size))) (by have := LN.out; omega))
    have CD5 := Lib.hid (h4.below hb5 (by omega) (by omega))
    have O5 := Lib.hid (own_below O4.out hb5)
    have HB5 := Lib.hid (HB4.out.trans (hb5.mono HB4.out.size))
    have BX5 := Lib.hid (BX4.out.below hb5 hbx)
    clear h3 h4 h5 G hb5
    go_wp2_with (fail)
    refine LK.out.mono ?_
    rintro e w6 ⟨rfl, h1⟩
    have CD6 := Lib.hid (CD5.out.below h1 (by simp; omega) (by simp; omega))
    have O6 := Lib.hid (own_below O5.out h1)
    have HB6 := Lib.hid (HB5.out.trans (h1.mono HB5.out.size))
    have BX6 := BX5.out.below h1 BX5.out.lt
    have q1 : w6.cell? ⟨w.heap.size, 1, none⟩ = some (.slice A n cp) := BX6.cell 1
    clear h1 LK p0 p1 BX6
    go_wp2_with (fail)
    have hz0 := HB0.out.size
    have hgl6 := CD6.out.2.lt
    go_loopw [12, 13, 14, 15] (fun ia _ _ _ wr => ∃ (i : Nat) (d : Bool) (x y : Int), i ≤ n + 7 ∧ ia = .int .i64 i ∧ Hid ((0 ≤ x ∧ x ≤ 10) ∧ (0 ≤ y ∧ y ≤ 10 + i)) ∧ Hid (Cd wr c g d x y) ∧ Hid (wr.ownsRow w2.heap.size 5 1 (.slice A3 (n + 7) c3) (n + 7) ((bI s).map (Value.int .u8))) ∧ Hid (Below w.heap.size w wr)) (fun ia _ _ _ _ => n + 7 - (intOf ia).toNat)
    case atStart => exact ⟨0, d4, _, _, by omega, rfl, Lib.hid (by simp [cntX, cntY]), CD6, O6, HB6⟩
    case round =>
      obtain ⟨i, d, x, y, hin, rfl, HXY, CDr, Or, HBr⟩ := hrel
      have hgr := CDr.out.2.lt
      have hcr := CDr.out.1.lt
      obtain ⟨A9, c9, he9, r9, f9, l9, m9⟩ := own_far (g := g) Or.out (by omega)
      cases he9
      by_cases hlt : i < n + 7
      · have rt := r9.take (k := i) (by omega)
        rw [bI_take_map] at rt
        have C := Lib.hid (cdCut_any c g d x y A3 i c3 wr.heap.size (s.take i) wr CDr.out rt (isBs_take HPB.out i) (Nat.le_refl _) (fun ad h0 he => f9 ad (by omega) he) (by omega) (by omega) hc3 (by have := HXY.out.1; omega) (by have := HXY.out.2; omega))
        rw [SH.out i hlt] at C
        clear r9 f9 rt
        have hi1 : (i : Int) < n + 7 := by omega
        have hi2 : (i : Int) ≤ c3 := by omega
        go_wp2_with (fail)
        refine C.out.mono ?_
        rintro e w7 ⟨v, rfl, h3, ⟨d7, h4⟩, h5⟩
        obtain ⟨A7, c7, rfl, _, _, _⟩ := own_slice h3
        have hb8 : Below w7.heap.size w7 (w7.alloc (.cells #[.int .u8 (cutK (s.take i)), .slice A7 (cutB (s.take i)).length c7] 33)) := (Below.refl _ _).alloc (Nat.le_refl _) _
        have hs7 := h5.size
        have CD8 := Lib.hid (h4.below hb8 (by omega) (by omega))
        have O8 := Lib.hid (own_below (own_chg3 Or.out h5 (by omega) (by omega)) hb8)
        have HB7 := chg_far HBr.out h5 (by have := HGW.out; omega) (by have := HGW.out; omega)
        have HB8 := Lib.hid (HB7.trans (hb8.mono HB7.size))
        clear h3 h4 h5 hb8 HB7 C
        go_wp2_with (fail)
        go_roundw
        case rel => exact ⟨i + 1, d7, _, _, by omega, by go_num, Lib.hid (by have := HXY.out; simp [cntX, cntY]; omega), CD8, O8, HB8⟩
        case measure => simp [intOf]; omega
      · obtain rfl : i = n + 7 := by omega
        obtain ⟨q, hq⟩ : ∃ q, q = u % (8 * (n + 7)) := ⟨_, rfl⟩
        have hq8 : q < 8 * (n + 7) := by rw [hq]; exact Nat.mod_lt _ (by omega)
        have hqm : (u : Int).tmod (8 * ((n : Int) + 7)) = (q : Int) := by
          have e : (8 * ((n : Int) + 7)) = ((8 * (n + 7) : Nat) : Int) := by simp
          rw [e, Int.tmod_eq_emod_of_nonneg (by omega), hq]; rfl
        have hz : ((8 * ((n : Int) + 7)) == 0) = false := by simp; omega
        have hz2 : ¬ (8 * ((n : Int) + 7)) = 0 := by omega
        have HV := Lib.hid (BB.out q hq8)
        have T := Lib.hid (refTurn_any A3 (n + 7) c3 wr.heap.size s (q : Int) pat HPB.out wr r9 (Nat.le_refl _) (by omega) hp (by omega) (by omega))
        have HVB := Lib.hid (turnV_bs (q : Int) pat s HPB.out)
        generalize turnV (q : Int) pat s = tv at *
        have R9 := Lib.hid r9
        clear hq r9 f9
        go_wp2_with (fail)
        refine T.out.mono ?_
        rintro e w7 ⟨v, rfl, h3, h5⟩
        obtain ⟨A7, c7, rfl, r7, f7, l7, m7⟩ := own_far (g := g) h3 hgr
        have CD7 := Lib.hid (CDr.out.below h5 hcr hgr)
        have HB7 := Lib.hid (HBr.out.trans (h5.mono HBr.out.size))
        have O7 := Lib.hid (own_below Or.out h5)
        have Q7 := Lib.hid h3
        have hs7 := h5.size
        have G := Lib.hid (cdGet_any c g d x y A7 (n + 7) c7 w7.heap.size tv w7 CD7.out r7 HVB.out (Nat.le_refl _) f7 (by omega) l7 (by unfold maxLen at m7; omega) (by have := HXY.out.1; omega) (by have := HXY.out.2; omega))
        clear h3 h5 T r7 f7 hqm hz hz2
        generalize getE tv = ge at *
        go_wp2_with (fail)
        refine G.out.mono ?_
        rintro e w8 ⟨v, rfl, h3, _, h5⟩
        obtain ⟨A8, c8, rfl, _, _, _⟩ := own_slice h3
        have hb9 : Below w8.heap.size w8 (w8.alloc (.cells #[.int .u8 (getK tv), .slice A8 (getB tv).length c8] 33)) := (Below.refl _ _).alloc (Nat.le_refl _) _
        have o9 := own_below (own_chg3 O7.out h5 (by omega) (by omega)) hb9
        have q9 := own_below (own_chg3 Q7.out h5 (by omega) (by omega)) hb9
        have HB8 := chg_far HB7.out h5 (by have := HGW.out; omega) (by have := HGW.out; omega)
        have HB9 := Lib.hid (HB8.trans (hb9.mono HB8.size))
        have S := Lib.hid (same_any A7 A3 (n + 7) (n + 7) c7 c3 _ _ (bI tv) (bI s) _ (Nat.le_refl _) (Nat.le_refl _) (Reads.of_own q9) (Reads.of_own o9) (by omega))
        rw [← HV.out] at S
        have hdec : Hid (((ge : Int) == 0) = decide (ge = 0)) := Lib.hid (by rw [Bool.eq_iff_iff]; simp)
        clear h3 h5 hb9 o9 q9 HB8 G
        go_wp2_with (fail)
        refine S.out.mono ?_
        rintro e w10 ⟨rfl, h1⟩
        have HB10 := Lib.hid (HB9.out.trans (h1.mono HB9.out.size))
        clear h1 S
        have hd := hdec.out
        generalize decide (ge = 0) = fb at *
        go_wp2_with (fail)
        refine (awake_any _).mono ?_
        rintro e w12 ⟨rfl, h1⟩
        have HB12 := Lib.hid (HB10.out.trans (h1.mono HB10.out.size))
        clear h1
        go_wp2_with (fail)
        go_ret
        exact ⟨rfl, HB12.out⟩
end Go.Proofs.Ytoifaeabieojbaa
