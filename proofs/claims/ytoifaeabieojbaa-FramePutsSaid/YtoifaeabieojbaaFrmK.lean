/- The walk of FramePuts. -/
import Derived.Test.YtoifaeabieojbaaFrmJ

namespace Go.Proofs.Ytoifaeabieojbaa
open Go.RowKit
set_option linter.unusedSimpArgs false
set_option linter.unusedVariables false
set_option maxRecDepth 100000
set_option maxHeartbeats 8000000

theorem framePuts_law (k j : Nat) (A C : Option Addr) (n cp m cq : Nat) (l y : List Nat) (w : World) (hk : k < 256) (hj : j < 256) (hl : isBs l) (hy : isBs y) (hr : Reads w w.heap.size 1 A n ((bI l).map (Value.int .u8))) (hs : Reads w w.heap.size 1 C m ((bI y).map (Value.int .u8))) :
    Calls Try.prog 3 #[.agg #[.int .u8 k, .slice A n cp], .agg #[.int .u8 j, .slice C m cq]] w fun e w' => e = .returned (.bool true) ∧ Below w.heap.size w w' := by
  have HR := Lib.hid hr
  have HS := Lib.hid hs
  have HL := Lib.hid hl
  have HY := Lib.hid hy
  have LN := Lib.hid (reads_len hr)
  have LM := Lib.hid (reads_len hs)
  have hb0 : Below w.heap.size w ((w.alloc (.cells #[.int .u8 k, .slice A n cp] 24)).alloc (.cells #[.int .u8 j, .slice C m cq] 24)) := ((Below.refl _ _).alloc (Nat.le_refl _) _).alloc (by simp) _
  have HB0 := Lib.hid hb0
  have BF0 : Hid (Blk ((w.alloc (.cells #[.int .u8 k, .slice A n cp] 24)).alloc (.cells #[.int .u8 j, .slice C m cq] 24)) w.heap.size 24 #[.int .u8 k, .slice A n cp]) := Lib.hid ((Blk.new w _ _).alloc _)
  have BG0 : Hid (Blk ((w.alloc (.cells #[.int .u8 k, .slice A n cp] 24)).alloc (.cells #[.int .u8 j, .slice C m cq] 24)) (w.heap.size + 1) 24 #[.int .u8 j, .slice C m cq]) := Lib.hid (by
    have := Blk.new (w.alloc (.cells #[.int .u8 k, .slice A n cp] 24)) 24 #[.int .u8 j, .slice C m cq]
    simpa using this)
  clear hr hs hl hy hb0
  by_cases hout : 17000 < n ∨ 17000 < m
  · have hcase : (17000 : Int) < n ∨ ((n : Int) ≤ 17000 ∧ (17000 : Int) < m) := by omega
    clear hout
    rcases hcase with h0 | ⟨h0, h1⟩
    all_goals
      go_enter Try.func3, Try.ntmps3
      go_wp2_with (fail)
      refine (awake_any _).mono ?_
      rintro e w12 ⟨rfl, h1⟩
      have HB12 := Lib.hid (HB0.out.trans (h1.mono (by simp; omega)))
      clear h1
      go_wp2_with (fail)
      go_ret
      exact ⟨rfl, HB12.out⟩
  · have hn1 : (n : Int) ≤ 17000 := by omega
    have hm1 : (m : Int) ≤ 17000 := by omega
    have hA : ∀ g, w.heap.size ≤ g → ∀ ad, 0 < n → A = some ad → ad.block ≠ g := fun g hg ad h0 he => by
      obtain ⟨ad', h', hb, _⟩ := HR.out.2 h0
      rw [he] at h'
      cases h'
      omega
    have HA := Lib.hid hA
    clear hA hout
    go_enter Try.func3, Try.ntmps3
    go_wp2_with (fail)
    refine (crcNew_any _).mono ?_
    rintro e w1 ⟨rfl, h1, h2⟩
    obtain ⟨g, hg⟩ : ∃ g, g = ((w.alloc (.cells #[.int .u8 k, .slice A n cp] 24)).alloc (.cells #[.int .u8 j, .slice C m cq] 24)).heap.size := ⟨_, rfl⟩
    rw [← hg] at h1
    have hgw : g = w.heap.size + 2 := by rw [hg]; simp
    rw [show ((w.alloc (.cells #[.int .u8 k, .slice A n cp] 24)).alloc (.cells #[.int .u8 j, .slice C m cq] 24)).heap.size = g from hg.symm]
    have HGW := Lib.hid hgw
    have HT1 := Lib.hid h1
    have HB1 := Lib.hid (HB0.out.trans (h2.mono (by simp; omega)))
    have BF1 := Lib.hid (BF0.out.below h2 (by simp; omega))
    have BG1 := Lib.hid (BG0.out.below h2 (by simp))
    clear h1 h2 hg hgw
    go_wp2_with (fail)
    refine (frNew_any g false w1 HT1.out).mono ?_
    rintro e w2 ⟨rfl, h1, h2⟩
    have HB2 := Lib.hid (HB1.out.trans (h2.mono HB1.out.size))
    have bf2 := BF1.out.below h2 BF1.out.lt
    have bg2 := BG1.out.below h2 BG1.out.lt
    have b0 : w2.cell? ⟨w.heap.size, 0, none⟩ = some (.int .u8 k) := bf2.cell 0
    have b1 : w2.cell? ⟨w.heap.size, 1, none⟩ = some (.slice A n cp) := bf2.cell 1
    have CD2 := Lib.hid h1
    have BF2 := Lib.hid bf2
    have BG2 := Lib.hid bg2
    clear h1 h2 bf2 bg2 BF1 BG1 HT1
    go_wp2_with (fail)
    refine (ours_any k A n cp _).mono ?_
    rintro e w3 ⟨rfl, h2⟩
    have HB3 := Lib.hid (HB2.out.trans (h2.mono HB2.out.size))
    have BF3 := Lib.hid (BF2.out.below h2 BF2.out.lt)
    have BG3 := Lib.hid (BG2.out.below h2 BG2.out.lt)
    have hgl := CD2.out.2.lt
    have hcl := CD2.out.1.lt
    have P := Lib.hid (cdPut_any w1.heap.size g false 0 0 k A n cp w.heap.size l w3 (CD2.out.below h2 hcl hgl) (HR.out.below HB3.out) HL.out HB3.out.size (HA.out g (by have := HGW.out; omega)) (by omega) hk)
    have hs3 := h2.size
    clear h2 b0 b1 BF2 BG2
    go_wp2_with (fail)
    refine P.out.mono ?_
    rintro e w4 ⟨v, rfl, h3, _, h5⟩
    obtain ⟨A4, c4, rfl, _, _, _⟩ := own_slice h3
    have bf4 := h5.blk BF3.out (by have := HGW.out; omega)
    have bg4 := h5.blk BG3.out (by have := HGW.out; omega)
    have b0 : w4.cell? ⟨w.heap.size, 0, none⟩ = some (.int .u8 k) := bf4.cell 0
    have b1 : w4.cell? ⟨w.heap.size, 1, none⟩ = some (.slice A n cp) := bf4.cell 1
    have HB4 := Lib.hid (chg_far1 HB3.out h5 (by have := HGW.out; omega))
    have O4 := Lib.hid h3
    have BF4 := Lib.hid bf4
    have BG4 := Lib.hid bg4
    have hs4 := h5.size
    have Q := Lib.hid (refPut3_any k A n cp w.heap.size l w4 (HR.out.below HB4.out) HL.out HB4.out.size (by omega) hk)
    clear h3 h5 bf4 bg4 P BF3 BG3
    generalize putE k l = pe at *
    go_wp2_with (fail)
    refine Q.out.mono ?_
    rintro e w5 ⟨v, rfl, h3, h5⟩
    obtain ⟨A5, c5, rfl, _, _, _⟩ := own_slice h3
    have O5 := Lib.hid (own_below O4.out h5)
    have Q5 := Lib.hid h3
    have HB5 := Lib.hid (HB4.out.trans (h5.mono HB4.out.size))
    have bf5 := BF4.out.below h5 BF4.out.lt
    have bg5 := BG4.out.below h5 BG4.out.lt
    have hpl : Hid ((putS k l).length ≤ 900000000) := Lib.hid (by
      unfold putS; split
      · simp [sealB, putB, le4]; have := LN.out; omega
      · simp)
    have P : Hid (w5.cell? ⟨w.heap.size, 0, none⟩ = some (.int .u8 k) ∧ w5.cell? ⟨w.heap.size, 1, none⟩ = some (.slice A n cp) ∧ w5.cell? ⟨w.heap.size + 1, 0, none⟩ = some (.int .u8 j) ∧ w5.cell? ⟨w.heap.size + 1, 1, none⟩ = some (.slice C m cq)) := Lib.hid ⟨bf5.cell 0, bf5.cell 1, bg5.cell 0, bg5.cell 1⟩
    have hfB := bf5.lt
    have hgB := bg5.lt
    have SA : Hid (∀ W, Below w5.heap.size w5 W → Calls Try.prog 14 #[.slice A4 (putS k l).length c4, .slice A5 (putS k l).length c5] W fun e w' => e = .returned (.bool true) ∧ Below W.heap.size W w') :=
      Lib.hid (fun W h => same_yes A4 A5 _ _ c4 c5 w5.heap.size w5.heap.size (bI (putS k l)) (bI (putS k l)) W h.size h.size ((Reads.of_own O5.out).below h) ((Reads.of_own Q5.out).below h) (by have := hpl.out; omega) rfl)
    have SB : Hid (∀ W, Below w5.heap.size w5 W → Calls Try.prog 16 #[.agg #[.int .u8 k, .slice A n cp], .agg #[.int .u8 j, .slice C m cq]] W fun e w' => e = .returned (.bool (decide (k = j ∧ l = y))) ∧ Below W.heap.size W w') :=
      Lib.hid (fun W h => frSame_any k j A C n m cp cq w.heap.size w.heap.size l y W (Nat.le_trans HB5.out.size h.size) (Nat.le_trans HB5.out.size h.size) (HR.out.below (HB5.out.trans (h.mono HB5.out.size))) (HS.out.below (HB5.out.trans (h.mono HB5.out.size))) HL.out HY.out)
    have SC : Hid (∀ W, Below w5.heap.size w5 W → Calls Try.prog 17 #[.agg #[.int .u8 k, .slice A n cp], .agg #[.int .u8 j, .slice C m cq]] W fun e w' => e = .returned (.bool (decide (k = j ∧ l = y))) ∧ Below W.heap.size W w') :=
      Lib.hid (fun W h => refSame3_any k j A C n m cp cq w.heap.size w.heap.size l y W (Nat.le_trans HB5.out.size h.size) (Nat.le_trans HB5.out.size h.size) (HR.out.below (HB5.out.trans (h.mono HB5.out.size))) (HS.out.below (HB5.out.trans (h.mono HB5.out.size))) (by omega))
    have SD : Hid (∀ W : World, Calls Try.prog 15 #[.agg #[.int .u8 k, .slice A n cp]] W fun e w' => e = .returned (.int .i64 ((n : Int) + 7)) ∧ Below W.heap.size W w') := Lib.hid (fun W => size_any k A n cp W (by omega))
    have hb : Below w5.heap.size w5 w5.drew := (Below.refl _ _).drew
    have hw7 : IntKind.i64.wrap ((n : Int) + 7) = n + 7 := by rw [IntKind.wrap_i64]; omega
    have q0 : w5.drew.cell? ⟨w.heap.size, 0, none⟩ = some (.int .u8 k) := P.out.1
    have q1 : w5.drew.cell? ⟨w.heap.size, 1, none⟩ = some (.slice A n cp) := P.out.2.1
    have q2 : w5.drew.cell? ⟨w.heap.size + 1, 0, none⟩ = some (.int .u8 j) := P.out.2.2.1
    have q3 : w5.drew.cell? ⟨w.heap.size + 1, 1, none⟩ = some (.slice C m cq) := P.out.2.2.2
    generalize decide (k = j ∧ l = y) = fb at *
    generalize (putS k l).length = pl at *
    clear h3 h5 bf5 bg5 Q BF4 BG4 b0 b1 hcl hgl hs3 hs4
    go_wp2_with (fail)
    obtain ⟨fB, hfe⟩ : ∃ fB, fB = w.heap.size := ⟨_, rfl⟩
    obtain ⟨gB, hge⟩ : ∃ gB, gB = w.heap.size + 1 := ⟨_, rfl⟩
    rw [← hge] at P hgB q2 q3 ⊢
    rw [← hfe] at P hfB q0 q1
    rw [← hfe]
    clear hfe hge
    go_region_held3 (fun w' => w'.cell? ⟨fB, 0, none⟩ = some (.int .u8 k) ∧ w'.cell? ⟨fB, 1, none⟩ = some (.slice A n cp) ∧ w'.cell? ⟨gB, 0, none⟩ = some (.int .u8 j) ∧ w'.cell? ⟨gB, 1, none⟩ = some (.slice C m cq)) (go_keep) (first
      | (go_at_call 14; refine (SA.out _ hb).mono ?_; rintro e w6 ⟨rfl, hb6⟩; replace hb := hb.trans (hb6.mono hb.size); replace q0 := (hb.cell (p := ⟨fB, 0, none⟩) hfB).trans P.out.1; replace q1 := (hb.cell (p := ⟨fB, 1, none⟩) hfB).trans P.out.2.1; replace q2 := (hb.cell (p := ⟨gB, 0, none⟩) hgB).trans P.out.2.2.1; replace q3 := (hb.cell (p := ⟨gB, 1, none⟩) hgB).trans P.out.2.2.2; clear hb6)
      | (go_at_call 15; refine (SD.out _).mono ?_; rintro e w6 ⟨rfl, hb6⟩; replace hb := hb.trans (hb6.mono hb.size); replace q0 := (hb.cell (p := ⟨fB, 0, none⟩) hfB).trans P.out.1; replace q1 := (hb.cell (p := ⟨fB, 1, none⟩) hfB).trans P.out.2.1; replace q2 := (hb.cell (p := ⟨gB, 0, none⟩) hgB).trans P.out.2.2.1; replace q3 := (hb.cell (p := ⟨gB, 1, none⟩) hgB).trans P.out.2.2.2; clear hb6)
      | (go_at_call 16; refine (SB.out _ hb).mono ?_; rintro e w6 ⟨rfl, hb6⟩; replace hb := hb.trans (hb6.mono hb.size); replace q0 := (hb.cell (p := ⟨fB, 0, none⟩) hfB).trans P.out.1; replace q1 := (hb.cell (p := ⟨fB, 1, none⟩) hfB).trans P.out.2.1; replace q2 := (hb.cell (p := ⟨gB, 0, none⟩) hgB).trans P.out.2.2.1; replace q3 := (hb.cell (p := ⟨gB, 1, none⟩) hgB).trans P.out.2.2.2; clear hb6)
      | (go_at_call 17; refine (SC.out _ hb).mono ?_; rintro e w6 ⟨rfl, hb6⟩; replace hb := hb.trans (hb6.mono hb.size); replace q0 := (hb.cell (p := ⟨fB, 0, none⟩) hfB).trans P.out.1; replace q1 := (hb.cell (p := ⟨fB, 1, none⟩) hfB).trans P.out.2.1; replace q2 := (hb.cell (p := ⟨gB, 0, none⟩) hgB).trans P.out.2.2.1; replace q3 := (hb.cell (p := ⟨gB, 1, none⟩) hgB).trans P.out.2.2.2; clear hb6)
      | (go_at_call 12; refine (ours_any _ _ _ _ _).mono ?_; rintro e w6 ⟨rfl, hb6⟩; replace hb := hb.trans (hb6.mono hb.size); replace q0 := (hb.cell (p := ⟨fB, 0, none⟩) hfB).trans P.out.1; replace q1 := (hb.cell (p := ⟨fB, 1, none⟩) hfB).trans P.out.2.1; replace q2 := (hb.cell (p := ⟨gB, 0, none⟩) hgB).trans P.out.2.2.1; replace q3 := (hb.cell (p := ⟨gB, 1, none⟩) hgB).trans P.out.2.2.2; clear hb6)
      | (go_at_call 8; refine (awake_any _).mono ?_; rintro e w6 ⟨rfl, hb6⟩; replace hb := hb.trans (hb6.mono hb.size); replace q0 := (hb.cell (p := ⟨fB, 0, none⟩) hfB).trans P.out.1; replace q1 := (hb.cell (p := ⟨fB, 1, none⟩) hfB).trans P.out.2.1; replace q2 := (hb.cell (p := ⟨gB, 0, none⟩) hgB).trans P.out.2.2.1; replace q3 := (hb.cell (p := ⟨gB, 1, none⟩) hgB).trans P.out.2.2.2; clear hb6)
      | fail)
    all_goals
      go_wp2_with (fail)
      go_ret
      exact ⟨rfl, HB5.out.trans (hb.mono HB5.out.size)⟩
end Go.Proofs.Ytoifaeabieojbaa
