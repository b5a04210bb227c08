/- The law's awake of chapter 3; the walks of FrameNil and FrameCuts. -/
import Derived.Test.YtoifaeabieojbaaFrmF
namespace Go.Proofs.Ytoifaeabieojbaa
open Go.RowKit
set_option linter.unusedSimpArgs false
set_option linter.unusedVariables false
set_option maxRecDepth 100000
set_option maxHeartbeats 2000000

theorem putS7 : putS 7 [] = sealB (putB 7 []) := by unfold putS putE; simp
theorem get7 : getE (putS 7 []) = 0 ∧ getK (putS 7 []) = 7 ∧ (putS 7 []).length = 7 := by decide +kernel
theorem putS_bs (k : Nat) (l : List Nat) (hk : k < 256) (hl : isBs l) : isBs (putS k l) := by
  unfold putS
  split
  · rename_i h
    unfold putE at h
    split at h
    · cases h
    · split at h
      · cases h
      · exact sealB_bs _ (putB_bs k l hk hl (by omega))
  · intro b hb; cases hb
theorem chg_far {w w1 w2 : World} {g c : Nat} (hb : Below w.heap.size w w1) (hc : Chg w1 w2 (fun k => k = g ∨ k = c)) (hg : w.heap.size ≤ g) (hcc : w.heap.size ≤ c) : Below w.heap.size w w2 :=
  hb.trans (hc.below (B := w.heap.size) hb.size (fun k hk e => by omega))
theorem chg_far1 {w w1 w2 : World} {g : Nat} (hb : Below w.heap.size w w1) (hc : Chg w1 w2 (fun k => k = g)) (hg : w.heap.size ≤ g) : Below w.heap.size w w2 :=
  hb.trans (hc.below (B := w.heap.size) hb.size (fun k hk e => by omega))
theorem awake_any (w : World) : Calls Try.prog 8 #[] w fun e w' => e = .returned (.bool true) ∧ Below w.heap.size w w' := by
  go_enter Try.func8, Try.ntmps8
  go_wp2_with (fail)
  refine (frNew_nil _).mono ?_
  rintro e w1 ⟨c, rfl, hc, h1, h2⟩
  obtain ⟨g, hg⟩ : ∃ g, g = w.heap.size := ⟨_, rfl⟩
  rw [← hg] at h1
  have P := Lib.hid (cdPut_any c g false 0 0 7 none 0 0 0 [] w1 h1 Reads.none_ (by intro b hb; cases hb) (Nat.zero_le _) (fun ad h0 => absurd h0 (by omega)) (by omega) (by omega))
  have HG := Lib.hid hg
  have HB1 := Lib.hid h2
  have hcl := h1.1.lt
  have hgl := h1.2.lt
  clear h1 h2 hg
  go_wp2_with (fail)
  refine P.out.mono ?_
  rintro e w2 ⟨v, rfl, h3, ⟨d', h4⟩, h5⟩
  obtain ⟨A2, c2, rfl, r2, f2, l2, m2⟩ := own_far (g := g) h3 hgl
  have HB2 := Lib.hid (chg_far1 HB1.out h5 (by have := HG.out; omega))
  have hs5 := h5.size
  have Gt := Lib.hid (cdGet_any c g d' 0 0 A2 (putS 7 []).length c2 w2.heap.size (putS 7 []) w2 h4 r2 (putS_bs 7 [] (by omega) (by intro b hb; cases hb)) (Nat.le_refl _) f2 (by rw [get7.2.2]; omega) l2 (by have := m2; unfold maxLen at this; omega) (by omega) (by omega))
  rw [get7.1, get7.2.1] at Gt
  have e7 : ((putS 7 []).length : Int) = 7 := by rw [get7.2.2]; rfl
  have ep : Hid (putE 7 [] = 0) := Lib.hid rfl
  rw [ep.out]
  clear h3 h4 h5 P r2 f2
  generalize (putS 7 []).length = pl at *
  go_wp2_with (fail)
  refine Gt.out.mono ?_
  rintro e w3 ⟨v, rfl, h3, ⟨d3, h4⟩, h5⟩
  obtain ⟨A3, c3, rfl, _, _, _⟩ := own_slice h3
  have HB3 := Lib.hid (chg_far HB2.out h5 (by have := HG.out; omega) hc)
  clear h3 h4 h5 Gt
  go_wp2_with (fail)
  go_ret
  exact ⟨rfl, HB3.out.alloc HB3.out.size _⟩
theorem frameNil_law (k : Int) (A A2 : Option Addr) (n c n2 c2 : Nat) (w : World) :
    Calls Try.prog 7 #[.agg #[.int .u8 k, .slice A n c], .slice A2 n2 c2] w fun e w' => e = .returned (.bool true) ∧ Below w.heap.size w w' := by
  go_enter Try.func7, Try.ntmps7
  go_wp2_with (fail)
  refine (ours_any k A n c _).mono ?_
  rintro e w1 ⟨rfl, h1⟩
  have HB1 := Lib.hid (((Below.refl w.heap.size w).alloc (Nat.le_refl _) (.cells #[.int .u8 k, .slice A n c] 24)).trans (h1.mono (by simp)))
  clear h1
  go_wp2_with (fail)
  refine (cdPut_nil k _ _).mono ?_
  rintro e w2 ⟨rfl, h1⟩
  have HB2 := Lib.hid (HB1.out.trans (h1.mono HB1.out.size))
  clear h1
  go_wp2_with (fail)
  refine (cdCut_nil _ _).mono ?_
  rintro e w3 ⟨rfl, h1⟩
  have HB3 := Lib.hid (HB2.out.trans (h1.mono HB2.out.size))
  have HB4 := Lib.hid (HB3.out.alloc HB3.out.size (.cells #[.int .u8 0, .slice none 0 0] 33))
  have Y4 : Hid (Blk (w3.alloc (.cells #[.int .u8 0, .slice none 0 0] 33)) w3.heap.size 33 #[.int .u8 0, .slice none 0 0]) := Lib.hid (Blk.new _ _ _)
  clear h1
  go_wp2_with (fail)
  refine (cdGet_nil _ _).mono ?_
  rintro e w5 ⟨rfl, h1⟩
  have HB5 := Lib.hid (HB4.out.trans (h1.mono HB4.out.size))
  have y5 := Y4.out.below h1 (by simp)
  have hy5 := y5.lt
  have p0 : w5.cell? ⟨w3.heap.size, 0, none⟩ = some (.int .u8 0) := y5.cell 0
  have p1 : w5.cell? ⟨w3.heap.size, 1, none⟩ = some (.slice none 0 0) := y5.cell 1
  have Z6 : Hid (Blk (w5.alloc (.cells #[.int .u8 0, .slice none 0 0] 33)) w5.heap.size 33 #[.int .u8 0, .slice none 0 0]) := Lib.hid (Blk.new _ _ _)
  have HB6 := Lib.hid (HB5.out.alloc HB5.out.size (.cells #[.int .u8 0, .slice none 0 0] 33))
  clear h1 y5
  go_wp2_with (fail)
  refine (cdAll_nil _ _).mono ?_
  rintro e w' ⟨rfl, rfl⟩
  go_wp2_with (fail)
  refine (counts_nil _).mono ?_
  rintro e w' ⟨rfl, rfl⟩
  go_wp2_with (fail)
  refine (like_yes 0 none none 0 0 0 0 0 0 [] _ (Nat.zero_le _) (Nat.zero_le _) Reads.none_ Reads.none_ (by omega)).mono ?_
  rintro e w7 ⟨rfl, h1⟩
  have z7 := Z6.out.below h1 (by simp)
  have q0 : w7.cell? ⟨w5.heap.size, 0, none⟩ = some (.int .u8 0) := z7.cell 0
  have q1 : w7.cell? ⟨w5.heap.size, 1, none⟩ = some (.slice none 0 0) := z7.cell 1
  have HB7 := Lib.hid (HB6.out.trans (h1.mono HB6.out.size))
  clear h1 z7 p0 p1
  go_wp2_with (fail)
  refine (like_yes 0 none none 0 0 0 0 0 0 [] _ (Nat.zero_le _) (Nat.zero_le _) Reads.none_ Reads.none_ (by omega)).mono ?_
  rintro e w8 ⟨rfl, h1⟩
  have HB8 := Lib.hid (HB7.out.trans (h1.mono HB7.out.size))
  clear h1 q0 q1
  go_wp2_with (fail)
  refine (awake_any _).mono ?_
  rintro e w9 ⟨rfl, h1⟩
  have HB9 := Lib.hid (HB8.out.trans (h1.mono HB8.out.size))
  clear h1
  go_wp2_with (fail)
  go_ret
  exact ⟨rfl, HB9.out⟩
theorem cutB_len (b : List Nat) : (cutB b).length ≤ b.length := by
  unfold cutB
  split
  · rw [List.length_take, List.length_drop]; omega
  · simp
theorem getB_len (b : List Nat) : (getB b).length ≤ b.length := by
  unfold getB
  split
  · exact cutB_len b
  · simp
theorem cnt_b (x : Int) (e : Nat) (h : 0 ≤ x ∧ x ≤ 999999) : (0 ≤ cntX x e ∧ cntX x e ≤ 1000000) ∧ (0 ≤ cntY x e ∧ cntY x e ≤ 1000000) := by
  unfold cntX cntY
  constructor <;> split <;> omega
theorem own_chg3 {w w' : World} {base n g c : Nat} {v : Value} {xs : List Value} (h : w.ownsRow base 5 1 v n xs) (hc : Chg w w' (fun k => k = g ∨ k = c)) (hg : g < base) (hb : c < base) : w'.ownsRow base 5 1 v n xs :=
  hc.own h (fun k hk e => by have := (h.lt k hk).1; omega)
theorem own_below {w w' : World} {base n : Nat} {v : Value} {xs : List Value} (h : w.ownsRow base 5 1 v n xs) (hb : Below w.heap.size w w') : w'.ownsRow base 5 1 v n xs :=
  own_block_same h (fun k hk => hb.block k (h.lt k hk).2)
theorem frameCuts_law (A : Option Addr) (n cp : Nat) (l : List Nat) (w : World) (hl : isBs l) (hr : Reads w w.heap.size 1 A n ((bI l).map (Value.int .u8))) (hn : n ≤ cp) (hc : cp ≤ maxLen) :
    Calls Try.prog 4 #[.slice A n cp] w fun e w' => e = .returned (.bool true) ∧ Below w.heap.size w w' := by
  unfold maxLen at hc
  have hR := hr.take (cutN_le n 300)
  rw [bI_take_map] at hR
  have HR := Lib.hid hR
  have HL := Lib.hid (isBs_take hl (cutN n 300))
  have h300 := cutN_le2 n 300
  have hnc := Nat.le_trans (cutN_le n 300) hn
  clear hR hr hl
  go_enter Try.func4, Try.ntmps4
  go_wp2_with (fail)
  refine (cut_any A n cp 300 hn (by omega) _).mono ?_
  rintro e w1 ⟨rfl, rfl⟩
  generalize cutN n 300 = nb at *
  generalize l.take nb = b at *
  have hA : ∀ g, w.heap.size ≤ g → ∀ ad, 0 < nb → A = some ad → ad.block ≠ g := fun g hg ad h0 he => by
    obtain ⟨ad', h', hb, _⟩ := HR.out.2 h0
    rw [he] at h'
    cases h'
    omega
  have HA := Lib.hid hA
  clear hA
  go_wp2_with (fail)
  refine (frNew_nil _).mono ?_
  rintro e w1 ⟨c, rfl, hcw, h1, h2⟩
  obtain ⟨g, hg⟩ : ∃ g, g = w.heap.size := ⟨_, rfl⟩
  rw [← hg] at h1
  have HG := Lib.hid hg
  have HB1 := Lib.hid h2
  have hcl := h1.1.lt
  have hgl := h1.2.lt
  have hs1 := h2.size
  have C := Lib.hid (cdCut_any c g false 0 0 A nb cp w.heap.size b w1 h1 (HR.out.below h2) HL.out hs1 (HA.out g (by omega)) (by omega) (by omega) (by omega) (by omega) (by omega))
  clear h1 h2 hg
  go_wp2_with (fail)
  refine C.out.mono ?_
  rintro e w2 ⟨v, rfl, h3, ⟨d2, h4⟩, h5⟩
  obtain ⟨A2, c2, rfl, _, _, _⟩ := own_slice h3
  have HB2 := Lib.hid (chg_far HB1.out h5 (by have := HG.out; omega) hcw)
  have hs2 := h5.size
  have hb3 : Below w2.heap.size w2 (w2.alloc (.cells #[.int .u8 (cutK b), .slice A2 (cutB b).length c2] 33)) := (Below.refl _ _).alloc (Nat.le_refl _) _
  obtain ⟨w3, hw3⟩ : ∃ w3, w3 = w2.alloc (.cells #[.int .u8 (cutK b), .slice A2 (cutB b).length c2] 33) := ⟨_, rfl⟩
  have X3 : Hid (Blk w3 w2.heap.size 33 #[.int .u8 (cutK b), .slice A2 (cutB b).length c2]) := Lib.hid (by rw [hw3]; exact Blk.new _ _ _)
  rw [← hw3] at hb3
  have O3 := Lib.hid (own_below h3 hb3)
  have CD3 := Lib.hid (h4.below hb3 (by omega) (by omega))
  have HB3 := Lib.hid (HB2.out.trans (hb3.mono HB2.out.size))
  have hs3 := hb3.size
  have D := Lib.hid (refCut_any A nb cp w.heap.size b w3 (HR.out.below HB3.out) HL.out HB3.out.size (by omega) (by omega) (by omega))
  rw [hw3] at D
  have HW3 := Lib.hid hw3
  clear h3 h4 h5 hb3 hw3 C
  go_wp2_with (fail)
  refine D.out.mono ?_
  rw [← HW3.out]
  rintro e w4 ⟨A4, c4, rfl, h6, h7⟩
  have X4 := Lib.hid (X3.out.below h7 X3.out.lt)
  have O4 := Lib.hid (own_below O3.out h7)
  have CD4 := Lib.hid (CD3.out.below h7 (by omega) (by omega))
  have HB4 := Lib.hid (HB3.out.trans (h7.mono HB3.out.size))
  have hs4 := h7.size
  have hb5 : Below w4.heap.size w4 (w4.alloc (.cells #[.int .u8 (cutK b), .slice A4 (cutB b).length c4] 24)) := (Below.refl _ _).alloc (Nat.le_refl _) _
  obtain ⟨w5, hw5⟩ : ∃ w5, w5 = w4.alloc (.cells #[.int .u8 (cutK b), .slice A4 (cutB b).length c4] 24) := ⟨_, rfl⟩
  have Y5 : Hid (Blk w5 w4.heap.size 24 #[.int .u8 (cutK b), .slice A4 (cutB b).length c4]) := Lib.hid (by rw [hw5]; exact Blk.new _ _ _)
  rw [← hw5] at hb5
  have X5 := Lib.hid (X4.out.below hb5 X4.out.lt)
  have O5 := Lib.hid (own_below O4.out hb5)
  have R5 := Lib.hid (h6.below (hb5.mono HB4.out.size))
  have HB5 := Lib.hid (HB4.out.trans (hb5.mono HB4.out.size))
  have cb := cnt_b 0 (cutE b) (by omega)
  have G := Lib.hid (cdGet_any c g d2 _ _ A nb cp w.heap.size b w5 (CD4.out.below hb5 (by omega) (by omega)) (HR.out.below HB5.out) HL.out HB5.out.size (HA.out g (by have := HG.out; omega)) (by omega) (by omega) (by omega) cb.1 cb.2)
  rw [hw5] at G
  have HW5 := Lib.hid hw5
  have hs5 := hb5.size
  have hgs := HG.out
  clear h6 h7 hb5 hw5 D X3 X4 O3 O4 CD3 CD4 cb HW3
  go_wp2_with (fail)
  refine G.out.mono ?_
  rw [← HW5.out]
  rintro e w6 ⟨v, rfl, h3, _, h5⟩
  obtain ⟨A6, c6, rfl, _, _, _⟩ := own_slice h3
  have X6 := Lib.hid (h5.blk X5.out (by omega))
  have Y6 := Lib.hid (h5.blk Y5.out (by omega))
  have O6 := Lib.hid (own_chg3 O5.out h5 (by omega) (by omega))
  have R6 := Lib.hid (h5.reads R5.out HB5.out.size (fun ad h0 he => by
    obtain ⟨ad', h', hb, _⟩ := R5.out.2 h0
    rw [he] at h'
    cases h'
    omega))
  have HB6 := Lib.hid (chg_far HB5.out h5 (by omega) hcw)
  have hs6 := h5.size
  have hb7 : Below w6.heap.size w6 (w6.alloc (.cells #[.int .u8 (getK b), .slice A6 (getB b).length c6] 33)) := (Below.refl _ _).alloc (Nat.le_refl _) _
  obtain ⟨w7, hw7⟩ : ∃ w7, w7 = w6.alloc (.cells #[.int .u8 (getK b), .slice A6 (getB b).length c6] 33) := ⟨_, rfl⟩
  have P7 : Hid (Blk w7 w6.heap.size 33 #[.int .u8 (getK b), .slice A6 (getB b).length c6]) := Lib.hid (by rw [hw7]; exact Blk.new _ _ _)
  rw [← hw7] at hb7
  have X7 := Lib.hid (X6.out.below hb7 X6.out.lt)
  have Y7 := Lib.hid (Y6.out.below hb7 Y6.out.lt)
  have O7 := Lib.hid (own_below O6.out hb7)
  have Q7 := Lib.hid (own_below h3 hb7)
  have R7 := Lib.hid (R6.out.below (hb7.mono HB6.out.size))
  have HB7 := Lib.hid (HB6.out.trans (hb7.mono HB6.out.size))
  have hs7 := hb7.size
  have D := Lib.hid (refGet_any A nb cp w.heap.size b w7 (HR.out.below HB7.out) HL.out HB7.out.size (by omega) (by omega) (by omega))
  rw [hw7] at D
  have HW7 := Lib.hid hw7
  clear h3 h5 hb7 hw7 G X5 X6 Y5 Y6 O5 O6 R5 R6 HW5
  go_wp2_with (fail)
  refine D.out.mono ?_
  rw [← HW7.out]
  rintro e w8 ⟨A8, c8, rfl, h6, h7⟩
  have X8 := Lib.hid (X7.out.below h7 X7.out.lt)
  have Y8 := Lib.hid (Y7.out.below h7 Y7.out.lt)
  have P8 := Lib.hid (P7.out.below h7 P7.out.lt)
  have O8 := Lib.hid (own_below O7.out h7)
  have Q8 := Lib.hid (own_below Q7.out h7)
  have R8 := Lib.hid (R7.out.below (h7.mono HB7.out.size))
  have HB8 := Lib.hid (HB7.out.trans (h7.mono HB7.out.size))
  have hs8 := h7.size
  have x0 : w8.cell? ⟨w2.heap.size, 0, none⟩ = some (.int .u8 (cutK b)) := X8.out.cell 0
  have x1 : w8.cell? ⟨w2.heap.size, 1, none⟩ = some (.slice A2 (cutB b).length c2) := X8.out.cell 1
  have y0 : w8.cell? ⟨w4.heap.size, 0, none⟩ = some (.int .u8 (cutK b)) := Y8.out.cell 0
  have y1 : w8.cell? ⟨w4.heap.size, 1, none⟩ = some (.slice A4 (cutB b).length c4) := Y8.out.cell 1
  have lx := X8.out.lt
  have ly := Y8.out.lt
  have hb9 : Below w8.heap.size w8 (w8.alloc (.cells #[.int .u8 (getK b), .slice A8 (getB b).length c8] 24)) := (Below.refl _ _).alloc (Nat.le_refl _) _
  have L1 := Lib.hid (like_yes (cutK b) A2 A4 (cutB b).length (cutB b).length c2 c4 w8.heap.size w.heap.size (bI (cutB b)) _ (by simp) (Nat.le_trans HB8.out.size hb9.size) (Reads.below (Reads.of_own O8.out) hb9) (R8.out.below (hb9.mono HB8.out.size)) (by have := cutB_len b; have := reads_len HR.out; omega))
  have Z9 : Hid (Blk (w8.alloc (.cells #[.int .u8 (getK b), .slice A8 (getB b).length c8] 24)) w8.heap.size 24 #[.int .u8 (getK b), .slice A8 (getB b).length c8]) := Lib.hid (Blk.new _ _ _)
  have P9 := Lib.hid (P8.out.below hb9 P8.out.lt)
  have Q9 := Lib.hid (own_below Q8.out hb9)
  have S9 := Lib.hid (h6.below (hb9.mono HB8.out.size))
  have HB9 := Lib.hid (HB8.out.trans (hb9.mono HB8.out.size))
  clear h6 h7 hb9 D HW7 X7 Y7 P7 O7 Q7 R7
  go_wp2_with (fail)
  refine L1.out.mono ?_
  rintro e w10 ⟨rfl, h1⟩
  have z10 := Z9.out.below h1 (by simp)
  have p10 := P9.out.below h1 P9.out.lt
  have q10 := own_below Q9.out h1
  have s10 := S9.out.below (h1.mono HB9.out.size)
  have HB10 := Lib.hid (HB9.out.trans (h1.mono HB9.out.size))
  have u0 : w10.cell? ⟨w6.heap.size, 0, none⟩ = some (.int .u8 (getK b)) := p10.cell 0
  have u1 : w10.cell? ⟨w6.heap.size, 1, none⟩ = some (.slice A6 (getB b).length c6) := p10.cell 1
  have v0 : w10.cell? ⟨w8.heap.size, 0, none⟩ = some (.int .u8 (getK b)) := z10.cell 0
  have v1 : w10.cell? ⟨w8.heap.size, 1, none⟩ = some (.slice A8 (getB b).length c8) := z10.cell 1
  have L2 := Lib.hid (like_yes (getK b) A6 A8 (getB b).length (getB b).length c6 c8 w10.heap.size w.heap.size (bI (getB b)) w10 (Nat.le_refl _) HB10.out.size (Reads.of_own q10) s10 (by have := getB_len b; have := reads_len HR.out; omega))
  clear h1 z10 p10 q10 s10 L1 x0 x1 y0 y1
  go_wp2_with (fail)
  refine L2.out.mono ?_
  rintro e w11 ⟨rfl, h1⟩
  have HB11 := Lib.hid (HB10.out.trans (h1.mono HB10.out.size))
  clear h1 L2 u0 u1 v0 v1
  go_wp2_with (fail)
  refine (awake_any _).mono ?_
  rintro e w12 ⟨rfl, h1⟩
  have HB12 := Lib.hid (HB11.out.trans (h1.mono HB11.out.size))
  clear h1
  go_wp2_with (fail)
  go_ret
  exact ⟨rfl, HB12.out⟩
end Go.Proofs.Ytoifaeabieojbaa
