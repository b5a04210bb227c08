/- The walks of CrcSeals and CrcBursts. -/
import Derived.Test.YtpgkidmcigefjaaCrcL
namespace Go.Proofs.Ytpgkidmcigefjaa
open Go.RowKit
set_option linter.unusedSimpArgs false
set_option linter.unusedVariables false
set_option maxRecDepth 100000
set_option maxHeartbeats 2000000

theorem tb_alloc (w : World) (cs : Array Value) (h : cs = #[.int .u32 0, .int .i32 0, .int .u32 0, .int .i32 0] ++ Array.replicate 256 (.int .u32 0)) : Tb (w.alloc (.cells cs 55)) w.heap.size false := by
  subst h
  refine ⟨_, Blk.new _ _ _, by rfl, by rfl, by rfl, by rfl, ?_⟩
  intro j hj
  show (#[Value.int .u32 0, .int .i32 0, .int .u32 0, .int .i32 0] ++ Array.replicate 256 (Value.int .u32 0))[4 + j]? = _
  rw [Array.getElem?_append_right (by simp), Array.getElem?_replicate, if_pos (by simpa using hj)]; rfl
/-- a row of one's own as a slice that reads, away from block g -/
theorem own_far {w : World} {base g n : Nat} {v : Value} {xs : List Value} (h : w.ownsRow base 5 1 v n xs) (hg : g < base) :
    ∃ A c, v = .slice A n c ∧ Reads w w.heap.size 1 A n xs ∧ (∀ ad, 0 < n → A = some ad → ad.block ≠ g) ∧ n ≤ c ∧ c ≤ maxLen := by
  obtain ⟨A, c, rfl, hr, h1, h2⟩ := own_slice h
  refine ⟨A, c, rfl, hr, fun ad h0 he => ?_, h1, h2⟩
  obtain ⟨g', cap, hv, hb, _⟩ := h.form h0
  subst he
  injection hv with hv
  injection hv with hv
  subst hv
  show g' ≠ g
  have := (h.lt g' rfl).1
  omega
theorem same_yes (A C : Option Addr) (n m c d B D : Nat) (x y : List Int) (w : World) (hB : B ≤ w.heap.size) (hD : D ≤ w.heap.size) (hx : Reads w B 1 A n (x.map (Value.int .u8))) (hy : Reads w D 1 C m (y.map (Value.int .u8))) (hn : n ≤ 9223372036854775806) (hxy : x = y) :
    Calls Try.prog 21 #[.slice A n c, .slice C m d] w fun e w' => e = .returned (.bool true) ∧ Below w.heap.size w w' :=
  (same_any A C n m c d B D x y w hB hD hx hy hn).mono fun e w' ⟨he, hb⟩ => ⟨by rw [he, decide_eq_true hxy], hb⟩
theorem tchg {w w' : World} {B size n g : Nat} {A : Option Addr} {xs : List Value} (h : Reads w B size A n xs) (hB : B ≤ w.heap.size) (hA : ∀ ad, 0 < n → A = some ad → ad.block ≠ g) (hc : Chg w w' (fun k => k = g)) : Reads w' B size A n xs := hc.reads h hB hA
theorem crcSeals_law (A : Option Addr) (n c pat : Nat) (l : List Nat) (bit : Int) (w : World) (hl : isBs l) (hr : Reads w w.heap.size 1 A n ((bI l).map (Value.int .u8))) (hn : n ≤ c) (hc : c ≤ maxLen) (hp : pat < 4294967296)
    (hb0 : -9223372036854775808 ≤ bit) (hb1 : bit ≤ 9223372036854775807) :
    Calls Try.prog 6 #[.slice A n c, .int .i64 bit, .int .u32 (pat : Int)] w fun e w' => e = .returned (.bool true) ∧ Below w.heap.size w w' := by
  unfold maxLen at hc
  have hR := hr.take (cutN_le n 300)
  rw [bI_take_map] at hR
  have HR := Lib.hid hR
  have HL := Lib.hid (isBs_take hl (cutN n 300))
  have h300 := cutN_le2 n 300
  have hnc := Nat.le_trans (cutN_le n 300) hn
  clear hR hr hl
  go_enter Try.func6, Try.ntmps6
  go_wp2_with (fail)
  refine (cut_any A n c 300 hn (by omega) _).mono ?_
  rintro e w1 ⟨rfl, rfl⟩
  generalize cutN n 300 = nb at *
  generalize l.take nb = b at *
  have LB := Lib.hid (reads_len HR.out)
  have hA : ∀ ad, 0 < nb → A = some ad → ad.block ≠ w.heap.size := fun ad h0 he => by
    obtain ⟨ad', h', hb, _⟩ := HR.out.2 h0
    rw [he] at h'
    cases h'
    omega
  have HA := Lib.hid hA
  clear hA
  go_wp2_with (fail)
  refine (crcSeal_any w.heap.size false A nb c w.heap.size b HL.out _ ?hT ?hr ?hB HA.out (by omega)).mono ?_
  case hT => exact tb_alloc w _ (by kernel_rfl)
  case hr => exact HR.out.alloc (Nat.le_refl _) _
  case hB => simp
  rintro e w3 ⟨v, rfl, h0, h1, h2⟩
  obtain ⟨A1, c1, rfl, r1, f1, l1, m1⟩ := own_far (g := w.heap.size) h0 (by simp)
  have hr3 : Reads w3 w.heap.size 1 A nb ((bI b).map (Value.int .u8)) := h2.reads (HR.out.alloc (Nat.le_refl _) _) (by simp) HA.out
  have hb3 : Below w.heap.size w w3 := below_chg ((Below.refl _ _).alloc (Nat.le_refl _) _) (Nat.le_refl _) (by simp) h2
  have R1 := Lib.hid r1
  have F1 := Lib.hid f1
  have H1 := Lib.hid h1
  have HR3 := Lib.hid hr3
  have HB3 := Lib.hid hb3
  have M1 := Lib.hid m1
  clear h0 h1 h2 r1 f1 m1 hr3 hb3 HR
  have hs3 := HB3.out.size
  have hg3 := H1.out.lt
  go_wp2_with (fail)
  refine (refSeal_any A nb c w.heap.size b HL.out w3 HR3.out hs3 (by omega)).mono ?_
  rintro e w4 ⟨v, rfl, h0, h1⟩
  obtain ⟨A2, c2, rfl, r2, l2, m2⟩ := own_slice h0
  have R2 := Lib.hid r2
  have R1' := Lib.hid (R1.out.below h1)
  have HR4 := Lib.hid (HR3.out.below (h1.mono hs3))
  have H4 := Lib.hid (H1.out.below h1 hg3)
  have HB4 := Lib.hid (HB3.out.trans (h1.mono hs3))
  have hs4 := h1.size
  clear h0 h1 r2 m2 R1 HR3 H1 HB3
  go_wp2_with (fail)
  refine (same_yes A1 A2 (nb + 4) (nb + 4) c1 c2 w3.heap.size w4.heap.size (bI (sealB b)) (bI (sealB b)) w4 hs4 (Nat.le_refl _) R1'.out R2.out (by omega) rfl).mono ?_
  rintro e w5 ⟨rfl, h1⟩
  have R1 := Lib.hid (R1'.out.below (h1.mono hs4))
  have HR5 := Lib.hid (HR4.out.below (h1.mono (Nat.le_trans hs3 hs4)))
  have H5 := Lib.hid (H4.out.below h1 H4.out.lt)
  have HB5 := Lib.hid (HB4.out.trans (h1.mono HB4.out.size))
  have hs5 := h1.size
  clear h1 R1' HR4 H4 HB4 R2
  have hbs : Hid (isBs (sealB b)) := Lib.hid (by
    intro x hx
    rcases List.mem_append.1 hx with hx | hx
    · exact HL.out x hx
    · exact le4_lt _ x hx)
  have C := Lib.hid (crcFits_any w.heap.size true A1 (nb + 4) c1 w3.heap.size (sealB b) hbs.out w5 H5.out R1.out (by omega) F1.out (by omega) l1 (by have := M1.out; unfold maxLen at this; omega))
  rw [fits_seal] at C
  go_wp2_with (fail)
  with_reducible refine C.out.mono ?_
  rintro e w6 ⟨rfl, h1, h2⟩
  have HR6 := Lib.hid (h2.reads HR5.out (by omega) HA.out)
  have H6 := Lib.hid h1
  have HB6 := Lib.hid (below_chg HB5.out (Nat.le_refl _) H5.out.lt h2)
  have hs6 := h2.size
  clear h1 h2 C R1 HR5 H5 HB5
  have C := Lib.hid (crcFits_any w.heap.size true A nb c w.heap.size b HL.out w6 H6.out HR6.out (by omega) HA.out (by omega) (by omega) (by omega))
  have D : Hid (∀ W : World, Reads W w.heap.size 1 A nb ((bI b).map (Value.int .u8)) → w.heap.size ≤ W.heap.size → Calls Try.prog 23 #[.slice A nb c] W fun e w' => e = .returned (.bool (fitsL b)) ∧ Below W.heap.size W w') :=
    Lib.hid (fun W h1 h2 => refFits_any A nb c w.heap.size b HL.out W h1 h2 (by omega) (by omega) (by omega))
  generalize fitsL b = fb at *
  go_wp2_with (fail)
  with_reducible refine C.out.mono ?_
  rintro e w7 ⟨rfl, h1, h2⟩
  have HR7 := Lib.hid (h2.reads HR6.out (by omega) HA.out)
  have HB7 := Lib.hid (below_chg HB6.out (Nat.le_refl _) H6.out.lt h2)
  have hs7 := h2.size
  clear h1 h2 C HR6 H6 HB6
  go_wp2_with (fail)
  with_reducible refine (D.out w7 HR7.out HB7.out.size).mono ?_
  rintro e w8 ⟨rfl, h1⟩
  have HR8 := Lib.hid (HR7.out.below (h1.mono HB7.out.size))
  have HB8 := Lib.hid (HB7.out.trans (h1.mono HB7.out.size))
  clear h1 D HR7 HB7
  have hs8 := HB8.out.size
  have C := Lib.hid (crcTurn_any A nb c w.heap.size b bit pat HL.out w8 HR8.out hs8 (by omega) hp hb0 hb1)
  have D : Hid (∀ W : World, Reads W w.heap.size 1 A nb ((bI b).map (Value.int .u8)) → w.heap.size ≤ W.heap.size → Calls Try.prog 25 #[.slice A nb c, .int .i64 bit, .int .u32 (pat : Int)] W fun e w' => ∃ v, e = .returned v ∧ w'.ownsRow W.heap.size 5 1 v nb ((bI (turnV bit pat b)).map (Value.int .u8)) ∧ Below W.heap.size W w') :=
    Lib.hid (fun W h1 h2 => refTurn_any A nb c w.heap.size b bit pat HL.out W h1 h2 (by omega) hp hb0 hb1)
  go_wp2_with (fail)
  with_reducible refine C.out.mono ?_
  rintro e w9 ⟨v, rfl, h0, h1⟩
  obtain ⟨A3, c3, rfl, r3, _, _⟩ := own_slice h0
  have R3 := Lib.hid r3
  have HR9 := Lib.hid (HR8.out.below (h1.mono hs8))
  have HB9 := Lib.hid (HB8.out.trans (h1.mono hs8))
  clear h0 h1 r3 C HR8 HB8
  have hs9 := HB9.out.size
  go_wp2_with (fail)
  with_reducible refine (D.out w9 HR9.out hs9).mono ?_
  rintro e w10 ⟨v, rfl, h0, h1⟩
  obtain ⟨A4, c4, rfl, r4, _, _⟩ := own_slice h0
  have R4 := Lib.hid r4
  have R3' := Lib.hid (R3.out.below h1)
  have HB10 := Lib.hid (HB9.out.trans (h1.mono hs9))
  have hs10 := h1.size
  clear h0 h1 r4 D HR9 HB9
  go_wp2_with (fail)
  refine (same_yes A3 A4 nb nb c3 c4 w9.heap.size w10.heap.size (bI (turnV bit pat b)) (bI (turnV bit pat b)) w10 hs10 (Nat.le_refl _) R3'.out R4.out (by omega) rfl).mono ?_
  rintro e w11 ⟨rfl, h1⟩
  have HB11 := Lib.hid (HB10.out.trans (h1.mono HB10.out.size))
  clear h1 HB10
  go_wp2_with (fail)
  refine (awake_any _).mono ?_
  rintro e w12 ⟨rfl, h4⟩
  have HB12 := Lib.hid (HB11.out.trans (h4.mono HB11.out.size))
  clear h4
  go_wp2
  go_ret
  exact ⟨rfl, HB12.out⟩
end Go.Proofs.Ytpgkidmcigefjaa
