/- Package frame: first. -/
import Derived.Test.YtoifaeabieojbaaFrmB
namespace Go.Proofs.Ytoifaeabieojbaa
open Go.RowKit
set_option linter.unusedSimpArgs false
set_option linter.unusedVariables false
set_option maxRecDepth 100000
set_option maxHeartbeats 1500000

theorem bytesB_bI (l : List Nat) (h : isBs l) : bytesB (bI l) := by
  intro z hz
  obtain ⟨x, hx, rfl⟩ := List.mem_map.1 hz
  have := h x hx
  omega
theorem Chg.setNew {w w' : World} {S : Nat → Prop} (h : Chg w w' S) {p : Addr} (hp : w.heap.size ≤ p.block) (v : Value) : Chg w (w'.setCell p v) S :=
  ⟨h.os, h.tape, h.output, by simpa [World.setCell] using h.size, fun k hk hn => (Below.heap_setCell w' p v k (by omega)).trans (h.block k hk hn)⟩
theorem cut_cases (b : List Nat) (n : Nat) (hn : b.length = n) :
    (n < 3 ∧ cutE b = 3) ∨ (3 ≤ n ∧ b.getD 0 0 = 0 ∧ cutE b = 4) ∨ (3 ≤ n ∧ b.getD 0 0 ≠ 0 ∧ 16384 < frN b ∧ cutE b = 6) ∨ (3 ≤ n ∧ b.getD 0 0 ≠ 0 ∧ frN b ≤ 16384 ∧ n < frN b + 7 ∧ cutE b = 3) ∨
    (3 ≤ n ∧ b.getD 0 0 ≠ 0 ∧ frN b ≤ 16384 ∧ frN b + 7 ≤ n ∧ cutE b = if fitsL (b.take (frN b + 7)) then 0 else 5) := by
  unfold cutE
  rw [hn]
  by_cases h1 : n < 3
  · exact .inl ⟨h1, if_pos h1⟩
  right
  rw [if_neg h1]
  by_cases h2 : b.getD 0 0 = 0
  · exact .inl ⟨by omega, h2, if_pos h2⟩
  right
  rw [if_neg h2]
  by_cases h3 : 16384 < frN b
  · exact .inl ⟨by omega, h2, h3, if_pos h3⟩
  right
  rw [if_neg h3]
  by_cases h4 : n < frN b + 7
  · exact .inl ⟨by omega, h2, by omega, h4, if_pos h4⟩
  right
  rw [if_neg h4]
  exact ⟨by omega, h2, by omega, by omega, rfl⟩
theorem hd2_lt (b : List Nat) (hb : isBs b) : (hd2 b).2 < 65536 := by
  by_cases h : 3 ≤ b.length
  · rw [(hd_ok b hb h).2.1]; exact frN_lt b hb
  · match b, h with
    | [], _ => decide
    | [x], _ =>
      have hx := hb x (by simp)
      have e1 : hd1 [x] = (⟨[], 0⟩, x) := by
        unfold hd1 FI.upto FI.next
        have h1 : ¬ 18446744073709551615 < x := by omega
        simp [bI, knownB, numB, h1]
      unfold hd2
      rw [e1]
      unfold FI.upto FI.next
      simp [knownB, FI.fail]
    | [x, y], _ =>
      have hx := hb x (by simp)
      have e1 : hd1 [x, y] = (⟨[(y : Int)], 0⟩, x) := by
        unfold hd1 FI.upto FI.next
        have h1 : ¬ 18446744073709551615 < x := by omega
        simp [bI, knownB, numB, h1]
      unfold hd2
      rw [e1]
      unfold FI.upto FI.next
      simp [bI, knownB, FI.fail]
    | _ :: _ :: _ :: _, h => simp at h
theorem first_any (c g : Nat) (d : Bool) (x y : Int) (A : Option Addr) (n cp B : Nat) (b : List Nat) (w : World) (h : Cd w c g d x y) (hr : Reads w B 1 A n ((bI b).map (Value.int .u8))) (hb : isBs b) (hB : B ≤ w.heap.size)
    (hA : ∀ ad, 0 < n → A = some ad → ad.block ≠ g) (hn : n ≤ 900000000) (hnc : n ≤ cp) (hc : cp ≤ 9223372036854775807) :
    Calls Try.prog 36 #[.pointer (some ⟨c, 0, none⟩), .slice A n cp] w fun e w' => ∃ v, e = .returned (.tuple #[.agg #[.int .u8 (cutK b), v], .int .i64 (cutL b), .int .i64 (cutE b)]) ∧
      w'.ownsRow w.heap.size 5 1 v (cutB b).length ((bI (cutB b)).map (Value.int .u8)) ∧ (∃ d', Tb w' g d') ∧ Chg w w' (fun k => k = g) := by
  have HR := Lib.hid hr
  have HBS := Lib.hid hb
  have LN := Lib.hid (reads_len hr)
  have HAA := Lib.hid hA
  have hcl := h.1.lt
  have hgl := h.2.lt
  have HT := Lib.hid h.2
  have HC : Hid (Blk w c 72 #[.pointer (some ⟨g, 0, none⟩), .int .u64 x, .int .u64 y]) := Lib.hid h.1
  clear h hb hA
  obtain ⟨m, hm⟩ : ∃ m : Nat, m = min n 3 := ⟨_, rfl⟩
  have hm1 : m ≤ n := by omega
  have hm2 : m ≤ 3 := by omega
  have hmi : min (n : Int) 3 = (m : Int) := by omega
  have ht := hr.take (k := m) hm1
  rw [bI_take_map, show b.take m = b.take 3 by
    by_cases h3 : n < 3
    · rw [List.take_of_length_le (by have := LN.out; omega), List.take_of_length_le (by have := LN.out; omega)]
    · rw [show m = 3 by omega]] at ht
  have HM := Lib.hid ht
  have HM3 := Lib.hid hm
  clear hr ht hm
  go_enter Try.func36, Try.ntmps36
  go_wp2_with (fail)
  refine (of_any A m cp B (bI (b.take 3)) _ (by simp; omega) (Reads.alloc HM.out hB _) (bytesB_bI _ (isBs_take HBS.out 3)) (by omega)).mono ?_
  rintro e w1 ⟨gi, rfl, h1, h2, h3⟩
  have hb1 : Below w.heap.size w w1 := ((Below.refl w.heap.size w).alloc (Nat.le_refl _) (.cells #[.int .u8 0, .slice none 0 0] 33)).trans (h3.mono (by simp))
  have R1 : Blk w1 w.heap.size 33 #[.int .u8 0, .slice none 0 0] := (Blk.new w _ _).below h3 (by simp)
  have hgi : w.heap.size < gi := by simp at h1; omega
  have hIn := h2
  clear h1 h2 h3
  have G1 := Lib.hid (get_any gi ⟨bI (b.take 3), 0⟩ 1 _ w1 hIn)
  have HR1 := Lib.hid R1
  have HB1 := Lib.hid hb1
  clear R1 hb1 hIn
  go_wp2_with (fail)
  refine G1.out.mono ?_
  rintro e w2 ⟨rfl, h1, h2⟩
  have G2 := Lib.hid (get_any gi (hd1 b).1 2 _ w2 h1)
  have HR2 := Lib.hid (h2.blk HR1.out (show ¬ w.heap.size = gi by omega))
  have HB2 := Lib.hid (HB1.out.trans (h2.below (B := w.heap.size) HB1.out.size (fun k hk e => by have : k = gi := e; omega)))
  clear h1 h2 G1 HR1 HB1
  go_wp2_with (fail)
  refine G2.out.mono ?_
  rintro e w3 ⟨rfl, h1, h2⟩
  have E3 := Lib.hid (err_any gi (hd2 b).1 _ w3 h1)
  have HR3 := Lib.hid (h2.blk HR2.out (show ¬ w.heap.size = gi by omega))
  have HB3 := Lib.hid (HB2.out.trans (h2.below (B := w.heap.size) HB2.out.size (fun k hk e => by have : k = gi := e; omega)))
  clear h1 h2 G2 HR2 HB2
  have q1 : (FI.upto ⟨bI (b.take 3), 0⟩ 1 18446744073709551615).2 = (hd1 b).2 := rfl
  have q2 : (FI.upto (hd1 b).1 2 18446744073709551615).2 = (hd2 b).2 := rfl
  rw [q1, q2]
  clear q1 q2
  obtain ⟨k1, hk1⟩ : ∃ k1, k1 = (hd1 b).2 := ⟨_, rfl⟩
  obtain ⟨k2, hk2⟩ : ∃ k2, k2 = (hd2 b).2 := ⟨_, rfl⟩
  obtain ⟨ee, hee⟩ : ∃ ee, ee = (hd2 b).1.e := ⟨_, rfl⟩
  rw [← hk1, ← hk2]
  rw [← hee] at E3
  have HK1 := Lib.hid hk1
  have HK2 := Lib.hid hk2
  have HEE := Lib.hid hee
  clear hk1 hk2 hee
  have hk2b : k2 < 65536 := by rw [HK2.out]; exact hd2_lt b HBS.out
  go_wp2_with (fail)
  refine E3.out.mono ?_
  rintro e w4 ⟨rfl, rfl⟩
  have c0 : w3.cell? ⟨w.heap.size, 0, none⟩ = some (.int .u8 0) := HR3.out.cell 0
  have c1 : w3.cell? ⟨w.heap.size, 1, none⟩ = some (.slice none 0 0) := HR3.out.cell 1
  have f0 := HR3.out.frozen 0
  have f1 := HR3.out.frozen 1
  rcases cut_cases b n LN.out with ⟨h3, hE⟩ | ⟨h3, h0, hE⟩ | ⟨h3, h0, hb1, hE⟩ | ⟨h3, h0, hb1, hb2, hE⟩ | ⟨h3, h0, hb1, hb2, hE⟩
  · have he : (ee != 0) = true := by rw [HEE.out]; simpa using hd_short b HBS.out (by have := LN.out; omega)
    have ZZ := Lib.hid (cut_zero b (by rw [hE]; decide))
    have HE := Lib.hid hE
    clear hE
    go_wp2_with (fail)
    refine bodyPost_ret (v := .tuple #[.agg #[.int .u8 0, .slice none 0 0], .int .i64 0, .int .i64 3]) (by simp [results, Try.results36, go_sem, *]) rfl ⟨.slice none 0 0, by rw [HE.out, ZZ.out.1, ZZ.out.2.2]; rfl, by rw [ZZ.out.2.1]; exact World.ownsRow_nil _ _ _ _, ?_, ?_⟩
    · exact ⟨d, (HT.out.below HB3.out hgl).below (((Below.refl w.heap.size w3).setCell (Nat.le_refl _) _).setCell (Nat.le_refl _) _) hgl⟩
    · exact Chg.of_below ((HB3.out.setCell (Nat.le_refl _) _).setCell (Nat.le_refl _) _) _
  · have ZZ := Lib.hid (cut_zero b (by rw [hE]; decide))
    have HE := Lib.hid hE
    have hok := hd_ok b HBS.out (by have := LN.out; omega)
    have he : (ee != 0) = false := by rw [HEE.out, hok.2.2]; rfl
    obtain rfl : k1 = 0 := by rw [HK1.out, hok.1, h0]
    clear hE hok h0
    go_wp2_with (fail)
    refine bodyPost_ret (v := .tuple #[.agg #[.int .u8 0, .slice none 0 0], .int .i64 0, .int .i64 4]) (by simp [results, Try.results36, go_sem, *]) rfl ⟨.slice none 0 0, by rw [HE.out, ZZ.out.1, ZZ.out.2.2]; rfl, by rw [ZZ.out.2.1]; exact World.ownsRow_nil _ _ _ _, ?_, ?_⟩
    · exact ⟨d, (HT.out.below HB3.out hgl).below (((Below.refl w.heap.size w3).setCell (Nat.le_refl _) _).setCell (Nat.le_refl _) _) hgl⟩
    · exact Chg.of_below ((HB3.out.setCell (Nat.le_refl _) _).setCell (Nat.le_refl _) _) _
  · have ZZ := Lib.hid (cut_zero b (by rw [hE]; decide))
    have HE := Lib.hid hE
    have hok := hd_ok b HBS.out (by have := LN.out; omega)
    have he : (ee != 0) = false := by rw [HEE.out, hok.2.2]; rfl
    have hk1 : ((k1 : Int) == 0) = false := by simp; rw [HK1.out, hok.1]; omega
    have hk2 : ((16384 : Int) < k2) := by have := hok.2.1; have := HK2.out; omega
    clear hE hok h0 hb1
    go_wp2_with (fail)
    refine bodyPost_ret (v := .tuple #[.agg #[.int .u8 0, .slice none 0 0], .int .i64 0, .int .i64 6]) (by simp [results, Try.results36, go_sem, *]) rfl ⟨.slice none 0 0, by rw [HE.out, ZZ.out.1, ZZ.out.2.2]; rfl, by rw [ZZ.out.2.1]; exact World.ownsRow_nil _ _ _ _, ?_, ?_⟩
    · exact ⟨d, (HT.out.below HB3.out hgl).below (((Below.refl w.heap.size w3).setCell (Nat.le_refl _) _).setCell (Nat.le_refl _) _) hgl⟩
    · exact Chg.of_below ((HB3.out.setCell (Nat.le_refl _) _).setCell (Nat.le_refl _) _) _
  · have ZZ := Lib.hid (cut_zero b (by rw [hE]; decide))
    have HE := Lib.hid hE
    have hok := hd_ok b HBS.out (by have := LN.out; omega)
    have he : (ee != 0) = false := by rw [HEE.out, hok.2.2]; rfl
    have hk1 : ((k1 : Int) == 0) = false := by simp; rw [HK1.out, hok.1]; omega
    have hk2 : ((k2 : Int) ≤ 16384) := by have := hok.2.1; have := HK2.out; omega
    have hk3 : ((n : Int) < 3 + k2 + 4) := by have := hok.2.1; have := HK2.out; omega
    clear hE hok h0 hb1 hb2
    go_wp2_with (fail)
    refine bodyPost_ret (v := .tuple #[.agg #[.int .u8 0, .slice none 0 0], .int .i64 0, .int .i64 3]) (by simp [results, Try.results36, go_sem, *]) rfl ⟨.slice none 0 0, by rw [HE.out, ZZ.out.1, ZZ.out.2.2]; rfl, by rw [ZZ.out.2.1]; exact World.ownsRow_nil _ _ _ _, ?_, ?_⟩
    · exact ⟨d, (HT.out.below HB3.out hgl).below (((Below.refl w.heap.size w3).setCell (Nat.le_refl _) _).setCell (Nat.le_refl _) _) hgl⟩
    · exact Chg.of_below ((HB3.out.setCell (Nat.le_refl _) _).setCell (Nat.le_refl _) _) _
  · have HE := Lib.hid hE
    have H0 := Lib.hid h0
    have hok := hd_ok b HBS.out (by have := LN.out; omega)
    have he : (ee != 0) = false := by rw [HEE.out, hok.2.2]; rfl
    have hk1 : ((k1 : Int) == 0) = false := by simp; rw [HK1.out, hok.1]; omega
    have hk2 : ((k2 : Int) ≤ 16384) := by have := hok.2.1; have := HK2.out; omega
    have HK : Hid (k1 = b.getD 0 0 ∧ k2 = frN b) := Lib.hid ⟨by rw [HK1.out, hok.1], by rw [HK2.out, hok.2.1]⟩
    obtain ⟨sz, hsz⟩ : ∃ sz : Nat, 3 + (k2 : Int) + 4 = (sz : Int) := ⟨k2 + 7, by omega⟩
    have hsn : sz ≤ n := by have := HK.out.2; omega
    have hk4 : decide ((n : Int) < (sz : Int)) = false := by simp; omega
    have d0 : w3.cell? ⟨c, 0, none⟩ = some (.pointer (some ⟨g, 0, none⟩)) := (HC.out.below HB3.out hcl).cell 0
    have hr3 := HR.out.below (HB3.out.mono hB)
    have hr4 := hr3.take (k := sz) hsn
    rw [bI_take_map] at hr4
    have hsz2 : sz = k2 + 7 := by omega
    have C := Lib.hid (crcFits_any g d A sz sz B (b.take sz) (isBs_take HBS.out sz) w3 (HT.out.below HB3.out hgl) hr4 (Nat.le_trans hB HB3.out.size) (fun ad h0 he => HAA.out ad (by omega) he) (by omega) (Nat.le_refl _) (by omega))
    have HFT : Hid (fitsL (b.take sz) = fitsL (b.take (frN b + 7))) := Lib.hid (by rw [hsz2, HK.out.2])
    rw [HFT.out] at C
    have hA1 : ∃ b0 o, A = some ⟨b0, o, none⟩ := by
      obtain ⟨ad, hA, _, hc⟩ := HR.out.2 (by omega)
      obtain ⟨b0, o, spot⟩ := ad
      have h00 : ((bI b).map (Value.int .u8))[0]? = some (((bI b).map (Value.int .u8))[0]'(by simp [bI]; have := LN.out; omega)) := List.getElem?_eq_getElem _
      have := World.cell?_spot (hc 0 _ h00)
      exact ⟨b0, o, by rw [hA]; congr 1; simpa [Addr.add] using this⟩
    obtain ⟨b0, o, rfl⟩ := hA1
    have hr5 := (hr4.cut (k := 3) (cap := sz) (by omega) (Nat.le_refl _)).take (k := k2) (by omega)
    rw [Nat.mul_one, bI_drop_map, bI_take_map, if_neg (by omega)] at hr5
    have HR5 : Hid (Reads w3 B 1 (some ⟨b0, o + 3, none⟩) k2 ((bI ((b.drop 3).take k2)).map (Value.int .u8))) := Lib.hid (by
      have e : ((b.take sz).drop 3).take k2 = (b.drop 3).take k2 := by
        rw [List.drop_take, List.take_take, Nat.min_eq_left (by omega)]
      rw [e] at hr5
      exact hr5)
    have HNE := Lib.hid (HAA.out ⟨b0, o, none⟩ (by omega) rfl)
    generalize hfb : fitsL (b.take (frN b + 7)) = fb at *
    have hw : IntKind.u8.wrap (k1 : Int) = k1 := by
      have := HBS.out (b.getD 0 0) (by rw [List.getD_eq_getElem?_getD, List.getElem?_eq_getElem (show 0 < b.length by have := LN.out; omega)]; exact List.getElem_mem _)
      have := HK.out.1
      rw [IntKind.wrap_u8']; omega
    have hk256 : k1 < 256 := by
      have := HBS.out (b.getD 0 0) (by rw [List.getD_eq_getElem?_getD, List.getElem?_eq_getElem (show 0 < b.length by have := LN.out; omega)]; exact List.getElem_mem _)
      have := HK.out.1
      omega
    have HSZ := Lib.hid hsz2
    clear hE hok h0 hb1 hb2 hr3 hr4 hr5 hfb hsz2
    cases fb
    · have ZZ := Lib.hid (cut_zero b (by rw [HE.out]; decide))
      go_wp2_with (fail)
      with_reducible refine C.out.mono ?_
      rintro e w4 ⟨rfl, h1, h2⟩
      have H1 := Lib.hid h1
      have H2 := Lib.hid h2
      have c0' : w4.cell? ⟨w.heap.size, 0, none⟩ = some (.int .u8 0) := (h2.blk HR3.out (by omega)).cell 0
      have c1' : w4.cell? ⟨w.heap.size, 1, none⟩ = some (.slice none 0 0) := (h2.blk HR3.out (by omega)).cell 1
      have f0' := (h2.blk HR3.out (by omega)).frozen 0
      have f1' := (h2.blk HR3.out (by omega)).frozen 1
      have hs4 := h2.size
      clear h1 h2 C c0 c1 f0 f1 d0
      go_wp2_with (fail)
      refine bodyPost_ret (v := .tuple #[.agg #[.int .u8 0, .slice none 0 0], .int .i64 0, .int .i64 5]) (by simp [results, Try.results36, go_sem, *]) rfl ⟨.slice none 0 0, by rw [HE.out, ZZ.out.1, ZZ.out.2.2]; rfl, by rw [ZZ.out.2.1]; exact World.ownsRow_nil _ _ _ _, ?_, ?_⟩
      · exact ⟨true, H1.out.below (((Below.refl w.heap.size w4).setCell (Nat.le_refl _) _).setCell (Nat.le_refl _) _) hgl⟩
      · exact Chg.setNew (Chg.setNew ((Chg.of_below HB3.out (fun k => k = g)).trans H2.out (fun _ _ h => h)) (Nat.le_refl _) _) (Nat.le_refl _) _
    · have CC := Lib.hid (cut_some b (by rw [HE.out]; rfl))
      go_wp2_with (fail)
      with_reducible refine C.out.mono ?_
      rintro e w4 ⟨rfl, h1, h2⟩
      have H1 := Lib.hid h1
      have H2 := Lib.hid h2
      have HR6 := Lib.hid (h2.reads HR5.out (Nat.le_trans hB HB3.out.size) (fun ad h0 he => by injection he with he; subst he; exact HNE.out))
      have HR4 := Lib.hid (h2.blk HR3.out (by omega))
      have hs4 := h2.size
      have hs3 := HB3.out.size
      have hlt4 := HR4.out.lt
      have hw3 : wrap64 ((3 : Int) + k2) = 3 + k2 := by unfold wrap64; omega
      clear h1 h2 C c0 c1 f0 f1 d0 hw3
      go_wp2_with (fail)
      have D := Lib.hid (bytesClone_any (some ⟨b0, o + 3, none⟩) k2 (sz - 3) B (bI ((b.drop 3).take k2)) w4 (by omega) HR6.out (by omega))
      with_reducible refine D.out.mono ?_
      rintro e w5 ⟨v, rfl, h1, h2⟩
      obtain ⟨A5, c5, rfl, _, _, _⟩ := own_slice h1
      have H5 := Lib.hid h1
      have HB5 := Lib.hid h2
      have r5 := HR4.out.below h2 hlt4
      have c0' : w5.cell? ⟨w.heap.size, 0, none⟩ = some (.int .u8 0) := r5.cell 0
      have c1' : w5.cell? ⟨w.heap.size, 1, none⟩ = some (.slice none 0 0) := r5.cell 1
      have f0' := r5.frozen 0
      have f1' := r5.frozen 1
      clear h1 h2 D r5
      go_wp2_with (fail)
      refine bodyPost_ret (v := .tuple #[.agg #[.int .u8 k1, .slice A5 k2 c5], .int .i64 sz, .int .i64 0]) (by simp [results, Try.results36, go_sem, *]) rfl ⟨.slice A5 k2 c5, ?_, ?_, ?_, ?_⟩
      · rw [HE.out, CC.out.1, CC.out.2.2, ← HK.out.1, ← HK.out.2, HSZ.out]; rfl
      · have hlen : ((b.drop 3).take k2).length = k2 := by rw [List.length_take, List.length_drop]; have := LN.out; have := HSZ.out; omega
        rw [CC.out.2.1, ← HK.out.2, hlen]
        exact Go.Joins.ownsRow_le (ownsRow_setCell_below (ownsRow_setCell_below H5.out hlt4 _) hlt4 _) (by omega)
      · exact ⟨true, ((H1.out.below HB5.out (by omega)).below (((Below.refl w.heap.size w5).setCell (Nat.le_refl _) _).setCell (Nat.le_refl _) _) hgl)⟩
      · exact Chg.setNew (Chg.setNew (((Chg.of_below HB3.out (fun k => k = g)).trans H2.out (fun _ _ h => h)).trans (Chg.of_below HB5.out (fun k => k = g)) (fun _ _ h => h)) (Nat.le_refl _) _) (Nat.le_refl _) _
end Go.Proofs.Ytoifaeabieojbaa
