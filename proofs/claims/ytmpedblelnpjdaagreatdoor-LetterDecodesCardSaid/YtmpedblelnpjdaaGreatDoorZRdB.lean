/- Raw, Read, GetUpdate of the document's reader, with the capacities told (printed by rdgen.py). -/
import Derived.Test.YtmpedblelnpjdaaGreatDoorZGJ
import Derived.Test.YtmpedblelnpjdaaGreatDoorZTq
import Derived.Test.YtmpedblelnpjdaaGreatDoorZGE
namespace Go.Proofs.YtmpedblelnpjdaaGreatDoor
open Go.RowKit
set_option linter.unusedSimpArgs false
set_option linter.unusedVariables false
set_option maxHeartbeats 8000000
set_option maxRecDepth 100000
attribute [local go_sem] RI.agg RI.cells RI.nil
def RPostC (B : Nat) (w : World) (r : FI × List Int) (e : Ending) (w' : World) : Prop :=
 ∃ (y : RI) (A2 : Option Addr) (c2 : Nat), e = .returned (.tuple #[y.agg, .slice A2 r.2.length c2]) ∧ y.s = r.1 ∧ RIn w' B y ∧ Reads w' B 1 A2 r.2.length (r.2.map (Value.int .u8)) ∧ (r.2.length ≤ c2 ∧ c2 ≤ maxLen) ∧ Below w.heap.size w w'
theorem refRawC_any (x : RI) (n : Int) (B : Nat) (w : World) (hx : RIn w B x) (hB : B ≤ w.heap.size) :
  Calls Tryz.prog 224 #[x.agg, .int .i64 n] w (RPostC B w (x.s.raw n)) := by
 have HX := Lib.hid hx
 have hm := hx.hm
 have hc := hx.hc
 unfold maxLen at hm
 clear hx
 by_cases he : x.s.e = 0
 rotate_left
 ·have he' : (x.s.e != 0) = true := by simp [he]
  have hR : Hid (x.s.raw n = (x.s, [])) := Lib.hid (by
   by_cases h0 : n < 0
   ·rw [FI.raw, if_pos h0, fail_same he HX.out.inv]
   ·rw [FI.raw, if_neg h0, FI.next, if_pos he])
  rw [hR.out]
  clear he
  go_enter Tryz.func224, Tryz.ntmps224
  go_wp2
  refine bodyPost_ret (v := .tuple #[x.agg, .slice none 0 0]) (by simp [results, Tryz.results224, go_sem]) rfl ⟨x, none, 0, rfl, rfl, ?_, Reads.none_, ⟨Nat.le_refl _, Nat.zero_le _⟩, ?_⟩
  ·exact rp53
  ·exact rp4
 have he' : (x.s.e != 0) = false := by simp [he]
 have HE := Lib.hid he
 clear he
 by_cases h0 : n < 0
 ·have hR : Hid (x.s.raw n = (x.s.fail 1, [])) := Lib.hid (by rw [FI.raw, if_pos h0])
  rw [hR.out]
  go_enter Tryz.func224, Tryz.ntmps224
  go_wp2_with (fail)
  refine (refFail_any x 1 (by decide) B _ (by repeat (first | with_reducible exact HX.out | with_reducible refine RIn.alloc ?_ (by first | omega | (simp; omega)) _ | with_reducible refine RIn.drewN ?_ _ | with_reducible refine RIn.drew ?_)) (by simp; omega)).mono ?_
  exact rp72
 obtain ⟨k, rfl⟩ := Int.eq_ofNat_of_zero_le (show 0 ≤ n by omega)
 have hRk : x.s.raw k = ((x.s.next k).1, (x.s.next k).2.1) := by rw [FI.raw, if_neg h0, Int.toNat_natCast]
 rw [hRk]
 clear h0 hRk
 by_cases hl : x.s.l.length < k
 ·have hl' : (x.s.l.length : Int) < k := by omega
  have hN : Hid (x.s.next k = (x.s.fail 3, [], false)) := Lib.hid (by rw [FI.next, if_neg (by simp [HE.out]), if_pos hl])
  rw [hN.out]
  have hk0 : ¬ (k : Int) < 0 := by omega
  go_enter Tryz.func224, Tryz.ntmps224
  go_wp2_with (fail)
  refine (refFail_any x 3 (by decide) B _ (by repeat (first | with_reducible exact HX.out | with_reducible refine RIn.alloc ?_ (by first | omega | (simp; omega)) _ | with_reducible refine RIn.drewN ?_ _ | with_reducible refine RIn.drew ?_)) (by simp; omega)).mono ?_
  exact rp72
 ·have hl' : (k : Int) ≤ x.s.l.length := by omega
  have hN : Hid (x.s.next k = (⟨x.s.l.drop k, 0⟩, x.s.l.take k, true)) := Lib.hid (by rw [FI.next, if_neg (by simp [HE.out]), if_neg hl])
  rw [hN.out]
  have hk0 : ¬ (k : Int) < 0 := by omega
  have hk1 : (0 : Int) ≤ k := by omega
  have hkc : (k : Int) ≤ x.cap := by omega
  have hlc : (x.s.l.length : Int) ≤ x.cap := by omega
  have HL := Lib.hid hl
  clear hl
  go_enter Tryz.func224, Tryz.ntmps224
  go_wp2_with (fail)
  go_region
  all_goals (try go_wp2)
  ·have hck : x.cap = k := by assumption
   have hlk : x.s.l.length = k := by omega
   refine bodyPost_ret (v := .tuple #[.agg #[.slice x.A (x.s.l.length - k) 0, .int .i64 0], .slice x.A k k]) (by simp [results, Tryz.results224, go_sem]) rfl ?_
   refine ⟨⟨x.A, 0, ⟨x.s.l.drop k, 0⟩⟩, x.A, k, ?_, rfl, ?_, ?_, ⟨by show (x.s.l.take k).length ≤ k; rw [List.length_take]; omega, by unfold maxLen; omega⟩, ?_⟩
   ·show _ = Ending.returned (.tuple #[.agg #[.slice x.A (x.s.l.drop k).length 0, .int .i64 0], .slice x.A (x.s.l.take k).length k])
    rw [List.length_drop, List.length_take, Nat.min_eq_left (by omega)]
   ·have := HX.out.drop (k := k) (by omega)
    rw [if_pos hck, hck, Nat.sub_self] at this
    exact ((this.alloc hB _).alloc (by simp; omega) _).drew
   ·exact rp43
   ·exact rp4
  ·have hck : ¬ x.cap = k := by assumption
   refine bodyPost_ret (v := .tuple #[.agg #[.slice (x.A.map (·.add k)) (x.s.l.length - k) (x.cap - k), .int .i64 0], .slice x.A k x.cap]) (by simp [results, Tryz.results224, go_sem]) rfl ?_
   refine ⟨⟨x.A.map (·.add k), x.cap - k, ⟨x.s.l.drop k, 0⟩⟩, x.A, x.cap, ?_, rfl, ?_, ?_, ⟨by show (x.s.l.take k).length ≤ x.cap; rw [List.length_take]; omega, by unfold maxLen; omega⟩, ?_⟩
   ·show _ = Ending.returned (.tuple #[.agg #[.slice _ (x.s.l.drop k).length _, .int .i64 0], .slice x.A (x.s.l.take k).length _])
    rw [List.length_drop, List.length_take, Nat.min_eq_left (by omega)]
   ·have := HX.out.drop (k := k) (by omega)
    rw [if_neg hck] at this
    exact ((this.alloc hB _).alloc (by simp; omega) _).drew
   ·exact rp43
   ·exact rp4
theorem refReadC_any (x : RI) (most : Int) (B : Nat) (w : World) (hx : RIn w B x) (hB : B ≤ w.heap.size) :
  Calls Tryz.prog 126 #[x.agg, .int .i64 most] w (RPostC B w (x.s.text most)) := by
 have HX := Lib.hid hx
 have R := fun w => refGet_any x 2 B w
 have hT := text_upto x.s most hx.by_
 have hlt := upto2_lt x.s hx.by_
 rw [hT]
 clear hx hT
 generalize x.s.upto 2 18446744073709551615 = r at *
 obtain ⟨s', q⟩ := r
 have hq : q < 65536 := hlt
 have hw : IntKind.i64.wrap (q : Int) = q := by rw [IntKind.wrap_i64]; omega
 clear hlt
 by_cases he : s'.e = 0
 ·simp only [he, ne_eq, not_true_eq_false, if_false]
  by_cases hm : most < q
  ·rw [if_pos hm]
   go_enter Tryz.func126, Tryz.ntmps126
   go_wp2_with (fail)
   refine (R _ (by repeat (first | with_reducible exact HX.out | with_reducible refine RIn.alloc ?_ (by first | omega | (simp; omega)) _ | with_reducible refine RIn.drewN ?_ _ | with_reducible refine RIn.drew ?_)) (by simp; omega)).mono ?_
   rintro e w1 ⟨y, rfl, hy, h1, h2⟩
   have HY1 := Lib.hid h1
   have hye : (y.s.e != 0) = false := by rw [hy]; simp [he]
   have HYS := Lib.hid hy
   have hrs := (blk_at (w.alloc (.cells x.cells 130)) 130 (RI.nil 0).cells (w.heap.size + 1) (by simp)).below h2 (by simp); obtain ⟨r0, r1⟩ := ri_cells hrs; have f0 := hrs.frozen 0; have f1 := hrs.frozen 1; have q6 := hrs.lt; have HRS := Lib.hid hrs; dsimp only [RI.nil] at r0 r1; have HB1 := Lib.hid (box2_below h2); have hBw := Nat.le_trans hB HB1.out.size; clear h2 hrs
   clear hy h1
   go_wp2_with (fail)
   refine (refFail_any y 6 (by decide) B _ (by repeat (first | with_reducible exact HY1.out | with_reducible refine RIn.alloc ?_ (by first | omega | (simp; omega)) _ | with_reducible refine RIn.setC ?_ (by first | omega | (simp <;> omega)) _ | with_reducible refine RIn.drewN ?_ _ | with_reducible refine RIn.drew ?_)) (by simp; omega)).mono ?_
   rintro e w2 ⟨z, rfl, hz, h1, h2⟩
   have HZ := Lib.hid hz
   have HZ1 := Lib.hid h1
   have hrs2 := HRS.out.below (show Below w1.heap.size w1 w2 from ((Below.refl _ _).alloc (Nat.le_refl _) _).trans (h2.mono (by simp))) HRS.out.lt; have HB2 := Lib.hid (HB1.out.trans ((show Below w1.heap.size w1 w2 from ((Below.refl _ _).alloc (Nat.le_refl _) _).trans (h2.mono (by simp))).mono HB1.out.size)); clear r0 r1 f0 f1 q6 h2 HB1; obtain ⟨r0, r1⟩ := ri_cells hrs2; have f0 := hrs2.frozen 0; have f1 := hrs2.frozen 1; have q6 := hrs2.lt; dsimp only [RI.nil] at r0 r1; have HB1 := HB2
   clear hz h1
   go_wp2
   refine bodyPost_ret (v := .tuple #[z.agg, .slice none 0 0]) (by simp [results, Tryz.results126, go_sem, r0, r1, q6]) rfl ⟨z, none, 0, rfl, HZ.out.trans (by rw [HYS.out]), ?_, Reads.none_, ⟨Nat.le_refl _, Nat.zero_le _⟩, ?_⟩
   ·exact (HZ1.out.set2 (by omega) _ _)
   ·exact rp4
  ·rw [if_neg hm]
   have hm' : (q : Int) ≤ most := by omega
   go_enter Tryz.func126, Tryz.ntmps126
   go_wp2_with (fail)
   refine (R _ (by repeat (first | with_reducible exact HX.out | with_reducible refine RIn.alloc ?_ (by first | omega | (simp; omega)) _ | with_reducible refine RIn.drewN ?_ _ | with_reducible refine RIn.drew ?_)) (by simp; omega)).mono ?_
   rintro e w1 ⟨y, rfl, hy, h1, h2⟩
   have HY1 := Lib.hid h1
   have hye : (y.s.e != 0) = false := by rw [hy]; simp [he]
   have HYS := Lib.hid hy
   have RR := fun w => refRawC_any y q B w
   rw [hy] at RR
   have hrs := (blk_at (w.alloc (.cells x.cells 130)) 130 (RI.nil 0).cells (w.heap.size + 1) (by simp)).below h2 (by simp); obtain ⟨r0, r1⟩ := ri_cells hrs; have f0 := hrs.frozen 0; have f1 := hrs.frozen 1; have q6 := hrs.lt; have HRS := Lib.hid hrs; dsimp only [RI.nil] at r0 r1; have HB1 := Lib.hid (box2_below h2); have hBw := Nat.le_trans hB HB1.out.size; clear h2 hrs
   clear hy h1
   go_wp2_with (fail)
   refine (RR _ (by repeat (first | with_reducible exact HY1.out | with_reducible refine RIn.alloc ?_ (by first | omega | (simp; omega)) _ | with_reducible refine RIn.setC ?_ (by first | omega | (simp <;> omega)) _ | with_reducible refine RIn.drewN ?_ _ | with_reducible refine RIn.drew ?_)) (by simp; omega)).mono ?_
   rintro e w2 ⟨z, A2, c2, rfl, hz, h1, h3, h4, h2⟩
   have HCP := Lib.hid h4
   have HZ := Lib.hid hz
   have HZ1 := Lib.hid h1
   have HD := Lib.hid h3
   have hrs2 := HRS.out.below (show Below w1.heap.size w1 w2 from ((Below.refl _ _).alloc (Nat.le_refl _) _).trans (h2.mono (by simp))) HRS.out.lt; have HB2 := Lib.hid (HB1.out.trans ((show Below w1.heap.size w1 w2 from ((Below.refl _ _).alloc (Nat.le_refl _) _).trans (h2.mono (by simp))).mono HB1.out.size)); clear r0 r1 f0 f1 q6 h2 HB1; obtain ⟨r0, r1⟩ := ri_cells hrs2; have f0 := hrs2.frozen 0; have f1 := hrs2.frozen 1; have q6 := hrs2.lt; dsimp only [RI.nil] at r0 r1; have HB1 := HB2
   clear hz h1 h3 h4
   go_wp2
   refine bodyPost_ret (v := .tuple #[z.agg, .slice A2 (s'.raw q).2.length c2]) (by simp [results, Tryz.results126, go_sem, r0, r1, q6]) rfl ⟨z, A2, c2, rfl, HZ.out, ?_, ?_, HCP.out, ?_⟩
   ·exact (HZ1.out.set2 (by omega) _ _)
   ·exact (HD.out.setCell (p := ⟨_, 0, none⟩) (show B ≤ w.heap.size + 1 by omega) _).setCell (p := ⟨_, 1, none⟩) (show B ≤ w.heap.size + 1 by omega) _
   ·exact rp4
 ·rw [if_pos he]
  go_enter Tryz.func126, Tryz.ntmps126
  go_wp2_with (fail)
  refine (R _ (by repeat (first | with_reducible exact HX.out | with_reducible refine RIn.alloc ?_ (by first | omega | (simp; omega)) _ | with_reducible refine RIn.drewN ?_ _ | with_reducible refine RIn.drew ?_)) (by simp; omega)).mono ?_
  rintro e w1 ⟨y, rfl, hy, h1, h2⟩
  have HY1 := Lib.hid h1
  have hye : (y.s.e != 0) = true := by rw [hy]; simp [he]
  have HYS := Lib.hid hy
  have hrs := (blk_at (w.alloc (.cells x.cells 130)) 130 (RI.nil 0).cells (w.heap.size + 1) (by simp)).below h2 (by simp); obtain ⟨r0, r1⟩ := ri_cells hrs; have f0 := hrs.frozen 0; have f1 := hrs.frozen 1; have q6 := hrs.lt; have HRS := Lib.hid hrs; dsimp only [RI.nil] at r0 r1; have HB1 := Lib.hid (box2_below h2); have hBw := Nat.le_trans hB HB1.out.size; clear h2 hrs
  clear hy h1
  go_wp2
  refine bodyPost_ret (v := .tuple #[y.agg, .slice none 0 0]) (by simp [results, Tryz.results126, go_sem, r0, r1, q6]) rfl ⟨y, none, 0, rfl, HYS.out, ?_, Reads.none_, ⟨Nat.le_refl _, Nat.zero_le _⟩, ?_⟩
  ·exact rp30
  ·exact rp4
theorem refCutC_any (A : Option Addr) (n cp B : Nat) (b : List Nat) (w : World) (hr : Reads w B 1 A n ((bI b).map (Value.int .u8))) (hb : isBs b) (hB : B ≤ w.heap.size) (hn : n ≤ 900000000) (hnc : n ≤ cp) (hc : cp ≤ 9223372036854775807) :
  Calls Tryz.prog 120 #[.slice A n cp] w fun e w' => ∃ A' c', e = .returned (.tuple #[.agg #[.int .u8 (cutK b), .slice A' (cutB b).length c'], .int .i64 (cutL b), .int .i64 (cutE b)]) ∧
   Reads w' B 1 A' (cutB b).length ((bI (cutB b)).map (Value.int .u8)) ∧ ((cutB b).length ≤ c' ∧ c' ≤ maxLen) ∧ Below w.heap.size w w' := by
 have HR := Lib.hid hr
 have HBS := Lib.hid hb
 have LN := Lib.hid (reads_len hr)
 have hb0 : Below w.heap.size w (w.alloc (.cells #[.int .u8 0, .slice none 0 0] 126)) := (Below.refl _ _).alloc (Nat.le_refl _) _
 have HB0 := Lib.hid hb0
 clear hb0
 rcases cut_cases b n LN.out with ⟨h3, hE⟩ | ⟨h3, h0, hE⟩ | ⟨h3, h0, hb1, hE⟩ | ⟨h3, h0, hb1, hb2, hE⟩ | ⟨h3, h0, hb1, hb2, hE⟩
 ·have ZZ := Lib.hid (cut_zero b (by rw [hE]; decide))
  have HE := Lib.hid hE
  have h3' : (n : Int) < 3 := by omega
  clear hE hr hb h3
  go_enter Tryz.func120, Tryz.ntmps120
  exact rp55
 all_goals
  obtain ⟨b0, o, rfl, hbB⟩ := plain_addr hr (by omega)
  obtain ⟨k1, hk1⟩ : ∃ k1, k1 = b.getD 0 0 := ⟨_, rfl⟩
  have hget : b[0]? = some k1 := by
   rw [hk1, List.getD_eq_getElem?_getD, List.getElem?_eq_getElem (show 0 < b.length by have := LN.out; omega)]; rfl
  have hk256 : k1 < 256 := isBs_get hb hget
  have d0 : (w.alloc (.cells #[.int .u8 0, .slice none 0 0] 126)).cell? ⟨b0, o, none⟩ = some (.int .u8 (k1 : Int)) := by
   obtain ⟨ad, z, hA, _, hz, hc0⟩ := reads_nat (hr.alloc hB (.cells #[.int .u8 0, .slice none 0 0] 126)) (k := 0) (by omega)
   cases hA
   rw [hget] at hz
   cases hz
   simpa [Addr.add] using hc0
  have HK1 := Lib.hid hk1
  rw [← hk1] at h0
  have h13 := ((hr.cut (k := 1) (cap := cp) (by omega) hnc).take (k := 2) (by omega))
  rw [Nat.mul_one, bI_drop_map, bI_take_map, if_neg (by omega)] at h13
  have N13 := Lib.hid (fun W h => refNumF_any (some ⟨b0, o + 1, none⟩) 2 (cp - 1) B ((b.drop 1).take 2) W h (isBs_take (isBs_drop hb 1) 2) (by omega))
  have H13 : Hid (Reads (w.alloc (.cells #[.int .u8 0, .slice none 0 0] 126)) B 1 (some ⟨b0, o + 1, none⟩) 2 ((bI ((b.drop 1).take 2)).map (Value.int .u8))) := Lib.hid (Reads.alloc h13 hB _)
  have hfr := frN_lt b hb
  have N14 : Hid (Calls Tryz.prog 222 #[.slice (some ⟨b0, o + 1, none⟩) 2 (cp - 1)] (w.alloc (.cells #[.int .u8 0, .slice none 0 0] 126)) fun e w' => e = .returned (.int .u64 ((frN b : Nat) : Int)) ∧ (w.alloc (.cells #[.int .u8 0, .slice none 0 0] 126)) = w') := Lib.hid (N13.out _ H13.out)
  obtain ⟨k2, hk2⟩ : ∃ k2, k2 = frN b := ⟨_, rfl⟩
  rw [← hk2] at N14 hfr
  have HK2 := Lib.hid hk2
  have hn3 : (3 : Int) ≤ n := by omega
  have hn0 : (0 : Int) < n := by omega
  have hn00 : 0 < n := by omega
  have hcp3 : (3 : Int) ≤ cp := by omega
  clear h13 N13 H13 hk1 hget
 ·have ZZ := Lib.hid (cut_zero b (by rw [hE]; decide))
  have HE := Lib.hid hE
  subst h0
  clear hE hr hb hk2
  go_enter Tryz.func120, Tryz.ntmps120
  go_wp2_with (fail)
  refine bodyPost_ret (v := .tuple #[.agg #[.int .u8 0, .slice none 0 0], .int .i64 0, .int .i64 4]) (by simp [results, Tryz.results120, go_sem, *]) rfl ⟨none, 0, by rw [HE.out, ZZ.out.1, ZZ.out.2.1, ZZ.out.2.2]; rfl, by rw [ZZ.out.2.1]; exact Reads.none_, by rw [ZZ.out.2.1]; exact ⟨Nat.le_refl _, Nat.zero_le _⟩, ?_⟩
  exact HB0.out
 ·have ZZ := Lib.hid (cut_zero b (by rw [hE]; decide))
  have HE := Lib.hid hE
  have hk : ((k1 : Int) == 0) = false := by simp; omega
  have hk16 : (16384 : Int) < k2 := by omega
  clear hE hr hb hk2 h0 hb1
  go_enter Tryz.func120, Tryz.ntmps120
  go_wp2_with (fail)
  refine N14.out.mono ?_
  rintro e w1 ⟨rfl, rfl⟩
  go_wp2_with (fail)
  refine bodyPost_ret (v := .tuple #[.agg #[.int .u8 0, .slice none 0 0], .int .i64 0, .int .i64 6]) (by simp [results, Tryz.results120, go_sem, *]) rfl ⟨none, 0, by rw [HE.out, ZZ.out.1, ZZ.out.2.1, ZZ.out.2.2]; rfl, by rw [ZZ.out.2.1]; exact Reads.none_, by rw [ZZ.out.2.1]; exact ⟨Nat.le_refl _, Nat.zero_le _⟩, ?_⟩
  exact HB0.out
 ·have ZZ := Lib.hid (cut_zero b (by rw [hE]; decide))
  have HE := Lib.hid hE
  have hk : ((k1 : Int) == 0) = false := by simp; omega
  have hk16 : (k2 : Int) ≤ 16384 := by omega
  have hk17 : (n : Int) < k2 + 7 := by omega
  clear hE hr hb hk2 h0 hb1 hb2
  go_enter Tryz.func120, Tryz.ntmps120
  go_wp2_with (fail)
  refine N14.out.mono ?_
  rintro e w1 ⟨rfl, rfl⟩
  exact rp55
 ·have HE := Lib.hid hE
  have hk : ((k1 : Int) == 0) = false := by simp; omega
  have hk16 : (k2 : Int) ≤ 16384 := by omega
  have hk17 : (k2 : Int) + 7 ≤ n := by omega
  have hr4 := hr.take (k := k2 + 7) (by omega)
  rw [bI_take_map] at hr4
  have C := Lib.hid (refFits_any (some ⟨b0, o, none⟩) (k2 + 7) cp B (b.take (k2 + 7)) (isBs_take hb _) _ (Reads.alloc hr4 hB (.cells #[.int .u8 0, .slice none 0 0] 126)) (by simp; omega) (by omega) (by omega) hc)
  rw [hk2] at C
  rw [← hk2] at C
  have hr5 := (hr.cut (k := 3) (cap := cp) (by omega) hnc).take (k := k2) (by omega)
  rw [Nat.mul_one, bI_drop_map, bI_take_map, if_neg (by omega)] at hr5
  have HR5 : Hid (Reads w B 1 (some ⟨b0, o + 3, none⟩) k2 ((bI ((b.drop 3).take k2)).map (Value.int .u8))) := Lib.hid hr5
  have hlen : Hid (((b.drop 3).take k2).length = k2) := Lib.hid (by rw [List.length_take, List.length_drop]; have := LN.out; omega)
  have HE2 : Hid (cutE b = if fitsL (b.take (k2 + 7)) then 0 else 5) := Lib.hid (by rw [hE, hk2])
  generalize hfb : fitsL (b.take (k2 + 7)) = fb at *
  have R0 : Hid (Blk (w.alloc (.cells #[.int .u8 0, .slice none 0 0] 126)) w.heap.size 126 #[.int .u8 0, .slice none 0 0]) := Lib.hid (Blk.new w _ _)
  have D0 := Lib.hid d0
  have hbl : b0 < w.heap.size := by omega
  clear hE hr hb hk2 h0 hb1 hb2 hr4 hr5 hfb
  cases fb
  ·have ZZ := Lib.hid (cut_zero b (by rw [HE2.out]; decide))
   go_enter Tryz.func120, Tryz.ntmps120
   go_wp2_with (fail)
   refine N14.out.mono ?_
   rintro e w1 ⟨rfl, rfl⟩
   go_wp2_with (fail)
   with_reducible refine C.out.mono ?_
   rintro e w1 ⟨rfl, h1⟩
   have r1 := R0.out.below h1 (by simp)
   have c0 : w1.cell? ⟨w.heap.size, 0, none⟩ = some (.int .u8 0) := r1.cell 0
   have c1 : w1.cell? ⟨w.heap.size, 1, none⟩ = some (.slice none 0 0) := r1.cell 1
   have f0 := r1.frozen 0
   have f1 := r1.frozen 1
   have H1 := Lib.hid (HB0.out.trans (h1.mono (by simp)))
   clear h1 r1 C N14 d0
   go_wp2_with (fail)
   refine bodyPost_ret (v := .tuple #[.agg #[.int .u8 0, .slice none 0 0], .int .i64 0, .int .i64 5]) (by simp [results, Tryz.results120, go_sem, *]) rfl ⟨none, 0, by rw [HE2.out, ZZ.out.1, ZZ.out.2.1, ZZ.out.2.2]; rfl, by rw [ZZ.out.2.1]; exact Reads.none_, by rw [ZZ.out.2.1]; exact ⟨Nat.le_refl _, Nat.zero_le _⟩, ?_⟩
   exact (H1.out.setCell (Nat.le_refl _) _).setCell (Nat.le_refl _) _
  ·have CC := Lib.hid (cut_some b (by rw [HE2.out]; rfl))
   go_enter Tryz.func120, Tryz.ntmps120
   go_wp2_with (fail)
   refine N14.out.mono ?_
   rintro e w1 ⟨rfl, rfl⟩
   go_wp2_with (fail)
   with_reducible refine C.out.mono ?_
   rintro e w1 ⟨rfl, h1⟩
   have r1 := R0.out.below h1 (by simp)
   have c0 : w1.cell? ⟨w.heap.size, 0, none⟩ = some (.int .u8 0) := r1.cell 0
   have c1 : w1.cell? ⟨w.heap.size, 1, none⟩ = some (.slice none 0 0) := r1.cell 1
   have f0 := r1.frozen 0
   have f1 := r1.frozen 1
   have e0 : w1.cell? ⟨b0, o, none⟩ = some (.int .u8 k1) := (h1.cell (p := ⟨b0, o, none⟩) (by simp; omega)).trans D0.out
   have H1 := Lib.hid (HB0.out.trans (h1.mono (by simp)))
   have hne1 : b0 ≠ w.heap.size := by omega
   have hne2 : w.heap.size ≠ b0 := by omega
   have hw1 : IntKind.i64.wrap ((k2 : Int) + 3) = k2 + 3 := by rw [IntKind.wrap_i64]; omega
   have hw2 : IntKind.i64.wrap ((k2 : Int) + 7) = k2 + 7 := by rw [IntKind.wrap_i64]; omega
   have hi1 : (0 : Int) ≤ (k2 : Int) + 3 := by omega
   have hi2 : (k2 : Int) + 3 ≤ cp := by omega
   have hi3 : (3 : Int) ≤ (k2 : Int) + 3 := by omega
   clear h1 r1 C N14 d0
   go_wp2_with (fail)
   go_region_held3 (fun w' => w'.cell? ⟨b0, o, none⟩ = some (.int .u8 k1)) (go_keep) (fail)
   have BEL := Lib.hid (((H1.out.setCell (p := ⟨w.heap.size, 0, none⟩) (Nat.le_refl _) (.int .u8 k1)).setCell (p := ⟨w.heap.size, 1, none⟩) (Nat.le_refl _) (.slice (some ⟨b0, o + 3, none⟩) k2 (cp - 3))).drew)
   have hlk : ((k2 : Int) + 3).toNat - 3 = k2 := by omega
   go_wp2_with (fail)
   refine bodyPost_ret (v := .tuple #[.agg #[.int .u8 k1, .slice (some ⟨b0, o + 3, none⟩) k2 (cp - 3)], .int .i64 (k2 + 7), .int .i64 0]) (by simp [results, Tryz.results120, go_sem, *]) rfl ⟨some ⟨b0, o + 3, none⟩, cp - 3, ?_, ?_, ?_, ?_⟩
   ·rw [HE2.out, CC.out.1, CC.out.2.1, CC.out.2.2, ← HK2.out, hlen.out, ← HK1.out]; rfl
   ·rw [CC.out.2.1, ← HK2.out, hlen.out]
    exact HR5.out.below (BEL.out.mono hB)
   ·rw [CC.out.2.1, ← HK2.out, hlen.out]
    exact ⟨by omega, by unfold maxLen; omega⟩
   ·exact BEL.out
theorem refGetFC_any (A : Option Addr) (n cp B : Nat) (b : List Nat) (w : World) (hr : Reads w B 1 A n ((bI b).map (Value.int .u8))) (hb : isBs b) (hB : B ≤ w.heap.size) (hn : n ≤ 900000000) (hnc : n ≤ cp) (hc : cp ≤ 9223372036854775807) :
  Calls Tryz.prog 50 #[.slice A n cp] w fun e w' => ∃ A' c', e = .returned (.tuple #[.agg #[.int .u8 (getK b), .slice A' (getB b).length c'], .int .i64 (getE b)]) ∧
   Reads w' B 1 A' (getB b).length ((bI (getB b)).map (Value.int .u8)) ∧ ((getB b).length ≤ c' ∧ c' ≤ maxLen) ∧ Below w.heap.size w w' := by
 have LN := Lib.hid (reads_len hr)
 have hb0 : Below w.heap.size w (w.alloc (.cells #[.int .u8 0, .slice none 0 0] 126)) := (Below.refl _ _).alloc (Nat.le_refl _) _
 have F := Lib.hid (refCutC_any A n cp B b _ (hr.alloc hB (.cells #[.int .u8 0, .slice none 0 0] 126)) hb (by simp; omega) hn hnc hc)
 have R0 : Hid (Blk (w.alloc (.cells #[.int .u8 0, .slice none 0 0] 126)) w.heap.size 126 #[.int .u8 0, .slice none 0 0]) := Lib.hid (Blk.new w _ _)
 have HB0 := Lib.hid hb0
 have HZ := Lib.hid (get_zero b)
 have HO := Lib.hid (get_some b)
 have HGE := Lib.hid (getE_eq b)
 have HCZ := Lib.hid (cut_zero b)
 rw [LN.out] at HGE
 generalize getE b = ge at *
 generalize getK b = gk at *
 generalize getB b = gb at *
 generalize cutE b = ee at *
 generalize cutK b = kk at *
 generalize cutL b = ll at *
 generalize cutB b = body at *
 clear hr hb hb0
 go_enter Tryz.func50, Tryz.ntmps50
 go_wp2_with (fail)
 refine F.out.mono ?_
 rintro e w1 ⟨A1, c1, rfl, h1, hcp, h2⟩
 have HCP := Lib.hid hcp
 clear hcp
 have r1 := R0.out.below h2 (by simp)
 have R1 := Lib.hid r1
 have hlt := r1.lt
 have RB := Lib.hid (r1.alloc (.cells #[.int .u8 kk, .slice A1 body.length c1] 126))
 have H1 := Lib.hid (Reads.alloc h1 (show B ≤ w1.heap.size by omega) (.cells #[.int .u8 kk, .slice A1 body.length c1] 126))
 have HB1 := Lib.hid ((HB0.out.trans (h2.mono (by simp))).alloc (by omega) (.cells #[.int .u8 kk, .slice A1 body.length c1] 126))
 have FB : Hid (Blk (w1.alloc (.cells #[.int .u8 kk, .slice A1 body.length c1] 126)) w1.heap.size 126 #[.int .u8 kk, .slice A1 body.length c1]) := Lib.hid (Blk.new _ _ _)
 obtain ⟨w5, hw5⟩ : ∃ w5, w5 = w1.alloc (.cells #[.int .u8 kk, .slice A1 body.length c1] 126) := ⟨_, rfl⟩
 rw [← hw5] at RB H1 HB1 FB
 have HW5 := Lib.hid hw5
 have hne1 : w1.heap.size ≠ w.heap.size := by omega
 have hne2 : w.heap.size ≠ w1.heap.size := by omega
 have c0 : w5.cell? ⟨w.heap.size, 0, none⟩ = some (.int .u8 0) := RB.out.cell 0
 have c1' : w5.cell? ⟨w.heap.size, 1, none⟩ = some (.slice none 0 0) := RB.out.cell 1
 have f0 := RB.out.frozen 0
 have f1 := RB.out.frozen 1
 have p0 : w5.cell? ⟨w1.heap.size, 0, none⟩ = some (.int .u8 kk) := FB.out.cell 0
 have p1 : w5.cell? ⟨w1.heap.size, 1, none⟩ = some (.slice A1 body.length c1) := FB.out.cell 1
 have HBEL : Hid (∀ (u v : Value) (o : Obj), Below w.heap.size w (((w1.setCell ⟨w.heap.size, 0, none⟩ u).setCell ⟨w.heap.size, 1, none⟩ v).alloc o)) := Lib.hid (fun u v o => (((HB0.out.trans (h2.mono (by simp))).setCell (p := ⟨w.heap.size, 0, none⟩) (Nat.le_refl _) u).setCell (p := ⟨w.heap.size, 1, none⟩) (Nat.le_refl _) v).alloc (by simp [World.setCell]; omega) o)
 have RD : Hid (∀ (u v : Value) (o : Obj), Reads (((w1.setCell ⟨w.heap.size, 0, none⟩ u).setCell ⟨w.heap.size, 1, none⟩ v).alloc o) B 1 A1 body.length ((bI body).map (Value.int .u8))) := Lib.hid (fun u v o => ((h1.setCell (p := ⟨w.heap.size, 0, none⟩) hB u).setCell (p := ⟨w.heap.size, 1, none⟩) hB v).alloc (by simp [World.setCell]; omega) o)
 clear h1 h2 r1 F R0 HB0
 clear c0 c1' f0 f1 p0 p1
 have e0 : w1.cell? ⟨w.heap.size, 0, none⟩ = some (.int .u8 0) := R1.out.cell 0
 have e1 : w1.cell? ⟨w.heap.size, 1, none⟩ = some (.slice none 0 0) := R1.out.cell 1
 have g0 := R1.out.frozen 0
 have g1 := R1.out.frozen 1
 subst hw5
 have c0 := RB.out.cell 0
 have c1' := RB.out.cell 1
 have f0 := RB.out.frozen 0
 have f1 := RB.out.frozen 1
 simp only [List.getElem?_toArray, List.getElem?_cons_succ, List.getElem?_cons_zero] at c0 c1'
 have key : (ee = 0 ∧ ll < n ∧ ge = 4) ∨ (((ee = 0 ∧ n ≤ ll) ∨ ee ≠ 0) ∧ ge = ee ∧ gk = kk ∧ gb = body) := by
  by_cases h0 : ee = 0
  ·rcases Nat.lt_or_ge ll n with hl | hl
   ·exact .inl ⟨h0, hl, by rw [HGE.out, if_pos ⟨h0, hl⟩]⟩
   ·have hge : ge = ee := by rw [HGE.out, if_neg (fun h => by omega)]
    obtain ⟨a1, a2⟩ := HO.out (by omega)
    exact .inr ⟨.inl ⟨h0, hl⟩, hge, a1, a2⟩
  ·have hge : ge = ee := by rw [HGE.out, if_neg (fun h => h0 h.1)]
   obtain ⟨a1, a2⟩ := HZ.out (by omega)
   obtain ⟨b1, b2, _⟩ := HCZ.out h0
   exact .inr ⟨.inr h0, hge, by rw [a1, b1], by rw [a2, b2]⟩
 rcases key with ⟨rfl, hl, rfl⟩ | ⟨hcase, rfl, rfl, rfl⟩
 ·have ZZ := Lib.hid (HZ.out (by decide))
  have hl' : (ll : Int) < n := by omega
  go_wp2_with (fail)
  refine bodyPost_ret (v := .tuple #[.agg #[.int .u8 0, .slice none 0 0], .int .i64 4]) (by simp [results, Tryz.results50, go_sem, *]) rfl ⟨none, 0, by rw [ZZ.out.1, ZZ.out.2]; rfl, by rw [ZZ.out.2]; exact Reads.none_, by rw [ZZ.out.2]; exact ⟨Nat.le_refl _, Nat.zero_le _⟩, HBEL.out _ _ _⟩
 ·rcases hcase with ⟨rfl, hl⟩ | h0
  ·have hl' : (n : Int) ≤ ll := by omega
   go_wp2_with (fail)
   refine bodyPost_ret (v := .tuple #[.agg #[.int .u8 gk, .slice A1 gb.length c1], .int .i64 0]) (by simp [results, Tryz.results50, go_sem, *]) rfl ⟨A1, c1, rfl, RD.out _ _ _, HCP.out, HBEL.out _ _ _⟩
  ·have h1 : ((ge : Int) == 0) = false := by simp; omega
   go_wp2_with (fail)
   refine bodyPost_ret (v := .tuple #[.agg #[.int .u8 gk, .slice A1 gb.length c1], .int .i64 ge]) (by simp [results, Tryz.results50, go_sem, *]) rfl ⟨A1, c1, rfl, RD.out _ _ _, HCP.out, HBEL.out _ _ _⟩
attribute [local go_sem] Up.agg Up.cells
def RGuPC (B : Nat) (s : FI) (w : World) (e : Ending) (w' : World) : Prop :=
 ∃ (y : RI) (u : Up), e = .returned (.tuple #[y.agg, u.agg]) ∧ y.s = getUi s ∧ u.val = getUv s ∧ u.wf ∧ Reads w' B 1 u.A u.n (u.bs.map (Value.int .u8)) ∧ (u.n ≤ u.c ∧ u.c ≤ maxLen) ∧ RIn w' B y ∧ Below w.heap.size w w'
theorem refGetUpdateC_any (x : RI) (B : Nat) (w : World) (h : RIn w B x) (hB : B ≤ w.heap.size) :
    Calls Tryz.prog 226 #[x.agg] w (RGuPC B x.s w) := by
  have hby := h.by_
  obtain ⟨A0, cap0, s⟩ := x
  simp only at hby ⊢
  obtain ⟨l1, l2, l3, l4, l5, l6⟩ := gs_lt s hby
  have G1 := Lib.hid (fun W (y : RI) (hy : y.s = s) (i : RIn W B y) (hW : B ≤ W.heap.size) => (show Calls Tryz.prog 51 #[y.agg, .int .i64 8] W (UPost B W (g1 s)) from by have := refGet_any y 8 B W i hW; rw [hy] at this; exact this))
  have G2 := Lib.hid (fun W (y : RI) (hy : y.s = (g1 s).1) (i : RIn W B y) (hW : B ≤ W.heap.size) => (show Calls Tryz.prog 51 #[y.agg, .int .i64 1] W (UPost B W (g2 s)) from by have := refGet_any y 1 B W i hW; rw [hy] at this; exact this))
  have G3 := Lib.hid (fun W (y : RI) (hy : y.s = (g2 s).1) (i : RIn W B y) (hW : B ≤ W.heap.size) => (show Calls Tryz.prog 51 #[y.agg, .int .i64 8] W (UPost B W (g3 s)) from by have := refGet_any y 8 B W i hW; rw [hy] at this; exact this))
  have G4 := Lib.hid (fun W (y : RI) (hy : y.s = (g3 s).1) (i : RIn W B y) (hW : B ≤ W.heap.size) => (show Calls Tryz.prog 51 #[y.agg, .int .i64 1] W (UPost B W (g4 s)) from by have := refGet_any y 1 B W i hW; rw [hy] at this; exact this))
  have G5 := Lib.hid (fun W (y : RI) (hy : y.s = (g4 s).1) (i : RIn W B y) (hW : B ≤ W.heap.size) => (show Calls Tryz.prog 51 #[y.agg, .int .i64 4] W (UPost B W (g5 s)) from by have := refGet_any y 4 B W i hW; rw [hy] at this; exact this))
  have G6 := Lib.hid (fun W (y : RI) (hy : y.s = (g5 s).1) (i : RIn W B y) (hW : B ≤ W.heap.size) => (show Calls Tryz.prog 51 #[y.agg, .int .i64 8] W (UPost B W (g6 s)) from by have := refGet_any y 8 B W i hW; rw [hy] at this; exact this))
  have G7 := Lib.hid (fun W (y : RI) (hy : y.s = (g6 s).1) (i : RIn W B y) (hW : B ≤ W.heap.size) => (show Calls Tryz.prog 126 #[y.agg, .int .i64 2048] W (RPostC B W (g7 s)) from by have := refReadC_any y 2048 B W i hW; rw [hy] at this; exact this))
  have V : Hid (getUv s = if (g7 s).1.e = 0 then (((g1 s).2 : Int), ((g2 s).2 : Int), ((g3 s).2 : Int), ((g4 s).2 : Int), ((g5 s).2 : Int), ((g6 s).2 : Int), (g7 s).2) else Up.zval) := Lib.hid rfl
  have VI : Hid (getUi s = (g7 s).1) := Lib.hid rfl
  have HBY : Hid (bytesB (g7 s).2) := Lib.hid (FI.text_bytes (g6 s).1 2048 (gs_bytes s hby).2.2.2.2.2)
  generalize g1 s = p1 at *
  generalize g2 s = p2 at *
  generalize g3 s = p3 at *
  generalize g4 s = p4 at *
  generalize g5 s = p5 at *
  generalize g6 s = p6 at *
  generalize g7 s = p7 at *
  obtain ⟨s1, n1⟩ := p1
  obtain ⟨s2, n2⟩ := p2
  obtain ⟨s3, n3⟩ := p3
  obtain ⟨s4, n4⟩ := p4
  obtain ⟨s5, n5⟩ := p5
  obtain ⟨s6, n6⟩ := p6
  obtain ⟨s7, bs⟩ := p7
  simp only at G1 G2 G3 G4 G5 G6 G7 V VI HBY l1 l2 l3 l4 l5 l6
  have c2 : IntKind.i64.wrap (n2 : Int) = n2 := by rw [IntKind.wrap_i64]; omega
  have c4 : IntKind.i64.wrap (n4 : Int) = n4 := by rw [IntKind.wrap_i64]; omega
  have c5 : IntKind.u32.wrap (n5 : Int) = n5 := by rw [IntKind.wrap_u32]; omega
  have M : Hid (RgM w (((w.alloc (.cells (RI.mk A0 cap0 s).cells 130)).alloc (.cells (RI.nil 0).cells 130)).alloc (.cells Up.zero.cells 145)) B ⟨A0, cap0, s⟩) := Lib.hid
    ⟨((Blk.new w _ _).alloc _).alloc _, ((blk_at _ _ _ (w.heap.size + 1) (by simp))).alloc _, blk_at _ _ _ (w.heap.size + 1 + 1) (by simp), ((h.alloc hB _).alloc (by simp; omega) _).alloc (by simp; omega) _,
     (((Below.refl w.heap.size w).alloc (Nat.le_refl _) _).alloc (by simp) _).alloc (by simp <;> omega) _, hB⟩
  clear h hby
  show Calls Tryz.prog 226 #[.agg #[.slice A0 s.l.length cap0, .int .i64 s.e]] w _
  go_enter Tryz.func226, Tryz.ntmps226
  go_wp2_with (fail)
  refine (G1.out _ ⟨A0, cap0, s⟩ rfl M.out.rin M.out.le).mono ?_
  rintro e w1 ⟨⟨A1, cap1, z1⟩, rfl, hz, h1, h2⟩
  simp only at hz
  subst hz
  have hM := M.out.step h2 h1; have h0 := M.out.b0.below h2 M.out.b0.lt; obtain ⟨r0, r1⟩ := ri_cells h0; have f0 := h0.frozen 0; have f1 := h0.frozen 1; have M := Lib.hid hM; dsimp only at r0 r1; clear hM h0 h1 h2; go_wp2_with (fail); clear r0 r1 f0 f1
  refine (G2.out _ ⟨A1, cap1, z1⟩ rfl M.out.rin M.out.le).mono ?_
  rintro e w2 ⟨⟨A2, cap2, z2⟩, rfl, hz, h1, h2⟩
  simp only at hz
  subst hz
  have hM := M.out.step h2 h1; have h0 := M.out.b0.below h2 M.out.b0.lt; obtain ⟨r0, r1⟩ := ri_cells h0; have f0 := h0.frozen 0; have f1 := h0.frozen 1; have M := Lib.hid hM; dsimp only at r0 r1; clear hM h0 h1 h2; go_wp2_with (fail); clear r0 r1 f0 f1
  refine (G3.out _ ⟨A2, cap2, z2⟩ rfl M.out.rin M.out.le).mono ?_
  rintro e w3 ⟨⟨A3, cap3, z3⟩, rfl, hz, h1, h2⟩
  simp only at hz
  subst hz
  have hM := M.out.step h2 h1; have h0 := M.out.b0.below h2 M.out.b0.lt; obtain ⟨r0, r1⟩ := ri_cells h0; have f0 := h0.frozen 0; have f1 := h0.frozen 1; have M := Lib.hid hM; dsimp only at r0 r1; clear hM h0 h1 h2; go_wp2_with (fail); clear r0 r1 f0 f1
  refine (G4.out _ ⟨A3, cap3, z3⟩ rfl M.out.rin M.out.le).mono ?_
  rintro e w4 ⟨⟨A4, cap4, z4⟩, rfl, hz, h1, h2⟩
  simp only at hz
  subst hz
  have hM := M.out.step h2 h1; have h0 := M.out.b0.below h2 M.out.b0.lt; obtain ⟨r0, r1⟩ := ri_cells h0; have f0 := h0.frozen 0; have f1 := h0.frozen 1; have M := Lib.hid hM; dsimp only at r0 r1; clear hM h0 h1 h2; go_wp2_with (fail); clear r0 r1 f0 f1
  refine (G5.out _ ⟨A4, cap4, z4⟩ rfl M.out.rin M.out.le).mono ?_
  rintro e w5 ⟨⟨A5, cap5, z5⟩, rfl, hz, h1, h2⟩
  simp only at hz
  subst hz
  have hM := M.out.step h2 h1; have h0 := M.out.b0.below h2 M.out.b0.lt; obtain ⟨r0, r1⟩ := ri_cells h0; have f0 := h0.frozen 0; have f1 := h0.frozen 1; have M := Lib.hid hM; dsimp only at r0 r1; clear hM h0 h1 h2; go_wp2_with (fail); clear r0 r1 f0 f1
  refine (G6.out _ ⟨A5, cap5, z5⟩ rfl M.out.rin M.out.le).mono ?_
  rintro e w6 ⟨⟨A6, cap6, z6⟩, rfl, hz, h1, h2⟩
  simp only at hz
  subst hz
  have hM := M.out.step h2 h1; have h0 := M.out.b0.below h2 M.out.b0.lt; obtain ⟨r0, r1⟩ := ri_cells h0; have f0 := h0.frozen 0; have f1 := h0.frozen 1; have M := Lib.hid hM; dsimp only at r0 r1; clear hM h0 h1 h2; go_wp2_with (fail); clear r0 r1 f0 f1
  refine (G7.out _ ⟨A6, cap6, z6⟩ rfl M.out.rin M.out.le).mono ?_
  rintro e w7 ⟨⟨A7, cap7, z7⟩, A8, c8, rfl, hz, h1, hrd, hcp, h2⟩
  have HCP := Lib.hid hcp
  clear hcp
  simp only at hz
  subst hz
  have hM := M.out.step h2 h1
  have h0 := M.out.b0.below h2 M.out.b0.lt
  obtain ⟨r0, r1⟩ := ri_cells h0
  have f0 := h0.frozen 0
  have f1 := h0.frozen 1
  dsimp only at r0 r1
  have hlen : bs.length ≤ 4294967296 ∨ True := .inr trivial
  obtain ⟨W7, hW7⟩ : ∃ W7, W7 = (w7.setCell ⟨w.heap.size, 0, none⟩ (.slice A7 z7.l.length cap7)).setCell ⟨w.heap.size, 1, none⟩ (.int .i64 z7.e) := ⟨_, rfl⟩
  have hR : Reads W7 B 1 A8 bs.length (bs.map (Value.int .u8)) := by
    rw [hW7]
    exact (hrd.setCell (p := ⟨_, 0, none⟩) hB _).setCell (p := ⟨_, 1, none⟩) hB _
  have M : Hid (RgM w W7 B ⟨A7, cap7, z7⟩) := Lib.hid (by rw [hW7]; exact hM)
  have HR := Lib.hid hR
  clear hM h0 h1 h2 hrd hR
  go_upto_region 8 with (fail)
  rw [← hW7]
  clear hW7 r0 r1 f0 f1
  obtain ⟨x0, x1⟩ := ri_cells M.out.b0
  obtain ⟨q0, q1⟩ := ri_cells M.out.b1
  obtain ⟨r0, r1, r2, r3, r4, r5, r6⟩ := cellsu7 M.out.b2
  obtain ⟨f0, f1, f2, f3, f4, f5, f6⟩ := frozenu7 M.out.b2
  have k0 := M.out.b1.frozen 0
  have k1 := M.out.b1.frozen 1
  have lt0 := M.out.b0.lt
  have lt1 := M.out.b1.lt
  have lt2 := M.out.b2.lt
  dsimp only at x0 x1
  have hBW := M.out.le
  by_cases he : z7.e = 0
  · have he' : (z7.e != 0) = false := by simp [he]
    have HE := Lib.hid he
    clear he
    go_wp2_with (fail)
    obtain ⟨wz, hwz⟩ : ∃ wz, wz = ((((((((W7.setCell ⟨w.heap.size + 1, 0, none⟩ (.slice A7 z7.l.length cap7)).setCell ⟨w.heap.size + 1, 1, none⟩ (.int .i64 z7.e)).setCell ⟨w.heap.size + 1 + 1, 0, none⟩ (.int .u64 n1)).setCell ⟨w.heap.size + 1 + 1, 1, none⟩ (.int .i64 n2)).setCell ⟨w.heap.size + 1 + 1, 2, none⟩ (.int .u64 n3)).setCell ⟨w.heap.size + 1 + 1, 3, none⟩ (.int .i64 n4)).setCell ⟨w.heap.size + 1 + 1, 4, none⟩ (.int .u32 n5)).setCell ⟨w.heap.size + 1 + 1, 5, none⟩ (.int .u64 n6)).setCell ⟨w.heap.size + 1 + 1, 6, none⟩ (.slice A8 bs.length c8) := ⟨_, rfl⟩
    obtain ⟨B1, B2, B3, B4⟩ := M.out.fin ⟨n1, n2, n3, n4, n5, n6, A8, bs.length, c8, bs⟩ hwz
    rw [← hwz]
    have HB1 := Lib.hid B1
    have HB2 := Lib.hid B2
    have HB3 := Lib.hid B3
    have HB4 := Lib.hid (B4.mono hB)
    clear hwz B1 B2 B3 B4 x0 x1 q0 q1 r0 r1 r2 r3 r4 r5 r6 f0 f1 f2 f3 f4 f5 f6 k0 k1
    obtain ⟨x0, x1⟩ := ri_cells HB1.out
    obtain ⟨k0, k1, k2, k3, k4, k5, k6⟩ := cellsu7 HB2.out
    dsimp only at x0 x1
    go_wp2_with (fail)
    refine bodyPost_ret (v := .tuple #[.agg #[.slice A7 z7.l.length cap7, .int .i64 z7.e], .agg #[.int .u64 n1, .int .i64 n2, .int .u64 n3, .int .i64 n4, .int .u32 n5, .int .u64 n6, .slice A8 bs.length c8]]) (by simp [results, Tryz.results226, go_sem, x0, x1, k0, k1, k2, k3, k4, k5, k6]) rfl ?_
    refine ⟨⟨A7, cap7, z7⟩, ⟨n1, n2, n3, n4, n5, n6, A8, bs.length, c8, bs⟩, rfl, VI.out.symm, by rw [V.out, if_pos HE.out]; rfl, ?_, HR.out.below HB4.out, HCP.out, M.out.rin.below HB4.out, HB3.out⟩
    exact ⟨by constructor <;> (simp only; omega), by constructor <;> (simp only; omega), by constructor <;> (simp only; omega), by constructor <;> (simp only; omega), by constructor <;> (simp only; omega), by constructor <;> (simp only; omega), fun z hz => by have := HBY.out z hz; omega⟩
  · have he' : (z7.e != 0) = true := by simpa using he
    have HE := Lib.hid he
    clear he
    go_wp2_with (fail)
    obtain ⟨wz, hwz⟩ : ∃ wz, wz = ((((((((W7.setCell ⟨w.heap.size + 1, 0, none⟩ (.slice A7 z7.l.length cap7)).setCell ⟨w.heap.size + 1, 1, none⟩ (.int .i64 z7.e)).setCell ⟨w.heap.size + 1 + 1, 0, none⟩ (.int .u64 0)).setCell ⟨w.heap.size + 1 + 1, 1, none⟩ (.int .i64 0)).setCell ⟨w.heap.size + 1 + 1, 2, none⟩ (.int .u64 0)).setCell ⟨w.heap.size + 1 + 1, 3, none⟩ (.int .i64 0)).setCell ⟨w.heap.size + 1 + 1, 4, none⟩ (.int .u32 0)).setCell ⟨w.heap.size + 1 + 1, 5, none⟩ (.int .u64 0)).setCell ⟨w.heap.size + 1 + 1, 6, none⟩ (.slice none 0 0) := ⟨_, rfl⟩
    obtain ⟨B1, B2, B3, B4⟩ := M.out.fin Up.zero hwz
    rw [← hwz]
    have HB1 := Lib.hid B1
    have HB2 := Lib.hid B2
    have HB3 := Lib.hid B3
    have HB4 := Lib.hid (B4.mono hB)
    clear hwz B1 B2 B3 B4 x0 x1 q0 q1 r0 r1 r2 r3 r4 r5 r6 f0 f1 f2 f3 f4 f5 f6 k0 k1
    obtain ⟨x0, x1⟩ := ri_cells HB1.out
    obtain ⟨k0, k1, k2, k3, k4, k5, k6⟩ := cellsu7 HB2.out
    dsimp only at x0 x1
    go_wp2_with (fail)
    refine bodyPost_ret (v := .tuple #[.agg #[.slice A7 z7.l.length cap7, .int .i64 z7.e], .agg #[.int .u64 0, .int .i64 0, .int .u64 0, .int .i64 0, .int .u32 0, .int .u64 0, .slice none 0 0]]) (by simp [results, Tryz.results226, go_sem, x0, x1, k0, k1, k2, k3, k4, k5, k6, Up.zero]) rfl ?_
    refine ⟨⟨A7, cap7, z7⟩, Up.zero, rfl, VI.out.symm, by rw [V.out, if_neg HE.out]; rfl, ?_, Reads.none_, ⟨Nat.le_refl _, Nat.zero_le _⟩, M.out.rin.below HB4.out, HB3.out⟩
    exact ⟨by constructor <;> (simp only [Up.zero]; omega), by constructor <;> (simp only [Up.zero]; omega), by constructor <;> (simp only [Up.zero]; omega), by constructor <;> (simp only [Up.zero]; omega), by constructor <;> (simp only [Up.zero]; omega), by constructor <;> (simp only [Up.zero]; omega), fun z hz => by cases hz⟩
end Go.Proofs.YtmpedblelnpjdaaGreatDoor
