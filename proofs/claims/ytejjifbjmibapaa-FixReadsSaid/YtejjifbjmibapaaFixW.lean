/- The reference's Get, Read, Bool. -/
import Derived.Test.YtejjifbjmibapaaFixV
namespace Go.Proofs.Ytejjifbjmibapaa
open Go.RowKit
set_option linter.unusedSimpArgs false
set_option linter.unusedVariables false
set_option maxHeartbeats 8000000
attribute [local go_sem] RI.agg RI.cells RI.nil





theorem refGet_any (x : RI) (k : Int) (B : Nat) (w : World) (hx : RIn w B x) (hB : B ≤ w.heap.size) :
    Calls Try.prog 24 #[x.agg, .int .i64 k] w (UPost B w (x.s.upto k 18446744073709551615)) := by
  have HX := Lib.hid hx
  have R := fun w => refUpto_any x k 18446744073709551615 B w
  clear hx
  generalize x.s.upto k 18446744073709551615 = r at *
  obtain ⟨s', q⟩ := r
  go_enter Try.func24, Try.ntmps24
  go_wp2_with (fail)
  refine (R _ (by repeat (first | with_reducible exact HX.out | with_reducible refine RIn.alloc ?_ (by first | omega | (simp; omega)) _ | with_reducible refine RIn.drewN ?_ _ | with_reducible refine RIn.drew ?_)) (by simp; omega)).mono ?_
  rintro e w1 ⟨y, rfl, hy, h1, h2⟩
  have HY1 := Lib.hid h1
  have HYS := Lib.hid hy
  have hrs := (blk_at (w.alloc (.cells x.cells 50)) 50 (RI.nil 0).cells (w.heap.size + 1) (by simp)).below h2 (by simp); obtain ⟨r0, r1⟩ := ri_cells hrs; have f0 := hrs.frozen 0; have f1 := hrs.frozen 1; have q6 := hrs.lt; have HRS := Lib.hid hrs; dsimp only [RI.nil] at r0 r1; have HB1 := Lib.hid (box2_below h2); have hBw := Nat.le_trans hB HB1.out.size; clear h2 hrs
  clear hy h1
  go_wp2
  refine bodyPost_ret (v := .tuple #[y.agg, .int .u64 q]) (by simp [results, Try.results24, go_sem, r0, r1, q6]) rfl ⟨y, rfl, HYS.out, ?_, ?_⟩
  · repeat (first | with_reducible exact HY1.out | with_reducible refine RIn.alloc ?_ (by first | omega | (simp; omega)) _ | with_reducible refine RIn.setC ?_ (by first | omega | (simp <;> omega)) _ | with_reducible refine RIn.drewN ?_ _ | with_reducible refine RIn.drew ?_)
  · repeat (first | with_reducible exact Below.refl _ _ | with_reducible exact HB1.out | with_reducible refine Below.setCell ?_ (by simp <;> omega) _ | with_reducible refine Below.alloc ?_ (by first | omega | (simp <;> omega)) _ | with_reducible refine below_drewN ?_ _ | with_reducible refine Below.drew ?_)

def BPost (B : Nat) (w : World) (s : FI) (v : Bool) (e : Ending) (w' : World) : Prop :=
  ∃ y : RI, e = .returned (.tuple #[y.agg, .bool v]) ∧ y.s = s ∧ RIn w' B y ∧ Below w.heap.size w w'
theorem refBool_any (x : RI) (B : Nat) (w : World) (hx : RIn w B x) (hB : B ≤ w.heap.size) :
    Calls Try.prog 29 #[x.agg] w (BPost B w (x.s.upto 1 1).1 (decide ((x.s.upto 1 1).2 = 1))) := by
  have HX := Lib.hid hx
  have R := fun w => refUpto_any x 1 1 B w
  clear hx
  generalize x.s.upto 1 1 = r at *
  obtain ⟨s', q⟩ := r
  have hqq : ((q : Int) == 1) = decide (q = 1) := by
    by_cases h : q = 1
    · simp [h]
    · simp [h]; omega
  obtain ⟨bq, hbq⟩ : ∃ bq, bq = decide (q = 1) := ⟨_, rfl⟩
  simp only []
  rw [← hbq] at hqq ⊢
  clear hbq
  go_enter Try.func29, Try.ntmps29
  go_wp2_with (fail)
  refine (R _ (by repeat (first | with_reducible exact HX.out | with_reducible refine RIn.alloc ?_ (by first | omega | (simp; omega)) _ | with_reducible refine RIn.drewN ?_ _ | with_reducible refine RIn.drew ?_)) (by simp; omega)).mono ?_
  rintro e w1 ⟨y, rfl, hy, h1, h2⟩
  have HY1 := Lib.hid h1
  have HYS := Lib.hid hy
  have hrs := (blk_at (w.alloc (.cells x.cells 50)) 50 (RI.nil 0).cells (w.heap.size + 1) (by simp)).below h2 (by simp); obtain ⟨r0, r1⟩ := ri_cells hrs; have f0 := hrs.frozen 0; have f1 := hrs.frozen 1; have q6 := hrs.lt; have HRS := Lib.hid hrs; dsimp only [RI.nil] at r0 r1; have HB1 := Lib.hid (box2_below h2); have hBw := Nat.le_trans hB HB1.out.size; clear h2 hrs
  clear hy h1
  go_wp2
  refine bodyPost_ret (v := .tuple #[y.agg, .bool bq]) (by simp [results, Try.results29, go_sem, r0, r1, q6]) rfl ⟨y, rfl, HYS.out, ?_, ?_⟩
  · repeat (first | with_reducible exact HY1.out | with_reducible refine RIn.alloc ?_ (by first | omega | (simp; omega)) _ | with_reducible refine RIn.setC ?_ (by first | omega | (simp <;> omega)) _ | with_reducible refine RIn.drewN ?_ _ | with_reducible refine RIn.drew ?_)
  · repeat (first | with_reducible exact Below.refl _ _ | with_reducible exact HB1.out | with_reducible refine Below.setCell ?_ (by simp <;> omega) _ | with_reducible refine Below.alloc ?_ (by first | omega | (simp <;> omega)) _ | with_reducible refine below_drewN ?_ _ | with_reducible refine Below.drew ?_)

theorem text_upto (s : FI) (most : Int) (hb : bytesB s.l) : s.text most = if (s.upto 2 18446744073709551615).1.e ≠ 0 then ((s.upto 2 18446744073709551615).1, []) else if most < ((s.upto 2 18446744073709551615).2 : Int) then ((s.upto 2 18446744073709551615).1.fail 6, []) else (s.upto 2 18446744073709551615).1.raw (s.upto 2 18446744073709551615).2 := by
  have hk : knownB 2 = true := rfl
  have h2 : (2 : Int).toNat = 2 := rfl
  by_cases he : s.e = 0
  · by_cases hl : s.l.length < 2
    · have hN : s.next 2 = (s.fail 3, [], false) := by rw [FI.next, if_neg (by simp [he]), if_pos hl]
      have hU : s.upto 2 18446744073709551615 = (s.fail 3, 0) := by rw [FI.upto, if_neg (by simp [he]), hk, if_pos rfl, h2, hN]; rfl
      have hT : s.text most = (s.fail 3, []) := by rw [FI.text, hN]; rfl
      have := s.fail_e 3 (by decide)
      rw [hU, hT, if_pos this]
    · have hN : s.next 2 = (⟨s.l.drop 2, 0⟩, s.l.take 2, true) := by rw [FI.next, if_neg (by simp [he]), if_neg hl]
      have hlt := numB_lt (s.l.take 2) (bytesB_take _ _ hb)
      have hp : 256 ^ (s.l.take 2).length ≤ 256 ^ 2 := Nat.pow_le_pow_right (by decide) (by rw [List.length_take]; omega)
      have hU : s.upto 2 18446744073709551615 = (⟨s.l.drop 2, 0⟩, numB (s.l.take 2)) := by
        rw [FI.upto, if_neg (by simp [he]), hk, if_pos rfl, h2, hN]
        simp only [if_true]
        rw [if_neg (by omega)]
      rw [hU, FI.text, hN]
      simp
  · have hN : s.next 2 = (s, [], false) := by rw [FI.next, if_pos he]
    have hU : s.upto 2 18446744073709551615 = (s, 0) := by rw [FI.upto, if_pos he]
    rw [hU, FI.text, hN]
    simp [he]
theorem upto2_lt (s : FI) (hb : bytesB s.l) : (s.upto 2 18446744073709551615).2 < 65536 := by
  have hk : knownB 2 = true := rfl
  have h2 : (2 : Int).toNat = 2 := rfl
  by_cases he : s.e = 0
  · by_cases hl : s.l.length < 2
    · have hN : s.next 2 = (s.fail 3, [], false) := by rw [FI.next, if_neg (by simp [he]), if_pos hl]
      have hU : s.upto 2 18446744073709551615 = (s.fail 3, 0) := by rw [FI.upto, if_neg (by simp [he]), hk, if_pos rfl, h2, hN]; rfl
      rw [hU]; show (0 : Nat) < 65536; decide
    · have hN : s.next 2 = (⟨s.l.drop 2, 0⟩, s.l.take 2, true) := by rw [FI.next, if_neg (by simp [he]), if_neg hl]
      have hlt := numB_lt (s.l.take 2) (bytesB_take _ _ hb)
      have hp : 256 ^ (s.l.take 2).length ≤ 256 ^ 2 := Nat.pow_le_pow_right (by decide) (by rw [List.length_take]; omega)
      have hU : s.upto 2 18446744073709551615 = (⟨s.l.drop 2, 0⟩, numB (s.l.take 2)) := by
        rw [FI.upto, if_neg (by simp [he]), hk, if_pos rfl, h2, hN]
        simp only [if_true]
        rw [if_neg (by omega)]
      rw [hU]; show numB _ < 65536; omega
  · have hU : s.upto 2 18446744073709551615 = (s, 0) := by rw [FI.upto, if_pos he]
    rw [hU]; show (0 : Nat) < 65536; decide


theorem refRead_any (x : RI) (most : Int) (B : Nat) (w : World) (hx : RIn w B x) (hB : B ≤ w.heap.size) :
    Calls Try.prog 28 #[x.agg, .int .i64 most] w (RPost B w (x.s.text most)) := by
  have HX := Lib.hid hx
  have R := fun w => refGet_any x 2 B w
  have hT := text_upto x.s most hx.by_
  have hlt := upto2_lt x.s hx.by_
  rw [hT]
  clear hx hT
  generalize x.s.upto 2 18446744073709551615 = r at *
  obtain ⟨s', q⟩ := r
  have hq : q < 65536 := hlt
  have hw : IntKind.i64.wrap (q : Int) = q := by rw [IntKind.wrap_i64]; omega
  clear hlt
  by_cases he : s'.e = 0
  · simp only [he, ne_eq, not_true_eq_false, if_false]
    by_cases hm : most < q
    · rw [if_pos hm]
      go_enter Try.func28, Try.ntmps28
      go_wp2_with (fail)
      refine (R _ (by repeat (first | with_reducible exact HX.out | with_reducible refine RIn.alloc ?_ (by first | omega | (simp; omega)) _ | with_reducible refine RIn.drewN ?_ _ | with_reducible refine RIn.drew ?_)) (by simp; omega)).mono ?_
      rintro e w1 ⟨y, rfl, hy, h1, h2⟩
      have HY1 := Lib.hid h1
      have hye : (y.s.e != 0) = false := by rw [hy]; simp [he]
      have HYS := Lib.hid hy
      have hrs := (blk_at (w.alloc (.cells x.cells 50)) 50 (RI.nil 0).cells (w.heap.size + 1) (by simp)).below h2 (by simp); obtain ⟨r0, r1⟩ := ri_cells hrs; have f0 := hrs.frozen 0; have f1 := hrs.frozen 1; have q6 := hrs.lt; have HRS := Lib.hid hrs; dsimp only [RI.nil] at r0 r1; have HB1 := Lib.hid (box2_below h2); have hBw := Nat.le_trans hB HB1.out.size; clear h2 hrs
      clear hy h1
      go_wp2_with (fail)
      refine (refFail_any y 6 (by decide) B _ (by repeat (first | with_reducible exact HY1.out | with_reducible refine RIn.alloc ?_ (by first | omega | (simp; omega)) _ | with_reducible refine RIn.setC ?_ (by first | omega | (simp <;> omega)) _ | with_reducible refine RIn.drewN ?_ _ | with_reducible refine RIn.drew ?_)) (by simp; omega)).mono ?_
      rintro e w2 ⟨z, rfl, hz, h1, h2⟩
      have HZ := Lib.hid hz
      have HZ1 := Lib.hid h1
      have hrs2 := HRS.out.below (show Below w1.heap.size w1 w2 from ((Below.refl _ _).alloc (Nat.le_refl _) _).trans (h2.mono (by simp))) HRS.out.lt; have HB2 := Lib.hid (HB1.out.trans ((show Below w1.heap.size w1 w2 from ((Below.refl _ _).alloc (Nat.le_refl _) _).trans (h2.mono (by simp))).mono HB1.out.size)); clear r0 r1 f0 f1 q6 h2 HB1; obtain ⟨r0, r1⟩ := ri_cells hrs2; have f0 := hrs2.frozen 0; have f1 := hrs2.frozen 1; have q6 := hrs2.lt; dsimp only [RI.nil] at r0 r1; have HB1 := HB2
      clear hz h1
      go_wp2
      refine bodyPost_ret (v := .tuple #[z.agg, .slice none 0 0]) (by simp [results, Try.results28, go_sem, r0, r1, q6]) rfl ⟨z, none, 0, rfl, HZ.out.trans (by rw [HYS.out]), ?_, Reads.none_, ?_⟩
      · exact (HZ1.out.set2 (by omega) _ _)
      · repeat (first | with_reducible exact Below.refl _ _ | with_reducible exact HB1.out | with_reducible refine Below.setCell ?_ (by simp <;> omega) _ | with_reducible refine Below.alloc ?_ (by first | omega | (simp <;> omega)) _ | with_reducible refine below_drewN ?_ _ | with_reducible refine Below.drew ?_)
    · rw [if_neg hm]
      have hm' : (q : Int) ≤ most := by omega
      go_enter Try.func28, Try.ntmps28
      go_wp2_with (fail)
      refine (R _ (by repeat (first | with_reducible exact HX.out | with_reducible refine RIn.alloc ?_ (by first | omega | (simp; omega)) _ | with_reducible refine RIn.drewN ?_ _ | with_reducible refine RIn.drew ?_)) (by simp; omega)).mono ?_
      rintro e w1 ⟨y, rfl, hy, h1, h2⟩
      have HY1 := Lib.hid h1
      have hye : (y.s.e != 0) = false := by rw [hy]; simp [he]
      have HYS := Lib.hid hy
      have RR := fun w => refRaw_any y q B w
      rw [hy] at RR
      have hrs := (blk_at (w.alloc (.cells x.cells 50)) 50 (RI.nil 0).cells (w.heap.size + 1) (by simp)).below h2 (by simp); obtain ⟨r0, r1⟩ := ri_cells hrs; have f0 := hrs.frozen 0; have f1 := hrs.frozen 1; have q6 := hrs.lt; have HRS := Lib.hid hrs; dsimp only [RI.nil] at r0 r1; have HB1 := Lib.hid (box2_below h2); have hBw := Nat.le_trans hB HB1.out.size; clear h2 hrs
      clear hy h1
      go_wp2_with (fail)
      refine (RR _ (by repeat (first | with_reducible exact HY1.out | with_reducible refine RIn.alloc ?_ (by first | omega | (simp; omega)) _ | with_reducible refine RIn.setC ?_ (by first | omega | (simp <;> omega)) _ | with_reducible refine RIn.drewN ?_ _ | with_reducible refine RIn.drew ?_)) (by simp; omega)).mono ?_
      rintro e w2 ⟨z, A2, c2, rfl, hz, h1, h3, h2⟩
      have HZ := Lib.hid hz
      have HZ1 := Lib.hid h1
      have HD := Lib.hid h3
      have hrs2 := HRS.out.below (show Below w1.heap.size w1 w2 from ((Below.refl _ _).alloc (Nat.le_refl _) _).trans (h2.mono (by simp))) HRS.out.lt; have HB2 := Lib.hid (HB1.out.trans ((show Below w1.heap.size w1 w2 from ((Below.refl _ _).alloc (Nat.le_refl _) _).trans (h2.mono (by simp))).mono HB1.out.size)); clear r0 r1 f0 f1 q6 h2 HB1; obtain ⟨r0, r1⟩ := ri_cells hrs2; have f0 := hrs2.frozen 0; have f1 := hrs2.frozen 1; have q6 := hrs2.lt; dsimp only [RI.nil] at r0 r1; have HB1 := HB2
      clear hz h1 h3
      go_wp2
      refine bodyPost_ret (v := .tuple #[z.agg, .slice A2 (s'.raw q).2.length c2]) (by simp [results, Try.results28, go_sem, r0, r1, q6]) rfl ⟨z, A2, c2, rfl, HZ.out, ?_, ?_, ?_⟩
      · exact (HZ1.out.set2 (by omega) _ _)
      · exact (HD.out.setCell (p := ⟨_, 0, none⟩) (show B ≤ w.heap.size + 1 by omega) _).setCell (p := ⟨_, 1, none⟩) (show B ≤ w.heap.size + 1 by omega) _
      · repeat (first | with_reducible exact Below.refl _ _ | with_reducible exact HB1.out | with_reducible refine Below.setCell ?_ (by simp <;> omega) _ | with_reducible refine Below.alloc ?_ (by first | omega | (simp <;> omega)) _ | with_reducible refine below_drewN ?_ _ | with_reducible refine Below.drew ?_)
  · rw [if_pos he]
    go_enter Try.func28, Try.ntmps28
    go_wp2_with (fail)
    refine (R _ (by repeat (first | with_reducible exact HX.out | with_reducible refine RIn.alloc ?_ (by first | omega | (simp; omega)) _ | with_reducible refine RIn.drewN ?_ _ | with_reducible refine RIn.drew ?_)) (by simp; omega)).mono ?_
    rintro e w1 ⟨y, rfl, hy, h1, h2⟩
    have HY1 := Lib.hid h1
    have hye : (y.s.e != 0) = true := by rw [hy]; simp [he]
    have HYS := Lib.hid hy
    have hrs := (blk_at (w.alloc (.cells x.cells 50)) 50 (RI.nil 0).cells (w.heap.size + 1) (by simp)).below h2 (by simp); obtain ⟨r0, r1⟩ := ri_cells hrs; have f0 := hrs.frozen 0; have f1 := hrs.frozen 1; have q6 := hrs.lt; have HRS := Lib.hid hrs; dsimp only [RI.nil] at r0 r1; have HB1 := Lib.hid (box2_below h2); have hBw := Nat.le_trans hB HB1.out.size; clear h2 hrs
    clear hy h1
    go_wp2
    refine bodyPost_ret (v := .tuple #[y.agg, .slice none 0 0]) (by simp [results, Try.results28, go_sem, r0, r1, q6]) rfl ⟨y, none, 0, rfl, HYS.out, ?_, Reads.none_, ?_⟩
    · repeat (first | with_reducible exact HY1.out | with_reducible refine RIn.alloc ?_ (by first | omega | (simp; omega)) _ | with_reducible refine RIn.setC ?_ (by first | omega | (simp <;> omega)) _ | with_reducible refine RIn.drewN ?_ _ | with_reducible refine RIn.drew ?_)
    · repeat (first | with_reducible exact Below.refl _ _ | with_reducible exact HB1.out | with_reducible refine Below.setCell ?_ (by simp <;> omega) _ | with_reducible refine Below.alloc ?_ (by first | omega | (simp <;> omega)) _ | with_reducible refine below_drewN ?_ _ | with_reducible refine Below.drew ?_)
end Go.Proofs.Ytejjifbjmibapaa
