/- The reference's Upto, Get, Read, Bool. -/
import Derived.Test.YtcmaekkfeilclaaFixU
namespace Go.Proofs.Ytcmaekkfeilclaa
open Go.RowKit
set_option linter.unusedSimpArgs false
set_option linter.unusedVariables false
set_option maxHeartbeats 8000000
attribute [local go_sem] RI.agg RI.cells RI.nil




theorem RIn.setC {w : World} {B : Nat} {x : RI} (h : RIn w B x) {p : Addr} (hB : B ≤ p.block) (u : Value) : RIn (w.setCell p u) B x := ⟨h.rd.setCell hB u, h.hc, h.hm, h.by_, h.inv⟩
theorem frz_relay {w W w' : World} {p : Addr} (h : w.frozen? p = false) (hp : p.block < w.heap.size) (h' : Below W.heap.size W w') (hb : Below w.heap.size w W) : w'.frozen? p = false :=
  (World.frozen?_of_block ((hb.trans (h'.mono hb.size)).block p.block hp)).trans h


theorem refUpto_any (x : RI) (k : Int) (most : Nat) (B : Nat) (w : World) (hx : RIn w B x) (hB : B ≤ w.heap.size) :
    Calls Try.prog 39 #[x.agg, .int .i64 k, .int .u64 most] w (UPost B w (x.s.upto k most)) := by
  have HX := Lib.hid hx
  have hinv := hx.inv
  have HBY := Lib.hid hx.by_
  clear hx
  cases hk : knownB k
  · have hU := Lib.hid (upto_bad x.s k most hk hinv)
    rw [hU.out]
    have hkn : k < 1 ∨ (¬ k < 1 ∧ 8 < k) := by
      have : ¬ (1 ≤ k ∧ k ≤ 8) := fun h => by rw [(knownB_iff k).2 h] at hk; cases hk
      omega
    clear hinv
    rcases hkn with h1 | ⟨h1, h8⟩
    all_goals
      go_enter Try.func39, Try.ntmps39
      go_wp2_with (fail)
      refine (refFail_any x 1 (by decide) B _ (by repeat (first | with_reducible exact HX.out | with_reducible refine RIn.alloc ?_ (by first | omega | (simp; omega)) _ | with_reducible refine RIn.drewN ?_ _ | with_reducible refine RIn.drew ?_)) (by simp; omega)).mono ?_
      rintro e w1 ⟨y, rfl, hy, h1, h2⟩
      have HY := Lib.hid hy
      have HY1 := Lib.hid h1
      have hrs := (blk_at (w.alloc (.cells x.cells 63)) 63 (RI.nil 0).cells (w.heap.size + 1) (by simp)).below h2 (by simp); obtain ⟨r0, r1⟩ := ri_cells hrs; have f0 := hrs.frozen 0; have f1 := hrs.frozen 1; have q6 := hrs.lt; have HRS := Lib.hid hrs; dsimp only [RI.nil] at r0 r1; have HB1 := Lib.hid (box2_below h2); have hBw := Nat.le_trans hB HB1.out.size; clear h2 hrs
      clear hy h1
      go_wp2
      refine bodyPost_ret (v := .tuple #[y.agg, .int .u64 0]) (by simp [results, Try.results39, go_sem, r0, r1, q6]) rfl ⟨y, rfl, HY.out, ?_, ?_⟩
      · exact (HY1.out.set2 (by omega) _ _)
      · repeat (first | with_reducible exact Below.refl _ _ | with_reducible exact HB1.out | with_reducible refine Below.setCell ?_ (by simp <;> omega) _ | with_reducible refine Below.alloc ?_ (by first | omega | (simp <;> omega)) _ | with_reducible refine below_drewN ?_ _ | with_reducible refine Below.drew ?_)
  · obtain ⟨hk1, hk8⟩ := (knownB_iff k).1 hk
    obtain ⟨j, rfl⟩ := Int.eq_ofNat_of_zero_le (show 0 ≤ k by omega)
    have hU := Lib.hid (upto_raw x.s j most hk hinv)
    rw [hU.out]
    have HRL := Lib.hid (Nat.le_trans (raw_len x.s j) (show j ≤ 8 by omega))
    have HRB := Lib.hid (raw_bytes x.s j HBY.out)
    have R := fun w => refRaw_any x j B w
    clear hinv hU
    generalize x.s.raw j = r at *
    obtain ⟨s', l⟩ := r
    have hn1 : ¬ (j : Int) < 1 := by omega
    have hn8 : ¬ (8 : Int) < j := by omega
    by_cases he : s'.e = 0
    · simp only [he, ne_eq, not_true_eq_false, if_false]
      by_cases hm : most < numB l
      · rw [if_pos hm]
        have hm' : (most : Int) < numB l := by omega
        go_enter Try.func39, Try.ntmps39
        go_wp2_with (fail)
        refine (R _ (by repeat (first | with_reducible exact HX.out | with_reducible refine RIn.alloc ?_ (by first | omega | (simp; omega)) _ | with_reducible refine RIn.drewN ?_ _ | with_reducible refine RIn.drew ?_)) (by simp; omega)).mono ?_
        rintro e w1 ⟨y, A2, c2, rfl, hy, h1, h3, h2⟩
        have HY1 := Lib.hid h1
        have H3 := Lib.hid h3
        have hye : (y.s.e != 0) = false := by rw [hy]; simp [he]
        have HYS := Lib.hid hy
        have hrs := (blk_at (w.alloc (.cells x.cells 63)) 63 (RI.nil 0).cells (w.heap.size + 1) (by simp)).below h2 (by simp); obtain ⟨r0, r1⟩ := ri_cells hrs; have f0 := hrs.frozen 0; have f1 := hrs.frozen 1; have q6 := hrs.lt; have HRS := Lib.hid hrs; dsimp only [RI.nil] at r0 r1; have HB1 := Lib.hid (box2_below h2); have hBw := Nat.le_trans hB HB1.out.size; clear h2 hrs
        clear hy h1 h3
        go_wp2_with (first | (go_at_call 52; refine (refNum_any A2 _ c2 B l _ (H3.out.alloc hBw _) HRB.out HRL.out).mono ?_; rintro e w' ⟨rfl, rfl⟩) | fail)
        refine (refFail_any y 4 (by decide) B _ (by repeat (first | with_reducible exact HY1.out | with_reducible refine RIn.alloc ?_ (by first | omega | (simp; omega)) _ | with_reducible refine RIn.setC ?_ (by first | omega | (simp <;> omega)) _ | with_reducible refine RIn.drewN ?_ _ | with_reducible refine RIn.drew ?_)) (by simp; omega)).mono ?_
        rintro e w2 ⟨z, rfl, hz, h1, h2⟩
        have HZ := Lib.hid hz
        have HZ1 := Lib.hid h1
        have HB2 := Lib.hid (HB1.out.trans ((show Below w1.heap.size w1 w2 from ((Below.refl _ _).alloc (Nat.le_refl _) _).trans (h2.mono (by simp))).mono HB1.out.size))
        have hrs2 := HRS.out.below (show Below w1.heap.size w1 w2 from ((Below.refl _ _).alloc (Nat.le_refl _) _).trans (h2.mono (by simp))) HRS.out.lt
        clear r0 r1 f0 f1 q6 hz h1 h2 HB1
        obtain ⟨r0, r1⟩ := ri_cells hrs2
        have f0 := hrs2.frozen 0
        have f1 := hrs2.frozen 1
        have q6 := hrs2.lt
        dsimp only [RI.nil] at r0 r1
        have HB1 := HB2
        go_wp2
        refine bodyPost_ret (v := .tuple #[z.agg, .int .u64 0]) (by simp [results, Try.results39, go_sem, r0, r1, q6]) rfl ⟨z, rfl, HZ.out.trans (by rw [HYS.out]), ?_, ?_⟩
        · exact (HZ1.out.set2 (by omega) _ _)
        · repeat (first | with_reducible exact Below.refl _ _ | with_reducible exact HB1.out | with_reducible refine Below.setCell ?_ (by simp <;> omega) _ | with_reducible refine Below.alloc ?_ (by first | omega | (simp <;> omega)) _ | with_reducible refine below_drewN ?_ _ | with_reducible refine Below.drew ?_)
      · rw [if_neg hm]
        have hm' : ¬ (most : Int) < numB l := by omega
        go_enter Try.func39, Try.ntmps39
        go_wp2_with (fail)
        refine (R _ (by repeat (first | with_reducible exact HX.out | with_reducible refine RIn.alloc ?_ (by first | omega | (simp; omega)) _ | with_reducible refine RIn.drewN ?_ _ | with_reducible refine RIn.drew ?_)) (by simp; omega)).mono ?_
        rintro e w1 ⟨y, A2, c2, rfl, hy, h1, h3, h2⟩
        have HY1 := Lib.hid h1
        have H3 := Lib.hid h3
        have hye : (y.s.e != 0) = false := by rw [hy]; simp [he]
        have HYS := Lib.hid hy
        have hrs := (blk_at (w.alloc (.cells x.cells 63)) 63 (RI.nil 0).cells (w.heap.size + 1) (by simp)).below h2 (by simp); obtain ⟨r0, r1⟩ := ri_cells hrs; have f0 := hrs.frozen 0; have f1 := hrs.frozen 1; have q6 := hrs.lt; have HRS := Lib.hid hrs; dsimp only [RI.nil] at r0 r1; have HB1 := Lib.hid (box2_below h2); have hBw := Nat.le_trans hB HB1.out.size; clear h2 hrs
        clear hy h1 h3
        go_wp2_with (first | (go_at_call 52; refine (refNum_any A2 _ c2 B l _ (H3.out.alloc hBw _) HRB.out HRL.out).mono ?_; rintro e w' ⟨rfl, rfl⟩) | fail)
        have j01 := ri_cells (x := y) (Blk.new w1 63 y.cells)
        have hr3 : Blk (w1.alloc (.cells y.cells 63)) (w.heap.size + 1) 63 (RI.nil 0).cells := HRS.out.alloc _
        have hi3 : RIn (w1.alloc (.cells y.cells 63)) B y := HY1.out.alloc hBw _
        have hd3 : Reads (w1.alloc (.cells y.cells 63)) B 1 A2 l.length (l.map (Value.int .u8)) := H3.out.alloc hBw _
        have hb3 : Below w.heap.size w (w1.alloc (.cells y.cells 63)) := HB1.out.alloc HB1.out.size _
        have hg : w.heap.size + 1 < w1.heap.size := q6
        have hq3 : w1.heap.size < (w1.alloc (.cells y.cells 63)).heap.size := by simp
        unfold RI.cells at *
        generalize w1.alloc (.cells #[.slice y.A y.s.l.length y.cap, .int .i64 y.s.e] 63) = w3 at *
        clear r0 r1 f0 f1 HB1
        obtain ⟨j0, j1⟩ := j01
        have HRS3 : Hid (Blk w3 (w.heap.size + 1) 63 (RI.nil 0).cells) := Lib.hid hr3
        obtain ⟨r0, r1⟩ := ri_cells HRS3.out
        have f0 := HRS3.out.frozen 0
        have f1 := HRS3.out.frozen 1
        dsimp only [RI.nil] at r0 r1
        have HY3 := Lib.hid hi3
        have HR3 := Lib.hid hd3
        have HB1 := Lib.hid hb3
        clear hr3 hi3 hd3 hb3
        have n1 : (w1.heap.size = w.heap.size + 1) = False := by simp; omega
        have n2 : (w.heap.size + 1 = w1.heap.size) = False := by simp; omega
        go_region_held3 (fun w' => w'.cell? ⟨w1.heap.size, 0, none⟩ = some (.slice y.A y.s.l.length y.cap) ∧ w'.cell? ⟨w1.heap.size, 1, none⟩ = some (.int .i64 y.s.e)) (go_keep) (first
          | (go_at_call 52; refine (refNum_any A2 _ c2 B l _ ?_ HRB.out HRL.out).mono ?_; (· repeat (first | with_reducible refine Reads.drew ?_ | with_reducible refine Reads.setCell ?_ (by simp <;> omega) _ | with_reducible exact HR3.out)); rintro e w' ⟨rfl, rfl⟩)
          | fail)
        all_goals
          go_wp2
          refine bodyPost_ret (v := .tuple #[y.agg, .int .u64 (numB l)]) (by simp [results, Try.results39, go_sem, r0, r1, q6]) rfl ⟨y, rfl, HYS.out, ?_, ?_⟩
          · repeat (first | with_reducible exact HY3.out | with_reducible refine RIn.setC ?_ (by simp <;> omega) _ | with_reducible refine RIn.drew ?_)
          · repeat (first | with_reducible exact Below.refl _ _ | with_reducible exact HB1.out | with_reducible refine Below.setCell ?_ (by simp <;> omega) _ | with_reducible refine Below.alloc ?_ (by first | omega | (simp <;> omega)) _ | with_reducible refine below_drewN ?_ _ | with_reducible refine Below.drew ?_)
    · have he1 : ¬ s'.e = 0 := he
      rw [if_pos he]
      go_enter Try.func39, Try.ntmps39
      go_wp2_with (fail)
      refine (R _ (by repeat (first | with_reducible exact HX.out | with_reducible refine RIn.alloc ?_ (by first | omega | (simp; omega)) _ | with_reducible refine RIn.drewN ?_ _ | with_reducible refine RIn.drew ?_)) (by simp; omega)).mono ?_
      rintro e w1 ⟨y, A2, c2, rfl, hy, h1, h3, h2⟩
      have HY1 := Lib.hid h1
      have hye : (y.s.e != 0) = true := by rw [hy]; simp [he]
      have HYS := Lib.hid hy
      have hrs := (blk_at (w.alloc (.cells x.cells 63)) 63 (RI.nil 0).cells (w.heap.size + 1) (by simp)).below h2 (by simp); obtain ⟨r0, r1⟩ := ri_cells hrs; have f0 := hrs.frozen 0; have f1 := hrs.frozen 1; have q6 := hrs.lt; have HRS := Lib.hid hrs; dsimp only [RI.nil] at r0 r1; have HB1 := Lib.hid (box2_below h2); have hBw := Nat.le_trans hB HB1.out.size; clear h2 hrs
      clear hy h1 h3
      go_wp2
      refine bodyPost_ret (v := .tuple #[y.agg, .int .u64 0]) (by simp [results, Try.results39, go_sem, r0, r1, q6]) rfl ⟨y, rfl, HYS.out, ?_, ?_⟩
      · repeat (first | with_reducible exact HY1.out | with_reducible refine RIn.alloc ?_ (by first | omega | (simp; omega)) _ | with_reducible refine RIn.setC ?_ (by first | omega | (simp <;> omega)) _ | with_reducible refine RIn.drewN ?_ _ | with_reducible refine RIn.drew ?_)
      · repeat (first | with_reducible exact Below.refl _ _ | with_reducible exact HB1.out | with_reducible refine Below.setCell ?_ (by simp <;> omega) _ | with_reducible refine Below.alloc ?_ (by first | omega | (simp <;> omega)) _ | with_reducible refine below_drewN ?_ _ | with_reducible refine Below.drew ?_)
end Go.Proofs.Ytcmaekkfeilclaa
