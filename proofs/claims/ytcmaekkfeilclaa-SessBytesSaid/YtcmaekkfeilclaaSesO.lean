/- The walk of SessBytes. -/
import Derived.Test.YtcmaekkfeilclaaSesN
namespace Go.Proofs.Ytcmaekkfeilclaa
open Go.RowKit
set_option linter.unusedSimpArgs false
set_option linter.unusedVariables false
set_option maxHeartbeats 4000000
set_option maxRecDepth 100000
attribute [local go_sem] Rw.agg Rw.cells RI.agg RI.cells RI.nil


theorem IsRows.rd {w : World} {v : Value} {l : List Rw} (h : IsRows w v l) : ∃ A c, v = .slice A l.length c ∧ l.length ≤ c ∧ c ≤ maxLen ∧ Reads w w.heap.size 5 A l.length (l.flatMap Rw.vals) := h
theorem sessBytes_law (A : Option Addr) (len c : Nat) (rs : Nat → Rw) (A1 : Option Addr) (n1 c1 : Nat) (bs : List Int) (w : World) (hlen : len ≤ 9223372036854775807) (hwf : ∀ k, k < len → (rs k).wf) (hr : RdRows w w.heap.size A len rs)
    (hr1 : Reads w w.heap.size 1 A1 n1 (bs.map (Value.int .u8))) (hb1 : bytesB bs) (hn1 : n1 ≤ c1) (hc1 : c1 ≤ maxLen) :
    Calls Try.prog 6 #[.slice A len c, .slice A1 n1 c1] w fun e w' => e = .returned (.bool true) ∧ Below w.heap.size w w' := by
  have HR := Lib.hid hr
  have HW := Lib.hid hwf
  have HR1 := Lib.hid hr1
  have HBY := Lib.hid hb1
  have HC1 := Lib.hid (show c1 ≤ 9223372036854775807 from hc1)
  have HN1 := Lib.hid hn1
  clear hr hwf hr1 hb1 hc1 hn1
  go_enter Try.func6, Try.ntmps6
  go_wp2_with (fail)
  refine (sesNew_any _).mono ?_
  rintro e w1 ⟨rfl, ht, hb⟩
  have HB := Lib.hid hb
  have HT := Lib.hid ht
  clear hb ht
  go_wp2_with (fail)
  go_loopw [6, 7] (fun v i wr => ∃ (k : Nat) (R : Nat → Rw), k ≤ len ∧ k ≤ 40 ∧ i = .int .i64 k ∧ Hid (Below w.heap.size w wr) ∧ Hid (Tab wr w.heap.size R) ∧ Hid (Inv R) ∧ Hid (AllSm R) ∧ Hid (∀ i, (R i).n ≠ 0 → (R i).fine = true) ∧ Hid (IsRows wr v (seg R 0 6)) ∧ Hid (Above w.heap.size v)) (fun _ i _ => 40 - (intOf i).toNat)
  case atStart => exact ⟨0, _, by omega, by omega, rfl, HB, HT, Lib.hid Inv_zero, Lib.hid AllSm.zero, Lib.hid (fun _ h => absurd rfl h), Lib.hid ⟨none, 0, rfl, by simp [seg, Rw.zero], by decide, Reads.none_⟩, Lib.hid (fun k hk => by cases hk)⟩
  case round =>
    obtain ⟨k, R, hk1, hk2, rfl, h1, h2, hI, hS, hF, hV, hA⟩ := hrel
    by_cases hk : k < len ∧ k < 40
    · obtain ⟨hk, hk4⟩ := hk
      have hk' : (k : Int) < len := by omega
      obtain ⟨b, off, rfl, hlt, hcs⟩ := HR.out (by omega)
      have hc := Lib.hid (hcs k hk)
      have hsz := h1.out.size
      have hT := h2.out.lt
      have hw0 := (HW.out k hk).2.1.1
      have hwk := Lib.hid (HW.out k hk)
      have hseg := Lib.hid (setL_seg R hI.out (rs k) hw0)
      have HI' := Lib.hid (Inv_set R (rs k) hI.out)
      have HS' := Lib.hid (hS.out.set (rs k) hwk.out)
      have HF' := Lib.hid (fine_set hF.out (rs k))
      have hsl := seg_len R 0 6
      have hsl2 := seg_len (setT R (rs k)) 0 6
      clear hcs hw0
      generalize rs k = r at *
      obtain ⟨c0, c1, c2, c3, c4⟩ := hc.out.keep (w' := wr) (fun p hp => h1.out.cell (by omega))
      go_wp2_with (first | (go_at_call 11; refine (ours_any r _).mono ?_; rintro e w' ⟨rfl, rfl⟩) | fail)
      refine (set_any w.heap.size R r _ ((h2.out.alloc _).alloc _)).mono ?_
      rintro e w3 ⟨rfl, ht3, hg3⟩
      have hbw : Below wr.heap.size wr ((wr.alloc (.cells r.cells 31)).alloc (.cells r.cells 28)) := (by repeat (first | with_reducible exact Below.refl _ _ | with_reducible refine Below.setCell ?_ (by first | omega | (simp <;> omega)) _ | with_reducible refine Below.alloc ?_ (by first | omega | (simp <;> omega)) _ | with_reducible refine below_drewN ?_ _ | with_reducible refine Below.drew ?_))
      have HV3 := Lib.hid ((hV.out.below hbw).grown hg3 hA.out)
      have HB3 := Lib.hid (below_of h1.out hsz hg3 (Nat.le_refl _) hbw)
      have HT3 := Lib.hid ht3
      have s3 : wr.heap.size < w3.heap.size := by have := hg3.size; simp at this; omega
      clear hbw hg3 ht3 c0 c1 c2 c3 c4
      obtain ⟨c0, c1, c2, c3, c4⟩ := hc.out.keep (w' := w3) (fun p hp => HB3.out.cell (by omega))
      have hb3 : b < w3.heap.size := by omega
      go_wp2_with (fail)
      refine (refSet_any _ (seg R 0 6) r w3 (by omega) HV3.out).mono ?_
      rintro e w4 ⟨v4, rfl, hv4, hb4, ha4⟩
      have HA4 := Lib.hid (ha4 w.heap.size (by omega) hA.out)
      rw [hseg.out.1] at hv4
      have HV4 := Lib.hid hv4
      have HT4 := Lib.hid (HT3.out.below hb4 HT3.out.lt)
      have HB4 := Lib.hid (below_step HB3.out HB3.out.size hb4)
      obtain ⟨A4, n4, rfl, _, _, _⟩ := hv4
      clear hb4 ha4
      go_wp2_with (fail)
      go_roundw
      case rel => exact ⟨k + 1, setT R r, by omega, by omega, by go_num, HB4, HT4, HI', HS', HF', HV4, HA4⟩
      case measure => simp [intOf]; omega
    · clear HB HT
      have hx : ¬ k < len ∨ (k < len ∧ ¬ k < 40) := by omega
      rcases hx with hx | ⟨hx, hx4⟩
      all_goals (
        obtain ⟨A2, n2, rfl, l2, m2, hr2⟩ := hV.out
        have HR2 := Lib.hid hr2
        have hT := h2.out.lt
        have hsl := seg_len R 0 6
        have HSM := Lib.hid (hS.out.seg 0 6)
        have HFI := Lib.hid (seg_fine R hF.out 0 6)
        have HPW := Lib.hid (seg_sorted R hI.out 0 6)
        have hB := h1.out.size
        clear hr2 hk
        go_wp2_with (fail)
        refine (new_any 500 (by decide) _).mono ?_
        rintro e w1 ⟨rfl, o1, b1⟩
        rw [show atLeast0 500 = 500 from rfl] at o1
        have O1 := Lib.hid o1
        have B1 := Lib.hid b1
        clear o1 b1
        go_wp2_with (fail)
        refine (putT_any w.heap.size wr.heap.size R (.slice none 0 0) [] 500 w1 (h2.out.below B1.out hT) hT O1.out (by decide) (by decide) HSM.out).mono ?_
        rintro e w2 ⟨rfl, v2, o2, s2⟩
        have O2 := Lib.hid o2
        have B2 : Hid (Below wr.heap.size wr w2) := Lib.hid (B1.out.trans (s2.2.below B1.out.size (fun g hg e => by
          rcases e with e | e
          · omega
          · cases e)))
        have HRB := read_back (seg R 0 6) HPW.out HFI.out HSM.out (by omega)
        obtain ⟨l, hl⟩ : ∃ l, l = seg R 0 6 := ⟨_, rfl⟩
        have HLB := Lib.hid (rowsB_len l)
        rw [← hl] at HRB HR2 HSM l2 hsl O2 ⊢
        have HRB' := Lib.hid HRB
        have HBB := Lib.hid (rowsB_bytes l)
        clear hl HPW HFI o2 s2 O1 B1 h2 hI hS hF hA HRB
        go_wp2_with (fail)
        refine (done_any wr.heap.size v2 _ w2 O2.out (by simp only [List.nil_append]; rw [HLB.out]; omega)).mono ?_
        rintro e w3 ⟨u3, rfl, ho3, b3⟩
        simp only [if_true, List.nil_append] at ho3 ⊢
        rw [HLB.out] at ho3
        obtain ⟨A3, c3, rfl, hr3, l3, m3⟩ := own_slice ho3
        have B3 := Lib.hid (B2.out.trans (b3.mono B2.out.size))
        have HR3 := Lib.hid hr3
        clear ho3 b3 hr3 B2
        go_wp2_with (fail)
        refine (refBytes_any A2 l.length n2 wr.heap.size l w3 B3.out.size (HR2.out.below B3.out) (by omega) HSM.out).mono ?_
        rintro e w4 ⟨u4, rfl, ho4, b4⟩
        obtain ⟨A4, c4, rfl, hr4, l4, m4⟩ := own_slice ho4
        have B4 := Lib.hid (B3.out.trans (b4.mono B3.out.size))
        have HR4 := Lib.hid hr4
        have HR3' := Lib.hid ((HR3.out.below b4).more b4.size)
        clear ho4 b4 hr4 B3 HR3
        go_wp2_with (fail)
        refine (same_any A3 A4 (1 + l.length * 26) (1 + l.length * 26) c3 c4 _ _ (rowsB l) (rowsB l) w4 (Nat.le_refl _) (Nat.le_refl _) HR3'.out HR4.out (by omega)).mono ?_
        rintro e w5 ⟨rfl, b5⟩
        rw [decide_eq_true (rfl : rowsB l = rowsB l)]
        have B5 := Lib.hid (B4.out.trans (b5.mono B4.out.size))
        have HR5 := Lib.hid ((HR3'.out.below b5).more b5.size)
        clear b5 B4 HR3' HR4
        go_wp2_with (fail)
        refine (of_any A3 (1 + l.length * 26) c3 _ (rowsB l) w5 (Nat.le_refl _) HR5.out HBB.out (by omega)).mono ?_
        rintro e w6 ⟨g6, rfl, hg6, i6, b6⟩
        have B6 := Lib.hid (B5.out.trans (b6.mono B5.out.size))
        have I6 := Lib.hid i6
        have hs5 := B5.out.size
        clear i6 b6 B5 HR5
        go_wp2_with (fail)
        refine (readT_u g6 _ _ w6 I6.out).mono ?_
        rintro e w7 ⟨u7, rfl, hu7, _, c7⟩
        rw [HRB'.out.1]
        rw [HRB'.out.2.1] at hu7
        have B7 := Lib.hid (B6.out.trans (c7.below B6.out.size (fun g hg e => by unfold isG at e; omega)))
        have U7 := Lib.hid hu7
        clear hu7 c7 B6 I6 HRB'
        go_wp2_with (fail)
        refine (U7.out _ (Below.refl _ _)).mono ?_
        rintro e w8 ⟨A8, c8, rfl, hr8, b8⟩
        have B8 := Lib.hid (B7.out.trans (b8.mono B7.out.size))
        have HR8 := Lib.hid hr8
        clear hr8 b8 B7 U7
        go_wp2_with (fail)
        refine (like_any A8 A2 _ c8 n2 _ wr.heap.size l w8 (by omega) (Nat.le_refl _) B8.out.size HR8.out (HR2.out.below B8.out)).mono ?_
        rintro e w9 ⟨rfl, b9⟩
        have B9 := Lib.hid (h1.out.trans ((B8.out.trans (b9.mono B8.out.size)).mono hB))
        clear b9 B8 HR8
        have hbl : (bs.take (cutN n1 300)).length = cutN n1 300 := by
          have := HR1.out.1
          simp at this
          rw [List.length_take]
          have h300 : cutN n1 300 ≤ n1 := by unfold cutN; split <;> omega
          omega
        have h300 : cutN n1 300 ≤ n1 ∧ cutN n1 300 ≤ 300 := by unfold cutN; split <;> omega
        have hrb := HR1.out.take (k := cutN n1 300) (by omega)
        rw [← List.map_take] at hrb
        have hbb : bytesB (bs.take (cutN n1 300)) := fun z hz => HBY.out z (List.mem_of_mem_take hz)
        obtain ⟨m, hm⟩ : ∃ m, m = cutN n1 300 := ⟨_, rfl⟩
        go_wp2_with (first | (go_at_call 27; refine (cut_any A1 n1 c1 300 HN1.out HC1.out _).mono ?_; rintro e w' ⟨rfl, rfl⟩) | fail)
        rw [← hm] at hbl hrb hbb h300 ⊢
        obtain ⟨bb, hb0⟩ : ∃ bb, bb = bs.take m := ⟨_, rfl⟩
        rw [← hb0] at hbl hrb hbb
        clear hm hb0
        subst hbl
        have HRb := Lib.hid hrb
        have HBb := Lib.hid hbb
        clear hrb hbb
        have HR9 := Lib.hid (HRb.out.below B9.out)
        have hs9 := B9.out.size
        refine (of_any A1 _ c1 w.heap.size bb w9 hs9 HR9.out HBb.out (by omega)).mono ?_
        rintro e w10 ⟨g10, rfl, hg10, i10, b10⟩
        have B10 := Lib.hid (B9.out.trans (b10.mono hs9))
        have I10 := Lib.hid i10
        have hs10 := b10.size
        clear i10 b10 B9
        go_wp2_with (fail)
        refine (readT_u g10 _ _ w10 I10.out).mono ?_
        rintro e w11 ⟨u11, rfl, hu11, hi11, c11⟩
        have B11 := Lib.hid (B10.out.trans (c11.below B10.out.size (fun g hg e => by unfold isG at e; omega)))
        have U11 := Lib.hid hu11
        have I11 := Lib.hid hi11
        have HX : Hid (RIn w11 w.heap.size ⟨A1, c1, ⟨bb, 0⟩⟩) := Lib.hid ⟨HRb.out.below B11.out, Nat.le_trans h300.1 HN1.out, HC1.out, HBb.out, fun h => absurd rfl h⟩
        have hs11 := B11.out.size
        clear hu11 hi11 c11 B10 I10
        go_wp2_with (fail)
        refine (refReadT_any ⟨A1, c1, ⟨bb, 0⟩⟩ w.heap.size w11 HX.out hs11).mono ?_
        rintro e w12 ⟨⟨yA, yc, ys⟩, A12, c12, rfl, hy, hx12, hr12, b12⟩
        simp only at hy
        have HL6 := Lib.hid (readL_len ⟨bb, 0⟩)
        obtain ⟨rl, hrl⟩ : ∃ rl, rl = readL ⟨bb, 0⟩ := ⟨_, rfl⟩
        obtain ⟨re, hre⟩ : ∃ re, re = readE ⟨bb, 0⟩ := ⟨_, rfl⟩
        rw [← hy] at I11
        rw [← hrl] at HL6 hr12 U11 ⊢
        rw [← hre]
        have B12 := Lib.hid (B11.out.trans (b12.mono hs11))
        have HR12 := Lib.hid hr12
        have I12 := Lib.hid (I11.out.below (b12.mono I11.out.le))
        have U12 := Lib.hid (U11.out.below b12)
        have hs12 := B12.out.size
        clear hr12 b12 hx12 hrl hre hy B11 I11 U11 HX HRb HBb
        go_wp2_with (fail)
        refine (readNil _).mono ?_
        rintro e w13 ⟨rfl, b13⟩
        have d13 := (Blk.new w12 63 (RI.cells ⟨yA, yc, ys⟩)).below b13 (by simp)
        obtain ⟨x0, x1⟩ := ri_cells d13
        have b13' : Below w12.heap.size w12 w13 := ((Below.refl _ _).alloc (Nat.le_refl _) _).trans (b13.mono (by simp))
        have lt13 := d13.lt
        have B13 := Lib.hid (B12.out.trans (b13'.mono hs12))
        have HR13 := Lib.hid ((HR12.out.below b13').more b13'.size)
        have I13 := Lib.hid (I12.out.below (b13'.mono I12.out.le))
        have U13 := Lib.hid (U12.out.below b13')
        have hs13 := B13.out.size
        simp only [] at x0 x1
        clear d13 b13 b13' B12 HR12 I12 U12
        have hb : Below w13.heap.size w13 w13 := Below.refl _ _
        have X0 := Lib.hid x0
        have hsz : w13.heap.size ≤ w13.heap.size := Nat.le_refl _
        have hL6 : rl.length ≤ 6 := HL6.out
        go_wp2_with (fail)
        go_region_held3 (fun w' => w'.cell? ⟨w12.heap.size, 0, none⟩ = some (.slice yA ys.l.length yc)) (go_keep) (first
          | (go_at_call 18; refine (U13.out _ ?_).mono ?_; (· repeat (first | with_reducible exact hb | with_reducible refine Below.alloc ?_ (by first | omega | (simp <;> omega)) _ | with_reducible refine below_drewN ?_ _ | with_reducible refine Below.drew ?_)); rintro e w6 ⟨A9, c9, rfl, hr9, hb6⟩; have RA := Lib.hid hr9; clear hr9; replace hb := relay (w := w13) hb6 (by repeat (first | with_reducible exact hb | with_reducible refine Below.alloc ?_ (by first | omega | (simp <;> omega)) _ | with_reducible refine below_drewN ?_ _ | with_reducible refine Below.drew ?_)); replace x0 := (hb.cell (p := ⟨w12.heap.size, 0, none⟩) lt13).trans X0.out; replace hsz := hb.size; clear hb6)
          | (go_at_call 17; refine (like_any A9 A12 _ c9 c12 _ w13.heap.size rl _ (by omega) (Nat.le_refl _) ?_ RA.out ?_).mono ?_; (· first | omega | (simp; omega)); (· refine HR13.out.below ?_; repeat (first | with_reducible exact hb | with_reducible refine Below.alloc ?_ (by first | omega | (simp <;> omega)) _ | with_reducible refine below_drewN ?_ _ | with_reducible refine Below.drew ?_)); rintro e w6 ⟨rfl, hb6⟩; replace hb := relay (w := w13) hb6 (by repeat (first | with_reducible exact hb | with_reducible refine Below.alloc ?_ (by first | omega | (simp <;> omega)) _ | with_reducible refine below_drewN ?_ _ | with_reducible refine Below.drew ?_)); replace x0 := (hb.cell (p := ⟨w12.heap.size, 0, none⟩) lt13).trans X0.out; replace hsz := hb.size; clear hb6)
          | (go_at_call 29; refine (left_any g10 ys w10.heap.size _ ?_).mono ?_; (· refine I13.out.below (Below.mono ?_ I13.out.le); repeat (first | with_reducible exact hb | with_reducible refine Below.alloc ?_ (by first | omega | (simp <;> omega)) _ | with_reducible refine below_drewN ?_ _ | with_reducible refine Below.drew ?_)); rintro e w' ⟨rfl, rfl⟩)
          | (go_at_call 13; refine (sesAwake_any _).mono ?_; rintro e w6 ⟨rfl, hb6⟩; replace hb := relay (w := w13) hb6 (by repeat (first | with_reducible exact hb | with_reducible refine Below.alloc ?_ (by first | omega | (simp <;> omega)) _ | with_reducible refine below_drewN ?_ _ | with_reducible refine Below.drew ?_)); replace x0 := (hb.cell (p := ⟨w12.heap.size, 0, none⟩) lt13).trans X0.out; replace hsz := hb.size; clear hb6))
        go_wp2_with (fail)
        go_ret
        exact ⟨rfl, B13.out.trans (Below.mono (by repeat (first | with_reducible exact hb | with_reducible refine Below.alloc ?_ (by first | omega | (simp <;> omega)) _ | with_reducible refine below_drewN ?_ _ | with_reducible refine Below.drew ?_)) hs13)⟩)
end Go.Proofs.Ytcmaekkfeilclaa
