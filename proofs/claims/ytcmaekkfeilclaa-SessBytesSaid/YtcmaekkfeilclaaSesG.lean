/- The walk of SessPlays. -/
import Derived.Test.YtcmaekkfeilclaaSesF
namespace Go.Proofs.Ytcmaekkfeilclaa
open Go.RowKit
set_option linter.unusedSimpArgs false
set_option linter.unusedVariables false
set_option maxHeartbeats 2000000
set_option maxRecDepth 100000
attribute [local go_sem] Rw.agg Rw.cells


theorem setL_seg (R : Nat → Rw) (h : Inv R) (r : Rw) (hn : 0 ≤ r.n) : setL (seg R 0 6) r = seg (setT R r) 0 6 ∧ setLE (seg R 0 6) r = setE R r := by
  have hj := judge_seg R h r.c r.n hn
  unfold setL setLE setE
  rw [hj]
  refine ⟨?_, rfl⟩
  by_cases hc : r.fine = true ∧ judgeV R r.c r.n = 0
  · rw [if_pos hc, put_seg R h r hc.1 hc.2]
  · rw [if_neg hc, setT, if_neg hc]

theorem Tab.setCell_far {w : World} {g : Nat} {R : Nat → Rw} (h : Tab w g R) {p : Addr} (hp : g ≠ p.block) (u : Value) : Tab (w.setCell p u) g R := by
  obtain ⟨cs, h1, h2⟩ := h; exact ⟨cs, h1.far hp u, h2⟩
theorem Tab.relay {w W w' : World} {g : Nat} {R : Nat → Rw} (h : Tab w g R) (hg : g < w.heap.size) (h' : Below W.heap.size W w') (hb : Below w.heap.size w W) : Tab w' g R :=
  h.below (hb.trans (h'.mono hb.size)) hg
theorem all_reads (g : Nat) (R : Nat → Rw) (w : World) (h : Tab w g R) :
    Calls Try.prog 18 #[.pointer (some ⟨g, 0, none⟩)] w fun e w' => ∃ A c, e = .returned (.slice A (seg R 0 6).length c) ∧ Reads w' w'.heap.size 5 A (seg R 0 6).length ((seg R 0 6).flatMap Rw.vals) ∧ Below w.heap.size w w' :=
  (all_any g R w h).mono fun e w' ⟨v, he, hv⟩ => by
    obtain ⟨A, c, hs, hr, _, _⟩ := own_slice hv.own
    exact ⟨A, c, by rw [he, hs], hr, hv.2.1⟩




theorem sesRefGet_below (A : Option Addr) (n c B : Nat) (l : List Rw) (who : Int) (w : World) (hn : n ≤ 9223372036854775807) (hB : B ≤ w.heap.size) (h : Reads w B 5 A n (l.flatMap Rw.vals)) :
    Calls Try.prog 15 #[.slice A n c, .int .i64 who] w fun e w' => e = .returned (.tuple #[(findR l who).agg, .bool (findB l who)]) ∧ Below w.heap.size w w' :=
  (sesRefGet_any A n c B l who w hn hB h).mono fun e w' hh => ⟨hh.1, by rw [← hh.2]; exact (Below.refl _ _).alloc (Nat.le_refl _) _⟩

theorem sessPlays_law (A : Option Addr) (len c : Nat) (rs : Nat → Rw) (who num : Int) (w : World) (hlen : len ≤ 9223372036854775807) (hnum : 0 ≤ num) (hwf : ∀ k, k < len → (rs k).wf) (hr : RdRows w w.heap.size A len rs) :
    Calls Try.prog 4 #[.slice A len c, .int .i64 who, .int .u64 num] w fun e w' => e = .returned (.bool true) ∧ Below w.heap.size w w' := by
  have HR := Lib.hid hr
  have HW := Lib.hid hwf
  clear hr hwf
  go_enter Try.func4, Try.ntmps4
  go_wp2_with (fail)
  refine (sesNew_any _).mono ?_
  rintro e w1 ⟨rfl, ht, hb⟩
  have HB := Lib.hid hb
  have HT := Lib.hid ht
  clear hb ht
  go_wp2_with (fail)
  go_loopw [8, 9] (fun v i wr => ∃ (k : Nat) (R : Nat → Rw), k ≤ len ∧ k ≤ 40 ∧ i = .int .i64 k ∧ Hid (Below w.heap.size w wr) ∧ Hid (Tab wr w.heap.size R) ∧ Hid (Inv R) ∧ Hid (IsRows wr v (seg R 0 6)) ∧ Hid (Above w.heap.size v)) (fun _ i _ => 40 - (intOf i).toNat)
  case atStart => exact ⟨0, _, by omega, by omega, rfl, HB, HT, Lib.hid Inv_zero, Lib.hid ⟨none, 0, rfl, by simp [seg, Rw.zero], by decide, Reads.none_⟩, Lib.hid (fun k hk => by cases hk)⟩
  case round =>
    obtain ⟨k, R, hk1, hk2, rfl, h1, h2, hI, hV, hA⟩ := hrel
    by_cases hk : k < len
    · by_cases hk4 : k < 40
      · have hk' : (k : Int) < len := by omega
        obtain ⟨b, off, rfl, hlt, hcs⟩ := HR.out (by omega)
        have hc := hcs k hk
        have hsz := h1.out.size
        have hT := h2.out.lt
        have hw0 := (HW.out k hk).2.1.1
        have hseg := setL_seg R hI.out (rs k) hw0
        have hE := hseg.2
        have hseg1 := hseg.1
        have HI' := Lib.hid (Inv_set R (rs k) hI.out)
        have hsl := seg_len R 0 6
        have hsl2 := seg_len (setT R (rs k)) 0 6
        clear hcs hseg
        generalize rs k = r at *
        obtain ⟨c0, c1, c2, c3, c4⟩ := hc.keep (w' := wr) (fun p hp => h1.out.cell (by omega))
        go_wp2_with (fail)
        refine (refSet_any _ (seg R 0 6) r wr (by omega) hV.out).mono ?_
        rintro e w2 ⟨v2, rfl, hv2, hb2, ha2⟩
        have HA2 := Lib.hid (ha2 w.heap.size hT hA.out)
        rw [hseg1] at hv2
        obtain ⟨A2, n2, rfl, l1, l2, hr2⟩ := hv2
        have R2 := Lib.hid hr2
        have HB2 := Lib.hid (below_step h1.out hsz hb2)
        have HT2 := Lib.hid (h2.out.below hb2 hT)
        have s2 := hb2.size
        have s3 : w.heap.size < w2.heap.size := by omega
        have s4 : b < w2.heap.size := by omega
        clear hr2 hb2 ha2 hseg1 c0 c1 c2 c3 c4
        obtain ⟨c0, c1, c2, c3, c4⟩ := hc.keep (w' := w2) (fun p hp => HB2.out.cell (by omega))
        go_wp2_with (first | (go_at_call 8; refine (sesGet_any _ R _ _ HT2.out).mono ?_; rintro e w' ⟨rfl, rfl⟩) | (go_at_call 11; refine (ours_any r _).mono ?_; rintro e w' ⟨rfl, rfl⟩) | fail)
        refine (set_any w.heap.size R r _ ((((HT2.out.alloc _).alloc _).alloc _).alloc _)).mono ?_
        rintro e w3 ⟨rfl, ht3, hg3⟩
        have hkey := key_of (wr := w2) hg3 (by repeat (first | with_reducible exact Below.refl _ _ | with_reducible refine Below.alloc ?_ (by simp <;> omega) _ | with_reducible refine below_drewN ?_ _ | with_reducible refine Below.drew ?_))
        have q0 := hg3.cell (a := ⟨w2.heap.size + 1, 0, none⟩) (v := .int .i64 (getR R who).c) (by go_simp) (by simp; omega)
        have q1 := hg3.cell (a := ⟨w2.heap.size + 1, 1, none⟩) (v := .int .u64 (getR R who).n) (by go_simp) (by simp; omega)
        have q2 := hg3.cell (a := ⟨w2.heap.size + 1, 2, none⟩) (v := .int .u64 (getR R who).s) (by go_simp) (by simp; omega)
        have q3 := hg3.cell (a := ⟨w2.heap.size + 1, 3, none⟩) (v := .int .i64 (getR R who).k) (by go_simp) (by simp; omega)
        have q4 := hg3.cell (a := ⟨w2.heap.size + 1, 4, none⟩) (v := .int .u64 (getR R who).v) (by go_simp) (by simp; omega)
        have z0 := frozen_far hg3 (p := ⟨w2.heap.size + 1, 0, none⟩) (by simp) (by show w2.heap.size + 1 ≠ _; omega) (by go_simp)
        have z1 := frozen_far hg3 (p := ⟨w2.heap.size + 1, 1, none⟩) (by simp) (by show w2.heap.size + 1 ≠ _; omega) (by go_simp)
        have z2 := frozen_far hg3 (p := ⟨w2.heap.size + 1, 2, none⟩) (by simp) (by show w2.heap.size + 1 ≠ _; omega) (by go_simp)
        have z3 := frozen_far hg3 (p := ⟨w2.heap.size + 1, 3, none⟩) (by simp) (by show w2.heap.size + 1 ≠ _; omega) (by go_simp)
        have z4 := frozen_far hg3 (p := ⟨w2.heap.size + 1, 4, none⟩) (by simp) (by show w2.heap.size + 1 ≠ _; omega) (by go_simp)
        have d0 := (hkey ⟨b, off + k * 5, none⟩ s4 (by show b ≠ w.heap.size; omega)).trans c0
        have R3 := Lib.hid (reads_far (R2.out.below (show Below w2.heap.size w2 _ from (by repeat (first | with_reducible exact Below.refl _ _ | with_reducible refine Below.alloc ?_ (by simp <;> omega) _ | with_reducible refine below_drewN ?_ _ | with_reducible refine Below.drew ?_)))) (by simp <;> omega) hg3 (fun ad had => by subst had; have := HA2.out ad.block rfl; omega))
        have HB3 := Lib.hid (below_of HB2.out (by omega) hg3 (Nat.le_refl _) (by repeat (first | with_reducible exact Below.refl _ _ | with_reducible refine Below.alloc ?_ (by simp <;> omega) _ | with_reducible refine below_drewN ?_ _ | with_reducible refine Below.drew ?_)))
        have u1 := hg3.size
        simp at u1
        have u2 : w2.heap.size + 1 < w3.heap.size := by omega
        have u3 : b < w3.heap.size := by omega
        have u4 : w.heap.size < w3.heap.size := by omega
        have u5 : w2.heap.size < w3.heap.size := by omega
        have HT3 := Lib.hid ht3
        clear u1 hkey hg3 ht3 c0 c1 c2 c3 c4
        go_wp2_with (first | (go_at_call 8; refine (sesGet_any _ _ _ _ HT3.out).mono ?_; rintro e w' ⟨rfl, rfl⟩) | fail)
        refine (sesRefGet_below A2 _ n2 w2.heap.size (seg (setT R r) 0 6) _ _ (by omega) (by simp <;> omega) (by repeat (first | with_reducible refine Reads.alloc ?_ (by simp <;> omega) _ | with_reducible refine Reads.setCell ?_ (by simp) _ | with_reducible refine Reads.drew ?_ | with_reducible refine Reads.drewN ?_ _ | with_reducible exact R3.out))).mono ?_
        rintro e w4 ⟨rfl, hb4⟩
        have hf := find_seg (setT R r) HI'.out r.c
        rw [hf.1, hf.2]
        clear hf
        have x0 := (hb4.cell (p := ⟨w2.heap.size + 1, 0, none⟩) (by simp <;> omega)).trans (show _ = some (.int .i64 (getR (setT R r) r.c).c) by go_simp)
        have x1 := (hb4.cell (p := ⟨w2.heap.size + 1, 1, none⟩) (by simp <;> omega)).trans (show _ = some (.int .u64 (getR (setT R r) r.c).n) by go_simp)
        have x2 := (hb4.cell (p := ⟨w2.heap.size + 1, 2, none⟩) (by simp <;> omega)).trans (show _ = some (.int .u64 (getR (setT R r) r.c).s) by go_simp)
        have x3 := (hb4.cell (p := ⟨w2.heap.size + 1, 3, none⟩) (by simp <;> omega)).trans (show _ = some (.int .i64 (getR (setT R r) r.c).k) by go_simp)
        have x4 := (hb4.cell (p := ⟨w2.heap.size + 1, 4, none⟩) (by simp <;> omega)).trans (show _ = some (.int .u64 (getR (setT R r) r.c).v) by go_simp)
        have e0 := (hb4.cell (p := ⟨b, off + k * 5, none⟩) (by simp <;> omega)).trans (show _ = some (.int .i64 r.c) by go_simp)
        have HT4 : Hid (Tab w4 w.heap.size (setT R r)) := Lib.hid (Tab.below (by repeat (first | with_reducible refine Tab.alloc ?_ _ | with_reducible refine Tab.setCell_far ?_ (by simp <;> omega) _ | with_reducible exact HT3.out)) hb4 (by simp <;> omega))
        have R4 := Lib.hid (Reads.below (show Reads _ w2.heap.size 5 A2 (seg (setT R r) 0 6).length ((seg (setT R r) 0 6).flatMap Rw.vals) from (by repeat (first | with_reducible refine Reads.alloc ?_ (by simp <;> omega) _ | with_reducible refine Reads.setCell ?_ (by simp) _ | with_reducible refine Reads.drew ?_ | with_reducible refine Reads.drewN ?_ _ | with_reducible exact R3.out))) (hb4.mono (by simp <;> omega)))
        have B4 : Hid (Below w.heap.size w w4) := Lib.hid (Below.trans (by repeat (first | with_reducible refine Below.alloc ?_ (by simp <;> omega) _ | with_reducible refine Below.setCell ?_ (by simp <;> omega) _ | with_reducible exact HB3.out)) (hb4.mono (by simp <;> omega)))
        have v1 := hb4.size
        simp at v1
        have v2 : w2.heap.size + 1 < w4.heap.size := by omega
        have v3 : b < w4.heap.size := by omega
        have v4 : w.heap.size < w4.heap.size := by omega
        have v5 : w2.heap.size < w4.heap.size := by omega
        clear v1 hb4 q0 q1 q2 q3 q4 z0 z1 z2 z3 z4 d0
        have J1 := judge_seg (setT R r) HI'.out who num hnum
        have J2 := judge_seg (setT R r) HI'.out r.c num hnum
        go_wp2_with (fail)
        have hbY : Below w4.heap.size w4 (w4.alloc (.cells (getR (setT R r) r.c).cells 31)) := (by repeat (first | with_reducible exact Below.refl _ _ | with_reducible refine Below.alloc ?_ (by simp <;> omega) _ | with_reducible refine below_drewN ?_ _ | with_reducible refine Below.drew ?_))
        have hY := Blk.new w4 31 (getR (setT R r) r.c).cells
        replace x0 := (hbY.cell (p := ⟨w2.heap.size + 1, 0, none⟩) v2).trans x0
        replace x1 := (hbY.cell (p := ⟨w2.heap.size + 1, 1, none⟩) v2).trans x1
        replace x2 := (hbY.cell (p := ⟨w2.heap.size + 1, 2, none⟩) v2).trans x2
        replace x3 := (hbY.cell (p := ⟨w2.heap.size + 1, 3, none⟩) v2).trans x3
        replace x4 := (hbY.cell (p := ⟨w2.heap.size + 1, 4, none⟩) v2).trans x4
        replace e0 := (hbY.cell (p := ⟨b, off + k * 5, none⟩) v3).trans e0
        replace HT4 := Lib.hid (HT4.out.below hbY v4)
        replace R4 := Lib.hid (R4.out.below (hbY.mono (by omega)))
        replace B4 := Lib.hid (B4.out.trans (hbY.mono (by omega)))
        have y0 := (hY.cell 0).trans (show _ = some (.int .i64 (getR (setT R r) r.c).c) from rfl)
        have y1 := (hY.cell 1).trans (show _ = some (.int .u64 (getR (setT R r) r.c).n) from rfl)
        have y2 := (hY.cell 2).trans (show _ = some (.int .u64 (getR (setT R r) r.c).s) from rfl)
        have y3 := (hY.cell 3).trans (show _ = some (.int .i64 (getR (setT R r) r.c).k) from rfl)
        have y4 := (hY.cell 4).trans (show _ = some (.int .u64 (getR (setT R r) r.c).v) from rfl)
        have v6 := hY.lt
        have v7 := hbY.size
        replace v2 : w2.heap.size + 1 < (w4.alloc (.cells (getR (setT R r) r.c).cells 31)).heap.size := by omega
        replace v3 : b < (w4.alloc (.cells (getR (setT R r) r.c).cells 31)).heap.size := by omega
        replace v4 : w.heap.size < (w4.alloc (.cells (getR (setT R r) r.c).cells 31)).heap.size := by omega
        replace v5 : w2.heap.size < (w4.alloc (.cells (getR (setT R r) r.c).cells 31)).heap.size := by omega
        clear hY hbY v7
        unfold Rw.cells at *
        generalize w4.alloc (.cells #[.int .i64 (getR (setT R r) r.c).c, .int .u64 (getR (setT R r) r.c).n, .int .u64 (getR (setT R r) r.c).s, .int .i64 (getR (setT R r) r.c).k, .int .u64 (getR (setT R r) r.c).v] 31) = w5 at *
        go_region_held3 (fun w' => w'.cell? ⟨w2.heap.size + 1, 0, none⟩ = some (.int .i64 (getR (setT R r) r.c).c) ∧ w'.cell? ⟨w2.heap.size + 1, 1, none⟩ = some (.int .u64 (getR (setT R r) r.c).n) ∧ w'.cell? ⟨w2.heap.size + 1, 2, none⟩ = some (.int .u64 (getR (setT R r) r.c).s) ∧ w'.cell? ⟨w2.heap.size + 1, 3, none⟩ = some (.int .i64 (getR (setT R r) r.c).k) ∧ w'.cell? ⟨w2.heap.size + 1, 4, none⟩ = some (.int .u64 (getR (setT R r) r.c).v) ∧ w'.cell? ⟨w4.heap.size, 0, none⟩ = some (.int .i64 (getR (setT R r) r.c).c) ∧ w'.cell? ⟨w4.heap.size, 1, none⟩ = some (.int .u64 (getR (setT R r) r.c).n) ∧ w'.cell? ⟨w4.heap.size, 2, none⟩ = some (.int .u64 (getR (setT R r) r.c).s) ∧ w'.cell? ⟨w4.heap.size, 3, none⟩ = some (.int .i64 (getR (setT R r) r.c).k) ∧ w'.cell? ⟨w4.heap.size, 4, none⟩ = some (.int .u64 (getR (setT R r) r.c).v) ∧ w'.cell? ⟨b, off + k * 5, none⟩ = some (.int .i64 r.c)) (go_keep) (first
          | (go_at_call 11; refine (ours_any (getR (setT R r) r.c) _).mono ?_; rintro e w' ⟨rfl, rfl⟩)
          | (go_at_call 9; refine (judge_any w.heap.size (setT R r) _ _ _ ?_).mono ?_; (· repeat (first | with_reducible refine Tab.alloc ?_ _ | with_reducible refine Tab.drew ?_ | with_reducible refine Tab.drewN ?_ _ | with_reducible exact HT4.out)); rintro e w' ⟨rfl, rfl⟩)
          | (go_at_call 16; refine (len_any w.heap.size (setT R r) _ ?_).mono ?_; (· repeat (first | with_reducible refine Tab.alloc ?_ _ | with_reducible refine Tab.drew ?_ | with_reducible refine Tab.drewN ?_ _ | with_reducible exact HT4.out)); rintro e w6 ⟨rfl, hb5⟩; replace y0 := cell_relay y0 v6 hb5 (by repeat (first | with_reducible exact Below.refl _ _ | with_reducible refine Below.alloc ?_ (by simp <;> omega) _ | with_reducible refine below_drewN ?_ _ | with_reducible refine Below.drew ?_)); replace y1 := cell_relay y1 v6 hb5 (by repeat (first | with_reducible exact Below.refl _ _ | with_reducible refine Below.alloc ?_ (by simp <;> omega) _ | with_reducible refine below_drewN ?_ _ | with_reducible refine Below.drew ?_)); replace y2 := cell_relay y2 v6 hb5 (by repeat (first | with_reducible exact Below.refl _ _ | with_reducible refine Below.alloc ?_ (by simp <;> omega) _ | with_reducible refine below_drewN ?_ _ | with_reducible refine Below.drew ?_)); replace y3 := cell_relay y3 v6 hb5 (by repeat (first | with_reducible exact Below.refl _ _ | with_reducible refine Below.alloc ?_ (by simp <;> omega) _ | with_reducible refine below_drewN ?_ _ | with_reducible refine Below.drew ?_)); replace y4 := cell_relay y4 v6 hb5 (by repeat (first | with_reducible exact Below.refl _ _ | with_reducible refine Below.alloc ?_ (by simp <;> omega) _ | with_reducible refine below_drewN ?_ _ | with_reducible refine Below.drew ?_)); replace x0 := cell_relay x0 v2 hb5 (by repeat (first | with_reducible exact Below.refl _ _ | with_reducible refine Below.alloc ?_ (by simp <;> omega) _ | with_reducible refine below_drewN ?_ _ | with_reducible refine Below.drew ?_)); replace x1 := cell_relay x1 v2 hb5 (by repeat (first | with_reducible exact Below.refl _ _ | with_reducible refine Below.alloc ?_ (by simp <;> omega) _ | with_reducible refine below_drewN ?_ _ | with_reducible refine Below.drew ?_)); replace x2 := cell_relay x2 v2 hb5 (by repeat (first | with_reducible exact Below.refl _ _ | with_reducible refine Below.alloc ?_ (by simp <;> omega) _ | with_reducible refine below_drewN ?_ _ | with_reducible refine Below.drew ?_)); replace x3 := cell_relay x3 v2 hb5 (by repeat (first | with_reducible exact Below.refl _ _ | with_reducible refine Below.alloc ?_ (by simp <;> omega) _ | with_reducible refine below_drewN ?_ _ | with_reducible refine Below.drew ?_)); replace x4 := cell_relay x4 v2 hb5 (by repeat (first | with_reducible exact Below.refl _ _ | with_reducible refine Below.alloc ?_ (by simp <;> omega) _ | with_reducible refine below_drewN ?_ _ | with_reducible refine Below.drew ?_)); replace e0 := cell_relay e0 v3 hb5 (by repeat (first | with_reducible exact Below.refl _ _ | with_reducible refine Below.alloc ?_ (by simp <;> omega) _ | with_reducible refine below_drewN ?_ _ | with_reducible refine Below.drew ?_)); replace HT4 := Lib.hid (Tab.relay HT4.out v4 hb5 (by repeat (first | with_reducible exact Below.refl _ _ | with_reducible refine Below.alloc ?_ (by simp <;> omega) _ | with_reducible refine below_drewN ?_ _ | with_reducible refine Below.drew ?_))); replace R4 := Lib.hid (Reads.relay R4.out v5 hb5 (by repeat (first | with_reducible exact Below.refl _ _ | with_reducible refine Below.alloc ?_ (by simp <;> omega) _ | with_reducible refine below_drewN ?_ _ | with_reducible refine Below.drew ?_))); replace B4 := Lib.hid (below_relay B4.out v4 hb5 (by repeat (first | with_reducible exact Below.refl _ _ | with_reducible refine Below.alloc ?_ (by simp <;> omega) _ | with_reducible refine below_drewN ?_ _ | with_reducible refine Below.drew ?_))); have v1 := hb5.size; (try simp at v1); replace v2 : w2.heap.size + 1 < w6.heap.size := (by omega); replace v6 : w4.heap.size < w6.heap.size := (by omega); replace v3 : b < w6.heap.size := (by omega); replace v4 : w.heap.size < w6.heap.size := (by omega); replace v5 : w2.heap.size < w6.heap.size := (by omega); clear v1 hb5)
          | (go_at_call 18; refine (all_reads w.heap.size (setT R r) _ ?_).mono ?_; (· repeat (first | with_reducible refine Tab.alloc ?_ _ | with_reducible refine Tab.drew ?_ | with_reducible refine Tab.drewN ?_ _ | with_reducible exact HT4.out)); rintro e w6 ⟨A9, c9, rfl, hr9, hb5⟩; have RA := Lib.hid hr9; clear hr9; replace y0 := cell_relay y0 v6 hb5 (by repeat (first | with_reducible exact Below.refl _ _ | with_reducible refine Below.alloc ?_ (by simp <;> omega) _ | with_reducible refine below_drewN ?_ _ | with_reducible refine Below.drew ?_)); replace y1 := cell_relay y1 v6 hb5 (by repeat (first | with_reducible exact Below.refl _ _ | with_reducible refine Below.alloc ?_ (by simp <;> omega) _ | with_reducible refine below_drewN ?_ _ | with_reducible refine Below.drew ?_)); replace y2 := cell_relay y2 v6 hb5 (by repeat (first | with_reducible exact Below.refl _ _ | with_reducible refine Below.alloc ?_ (by simp <;> omega) _ | with_reducible refine below_drewN ?_ _ | with_reducible refine Below.drew ?_)); replace y3 := cell_relay y3 v6 hb5 (by repeat (first | with_reducible exact Below.refl _ _ | with_reducible refine Below.alloc ?_ (by simp <;> omega) _ | with_reducible refine below_drewN ?_ _ | with_reducible refine Below.drew ?_)); replace y4 := cell_relay y4 v6 hb5 (by repeat (first | with_reducible exact Below.refl _ _ | with_reducible refine Below.alloc ?_ (by simp <;> omega) _ | with_reducible refine below_drewN ?_ _ | with_reducible refine Below.drew ?_)); replace x0 := cell_relay x0 v2 hb5 (by repeat (first | with_reducible exact Below.refl _ _ | with_reducible refine Below.alloc ?_ (by simp <;> omega) _ | with_reducible refine below_drewN ?_ _ | with_reducible refine Below.drew ?_)); replace x1 := cell_relay x1 v2 hb5 (by repeat (first | with_reducible exact Below.refl _ _ | with_reducible refine Below.alloc ?_ (by simp <;> omega) _ | with_reducible refine below_drewN ?_ _ | with_reducible refine Below.drew ?_)); replace x2 := cell_relay x2 v2 hb5 (by repeat (first | with_reducible exact Below.refl _ _ | with_reducible refine Below.alloc ?_ (by simp <;> omega) _ | with_reducible refine below_drewN ?_ _ | with_reducible refine Below.drew ?_)); replace x3 := cell_relay x3 v2 hb5 (by repeat (first | with_reducible exact Below.refl _ _ | with_reducible refine Below.alloc ?_ (by simp <;> omega) _ | with_reducible refine below_drewN ?_ _ | with_reducible refine Below.drew ?_)); replace x4 := cell_relay x4 v2 hb5 (by repeat (first | with_reducible exact Below.refl _ _ | with_reducible refine Below.alloc ?_ (by simp <;> omega) _ | with_reducible refine below_drewN ?_ _ | with_reducible refine Below.drew ?_)); replace e0 := cell_relay e0 v3 hb5 (by repeat (first | with_reducible exact Below.refl _ _ | with_reducible refine Below.alloc ?_ (by simp <;> omega) _ | with_reducible refine below_drewN ?_ _ | with_reducible refine Below.drew ?_)); replace HT4 := Lib.hid (Tab.relay HT4.out v4 hb5 (by repeat (first | with_reducible exact Below.refl _ _ | with_reducible refine Below.alloc ?_ (by simp <;> omega) _ | with_reducible refine below_drewN ?_ _ | with_reducible refine Below.drew ?_))); replace R4 := Lib.hid (Reads.relay R4.out v5 hb5 (by repeat (first | with_reducible exact Below.refl _ _ | with_reducible refine Below.alloc ?_ (by simp <;> omega) _ | with_reducible refine below_drewN ?_ _ | with_reducible refine Below.drew ?_))); replace B4 := Lib.hid (below_relay B4.out v4 hb5 (by repeat (first | with_reducible exact Below.refl _ _ | with_reducible refine Below.alloc ?_ (by simp <;> omega) _ | with_reducible refine below_drewN ?_ _ | with_reducible refine Below.drew ?_))); have v1 := hb5.size; (try simp at v1); replace v2 : w2.heap.size + 1 < w6.heap.size := (by omega); replace v6 : w4.heap.size < w6.heap.size := (by omega); replace v3 : b < w6.heap.size := (by omega); replace v4 : w.heap.size < w6.heap.size := (by omega); replace v5 : w2.heap.size < w6.heap.size := (by omega); clear v1 hb5)
          | (go_at_call 17; refine (like_any A9 A2 _ c9 n2 _ w2.heap.size _ _ (by omega) (Nat.le_refl _) ?_ RA.out ?_).mono ?_; (· first | omega | (simp; omega)); (· repeat (first | with_reducible refine Reads.alloc ?_ (by simp <;> omega) _ | with_reducible refine Reads.drew ?_ | with_reducible refine Reads.drewN ?_ _ | with_reducible exact R4.out)); rintro e w6 ⟨rfl, hb5⟩; replace y0 := cell_relay y0 v6 hb5 (by repeat (first | with_reducible exact Below.refl _ _ | with_reducible refine Below.alloc ?_ (by simp <;> omega) _ | with_reducible refine below_drewN ?_ _ | with_reducible refine Below.drew ?_)); replace y1 := cell_relay y1 v6 hb5 (by repeat (first | with_reducible exact Below.refl _ _ | with_reducible refine Below.alloc ?_ (by simp <;> omega) _ | with_reducible refine below_drewN ?_ _ | with_reducible refine Below.drew ?_)); replace y2 := cell_relay y2 v6 hb5 (by repeat (first | with_reducible exact Below.refl _ _ | with_reducible refine Below.alloc ?_ (by simp <;> omega) _ | with_reducible refine below_drewN ?_ _ | with_reducible refine Below.drew ?_)); replace y3 := cell_relay y3 v6 hb5 (by repeat (first | with_reducible exact Below.refl _ _ | with_reducible refine Below.alloc ?_ (by simp <;> omega) _ | with_reducible refine below_drewN ?_ _ | with_reducible refine Below.drew ?_)); replace y4 := cell_relay y4 v6 hb5 (by repeat (first | with_reducible exact Below.refl _ _ | with_reducible refine Below.alloc ?_ (by simp <;> omega) _ | with_reducible refine below_drewN ?_ _ | with_reducible refine Below.drew ?_)); replace x0 := cell_relay x0 v2 hb5 (by repeat (first | with_reducible exact Below.refl _ _ | with_reducible refine Below.alloc ?_ (by simp <;> omega) _ | with_reducible refine below_drewN ?_ _ | with_reducible refine Below.drew ?_)); replace x1 := cell_relay x1 v2 hb5 (by repeat (first | with_reducible exact Below.refl _ _ | with_reducible refine Below.alloc ?_ (by simp <;> omega) _ | with_reducible refine below_drewN ?_ _ | with_reducible refine Below.drew ?_)); replace x2 := cell_relay x2 v2 hb5 (by repeat (first | with_reducible exact Below.refl _ _ | with_reducible refine Below.alloc ?_ (by simp <;> omega) _ | with_reducible refine below_drewN ?_ _ | with_reducible refine Below.drew ?_)); replace x3 := cell_relay x3 v2 hb5 (by repeat (first | with_reducible exact Below.refl _ _ | with_reducible refine Below.alloc ?_ (by simp <;> omega) _ | with_reducible refine below_drewN ?_ _ | with_reducible refine Below.drew ?_)); replace x4 := cell_relay x4 v2 hb5 (by repeat (first | with_reducible exact Below.refl _ _ | with_reducible refine Below.alloc ?_ (by simp <;> omega) _ | with_reducible refine below_drewN ?_ _ | with_reducible refine Below.drew ?_)); replace e0 := cell_relay e0 v3 hb5 (by repeat (first | with_reducible exact Below.refl _ _ | with_reducible refine Below.alloc ?_ (by simp <;> omega) _ | with_reducible refine below_drewN ?_ _ | with_reducible refine Below.drew ?_)); replace HT4 := Lib.hid (Tab.relay HT4.out v4 hb5 (by repeat (first | with_reducible exact Below.refl _ _ | with_reducible refine Below.alloc ?_ (by simp <;> omega) _ | with_reducible refine below_drewN ?_ _ | with_reducible refine Below.drew ?_))); replace R4 := Lib.hid (Reads.relay R4.out v5 hb5 (by repeat (first | with_reducible exact Below.refl _ _ | with_reducible refine Below.alloc ?_ (by simp <;> omega) _ | with_reducible refine below_drewN ?_ _ | with_reducible refine Below.drew ?_))); replace B4 := Lib.hid (below_relay B4.out v4 hb5 (by repeat (first | with_reducible exact Below.refl _ _ | with_reducible refine Below.alloc ?_ (by simp <;> omega) _ | with_reducible refine below_drewN ?_ _ | with_reducible refine Below.drew ?_))); have v1 := hb5.size; (try simp at v1); replace v2 : w2.heap.size + 1 < w6.heap.size := (by omega); replace v6 : w4.heap.size < w6.heap.size := (by omega); replace v3 : b < w6.heap.size := (by omega); replace v4 : w.heap.size < w6.heap.size := (by omega); replace v5 : w2.heap.size < w6.heap.size := (by omega); clear v1 hb5)
          | (go_at_call 19; refine (refJudge_any A2 _ n2 w2.heap.size (seg (setT R r) 0 6) _ _ _ (by omega) ?_ ?_).mono ?_; (· first | omega | (simp; omega)); (· repeat (first | with_reducible refine Reads.alloc ?_ (by simp <;> omega) _ | with_reducible refine Reads.drew ?_ | with_reducible refine Reads.drewN ?_ _ | with_reducible exact R4.out)); rintro e w6 ⟨rfl, hb5⟩; replace y0 := cell_relay y0 v6 hb5 (by repeat (first | with_reducible exact Below.refl _ _ | with_reducible refine Below.alloc ?_ (by simp <;> omega) _ | with_reducible refine below_drewN ?_ _ | with_reducible refine Below.drew ?_)); replace y1 := cell_relay y1 v6 hb5 (by repeat (first | with_reducible exact Below.refl _ _ | with_reducible refine Below.alloc ?_ (by simp <;> omega) _ | with_reducible refine below_drewN ?_ _ | with_reducible refine Below.drew ?_)); replace y2 := cell_relay y2 v6 hb5 (by repeat (first | with_reducible exact Below.refl _ _ | with_reducible refine Below.alloc ?_ (by simp <;> omega) _ | with_reducible refine below_drewN ?_ _ | with_reducible refine Below.drew ?_)); replace y3 := cell_relay y3 v6 hb5 (by repeat (first | with_reducible exact Below.refl _ _ | with_reducible refine Below.alloc ?_ (by simp <;> omega) _ | with_reducible refine below_drewN ?_ _ | with_reducible refine Below.drew ?_)); replace y4 := cell_relay y4 v6 hb5 (by repeat (first | with_reducible exact Below.refl _ _ | with_reducible refine Below.alloc ?_ (by simp <;> omega) _ | with_reducible refine below_drewN ?_ _ | with_reducible refine Below.drew ?_)); replace x0 := cell_relay x0 v2 hb5 (by repeat (first | with_reducible exact Below.refl _ _ | with_reducible refine Below.alloc ?_ (by simp <;> omega) _ | with_reducible refine below_drewN ?_ _ | with_reducible refine Below.drew ?_)); replace x1 := cell_relay x1 v2 hb5 (by repeat (first | with_reducible exact Below.refl _ _ | with_reducible refine Below.alloc ?_ (by simp <;> omega) _ | with_reducible refine below_drewN ?_ _ | with_reducible refine Below.drew ?_)); replace x2 := cell_relay x2 v2 hb5 (by repeat (first | with_reducible exact Below.refl _ _ | with_reducible refine Below.alloc ?_ (by simp <;> omega) _ | with_reducible refine below_drewN ?_ _ | with_reducible refine Below.drew ?_)); replace x3 := cell_relay x3 v2 hb5 (by repeat (first | with_reducible exact Below.refl _ _ | with_reducible refine Below.alloc ?_ (by simp <;> omega) _ | with_reducible refine below_drewN ?_ _ | with_reducible refine Below.drew ?_)); replace x4 := cell_relay x4 v2 hb5 (by repeat (first | with_reducible exact Below.refl _ _ | with_reducible refine Below.alloc ?_ (by simp <;> omega) _ | with_reducible refine below_drewN ?_ _ | with_reducible refine Below.drew ?_)); replace e0 := cell_relay e0 v3 hb5 (by repeat (first | with_reducible exact Below.refl _ _ | with_reducible refine Below.alloc ?_ (by simp <;> omega) _ | with_reducible refine below_drewN ?_ _ | with_reducible refine Below.drew ?_)); replace HT4 := Lib.hid (Tab.relay HT4.out v4 hb5 (by repeat (first | with_reducible exact Below.refl _ _ | with_reducible refine Below.alloc ?_ (by simp <;> omega) _ | with_reducible refine below_drewN ?_ _ | with_reducible refine Below.drew ?_))); replace R4 := Lib.hid (Reads.relay R4.out v5 hb5 (by repeat (first | with_reducible exact Below.refl _ _ | with_reducible refine Below.alloc ?_ (by simp <;> omega) _ | with_reducible refine below_drewN ?_ _ | with_reducible refine Below.drew ?_))); replace B4 := Lib.hid (below_relay B4.out v4 hb5 (by repeat (first | with_reducible exact Below.refl _ _ | with_reducible refine Below.alloc ?_ (by simp <;> omega) _ | with_reducible refine below_drewN ?_ _ | with_reducible refine Below.drew ?_))); have v1 := hb5.size; (try simp at v1); replace v2 : w2.heap.size + 1 < w6.heap.size := (by omega); replace v6 : w4.heap.size < w6.heap.size := (by omega); replace v3 : b < w6.heap.size := (by omega); replace v4 : w.heap.size < w6.heap.size := (by omega); replace v5 : w2.heap.size < w6.heap.size := (by omega); clear v1 hb5))
        go_wp2
        go_roundw
        case rel => exact ⟨k + 1, setT R r, by omega, by omega, by go_num, Lib.hid (by repeat (first | with_reducible refine Below.alloc ?_ (by simp <;> omega) _ | with_reducible refine Below.drew ?_ | with_reducible refine below_drewN ?_ _ | with_reducible exact B4.out)), Lib.hid (by repeat (first | with_reducible refine Tab.alloc ?_ _ | with_reducible refine Tab.drew ?_ | with_reducible refine Tab.drewN ?_ _ | with_reducible exact HT4.out)), HI', Lib.hid ⟨A2, n2, rfl, l1, l2, Reads.more (show Reads _ w2.heap.size 5 A2 (seg (setT R r) 0 6).length ((seg (setT R r) 0 6).flatMap Rw.vals) from (by repeat (first | with_reducible refine Reads.alloc ?_ (by simp <;> omega) _ | with_reducible refine Reads.drew ?_ | with_reducible refine Reads.drewN ?_ _ | with_reducible exact R4.out))) (by first | omega | (simp; omega))⟩, HA2⟩
        case measure => simp [intOf]; omega
      · go_wp2_with (first | (go_at_call 13; refine (sesAwake_any _).mono ?_; rintro e w2 ⟨rfl, hb2⟩))
        go_ret
        exact ⟨rfl, below_step h1.out h1.out.size hb2⟩
    · go_wp2_with (first | (go_at_call 13; refine (sesAwake_any _).mono ?_; rintro e w2 ⟨rfl, hb2⟩))
      go_ret
      exact ⟨rfl, below_step h1.out h1.out.size hb2⟩

end Go.Proofs.Ytcmaekkfeilclaa
