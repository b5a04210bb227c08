/- The walk of SessRises. -/
import Derived.Test.YtcmaekkfeilclaaSesM
import Derived.Laws.StructEq
import Derived.Test.YtcmaekkfeilclaaMemB
namespace Go.Proofs.Ytcmaekkfeilclaa

open Go.RowKit
set_option linter.unusedSimpArgs false
set_option linter.unusedVariables false
set_option maxHeartbeats 1000000
set_option maxRecDepth 100000

attribute [local go_sem] Rw.agg Rw.cells

theorem fine_n (r : Rw) (h : r.fine = true) : 1 ≤ r.n := by
  unfold Rw.fine at h
  simp only [Bool.and_eq_true, decide_eq_true_eq] at h
  exact h.1.1.1.2
theorem judge_zero (R : Nat → Rw) (r : Rw) (h : judgeV R r.c r.n = 0) : clientB r.c = true ∧ (R (rowOf r.c)).n < r.n := by
  unfold judgeV at h
  split at h
  · next hc =>
    split at h
    · next hl => exact ⟨hc.1, hl⟩
    · split at h <;> simp at h
  · simp at h
theorem getR_set (R : Nat → Rw) (r : Rw) (hf : r.fine = true) (hj : judgeV R r.c r.n = 0) : getR (setT R r) r.c = r := by
  have h1 := fine_n r hf
  have hc := (clientB_iff r.c).2 (fine_client r hf)
  rw [setT, if_pos ⟨hf, hj⟩]
  have e : upd R (rowOf r.c) r (rowOf r.c) = r := by simp [upd]
  rw [getR, getB, e, hc]
  have : (r.n != 0) = true := by simp; omega
  rw [this]; rfl
theorem getR_less (R : Nat → Rw) (r : Rw) (hf : r.fine = true) (hj : judgeV R r.c r.n = 0) : ¬ r.n < (getR R r.c).n := by
  have h1 := fine_n r hf
  have h2 := (judge_zero R r hj).2
  unfold getR
  split
  · omega
  · show ¬ r.n < 0; omega
theorem setE_no (R : Nat → Rw) (r : Rw) (hj : ¬ judgeV R r.c r.n = 0) : (setE R r == 0) = false := by
  unfold setE
  split
  · rfl
  · rfl

theorem sessRises_law (A : Option Addr) (len c : Nat) (rs : Nat → Rw) (w : World) (hlen : len ≤ 9223372036854775807) (hr : RdRows w w.heap.size A len rs) :
    Calls Try.prog 3 #[.slice A len c] w fun e w' => e = .returned (.bool true) ∧ Below w.heap.size w w' := by
  have HR := Lib.hid hr
  clear hr
  go_enter Try.func3, Try.ntmps3
  go_wp2_with (fail)
  refine (new_any _).mono ?_
  rintro e w1 ⟨rfl, ht, hb⟩
  have HB := Lib.hid hb
  have HT := Lib.hid ht
  clear hb ht
  go_wp2_with (fail)
  go_loopw [4] (fun i wr => ∃ (k : Nat) (R : Nat → Rw), k ≤ len ∧ k ≤ 40 ∧ i = .int .i64 k ∧ Hid (Below w.heap.size w wr) ∧ Hid (Tab wr w.heap.size R)) (fun i _ => 40 - (intOf i).toNat)
  case atStart => exact ⟨0, _, by omega, by omega, rfl, HB, HT⟩
  case round =>
    obtain ⟨k, R, hk1, hk2, rfl, h1, h2⟩ := hrel
    by_cases hk : k < len
    · by_cases hk4 : k < 40
      · have hk' : (k : Int) < len := by omega
        obtain ⟨b, off, rfl, hlt, hcs⟩ := HR.out (by omega)
        have hc := (hcs k hk).keep (w' := wr) (fun p hp => h1.out.cell (by omega))
        obtain ⟨c0, c1, c2, c3, c4⟩ := hc
        have hsz := h1.out.size
        clear hcs
        have hT := h2.out.lt
        have hbw : b < wr.heap.size := by omega
        by_cases hj : judgeV R (rs k).c (rs k).n = 0
        · have hj' : (judgeV R (rs k).c (rs k).n == 0) = true := by simp [hj]
          cases hf : (rs k).fine
          · have hE : setE R (rs k) = 1 := by rw [setE, hf]; rfl
            have hG : getR (setT R (rs k)) (rs k).c = getR R (rs k).c := by rw [setT, if_neg (by simp [hf])]
            clear hj
            go_wp2_with (first | (go_at_call 8; refine (get_any _ R _ _ h2.out).mono ?_; rintro e w' ⟨rfl, rfl⟩) | fail)
            go_quiet ((go_at_call 9; exact Calls.quiet_of_same ((judge_any _ R _ _ _ (((h2.out.alloc _).alloc _).drewN _)).mono fun _ _ h => ⟨h.1, h.2.symm⟩)))
            go_wp2_with (first | (go_at_call 11; refine (ours_any (rs k) _).mono ?_; rintro e w' ⟨rfl, rfl⟩) | fail)
            refine (set_any w.heap.size R (rs k) _ (((((h2.out.alloc _).alloc _).drewN _).alloc _).alloc _)).mono ?_
            rintro e w2 ⟨rfl, ht2, hg2⟩
            have q0 := hg2.cell (a := ⟨wr.heap.size + 1, 0, none⟩) (v := .int .i64 (getR R (rs k).c).c) (by go_simp) (by simp; omega)
            have q1 := hg2.cell (a := ⟨wr.heap.size + 1, 1, none⟩) (v := .int .u64 (getR R (rs k).c).n) (by go_simp) (by simp; omega)
            have q2 := hg2.cell (a := ⟨wr.heap.size + 1, 2, none⟩) (v := .int .u64 (getR R (rs k).c).s) (by go_simp) (by simp; omega)
            have q3 := hg2.cell (a := ⟨wr.heap.size + 1, 3, none⟩) (v := .int .i64 (getR R (rs k).c).k) (by go_simp) (by simp; omega)
            have q4 := hg2.cell (a := ⟨wr.heap.size + 1, 4, none⟩) (v := .int .u64 (getR R (rs k).c).v) (by go_simp) (by simp; omega)
            have hkey := key_of (wr := wr) hg2 (by repeat (first | exact Below.refl _ _ | refine below_drewN ?_ _ | refine Below.drew ?_ | refine Below.alloc ?_ (by simp <;> omega) _))
            have d0 := (hkey ⟨b, off + k * 5, none⟩ hbw (by show b ≠ w.heap.size; omega)).trans c0
            have d1 := (hkey ⟨b, off + k * 5 + 1, none⟩ hbw (by show b ≠ w.heap.size; omega)).trans c1
            have d2 := (hkey ⟨b, off + k * 5 + 2, none⟩ hbw (by show b ≠ w.heap.size; omega)).trans c2
            have d3 := (hkey ⟨b, off + k * 5 + 3, none⟩ hbw (by show b ≠ w.heap.size; omega)).trans c3
            have d4 := (hkey ⟨b, off + k * 5 + 4, none⟩ hbw (by show b ≠ w.heap.size; omega)).trans c4
            have s2 := hg2.size
            simp at s2
            have s3 : wr.heap.size + 1 < w2.heap.size := by omega
            have s4 : b < w2.heap.size := by omega
            have s5 : w.heap.size < w2.heap.size := by omega
            have s6 : wr.heap.size < w2.heap.size := by omega
            clear s2
            have HB2 := Lib.hid (below_of h1.out hsz hg2 (Nat.le_refl _) (by repeat (first | exact Below.refl _ _ | refine below_drewN ?_ _ | refine Below.drew ?_ | refine Below.alloc ?_ (by simp <;> omega) _)))
            clear hg2 hkey c0 c1 c2 c3 c4
            go_wp2_with (first | (go_at_call 8; refine (get_any _ _ _ _ ht2).mono ?_; rintro e w' ⟨rfl, rfl⟩) | (go_at_call 12; refine (refFine_any (rs k) _).mono ?_; rintro e w' ⟨rfl, rfl⟩) | fail)
            go_roundw
            case rel => exact ⟨k + 1, _, by omega, by omega, by go_num, Lib.hid (below_step HB2.out (by omega) (by repeat (first | exact Below.refl _ _ | refine below_drewN ?_ _ | refine Below.drew ?_ | refine Below.alloc ?_ (by simp <;> omega) _))), Lib.hid (ht2.below (B := w2.heap.size) (by repeat (first | exact Below.refl _ _ | refine below_drewN ?_ _ | refine Below.drew ?_ | refine Below.alloc ?_ (by simp <;> omega) _)) s5)⟩
            case measure => simp [intOf]; omega
          · have hE : setE R (rs k) = 0 := by rw [setE, hf, if_pos rfl, if_pos hj]
            have hG : getR (setT R (rs k)) (rs k).c = rs k := getR_set R (rs k) hf hj
            have hN : ¬ (rs k).n < (getR R (rs k).c).n := getR_less R (rs k) hf hj
            clear hj
            go_wp2_with (first | (go_at_call 8; refine (get_any _ R _ _ h2.out).mono ?_; rintro e w' ⟨rfl, rfl⟩) | fail)
            go_quiet ((go_at_call 9; exact Calls.quiet_of_same ((judge_any _ R _ _ _ (((h2.out.alloc _).alloc _).drewN _)).mono fun _ _ h => ⟨h.1, h.2.symm⟩)))
            go_wp2_with (first | (go_at_call 11; refine (ours_any (rs k) _).mono ?_; rintro e w' ⟨rfl, rfl⟩) | fail)
            refine (set_any w.heap.size R (rs k) _ (((((h2.out.alloc _).alloc _).drewN _).alloc _).alloc _)).mono ?_
            rintro e w2 ⟨rfl, ht2, hg2⟩
            have q0 := hg2.cell (a := ⟨wr.heap.size + 1, 0, none⟩) (v := .int .i64 (getR R (rs k).c).c) (by go_simp) (by simp; omega)
            have q1 := hg2.cell (a := ⟨wr.heap.size + 1, 1, none⟩) (v := .int .u64 (getR R (rs k).c).n) (by go_simp) (by simp; omega)
            have q2 := hg2.cell (a := ⟨wr.heap.size + 1, 2, none⟩) (v := .int .u64 (getR R (rs k).c).s) (by go_simp) (by simp; omega)
            have q3 := hg2.cell (a := ⟨wr.heap.size + 1, 3, none⟩) (v := .int .i64 (getR R (rs k).c).k) (by go_simp) (by simp; omega)
            have q4 := hg2.cell (a := ⟨wr.heap.size + 1, 4, none⟩) (v := .int .u64 (getR R (rs k).c).v) (by go_simp) (by simp; omega)
            have hkey := key_of (wr := wr) hg2 (by repeat (first | exact Below.refl _ _ | refine below_drewN ?_ _ | refine Below.drew ?_ | refine Below.alloc ?_ (by simp <;> omega) _))
            have d0 := (hkey ⟨b, off + k * 5, none⟩ hbw (by show b ≠ w.heap.size; omega)).trans c0
            have d1 := (hkey ⟨b, off + k * 5 + 1, none⟩ hbw (by show b ≠ w.heap.size; omega)).trans c1
            have d2 := (hkey ⟨b, off + k * 5 + 2, none⟩ hbw (by show b ≠ w.heap.size; omega)).trans c2
            have d3 := (hkey ⟨b, off + k * 5 + 3, none⟩ hbw (by show b ≠ w.heap.size; omega)).trans c3
            have d4 := (hkey ⟨b, off + k * 5 + 4, none⟩ hbw (by show b ≠ w.heap.size; omega)).trans c4
            have s2 := hg2.size
            simp at s2
            have s3 : wr.heap.size + 1 < w2.heap.size := by omega
            have s4 : b < w2.heap.size := by omega
            have s5 : w.heap.size < w2.heap.size := by omega
            have s6 : wr.heap.size < w2.heap.size := by omega
            clear s2
            have HB2 := Lib.hid (below_of h1.out hsz hg2 (Nat.le_refl _) (by repeat (first | exact Below.refl _ _ | refine below_drewN ?_ _ | refine Below.drew ?_ | refine Below.alloc ?_ (by simp <;> omega) _)))
            clear hg2 hkey c0 c1 c2 c3 c4
            go_wp2_with (first | (go_at_call 8; refine (get_any _ _ _ _ ht2).mono ?_; rintro e w' ⟨rfl, rfl⟩) | (go_at_call 12; refine (refFine_any (rs k) _).mono ?_; rintro e w' ⟨rfl, rfl⟩) | fail)
            go_roundw
            case rel => exact ⟨k + 1, _, by omega, by omega, by go_num, Lib.hid (below_step HB2.out (by omega) (by repeat (first | exact Below.refl _ _ | refine below_drewN ?_ _ | refine Below.drew ?_ | refine Below.alloc ?_ (by simp <;> omega) _))), Lib.hid (ht2.below (B := w2.heap.size) (by repeat (first | exact Below.refl _ _ | refine below_drewN ?_ _ | refine Below.drew ?_ | refine Below.alloc ?_ (by simp <;> omega) _)) s5)⟩
            case measure => simp [intOf]; omega
        · have hj' : (judgeV R (rs k).c (rs k).n == 0) = false := by simp [hj]
          have hE : (setE R (rs k) == 0) = false := setE_no R (rs k) hj
          have hE' : (setE R (rs k) != 0) = true := by rw [bne, hE]; rfl
          have hG : getR (setT R (rs k)) (rs k).c = getR R (rs k).c := by rw [setT, if_neg (fun x => hj x.2)]
          clear hj
          go_wp2_with (first | (go_at_call 8; refine (get_any _ R _ _ h2.out).mono ?_; rintro e w' ⟨rfl, rfl⟩) | fail)
          go_quiet ((go_at_call 9; exact Calls.quiet_of_same ((judge_any _ R _ _ _ (((h2.out.alloc _).alloc _).drewN _)).mono fun _ _ h => ⟨h.1, h.2.symm⟩)))
          go_wp2_with (first | (go_at_call 11; refine (ours_any (rs k) _).mono ?_; rintro e w' ⟨rfl, rfl⟩) | fail)
          refine (set_any w.heap.size R (rs k) _ (((((h2.out.alloc _).alloc _).drewN _).alloc _).alloc _)).mono ?_
          rintro e w2 ⟨rfl, ht2, hg2⟩
          have q0 := hg2.cell (a := ⟨wr.heap.size + 1, 0, none⟩) (v := .int .i64 (getR R (rs k).c).c) (by go_simp) (by simp; omega)
          have q1 := hg2.cell (a := ⟨wr.heap.size + 1, 1, none⟩) (v := .int .u64 (getR R (rs k).c).n) (by go_simp) (by simp; omega)
          have q2 := hg2.cell (a := ⟨wr.heap.size + 1, 2, none⟩) (v := .int .u64 (getR R (rs k).c).s) (by go_simp) (by simp; omega)
          have q3 := hg2.cell (a := ⟨wr.heap.size + 1, 3, none⟩) (v := .int .i64 (getR R (rs k).c).k) (by go_simp) (by simp; omega)
          have q4 := hg2.cell (a := ⟨wr.heap.size + 1, 4, none⟩) (v := .int .u64 (getR R (rs k).c).v) (by go_simp) (by simp; omega)
          have hkey := key_of (wr := wr) hg2 (by repeat (first | exact Below.refl _ _ | refine below_drewN ?_ _ | refine Below.drew ?_ | refine Below.alloc ?_ (by simp <;> omega) _))
          have d0 := (hkey ⟨b, off + k * 5, none⟩ hbw (by show b ≠ w.heap.size; omega)).trans c0
          have d1 := (hkey ⟨b, off + k * 5 + 1, none⟩ hbw (by show b ≠ w.heap.size; omega)).trans c1
          have d2 := (hkey ⟨b, off + k * 5 + 2, none⟩ hbw (by show b ≠ w.heap.size; omega)).trans c2
          have d3 := (hkey ⟨b, off + k * 5 + 3, none⟩ hbw (by show b ≠ w.heap.size; omega)).trans c3
          have d4 := (hkey ⟨b, off + k * 5 + 4, none⟩ hbw (by show b ≠ w.heap.size; omega)).trans c4
          have s2 := hg2.size
          simp at s2
          have s3 : wr.heap.size + 1 < w2.heap.size := by omega
          have s4 : b < w2.heap.size := by omega
          have s5 : w.heap.size < w2.heap.size := by omega
          have s6 : wr.heap.size < w2.heap.size := by omega
          clear s2
          have HB2 := Lib.hid (below_of h1.out hsz hg2 (Nat.le_refl _) (by repeat (first | exact Below.refl _ _ | refine below_drewN ?_ _ | refine Below.drew ?_ | refine Below.alloc ?_ (by simp <;> omega) _)))
          clear hg2 hkey c0 c1 c2 c3 c4
          go_wp2_with (first | (go_at_call 8; refine (get_any _ _ _ _ ht2).mono ?_; rintro e w' ⟨rfl, rfl⟩) | (go_at_call 12; refine (refFine_any (rs k) _).mono ?_; rintro e w' ⟨rfl, rfl⟩) | fail)
          go_roundw
          case rel => exact ⟨k + 1, _, by omega, by omega, by go_num, Lib.hid (below_step HB2.out (by omega) (by repeat (first | exact Below.refl _ _ | refine below_drewN ?_ _ | refine Below.drew ?_ | refine Below.alloc ?_ (by simp <;> omega) _))), Lib.hid (ht2.below (B := w2.heap.size) (by repeat (first | exact Below.refl _ _ | refine below_drewN ?_ _ | refine Below.drew ?_ | refine Below.alloc ?_ (by simp <;> omega) _)) s5)⟩
          case measure => simp [intOf]; omega
      · go_wp2_with (first | (go_at_call 13; refine (awake_any _).mono ?_; rintro e w2 ⟨rfl, hb2⟩))
        go_ret
        exact ⟨rfl, below_step h1.out h1.out.size hb2⟩
    · go_wp2_with (first | (go_at_call 13; refine (awake_any _).mono ?_; rintro e w2 ⟨rfl, hb2⟩))
      go_ret
      exact ⟨rfl, below_step h1.out h1.out.size hb2⟩

end Go.Proofs.Ytcmaekkfeilclaa
