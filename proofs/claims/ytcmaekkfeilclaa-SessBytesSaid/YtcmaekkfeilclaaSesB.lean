/- Contracts of Set, New, All, Len of package sess, of the reference's Fine, and of the law's ours. -/
import Derived.Test.YtcmaekkfeilclaaSesA
namespace Go.Proofs.Ytcmaekkfeilclaa
open Go.RowKit
set_option linter.unusedSimpArgs false
set_option linter.unusedVariables false
set_option maxHeartbeats 1000000

def setE (R : Nat → Rw) (r : Rw) : Int := if r.fine then (if judgeV R r.c r.n = 0 then 0 else 12) else 1
def setT (R : Nat → Rw) (r : Rw) : Nat → Rw := if r.fine = true ∧ judgeV R r.c r.n = 0 then upd R (rowOf r.c) r else R

theorem fine_client (r : Rw) (h : r.fine = true) : 1 ≤ r.c ∧ r.c ≤ 6 := by
  unfold Rw.fine at h
  simp only [Bool.and_eq_true] at h
  exact (clientB_iff r.c).1 h.1.1.1.1

theorem set_grown (w : World) (g k : Nat) (r : Rw) : w.grownBy
    (((((w.setCell ⟨g, k * 5, none⟩ (.int .i64 r.c)).setCell ⟨g, k * 5 + 1, none⟩ (.int .u64 r.n)).setCell ⟨g, k * 5 + 2, none⟩ (.int .u64 r.s)).setCell ⟨g, k * 5 + 3, none⟩ (.int .i64 r.k)).setCell ⟨g, k * 5 + 4, none⟩ (.int .u64 r.v)) (some g) :=
  only_setCell (only_setCell (only_setCell (only_setCell (only_setCell (World.grownBy.refl _ _) (p := ⟨g, k * 5, none⟩) (.inl rfl) _) (p := ⟨g, k * 5 + 1, none⟩) (.inl rfl) _) (p := ⟨g, k * 5 + 2, none⟩) (.inl rfl) _) (p := ⟨g, k * 5 + 3, none⟩) (.inl rfl) _) (p := ⟨g, k * 5 + 4, none⟩) (.inl rfl) _

theorem set_any (g : Nat) (R : Nat → Rw) (r : Rw) (w : World) (h : Tab w g R) :
    Calls Try.prog 10 #[.pointer (some ⟨g, 0, none⟩), r.agg] w fun e w' => e = .returned (.int .i64 (setE R r)) ∧ Tab w' g (setT R r) ∧ w.grownBy w' (some g) := by
  have H := Lib.hid h
  have hg := h.lt
  cases hf : r.fine
  · have he : Hid (setE R r = 1) := Lib.hid (by rw [setE, hf]; rfl)
    have ht : Hid (setT R r = R) := Lib.hid (by rw [setT, if_neg (by simp [hf])])
    rw [he.out, ht.out]
    unfold Rw.agg
    clear h
    go_enter Try.func10, Try.ntmps10
    go_wp2_with (first | (go_at_call 31; refine (fine_any r _).mono ?_; rintro e w' ⟨rfl, rfl⟩))
    go_ret
    exact ⟨rfl, (H.out.alloc _).alloc _, only_alloc (only_alloc (World.grownBy.refl _ _) _) _⟩
  · have hc := fine_client r hf
    obtain ⟨k, hk⟩ : ∃ k : Nat, r.c = (k : Int) + 1 := ⟨(r.c - 1).toNat, by omega⟩
    have hk6 : k < 6 := by omega
    by_cases hj : judgeV R r.c r.n = 0
    · have he : Hid (setE R r = 0) := Lib.hid (by rw [setE, hf, if_pos rfl, if_pos hj])
      have ht : Hid (setT R r = upd R k r) := Lib.hid (by rw [setT, if_pos ⟨hf, hj⟩, show rowOf r.c = k from by unfold rowOf; omega])
      rw [he.out, ht.out]
      have hj' : (judgeV R r.c r.n != 0) = false := by simp [hj]
      have HJ := Lib.hid hj
      clear h hj
      obtain ⟨c, n, s, kk, v⟩ := r
      subst hk
      unfold Rw.agg
      have c0 := H.out.c hk6
      have c1 := H.out.n hk6
      have c2 := H.out.s hk6
      have c3 := H.out.k hk6
      have c4 := H.out.v hk6
      have f0 := H.out.frozen (k * 5)
      have f1 := H.out.frozen (k * 5 + 1)
      have f2 := H.out.frozen (k * 5 + 2)
      have f3 := H.out.frozen (k * 5 + 3)
      have f4 := H.out.frozen (k * 5 + 4)
      go_enter Try.func10, Try.ntmps10
      go_wp2_with (first | (go_at_call 31; refine (fine_any ⟨(k : Int) + 1, n, s, kk, v⟩ _).mono ?_; rintro e w' ⟨rfl, rfl⟩) | (go_at_call 9; refine (judge_any g R _ _ _ ((H.out.alloc _).alloc _)).mono ?_; rintro e w' ⟨rfl, rfl⟩))
      go_region
      go_wp2
      go_ret
      exact ⟨rfl, (((H.out.set k hk6 ⟨(k : Int) + 1, n, s, kk, v⟩).alloc _).alloc _).drew, only_drew (only_alloc (only_alloc (set_grown w g k ⟨(k : Int) + 1, n, s, kk, v⟩) _) _)⟩
    · have he : Hid (setE R r = 12) := Lib.hid (by rw [setE, hf, if_pos rfl, if_neg hj])
      have ht : Hid (setT R r = R) := Lib.hid (by rw [setT, if_neg (fun x => hj x.2)])
      rw [he.out, ht.out]
      have hj' : (judgeV R r.c r.n != 0) = true := by simp [hj]
      clear h hj hk
      unfold Rw.agg
      go_enter Try.func10, Try.ntmps10
      go_wp2_with (first | (go_at_call 31; refine (fine_any r _).mono ?_; rintro e w' ⟨rfl, rfl⟩) | (go_at_call 9; refine (judge_any g R _ _ _ ((H.out.alloc _).alloc _)).mono ?_; rintro e w' ⟨rfl, rfl⟩))
      go_ret
      exact ⟨rfl, (H.out.alloc _).alloc _, only_alloc (only_alloc (World.grownBy.refl _ _) _) _⟩

theorem sesNew_any (w : World) : Calls Try.prog 7 #[] w fun e w' => e = .returned (.pointer (some ⟨w.heap.size, 0, none⟩)) ∧ Tab w' w.heap.size (fun _ => Rw.zero) ∧ Below w.heap.size w w' := by
  go_enter Try.func7, Try.ntmps7
  go_wp2
  go_ret
  refine ⟨rfl, ⟨_, Blk.new _ _ _, by rfl, ?_⟩, (Below.refl _ _).alloc (Nat.le_refl _) _⟩
  intro i hi
  match i, hi with
  | 0, _ => exact ⟨rfl, rfl, rfl, rfl, rfl⟩
  | 1, _ => exact ⟨rfl, rfl, rfl, rfl, rfl⟩
  | 2, _ => exact ⟨rfl, rfl, rfl, rfl, rfl⟩
  | 3, _ => exact ⟨rfl, rfl, rfl, rfl, rfl⟩
  | 4, _ => exact ⟨rfl, rfl, rfl, rfl, rfl⟩
  | 5, _ => exact ⟨rfl, rfl, rfl, rfl, rfl⟩

theorem refFine_any (r : Rw) (w : World) : Calls Try.prog 12 #[r.agg] w fun e w' => e = .returned (.bool r.fine) ∧ w.alloc (.cells r.cells 31) = w' := by
  unfold Rw.agg Rw.fine Rw.cells clientB
  cases h1 : decide (1 ≤ r.c)
  · go_enter Try.func12, Try.ntmps12
    go_wp2
    go_ret
    exact ⟨ret_bool (by simp), rfl⟩
  cases h1' : decide (r.c ≤ 6)
  · go_enter Try.func12, Try.ntmps12
    go_wp2
    go_ret
    exact ⟨ret_bool (by simp), rfl⟩
  cases h2 : decide (1 ≤ r.n)
  · have h2' : decide (0 < r.n) = false := by simp at h2 ⊢; omega
    go_enter Try.func12, Try.ntmps12
    go_wp2
    go_ret
    exact ⟨ret_bool (by simp), rfl⟩
  have h2' : decide (0 < r.n) = true := by simp at h2 ⊢; omega
  cases h3 : decide (1 ≤ r.s)
  · have h3' : decide (0 < r.s) = false := by simp at h3 ⊢; omega
    go_enter Try.func12, Try.ntmps12
    go_wp2
    go_ret
    exact ⟨ret_bool (by simp), rfl⟩
  have h3' : decide (0 < r.s) = true := by simp at h3 ⊢; omega
  cases h4 : decide (0 ≤ r.k)
  · go_enter Try.func12, Try.ntmps12
    go_wp2
    go_ret
    exact ⟨ret_bool (by simp), rfl⟩
  go_enter Try.func12, Try.ntmps12
  go_wp2
  go_ret
  exact ⟨ret_bool (by simp), rfl⟩

theorem ours_any (r : Rw) (w : World) : Calls Try.prog 11 #[r.agg] w fun e w' => e = .returned r.agg ∧ (w.alloc (.cells r.cells 31)).alloc (.cells r.cells 28) = w' := by
  unfold Rw.agg Rw.cells
  go_enter Try.func11, Try.ntmps11
  go_wp2
  exact bodyPost_ret (v := r.agg) (by simp [results, Try.results11, go_sem, Rw.agg]) rfl ⟨rfl, rfl⟩

theorem sesAwake_any (w : World) : Calls Try.prog 13 #[] w fun e w' => e = .returned (.bool true) ∧ Below w.heap.size w w' := by
  have j1 : judgeV (setT (fun _ => Rw.zero) ⟨2, 5, 1, 0, 0⟩) 2 6 = 0 := by decide
  have j2 : judgeV (setT (fun _ => Rw.zero) ⟨2, 5, 1, 0, 0⟩) 2 5 = 1 := by decide
  have j3 : judgeV (setT (fun _ => Rw.zero) ⟨2, 5, 1, 0, 0⟩) 2 4 = 2 := by decide
  have e1 : setE (fun _ => Rw.zero) ⟨2, 5, 1, 0, 0⟩ = 0 := by decide
  go_enter Try.func13, Try.ntmps13
  go_wp2_with (fail)
  refine (sesNew_any _).mono ?_
  rintro e w1 ⟨rfl, ht, hb⟩
  have HB := Lib.hid hb
  clear hb
  go_wp2_with (fail)
  refine (set_any _ _ ⟨2, 5, 1, 0, 0⟩ _ ht).mono ?_
  rintro e w2 ⟨rfl, ht2, hg2⟩
  have HB2 := Lib.hid (HB.out.grown hg2 HB.out.size (fun k hk => by injection hk with hk; omega))
  have HT := Lib.hid ht2
  clear ht ht2 hg2
  go_wp2_with (go_at_call 9; refine (judge_any _ _ _ _ _ HT.out).mono ?_; rintro e w' ⟨rfl, rfl⟩)
  go_ret
  exact ⟨rfl, HB2.out⟩

end Go.Proofs.Ytcmaekkfeilclaa
