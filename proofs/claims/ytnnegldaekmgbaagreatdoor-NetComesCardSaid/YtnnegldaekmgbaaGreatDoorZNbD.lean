/- A bag of bytes: Twice, Set (printed by netbag.py). -/
import Derived.Test.YtnnegldaekmgbaaGreatDoorZNbC
namespace Go.Proofs.YtnnegldaekmgbaaGreatDoor
open Go.RowKit
set_option linter.unusedSimpArgs false
set_option linter.unusedVariables false
set_option maxHeartbeats 8000000
set_option maxRecDepth 100000

def NBg.twice (s : NBg) (i : Int) : NBg := if s.has i then s.put (s.l.getD i.toNat (0, Sv.nil)).2 else s
def NBg.twiceN (s : NBg) (i : Int) : Int := if s.has i then s.putN else 0
def NBg.twiceE (s : NBg) (i : Int) : Int := if s.has i then s.putE else 7
theorem nb_twice_any (g : Nat) (v : Value) (s : NBg) (i : Int) (w : World) (h : NBagAt w g v s) (hl : s.l.length ≤ 1000000) (h0 : 0 ≤ s.last) (h1 : s.last ≤ 1000000) :
    Calls Tryz.prog 81 #[.pointer (some ⟨g, 0, none⟩), .int .i64 i] w fun e w' => e = .returned (.tuple #[.int .i64 (s.twiceN i), .int .i64 (s.twiceE i)]) ∧ ∃ v', NBagAt w' g v' (s.twice i) ∧ NBStep w w' g v v' := by
  have HF := fun w => nb_has_any g v s i w
  have H := Lib.hid h
  cases hh : s.has i
  · have hv : Hid (s.twice i = s ∧ s.twiceN i = 0 ∧ s.twiceE i = 7) := Lib.hid (by simp [NBg.twice, NBg.twiceN, NBg.twiceE, hh])
    rw [hv.out.1, hv.out.2.1, hv.out.2.2]
    rw [hh] at HF
    clear h
    go_enter Tryz.func81, Tryz.ntmps81
    go_wp2_with (first | (go_at_call 137; refine (HF _ H.out).mono ?_; rintro e w' ⟨rfl, rfl⟩) | fail)
    go_ret2
    exact ⟨rfl, _, H.out, NBStep.refl _ _ _⟩
  · obtain ⟨g0, g1⟩ := (NBg.has_iff s i).1 hh
    obtain ⟨k, rfl⟩ := Int.eq_ofNat_of_zero_le g0
    rw [hh] at HF
    obtain ⟨A, c, rfl, hr, _, _⟩ := h.form
    obtain ⟨c0, c1, c2⟩ := nb_bag_cells h
    obtain ⟨b, off, p, rfl, _, hp, d0, d1⟩ := nb_it_at hr (k := k) (by omega)
    have hv : Hid (s.twice k = s.put p.2 ∧ s.twiceN k = s.putN ∧ s.twiceE k = s.putE) := Lib.hid (by
      refine ⟨?_, ?_, ?_⟩
      · rw [NBg.twice, if_pos hh, Int.toNat_natCast, List.getD_eq_getElem?_getD, hp]; rfl
      · rw [NBg.twiceN, if_pos hh]
      · rw [NBg.twiceE, if_pos hh])
    rw [hv.out.1, hv.out.2.1, hv.out.2.2]
    clear h hr hp hh
    go_enter Tryz.func81, Tryz.ntmps81
    go_wp2_with (first | (go_at_call 137; refine (HF _ H.out).mono ?_; rintro e w' ⟨rfl, rfl⟩) | fail)
    refine (nb_put_any g _ s p.2 _ H.out hl h0 h1).mono ?_
    rintro e w1 ⟨rfl, v', hA, hS⟩
    go_wp2_with (fail)
    go_ret2
    exact ⟨rfl, _, hA, hS⟩

def NBg.set (s : NBg) (i : Int) (x : Sv) : NBg := if s.has i then ⟨s.most, s.last, s.l.set i.toNat ((s.l.getD i.toNat (0, Sv.nil)).1, x)⟩ else s
theorem nb_set_row (l : List (Int × Sv)) (k : Nat) (x : Sv) (h : k < l.length) : (l.set k ((l.getD k (0, Sv.nil)).1, x)).flatMap nb_itc = (l.flatMap nb_itc).set (k * 2 + 1) (.slice x.A x.n x.c) := by
  induction l generalizing k with
  | nil => simp at h
  | cons a l ih =>
    cases k with
    | zero => simp [nb_itc]
    | succ k =>
      have := ih k (by simpa using h)
      simp only [List.set_cons_succ, List.flatMap_cons, List.getD_cons_succ]
      rw [this, show (k + 1) * 2 + 1 = (k * 2 + 1) + 2 from by omega]
      simp [nb_itc]
theorem nb_own_set {w : World} {base sz n : Nat} {t : TypeId} {g cap : Nat} {xs : List Value} (h : w.ownsRow base t sz (.slice (some ⟨g, 0, none⟩) n cap) n xs) (o : Nat) (x : Value) (ho : o < xs.length) : (w.setCell ⟨g, o, none⟩ x).ownsRow base t sz (.slice (some ⟨g, 0, none⟩) n cap) n (xs.set o x) := by
  refine ⟨by rw [List.length_set]; exact h.1, ?_⟩
  rcases h.2 with ⟨h1, _⟩ | ⟨g', cap', cur, h1, h2, h3, h4⟩
  · cases h1
  · cases h1
    have hb : Blk w g t cur := h3
    refine .inr ⟨g, cap, cur.setIfInBounds o x, rfl, h2, hb.set_ o x, h4.1, h4.2.1, by rw [Array.size_setIfInBounds]; exact h4.2.2.1, ?_⟩
    rw [Array.toList_setIfInBounds, List.take_set, h4.2.2.2]
theorem nb_set_any (g : Nat) (v : Value) (s : NBg) (i : Int) (x : Sv) (w : World) (h : NBagAt w g v s) :
    Calls Tryz.prog 83 #[.pointer (some ⟨g, 0, none⟩), .int .i64 i, .slice x.A x.n x.c] w fun e w' => e = .returned (.bool (s.has i)) ∧ NBagAt w' g v (s.set i x) ∧ NBStep w w' g v v := by
  have HF := fun w => nb_has_any g v s i w
  have H := Lib.hid h
  cases hh : s.has i
  · have hv : Hid (s.set i x = s) := Lib.hid (by rw [NBg.set, hh]; rfl)
    rw [hh] at HF
    rw [hv.out]
    clear h
    go_enter Tryz.func83, Tryz.ntmps83
    go_wp2_with (first | (go_at_call 137; refine (HF _ H.out).mono ?_; rintro e w' ⟨rfl, rfl⟩) | fail)
    go_ret
    exact ⟨rfl, H.out, NBStep.refl _ _ _⟩
  · obtain ⟨h0, h1⟩ := (NBg.has_iff s i).1 hh
    obtain ⟨k, rfl⟩ := Int.eq_ofNat_of_zero_le h0
    rw [hh] at HF
    have hk : k < s.l.length := by omega
    have hv : Hid (s.set k x = ⟨s.most, s.last, s.l.set k ((s.l.getD k (0, Sv.nil)).1, x)⟩) := Lib.hid (by rw [NBg.set, if_pos hh, Int.toNat_natCast])
    rw [hv.out]
    have ho := h.2
    have hne : v.ownBlock ≠ some g := own_blk_ne h.2 h.1 (by decide)
    obtain ⟨c0, c1, c2⟩ := nb_bag_cells h
    obtain ⟨hlen, hown⟩ := ho
    rcases hown with ⟨_, hz⟩ | ⟨r, cap, cur, rfl, h2, h3, h4⟩
    · omega
    have hne' : r ≠ g := fun e => hne (by simp [Value.ownBlock, e])
    have hbr : Blk w r 232 cur := h3
    obtain ⟨_, _, p, hA, _, hp, d0, d1⟩ := nb_it_at (Reads.of_own h.2) (k := k) hk
    cases hA
    simp only [Nat.zero_add] at d0 d1
    have f1 := hbr.frozen (k * 2 + 1)
    have hfin : Hid (NBagAt (w.setCell ⟨r, k * 2 + 1, none⟩ (.slice x.A x.n x.c)) g (.slice (some ⟨r, 0, none⟩) s.l.length cap) ⟨s.most, s.last, s.l.set k ((s.l.getD k (0, Sv.nil)).1, x)⟩ ∧ NBStep w (w.setCell ⟨r, k * 2 + 1, none⟩ (.slice x.A x.n x.c)) g (.slice (some ⟨r, 0, none⟩) s.l.length cap) (.slice (some ⟨r, 0, none⟩) s.l.length cap)) := Lib.hid (by
      refine ⟨⟨h.1.far (fun e => hne' e.symm) _, ?_⟩, ⟨?_, fun q hq => .inl hq⟩⟩
      · have := nb_own_set h.2 (k * 2 + 1) (.slice x.A x.n x.c) (by rw [h.2.1]; omega)
        simp only [List.length_set]
        rwa [nb_set_row s.l k x hk]
      · exact (Chg.of_grown (only_setCell (World.grownBy.refl w (some r)) (p := ⟨r, k * 2 + 1, none⟩) (.inl rfl) (.slice x.A x.n x.c))).mono (fun q _ hq => .inr (show some r = some q from hq.symm)))
    have hkl : (k : Int) < s.l.length := by omega
    clear h hne hne' hbr h2 h3 h4 hlen hh h1 hp hv
    go_enter Tryz.func83, Tryz.ntmps83
    go_wp2_with (first | (go_at_call 137; refine (HF _ H.out).mono ?_; rintro e w' ⟨rfl, rfl⟩) | fail)
    go_ret
    exact ⟨rfl, hfin.out⟩
end Go.Proofs.YtnnegldaekmgbaaGreatDoor
