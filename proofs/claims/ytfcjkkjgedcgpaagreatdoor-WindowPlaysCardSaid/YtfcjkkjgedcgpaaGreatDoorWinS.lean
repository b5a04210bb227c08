/- Windows: the two alike; same. -/
import Derived.Test.YtfcjkkjgedcgpaaGreatDoorWinR

namespace Go.Proofs.YtfcjkkjgedcgpaaGreatDoor
open Go.RowKit
set_option linter.unusedSimpArgs false
set_option linter.unusedVariables false
set_option maxHeartbeats 8000000
set_option maxRecDepth 100000

/-- the two windows say the same -/
structure Rel (s : Wn) (r : RW) : Prop where
  low : r.low = s.low
  fin : r.fin = s.lend
  done : r.done = s.done
  val : r.l.map Up.val = s.l.map Up.val
theorem Rel.len {s : Wn} {r : RW} (h : Rel s r) : r.l.length = s.l.length := by have := congrArg List.length h.val; simpa using this
theorem val_get {l m : List Up} (h : l.map Up.val = m.map Up.val) {i : Nat} {u : Up} (hu : l[i]? = some u) : ∃ x, m[i]? = some x ∧ u.val = x.val := by
  have h1 : (m.map Up.val)[i]? = some u.val := by rw [← h, List.getElem?_map, hu]; rfl
  rw [List.getElem?_map] at h1
  cases hx : m[i]? with
  | none => rw [hx] at h1; cases h1
  | some x => rw [hx] at h1; simp only [Option.map_some, Option.some.injEq] at h1; exact ⟨x, rfl, h1.symm⟩
theorem Row1.of_val {a : Int} {l m : List Up} (h : Row1 a l) (hv : m.map Up.val = l.map Up.val) : Row1 a m := by
  intro i u hu
  obtain ⟨x, hx, he⟩ := val_get hv hu
  have h1 := h i x hx
  have h2 : u.seq = x.seq := congrArg Prod.fst he
  omega
theorem filter_all {l : List Up} {p : Up → Bool} (h : ∀ u ∈ l, p u = true) : l.filter p = l := List.filter_eq_self.2 h
theorem filter_row {l : List Up} {a X : Int} (h : Row1 a l) (h0 : a ≤ X) (h1 : X - a ≤ l.length) : (l.filter fun u => decide (X < u.seq)) = l.drop (X - a).toNat := by
  induction l generalizing a with
  | nil => simp
  | cons u r ih =>
    obtain ⟨hs, hr⟩ := h.tail
    by_cases hd : X = a
    · subst hd
      rw [filter_all (fun x hx => by have := h.gt x hx; simpa using this)]
      simp
    · rw [List.filter_cons_of_neg (by simp; omega), ih hr (by omega) (by simp at h1; omega), show (X - a).toNat = (X - (a + 1)).toNat + 1 from by omega, List.drop_succ_cons]
theorem filter_upto {l : List Up} {a X : Int} (h : Row1 a l) (h0 : a ≤ X) : (l.filter fun u => decide (u.seq ≤ X)) = l.take (X - a).toNat := by
  induction l generalizing a with
  | nil => simp
  | cons u r ih =>
    obtain ⟨hs, hr⟩ := h.tail
    by_cases hd : X = a
    · subst hd
      have : (u :: r).filter (fun u => decide (u.seq ≤ X)) = [] := by
        rw [List.filter_eq_nil_iff]
        intro x hx
        have := h.gt x hx
        simp; omega
      rw [this]; simp
    · rw [List.filter_cons_of_pos (by simp; omega), ih hr (by omega), show (X - a).toNat = (X - (a + 1)).toNat + 1 from by omega, List.take_succ_cons]
theorem filter_two {l : List Up} {a D X : Int} (h : Row1 a l) (h0 : a ≤ D) (h1 : D ≤ X) (h2 : D - a ≤ l.length) : (l.filter fun u => decide (D < u.seq) && decide (u.seq ≤ X)) = (l.drop (D - a).toNat).take (X - D).toNat := by
  have e : (l.filter fun u => decide (D < u.seq) && decide (u.seq ≤ X)) = (l.filter fun u => decide (D < u.seq)).filter fun u => decide (u.seq ≤ X) := by
    rw [List.filter_filter]
    congr 1
    funext u
    exact Bool.and_comm _ _
  rw [e, filter_row h h0 h2]
  have hr : Row1 D (l.drop (D - a).toNat) := by
    have := h.drop (D - a).toNat
    rwa [show a + ((D - a).toNat : Nat) = D from by omega] at this
  exact filter_upto hr h1
/-- what trim and kept make of the same -/
theorem rel_trim {s : Wn} {low fin done : Int} {A : Option Addr} {c : Nat} {l : List Up} (hok : s.ok) (h : Rel s ⟨low, fin, done, A, c, l⟩) (A' : Option Addr) (c' : Nat) :
    Rel s.trim ⟨RW.keptLow ⟨low, fin, done, A, c, l⟩, fin, done, A', c', RW.keptL ⟨low, fin, done, A, c, l⟩⟩ := by
  obtain ⟨h1, h2, h3, h4⟩ := h
  simp only at h1 h2 h3 h4
  subst h1 h2 h3
  obtain ⟨e1, e2⟩ := s.trim_lend hok
  obtain ⟨b1, b2, b3, b4⟩ := s.cut_bounds hok
  by_cases hs : s.lend < 32
  · rw [trim_small hs]
    exact ⟨by unfold RW.keptLow; rw [if_pos hs], rfl, rfl, by unfold RW.keptL; rw [if_pos hs]; exact h4⟩
  · have hc : RW.cut ⟨s.low, s.lend, s.done, A, c, l⟩ = s.cutTo := rfl
    have hl : l.length = s.l.length := by have := congrArg List.length h4; simpa using this
    refine ⟨?_, e1.symm, e2.symm, ?_⟩
    · unfold RW.keptLow Wn.trim; rw [if_neg hs, if_neg hs, hc]
    · unfold RW.keptL Wn.trim; rw [if_neg hs, if_neg hs, hc]
      show (l.filter fun u => decide (s.cutTo < u.seq)).map Up.val = _
      rw [filter_row (hok.row.of_val h4) b1 (by omega), List.map_drop, List.map_drop, h4]
theorem rel_addE {s : Wn} {r : RW} (h : Rel s r) (u : Up) : r.addE u = s.addE u := by unfold RW.addE Wn.addE; rw [h.fin]
theorem rel_add {s s' : Wn} {r r' : RW} {u : Up} (hok : s.ok) (hok2 : ∀ u' : Up, u'.val = u.val → s.addE u = 0 → (Wn.mk s.low s.done (s.l ++ [u'])).ok) (h : Rel s r) (hs : AddS s u s') (hr : RAddS r u r') : Rel s' r' := by
  rcases hs with ⟨h1, rfl⟩ | ⟨h1, u', hv, rfl⟩
  · rcases hr with ⟨_, rfl⟩ | ⟨h2, _⟩
    · exact h
    · rw [rel_addE h] at h2; exact absurd h2 h1
  · rcases hr with ⟨h2, _⟩ | ⟨h2, l1, l2, l3, l4⟩
    · rw [rel_addE h] at h2; exact absurd h1 h2
    · have hq : u.seq - 1 = s.lend := by
        unfold Wn.addE at h1
        split at h1
        · rename_i hne; exact absurd h1 hne
        · split at h1
          · cases h1
          · rename_i h; simpa using h
      have hl : (Wn.mk s.low s.done (s.l ++ [u'])).lend = u.seq := by unfold Wn.lend at hq ⊢; simp; omega
      have hrel : Rel (Wn.mk s.low s.done (s.l ++ [u'])) (r.grown u) := ⟨h.low, hl.symm, h.done, by show (r.l ++ [u]).map Up.val = _; simp [h.val, hv]⟩
      have := rel_trim (hok2 u' hv h1) hrel r'.A r'.c
      obtain ⟨a1, a2, a3, a4⟩ := this
      exact ⟨by rw [l1]; exact a1, by rw [l2]; exact a2, by rw [l3]; exact a3, by rw [l4]; exact a4⟩
theorem rel_reach {s : Wn} {r : RW} (hok : s.ok) (h : Rel s r) (d : Int) (A' : Option Addr) (c' : Nat) : Rel (s.reach d) ⟨(r.after d).keptLow, r.fin, r.upTo d, A', c', (r.after d).keptL⟩ := by
  have hu : r.upTo d = s.upTo d := by unfold RW.upTo Wn.upTo; rw [h.done, h.fin]
  have hrel : Rel (Wn.mk s.low (s.upTo d) s.l) ⟨r.low, r.fin, r.upTo d, r.A, r.c, r.l⟩ := ⟨h.low, h.fin, hu, h.val⟩
  exact rel_trim (Wn.reach_ok0 hok d) hrel A' c'
theorem rel_told {s : Wn} {r : RW} (hok : s.ok) (h : Rel s r) (d : Int) : (r.told d).map Up.val = (s.told d).map Up.val := by
  have hu : r.upTo d = s.upTo d := by unfold RW.upTo Wn.upTo; rw [h.done, h.fin]
  obtain ⟨h3, h4⟩ := Wn.upTo_bounds hok d
  have h1 := hok.ld
  have h2 := hok.de
  unfold Wn.lend at h2
  rw [Wn.told_eq hok]
  unfold RW.told
  rw [hu, h.done, filter_two (hok.row.of_val h.val) h1 h3 (by rw [h.len]; omega), List.map_take, List.map_drop, List.map_take, List.map_drop, h.val]
theorem pick_val (a : Int) (m : Int) (l k : List Up) (h : l.map Up.val = k.map Up.val) : (pickL (batchStep a) m l).map Up.val = (pickL (batchStep a) m k).map Up.val := by
  induction l generalizing m k with
  | nil =>
    cases k with
    | nil => rfl
    | cons x r => simp at h
  | cons u r ih =>
    cases k with
    | nil => simp at h
    | cons x t =>
      simp only [List.map_cons, List.cons.injEq] at h
      have hs : u.seq = x.seq := congrArg Prod.fst h.1
      by_cases hc : a < u.seq ∧ 1 ≤ m
      · rw [pickL_yes (s' := m - 1) (by rw [batchStep, if_pos hc]), pickL_yes (s' := m - 1) (by rw [batchStep, if_pos (by rw [← hs]; exact hc)]), List.map_cons, List.map_cons, h.1, ih _ _ h.2]
      · rw [pickL_no (s' := m) (by rw [batchStep, if_neg hc]), pickL_no (s' := m) (by rw [batchStep, if_neg (by rw [← hs]; exact hc)]), ih _ _ h.2]
theorem rel_from {s : Wn} {r : RW} (h : Rel s r) (got most : Int) : r.has got = s.has got ∧ (r.behind got most).map Up.val = (s.behind got most).map Up.val := by
  have h1 : r.has got = s.has got := by unfold RW.has Wn.has; rw [h.low, h.fin]
  refine ⟨h1, ?_⟩
  unfold RW.behind Wn.behind
  rw [h1]
  split
  · exact pick_val _ _ _ _ h.val
  · rfl

theorem wsame_any (b0 : Nat) (W : World) (g : Nat) (v : Value) (s : Wn) (r : RW) (h : WinAt b0 W g v s) (hr : Rel s r) :
    Calls Tryz.prog 22 #[.pointer (some ⟨g, 0, none⟩), r.agg] W fun e w' => e = .returned (.bool true) ∧ Below W.heap.size W w' := by
  have H := Lib.hid h
  obtain ⟨low, fin, done, A, c, l⟩ := r
  obtain ⟨h1, h2, h3, h4⟩ := hr
  have hl : l.length = s.l.length := by have := congrArg List.length h4; simpa using this
  simp only at h1 h2 h3
  subst h1 h2 h3
  have HB1 : Hid (Below W.heap.size W (W.alloc (.cells #[.int .u64 s.low, .int .u64 s.lend, .int .u64 s.done, .slice A s.l.length c] 42))) := Lib.hid (by repeat (first | with_reducible exact Below.refl _ _ | with_reducible refine Below.setCell ?_ (by first | omega | (simp <;> omega)) _ | with_reducible refine Below.alloc ?_ (by first | omega | (simp <;> omega)) _ | with_reducible refine below_drewN ?_ _ | with_reducible refine Below.drew ?_))
  have BR : Hid (Blk (W.alloc (.cells #[.int .u64 s.low, .int .u64 s.lend, .int .u64 s.done, .slice A s.l.length c] 42)) W.heap.size 42 #[.int .u64 s.low, .int .u64 s.lend, .int .u64 s.done, .slice A s.l.length c]) := Lib.hid (Blk.new _ _ _)
  have hw1 : IntKind.u64.wrap (s.lend - s.done) = s.lend - s.done := by have := h.ok.de; have := h.ok.big; have := h.ok.ld; have := h.ok.low; rw [IntKind.wrap_u64]; omega
  have hw2 : IntKind.i64.wrap (s.lend - s.done) = s.lend - s.done := by have := h.ok.de; have := h.ok.big; have := h.ok.ld; have := h.ok.low; rw [IntKind.wrap_i64]; omega
  show Calls Tryz.prog 22 #[.pointer (some ⟨g, 0, none⟩), .agg #[.int .u64 s.low, .int .u64 s.lend, .int .u64 s.done, .slice A l.length c]] W _
  rw [hl]
  clear h h4 hl
  go_enter Tryz.func22, Tryz.ntmps22
  go_upto_region 1 with (fail)
  obtain ⟨W5, hW5⟩ : ∃ W5, W5 = W.alloc (.cells #[.int .u64 s.low, .int .u64 s.lend, .int .u64 s.done, .slice A s.l.length c] 42) := ⟨_, rfl⟩
  rw [← hW5] at HB1 BR ⊢
  clear hW5
  obtain ⟨x0, x1, x2, x3⟩ := rw_cells BR.out
  have lx := BR.out.lt
  go_wp2_with (fail)
  have C1 := Lib.hid (fun W' (h9 : Below W5.heap.size W5 W') => wlow_any b0 W' g v s ((H.out.below HB1.out).below h9))
  have C2 := Lib.hid (fun W' (h9 : Below W5.heap.size W5 W') => wend_any b0 W' g v s ((H.out.below HB1.out).below h9))
  have C3 := Lib.hid (fun W' (h9 : Below W5.heap.size W5 W') => wdone_any b0 W' g v s ((H.out.below HB1.out).below h9))
  have C4 := Lib.hid (fun W' (h9 : Below W5.heap.size W5 W') => wheld_any b0 W' g v s ((H.out.below HB1.out).below h9))
  have C5 := Lib.hid (fun W' (h9 : Below W5.heap.size W5 W') => wdirty_any b0 W' g v s ((H.out.below HB1.out).below h9))
  have C6 := Lib.hid (fun W' (h9 : Below W5.heap.size W5 W') => wroom_any b0 W' g v s ((H.out.below HB1.out).below h9))
  have hb : Below W5.heap.size W5 W5.drew := (Below.refl _ _).drew
  go_region_held3 (fun w' => w'.cell? ⟨W.heap.size, 0, none⟩ = some (.int .u64 s.low) ∧ w'.cell? ⟨W.heap.size, 1, none⟩ = some (.int .u64 s.lend) ∧ w'.cell? ⟨W.heap.size, 2, none⟩ = some (.int .u64 s.done) ∧ w'.cell? ⟨W.heap.size, 3, none⟩ = some (.slice A s.l.length c)) (go_keep) (first
    | (go_at_call 14; refine (C1.out _ hb).mono ?_; rintro e w6 ⟨rfl, rfl⟩)
    | (go_at_call 9; refine (C2.out _ hb).mono ?_; rintro e w6 ⟨rfl, hb6⟩; replace hb := hb.trans (hb6.mono hb.size); obtain ⟨x0, x1, x2, x3⟩ := rw_cells (BR.out.below hb BR.out.lt); clear hb6)
    | (go_at_call 11; refine (C3.out _ hb).mono ?_; rintro e w6 ⟨rfl, rfl⟩)
    | (go_at_call 12; refine (C4.out _ hb).mono ?_; rintro e w6 ⟨rfl, rfl⟩)
    | (go_at_call 13; refine (C5.out _ hb).mono ?_; rintro e w6 ⟨rfl, hb6⟩; replace hb := hb.trans (hb6.mono hb.size); obtain ⟨x0, x1, x2, x3⟩ := rw_cells (BR.out.below hb BR.out.lt); clear hb6)
    | (go_at_call 23; refine (C6.out _ hb).mono ?_; rintro e w6 ⟨rfl, hb6⟩; replace hb := hb.trans (hb6.mono hb.size); obtain ⟨x0, x1, x2, x3⟩ := rw_cells (BR.out.below hb BR.out.lt); clear hb6)
    | fail)
  go_wp2_with (fail)
  go_ret
  exact ⟨rfl, HB1.out.trans (hb.mono HB1.out.size)⟩
end Go.Proofs.YtfcjkkjgedcgpaaGreatDoor
