/- Windows: the plain law of what is told, and held. -/
import Derived.Test.YtfcjkkjgedcgpaaGreatDoorWinF
namespace Go.Proofs.YtfcjkkjgedcgpaaGreatDoor
open Go.RowKit
set_option linter.unusedSimpArgs false
set_option linter.unusedVariables false

theorem pick_take (d : Int) (m : Int) (l : List Up) (h : ∀ u ∈ l, d < u.seq) : pickL (batchStep d) m l = l.take m.toNat := by
  induction l generalizing m with
  | nil => simp [pickL]
  | cons u r ih =>
    have hu := h u (by simp)
    have hr : ∀ x ∈ r, d < x.seq := fun x hx => h x (by simp [hx])
    by_cases hm : 1 ≤ m
    · rw [pickL_yes (s' := m - 1) (by rw [batchStep, if_pos ⟨hu, hm⟩]), ih _ hr, show m.toNat = (m - 1).toNat + 1 from by omega, List.take_succ_cons]
    · rw [pickL_no (s' := m) (by rw [batchStep, if_neg (by omega)]), ih _ hr, show m.toNat = 0 from by omega]; simp
theorem Row1.tail {a : Int} {u : Up} {r : List Up} (h : Row1 a (u :: r)) : u.seq = a + 1 ∧ Row1 (a + 1) r := by
  refine ⟨by have := h 0 u rfl; simpa using this, fun i x hx => ?_⟩
  have := h (i + 1) x (by simpa using hx)
  omega
theorem Row1.gt {a : Int} {l : List Up} (h : Row1 a l) : ∀ u ∈ l, a < u.seq := by
  intro u hu
  obtain ⟨i, hi⟩ := List.getElem?_of_mem hu
  have := h i u hi
  omega
theorem Row1.drop {a : Int} {l : List Up} (h : Row1 a l) (n : Nat) : Row1 (a + n) (l.drop n) := by
  intro i u hu
  rw [List.getElem?_drop] at hu
  have := h _ _ hu
  omega
theorem Row1.take {a : Int} {l : List Up} (h : Row1 a l) (n : Nat) : Row1 a (l.take n) := by
  intro i u hu
  by_cases hi : i < n
  · rw [List.getElem?_take_of_lt hi] at hu; exact h i u hu
  · rw [List.getElem?_eq_none (by rw [List.length_take]; omega)] at hu; cases hu
theorem pick_row (d : Int) (m : Int) (l : List Up) (a : Int) (h : Row1 a l) (h0 : a ≤ d) (h1 : d - a ≤ l.length) : pickL (batchStep d) m l = (l.drop (d - a).toNat).take m.toNat := by
  induction l generalizing a with
  | nil => simp [pickL]
  | cons u r ih =>
    obtain ⟨hs, hr⟩ := h.tail
    by_cases hd : d = a
    · subst hd
      rw [pick_take d m _ h.gt]
      simp
    · rw [pickL_no (s' := m) (by rw [batchStep, if_neg (by omega)]), ih (a + 1) hr (by omega) (by simp at h1; omega), show (d - a).toNat = (d - (a + 1)).toNat + 1 from by omega, List.drop_succ_cons]
theorem Wn.told_eq {s : Wn} (h : s.ok) (d : Int) : s.told d = (s.l.drop (s.done - s.low).toNat).take (s.upTo d - s.done).toNat := by
  have h1 := h.ld
  have h2 := h.de
  unfold Wn.lend at h2
  unfold Wn.told
  rw [pick_row s.done _ s.l s.low h.row h1 (by omega)]
theorem Wn.told_row {s : Wn} (h : s.ok) (d : Int) : Row1 s.done (s.told d) ∧ ((s.told d).length : Int) = s.upTo d - s.done := by
  have h1 := h.ld
  have h2 := h.de
  obtain ⟨h3, h4⟩ := Wn.upTo_bounds h d
  unfold Wn.lend at h2 h4
  rw [Wn.told_eq h]
  refine ⟨?_, ?_⟩
  · have := (h.row.drop (s.done - s.low).toNat).take (s.upTo d - s.done).toNat
    rwa [show s.low + ((s.done - s.low).toNat : Nat) = s.done from by omega] at this
  · rw [List.length_take, List.length_drop]
    omega
theorem Wn.trim_held {s : Wn} (h : s.ok) : (s.trim.l.length : Int) ≤ 32 + (s.lend - s.done) := by
  have hok := s.trim_ok h
  obtain ⟨e1, e2⟩ := s.trim_lend h
  have h1 := h.ld
  have h2 := h.de
  have h3 := h.low
  by_cases hs : s.lend < 32
  · rw [trim_small hs]
    unfold Wn.lend at *
    omega
  · have hl : s.trim.low = s.cutTo := by unfold Wn.trim; rw [if_neg hs]
    have : s.trim.low + (s.trim.l.length : Int) = s.lend := e1
    rw [hl] at this
    unfold Wn.cutTo at this
    omega
theorem Wn.reach_facts {s : Wn} (h : s.ok) (d : Int) : (s.reach d).lend = s.lend ∧ (s.reach d).done = s.upTo d ∧ (s.reach d).ok ∧ ((s.reach d).l.length : Int) ≤ 32 + (s.lend - s.upTo d) := by
  have h0 := Wn.reach_ok0 h d
  obtain ⟨e1, e2⟩ := Wn.trim_lend _ h0
  exact ⟨e1, e2, Wn.trim_ok _ h0, Wn.trim_held h0⟩
theorem add_facts {s s' : Wn} (h : s.ok) (h' : s'.ok) (hs : AddS s (oneU (s.lend + 1)) s') : s'.lend = s.lend + 1 ∧ s'.done = s.done := by
  rcases hs with ⟨h1, _⟩ | ⟨_, u', hv, rfl⟩
  · exact absurd (Wn.addE_one s h) h1
  · by_cases hlt : (Wn.mk s.low s.done (s.l ++ [u'])).lend < 32
    · rw [trim_small hlt]
      refine ⟨?_, rfl⟩
      unfold Wn.lend; simp; omega
    · have hl : (Wn.mk s.low s.done (s.l ++ [u'])).lend = s.lend + 1 := by unfold Wn.lend; simp; omega
      have e : (Wn.mk s.low s.done (s.l ++ [u'])).trim.low = (Wn.mk s.low s.done (s.l ++ [u'])).cutTo ∧ (Wn.mk s.low s.done (s.l ++ [u'])).trim.done = s.done ∧ (Wn.mk s.low s.done (s.l ++ [u'])).trim.l.length = s.l.length + 1 - ((Wn.mk s.low s.done (s.l ++ [u'])).cutTo - s.low).toNat := by
        unfold Wn.trim; rw [if_neg hlt]; simp
      obtain ⟨e1, e2, e3⟩ := e
      refine ⟨?_, e2⟩
      have hc : (Wn.mk s.low s.done (s.l ++ [u'])).cutTo = max s.low (min s.done (s.lend + 1 - 32)) := by unfold Wn.cutTo; rw [hl]
      unfold Wn.lend
      rw [e1, e3, hc]
      have h1 := h.ld
      have h2 := h.de
      unfold Wn.lend at h2 ⊢
      omega
theorem Wn.len_le {s : Wn} (h : s.ok) : (s.l.length : Int) ≤ s.lend := by have := h.low; unfold Wn.lend; omega
end Go.Proofs.YtfcjkkjgedcgpaaGreatDoor
