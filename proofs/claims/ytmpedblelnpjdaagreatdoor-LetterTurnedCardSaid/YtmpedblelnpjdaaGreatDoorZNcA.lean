/- NetComes: the plain laws: what a burst turns; what the net holds. -/
import Derived.Test.YtmpedblelnpjdaaGreatDoorZNtU
import Derived.Test.YtmpedblelnpjdaaGreatDoorZNtV
import Derived.Test.YtmpedblelnpjdaaGreatDoorZNtO
import Derived.Test.YtmpedblelnpjdaaGreatDoorZNtR
import Derived.Test.YtmpedblelnpjdaaGreatDoorZNtT
import Derived.Test.YtmpedblelnpjdaaGreatDoorZGD
namespace Go.Proofs.YtmpedblelnpjdaaGreatDoor
open Go.RowKit
set_option linter.unusedSimpArgs false
set_option linter.unusedVariables false
set_option maxHeartbeats 2000000
set_option maxRecDepth 100000

/-- a right letter's bytes -/
theorem encX_form (x : LV) (w : World) (B : Nat) (h : LIn w B x) (h0 : chkX x = 0) : ∃ (k : Nat) (l : List Nat), isBs l ∧ k < 256 ∧ putE k l = 0 ∧ encX x = putS k l ∧ 4 ≤ l.length ∧ l.length ≤ 16384 := by
  have h1 := h0
  unfold chkX at h1
  split at h1
  · omega
  · rename_i hk
    have hr := room_ok x w B h h0
    have hz2 : bytesB (bodyB x.l (partsI x.l.kd.toNat) (partB x)) := bytesB_app (bytesB_app (big_bytes _ _) (big_bytes _ _)) (bytes_flat _ _ (fun i _ => partB_bytes x w B i h))
    have h4 : 4 ≤ (bodyB x.l (partsI x.l.kd.toNat) (partB x)).length := by unfold bodyB; rw [List.length_append, hdr_len]; omega
    have hlen : (bodyB x.l (partsI x.l.kd.toNat) (partB x)).length ≤ 16384 := by unfold bodyB; rw [List.length_append, hdr_len]; omega
    obtain ⟨e1, e2⟩ := enc_putS x.l.kd.toNat (bodyB x.l (partsI x.l.kd.toNat) (partB x)) (by omega) hlen
    refine ⟨x.l.kd.toNat, natB (bodyB x.l (partsI x.l.kd.toNat) (partB x)), ?_, by omega, e1, e2.symm, by unfold natB; rw [List.length_map]; exact h4, by unfold natB; rw [List.length_map]; exact hlen⟩
    intro b hb
    unfold natB at hb
    obtain ⟨z, hz, rfl⟩ := List.mem_map.1 hb
    have := hz2 z hz
    omega
theorem encX_len (x : LV) (w : World) (B : Nat) (h : LIn w B x) (h0 : chkX x = 0) : 11 ≤ (encX x).length ∧ (encX x).length ≤ 16391 := by
  obtain ⟨k, l, _, _, e, e2, h4, h5⟩ := encX_form x w B h h0
  rw [e2, putS_len k l e]
  omega
/-- what the net holds: right letters of those that were sent, and the sums -/
structure NcI (xs : List LV) (n : Nv) (t : Nat) : Prop where
  fr : ∀ q ∈ n.l, ∃ x ∈ xs, chkX x = 0 ∧ q.2 = encX x
  most : n.most = 100
  ok : n.ok t
  bal : n.b.a = n.b.b + n.b.c + n.b.d + n.l.length
theorem NcI.new (xs : List LV) : NcI xs (Nv.new 100) 0 :=
  ⟨fun q hq => (by cases hq), by decide, ⟨by decide, by decide, by decide, by decide, by decide, by decide⟩, by decide⟩
theorem NcI.twice {xs : List LV} {n : Nv} {t k : Nat} (h : NcI xs n t) {q : Int × List Nat} (hq : n.l[k]? = some q) : NcI xs { n with last := n.last + 1, l := n.l ++ [(n.last + 1, q.2)], b := n.b.add 0 1 } (t + 1) := by
  obtain ⟨o1, o2, o3, o4, o5, o6⟩ := h.ok
  refine ⟨fun p hp => ?_, h.most, ⟨?_, ?_, ?_, ?_, ?_, ?_⟩, ?_⟩
  · rcases List.mem_append.1 hp with hp | hp
    · exact h.fr p hp
    · rw [List.mem_singleton] at hp
      subst hp
      exact h.fr q (List.mem_of_getElem? hq)
  · simp only; omega
  · simp only [List.length_append, List.length_singleton]; omega
  · simp only [Bd.add]; omega
  · simp only [Bd.add]; omega
  · simp only [Bd.add]; omega
  · simp only [Bd.add]; omega
  · have := h.bal; simp only [Bd.add, List.length_append, List.length_singleton]; omega
theorem NcI.gone {xs : List LV} {n : Nv} {t k i : Nat} (h : NcI xs n t) (hk : k < n.l.length) (hi : i = 1 ∨ i = 2 ∨ i = 3) : NcI xs { n with l := n.l.eraseIdx k, b := n.b.add i 1 } (t + 1) := by
  obtain ⟨o1, o2, o3, o4, o5, o6⟩ := h.ok
  have hl := List.length_eraseIdx_of_lt hk
  have hb := h.bal
  rcases hi with rfl | rfl | rfl
  all_goals
    refine ⟨fun p hp => h.fr p (List.mem_of_mem_eraseIdx hp), h.most, ⟨?_, ?_, ?_, ?_, ?_, ?_⟩, ?_⟩
    · simp only; omega
    · simp only; omega
    · simp only [Bd.add]; omega
    · simp only [Bd.add]; omega
    · simp only [Bd.add]; omega
    · simp only [Bd.add]; omega
    · simp only [Bd.add]; omega
theorem NcI.come {xs : List LV} {n : Nv} {t k : Nat} (h : NcI xs n t) (hk : k < n.l.length) (e : Int) : NcI xs (n.came k e) (t + 1) := by
  unfold Nv.came
  by_cases he : e = 0
  · rw [if_pos he]; exact h.gone hk (.inl rfl)
  · rw [if_neg he]; exact h.gone hk (.inr (.inr rfl))
theorem NcI.at_ {xs : List LV} {n : Nv} {t k : Nat} (h : NcI xs n t) {q : Int × List Nat} (hq : n.l[k]? = some q) (w : World) (B : Nat) (hX : ∀ x ∈ xs, LIn w B x) :
    ∃ x ∈ xs, chkX x = 0 ∧ q.2 = encX x ∧ dE q.2 = 0 ∧ dV q.2 = x.val ∧ q.2.length ≤ 16391 := by
  obtain ⟨x, hx, hc, e⟩ := h.fr q (List.mem_of_getElem? hq)
  obtain ⟨d1, d2⟩ := dE_back x w B (hX x hx) hc
  rw [← e] at d1 d2
  exact ⟨x, hx, hc, e, d1, d2, by rw [e]; exact (encX_len x w B (hX x hx) hc).2⟩
theorem NetAt.more {W : World} {lo g cd gt bg bd : Nat} {v : Value} {s : NBg} {n : Nv} {m m' : Int} (h : NetAt W lo g cd gt bg bd v s n m) (hm : m ≤ m') : NetAt W lo g cd gt bg bd v s n m' := by
  obtain ⟨d, x, y, hcd, hx, hy⟩ := h.cod
  exact { h with cod := ⟨d, x, y, hcd, by omega, by omega⟩ }
end Go.Proofs.YtmpedblelnpjdaaGreatDoor
