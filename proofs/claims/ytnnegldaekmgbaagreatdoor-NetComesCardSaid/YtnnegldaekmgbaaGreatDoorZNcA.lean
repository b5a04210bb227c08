/- NetComes: the plain laws: what a burst turns; what the net holds. -/
import Derived.Test.YtnnegldaekmgbaaGreatDoorZNtZ
import Derived.Test.YtnnegldaekmgbaaGreatDoorZNtO
import Derived.Test.YtnnegldaekmgbaaGreatDoorZNtW
namespace Go.Proofs.YtnnegldaekmgbaaGreatDoor
open Go.RowKit
set_option linter.unusedSimpArgs false
set_option linter.unusedVariables false
set_option maxHeartbeats 2000000
set_option maxRecDepth 100000

def bitL (l : List Nat) (a : Nat) : Bool := (l.getD (a / 8) 0).testBit (a % 8)
theorem turn1_bit (bit pat i : Nat) (l : List Nat) (a : Nat) (ha : a / 8 < l.length) : bitL (turn1 bit pat i l) a = (bitL l a ^^ decide (bit + i = a ∧ pat / 2 ^ i % 2 = 1)) := by
  unfold turn1
  split
  · rename_i h
    unfold bitL
    by_cases hj : (bit + i) / 8 = a / 8
    · rw [hj, List.getD_eq_getElem?_getD, List.getElem?_set_self ha, Option.getD_some, Nat.testBit_xor, Nat.testBit_two_pow]
      congr 1
      by_cases hq : (bit + i) % 8 = a % 8
      · rw [decide_eq_true hq, decide_eq_true ⟨by omega, h.2⟩]
      · rw [decide_eq_false hq, decide_eq_false (fun e => hq (by rw [e.1]))]
    · rw [List.getD_eq_getElem?_getD, List.getElem?_set_ne hj, decide_eq_false (fun e => hj (by rw [e.1])), Bool.xor_false, List.getD_eq_getElem?_getD]
  · rename_i h
    rw [decide_eq_false (fun e => h ⟨by rw [e.1]; exact ha, e.2⟩), Bool.xor_false]
theorem turnK_bit (bit pat : Nat) (l : List Nat) (t a : Nat) (ha : a / 8 < l.length) (hb : bit ≤ a) : bitL (turnK bit pat l t) a = (bitL l a ^^ decide (a - bit < t ∧ pat / 2 ^ (a - bit) % 2 = 1)) := by
  induction t with
  | zero => rw [turnK, decide_eq_false (fun e => Nat.not_lt_zero _ e.1), Bool.xor_false]
  | succ t ih =>
    rw [turnK, turn1_bit _ _ _ _ _ (by rw [turnK_len]; exact ha), ih, Bool.xor_assoc]
    congr 1
    by_cases h : bit + t = a
    · have e : a - bit = t := by omega
      rw [e]
      by_cases hp : pat / 2 ^ t % 2 = 1
      · rw [decide_eq_false (fun x => Nat.lt_irrefl _ x.1), decide_eq_true ⟨h, hp⟩, decide_eq_true ⟨Nat.lt_succ_self _, hp⟩]; rfl
      · rw [decide_eq_false (fun x => hp x.2), decide_eq_false (fun x => hp x.2), decide_eq_false (fun x => hp x.2)]; rfl
    · rw [decide_eq_false (p := bit + t = a ∧ pat / 2 ^ t % 2 = 1) (fun x => h x.1), Bool.xor_false]
      congr 1
      exact propext ⟨fun x => ⟨by omega, x.2⟩, fun x => ⟨by have := x.1; omega, x.2⟩⟩
theorem low_bit (pat : Nat) (h : pat % 256 ≠ 0) : ∃ i, i < 8 ∧ pat / 2 ^ i % 2 = 1 := by
  have h0 : ¬ ∀ i, i < 8 → pat / 2 ^ i % 2 ≠ 1 := fun a => by
    have a0 := a 0 (by decide)
    have a1 := a 1 (by decide)
    have a2 := a 2 (by decide)
    have a3 := a 3 (by decide)
    have a4 := a 4 (by decide)
    have a5 := a 5 (by decide)
    have a6 := a 6 (by decide)
    have a7 := a 7 (by decide)
    simp only [Nat.reducePow] at a0 a1 a2 a3 a4 a5 a6 a7
    omega
  refine Classical.byContradiction fun c => h0 fun i hi e => c ⟨i, hi, e⟩
theorem turn_ne (bit pat : Nat) (l : List Nat) (h : pat % 256 ≠ 0) (hb : bit + 7 < 8 * l.length) : turnK bit pat l 32 ≠ l := by
  obtain ⟨i, hi, hp⟩ := low_bit pat h
  intro e
  have b := turnK_bit bit pat l 32 (bit + i) (by omega) (by omega)
  rw [e, show bit + i - bit = i by omega, decide_eq_true ⟨by omega, hp⟩] at b
  cases hx : bitL l (bit + i) <;> rw [hx] at b <;> cases b
theorem turnV_len (bit : Int) (pat : Nat) (l : List Nat) : (turnV bit pat l).length = l.length := by
  unfold turnV
  split
  · exact turnK_len _ _ _ _
  · rfl
/-- a right letter's bytes -/
theorem encX_form (x : LV) (w : World) (B : Nat) (h : LIn w B x) (h0 : chkX x = 0) : ∃ (k : Nat) (l : List Nat), isBs l ∧ k < 256 ∧ putE k l = 0 ∧ encX x = putS k l ∧ 4 ≤ l.length ∧ l.length ≤ 16384 := by
  have h1 := h0
  unfold chkX at h1
  split at h1
  · omega
  · rename_i hk
    have hr := room_ok x w B h h0
    have hz2 : bytesB (bodyB x.l (partsI x.l.kd.toNat) (partB x)) := bytesB_app (bytesB_app (big_bytes _ _) (big_bytes _ _)) (bytes_flat _ _ (fun i _ => partB_bytes x w B i h))
    have h4 : 4 ≤ (bodyB x.l (partsI x.l.kd.toNat) (partB x)).length := by unfold bodyB; rw [List.length_append, hdr_len]; omega
    have hlen : (bodyB x.l (partsI x.l.kd.toNat) (partB x)).length ≤ 16384 := by unfold bodyB; rw [List.length_append, hdr_len]; omega
    obtain ⟨e1, e2⟩ := enc_putS x.l.kd.toNat (bodyB x.l (partsI x.l.kd.toNat) (partB x)) (by omega) hlen
    refine ⟨x.l.kd.toNat, natB (bodyB x.l (partsI x.l.kd.toNat) (partB x)), ?_, by omega, e1, e2.symm, by unfold natB; rw [List.length_map]; exact h4, by unfold natB; rw [List.length_map]; exact hlen⟩
    intro b hb
    unfold natB at hb
    obtain ⟨z, hz, rfl⟩ := List.mem_map.1 hb
    have := hz2 z hz
    omega
theorem encX_len (x : LV) (w : World) (B : Nat) (h : LIn w B x) (h0 : chkX x = 0) : 11 ≤ (encX x).length ∧ (encX x).length ≤ 16391 := by
  obtain ⟨k, l, _, _, e, e2, h4, h5⟩ := encX_form x w B h h0
  rw [e2, putS_len k l e]
  omega
/-- what is spoiled is refused -/
theorem spoiled (x : LV) (w : World) (B : Nat) (h : LIn w B x) (h0 : chkX x = 0) (bit pat : Nat) (hb : bit < 80) (hp : pat % 256 ≠ 0) : dE (turnV (bit : Int) pat (encX x)) ≠ 0 := by
  obtain ⟨k, l, hl, hk, e, e2, h4, h5⟩ := encX_form x w B h h0
  intro hd
  have hf := dE_fits _ hd
  have hs : putS k l = sealB (putB k l) := by unfold putS; rw [if_pos e]
  have hbs := putB_bs k l hk hl (by omega)
  rw [e2, hs, burst_V (putB k l) hbs bit pat (by simp [putB]; omega), decide_eq_true_eq, ← hs] at hf
  have hinj : ∀ x y : List Nat, bI x = bI y → x = y := fun x y e => (List.map_inj_right (fun a b hab => by omega)).1 e
  have hf := hinj _ _ hf
  have hn := putS_len k l e
  unfold turnV at hf
  rw [if_pos ⟨by omega, by simp; omega⟩] at hf
  exact turn_ne bit pat (putS k l) hp (by omega) (by simpa using hf)
/-- what the net holds: right letters of those that were sent, and the sums -/
structure NcI (xs : List LV) (n : Nv) (t : Nat) : Prop where
  fr : ∀ q ∈ n.l, ∃ x ∈ xs, chkX x = 0 ∧ q.2 = encX x
  most : n.most = 100
  ok : n.ok t
  bal : n.b.a = n.b.b + n.b.c + n.b.d + n.l.length
theorem NcI.new (xs : List LV) : NcI xs (Nv.new 100) 0 :=
  ⟨fun q hq => (by cases hq), by decide, ⟨by decide, by decide, by decide, by decide, by decide, by decide⟩, by decide⟩
theorem ok_up {n : Nv} {t : Nat} (h : n.ok t) : n.ok ((t + 1 : Nat) : Int) := h.mono (by omega)
theorem NcI.send {xs : List LV} {q : Nv × Int} {t : Nat} (h : NcI xs q.1 t) (x : LV) (hx : x ∈ xs) (ht : t < 100) : NcI xs (send1 q x).1 (t + 1) := by
  have hm := h.most
  have hlen := h.ok.len
  unfold send1
  by_cases hc : chkX x = 0
  · rw [if_neg (by simpa using hc), if_neg (by omega)]
    obtain ⟨o1, o2, o3, o4, o5, o6⟩ := h.ok
    refine ⟨fun p hp => ?_, hm, ⟨?_, ?_, ?_, ?_, ?_, ?_⟩, ?_⟩
    · rcases List.mem_append.1 hp with hp | hp
      · exact h.fr p hp
      · rw [List.mem_singleton] at hp
        subst hp
        exact ⟨x, hx, hc, rfl⟩
    · simp only; omega
    · simp only [List.length_append, List.length_singleton]; omega
    · simp only [Bd.add]; omega
    · simp only [Bd.add]; omega
    · simp only [Bd.add]; omega
    · simp only [Bd.add]; omega
    · have := h.bal; simp only [Bd.add, List.length_append, List.length_singleton]; omega
  · rw [if_pos hc]
    exact ⟨h.fr, hm, ok_up h.ok, h.bal⟩
theorem NcI.sends (xs : List LV) (j : Nat) (hj : j ≤ xs.length) (h10 : xs.length ≤ 10) : NcI xs (sendQ (Nv.new 100) xs j).1 j := by
  induction j with
  | zero => exact NcI.new xs
  | succ j ih =>
    have hx : xs[j]? = some xs[j] := List.getElem?_eq_getElem (by omega)
    rw [sendQ_step _ _ _ _ hx]
    exact (ih (by omega)).send _ (List.getElem_mem _) (by omega)
theorem NcI.twice {xs : List LV} {n : Nv} {t k : Nat} (h : NcI xs n t) {q : Int × List Nat} (hq : n.l[k]? = some q) : NcI xs { n with last := n.last + 1, l := n.l ++ [(n.last + 1, q.2)], b := n.b.add 0 1 } (t + 1) := by
  obtain ⟨o1, o2, o3, o4, o5, o6⟩ := h.ok
  refine ⟨fun p hp => ?_, h.most, ⟨?_, ?_, ?_, ?_, ?_, ?_⟩, ?_⟩
  · rcases List.mem_append.1 hp with hp | hp
    · exact h.fr p hp
    · rw [List.mem_singleton] at hp
      subst hp
      exact h.fr q (List.mem_of_getElem? hq)
  · simp only; omega
  · simp only [List.length_append, List.length_singleton]; omega
  · simp only [Bd.add]; omega
  · simp only [Bd.add]; omega
  · simp only [Bd.add]; omega
  · simp only [Bd.add]; omega
  · have := h.bal; simp only [Bd.add, List.length_append, List.length_singleton]; omega
theorem NcI.gone {xs : List LV} {n : Nv} {t k i : Nat} (h : NcI xs n t) (hk : k < n.l.length) (hi : i = 1 ∨ i = 2 ∨ i = 3) : NcI xs { n with l := n.l.eraseIdx k, b := n.b.add i 1 } (t + 1) := by
  obtain ⟨o1, o2, o3, o4, o5, o6⟩ := h.ok
  have hl := List.length_eraseIdx_of_lt hk
  have hb := h.bal
  rcases hi with rfl | rfl | rfl
  all_goals
    refine ⟨fun p hp => h.fr p (List.mem_of_mem_eraseIdx hp), h.most, ⟨?_, ?_, ?_, ?_, ?_, ?_⟩, ?_⟩
    · simp only; omega
    · simp only; omega
    · simp only [Bd.add]; omega
    · simp only [Bd.add]; omega
    · simp only [Bd.add]; omega
    · simp only [Bd.add]; omega
    · simp only [Bd.add]; omega
theorem NcI.come {xs : List LV} {n : Nv} {t k : Nat} (h : NcI xs n t) (hk : k < n.l.length) (e : Int) : NcI xs (n.came k e) (t + 1) := by
  unfold Nv.came
  by_cases he : e = 0
  · rw [if_pos he]; exact h.gone hk (.inl rfl)
  · rw [if_neg he]; exact h.gone hk (.inr (.inr rfl))
theorem came_set (n : Nv) (k : Nat) (p : Int × List Nat) (e : Int) : ({ n with l := n.l.set k p } : Nv).came k e = n.came k e := by
  unfold Nv.came
  simp only [List.eraseIdx_set_eq]
theorem NcI.at_ {xs : List LV} {n : Nv} {t k : Nat} (h : NcI xs n t) {q : Int × List Nat} (hq : n.l[k]? = some q) (w : World) (B : Nat) (hX : ∀ x ∈ xs, LIn w B x) :
    ∃ x ∈ xs, chkX x = 0 ∧ q.2 = encX x ∧ dE q.2 = 0 ∧ dV q.2 = x.val ∧ q.2.length ≤ 16391 := by
  obtain ⟨x, hx, hc, e⟩ := h.fr q (List.mem_of_getElem? hq)
  obtain ⟨d1, d2⟩ := dE_back x w B (hX x hx) hc
  rw [← e] at d1 d2
  exact ⟨x, hx, hc, e, d1, d2, by rw [e]; exact (encX_len x w B (hX x hx) hc).2⟩
theorem NetAt.more {W : World} {lo g cd gt bg bd : Nat} {v : Value} {s : NBg} {n : Nv} {m m' : Int} (h : NetAt W lo g cd gt bg bd v s n m) (hm : m ≤ m') : NetAt W lo g cd gt bg bd v s n m' := by
  obtain ⟨d, x, y, hcd, hx, hy⟩ := h.cod
  exact { h with cod := ⟨d, x, y, hcd, by omega, by omega⟩ }
end Go.Proofs.YtnnegldaekmgbaaGreatDoor
