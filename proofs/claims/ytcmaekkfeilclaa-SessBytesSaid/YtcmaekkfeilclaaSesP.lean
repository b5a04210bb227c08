/- Tables of sessions as lists of rows: plain, no program. -/
import Derived.Test.YtcmaekkfeilclaaSesM
import Derived.Test.YtcmaekkfeilclaaMemB
namespace Go.Proofs.Ytcmaekkfeilclaa
open Go.RowKit
set_option linter.unusedSimpArgs false
set_option linter.unusedVariables false

def Rw.vals (r : Rw) : List Value := [.int .i64 r.c, .int .u64 r.n, .int .u64 r.s, .int .i64 r.k, .int .u64 r.v]
theorem Rw.vals_len (r : Rw) : r.vals.length = 5 := rfl

/-- the rows of the table from place a on, n places -/
def seg (R : Nat → Rw) (a : Nat) : Nat → List Rw
  | 0 => []
  | n + 1 => seg R a n ++ (if (R (a + n)).n = 0 then [] else [R (a + n)])
theorem seg_len (R : Nat → Rw) (a n : Nat) : (seg R a n).length ≤ n := by
  induction n with
  | zero => simp [seg]
  | succ n ih => rw [seg, List.length_append]; split <;> simp <;> omega
theorem seg_append (R : Nat → Rw) (a m n : Nat) : seg R a (m + n) = seg R a m ++ seg R (a + m) n := by
  induction n with
  | zero => simp [seg]
  | succ n ih => rw [← Nat.add_assoc, seg, ih, seg, List.append_assoc, Nat.add_assoc]
theorem seg_congr (R S : Nat → Rw) (a n : Nat) (h : ∀ i, a ≤ i → i < a + n → R i = S i) : seg R a n = seg S a n := by
  induction n with
  | zero => rfl
  | succ n ih => rw [seg, seg, ih (fun i h1 h2 => h i h1 (by omega)), h (a + n) (by omega) (by omega)]
def Inv (R : Nat → Rw) : Prop := ∀ i, (R i).n ≠ 0 → (R i).c = (i : Int) + 1
theorem Inv_zero : Inv (fun _ => Rw.zero) := fun i h => absurd rfl h
theorem Inv_set (R : Nat → Rw) (r : Rw) (h : Inv R) : Inv (setT R r) := by
  unfold setT
  split
  · next hc =>
    intro i hi
    have := fine_client r hc.1
    unfold upd at hi ⊢
    split
    · next e => subst e; unfold rowOf; omega
    · next e => rw [if_neg e] at hi; exact h i hi
  · exact h
theorem seg_mem (R : Nat → Rw) (h : Inv R) (a n : Nat) : ∀ r ∈ seg R a n, (a : Int) + 1 ≤ r.c ∧ r.c ≤ (a : Int) + n := by
  induction n with
  | zero => simp [seg]
  | succ n ih =>
    intro r hr
    rw [seg, List.mem_append] at hr
    rcases hr with hr | hr
    · have := ih r hr; omega
    · split at hr
      · simp at hr
      · next hn =>
        have e : r = R (a + n) := by simpa using hr
        have := h (a + n) hn
        subst e; omega

def findO (l : List Rw) (who : Int) : Option Rw := l.find? (fun r => r.c == who)
def findR (l : List Rw) (who : Int) : Rw := (findO l who).getD Rw.zero
def findB (l : List Rw) (who : Int) : Bool := (findO l who).isSome
theorem findO_app (l m : List Rw) (who : Int) : findO (l ++ m) who = (findO l who).or (findO m who) := by
  unfold findO; rw [List.find?_append]
theorem findO_none (l : List Rw) (who : Int) (h : ∀ r ∈ l, r.c ≠ who) : findO l who = none := by
  unfold findO
  rw [List.find?_eq_none]
  intro r hr
  simpa using h r hr
theorem findO_seg (R : Nat → Rw) (h : Inv R) (who : Int) : findO (seg R 0 6) who = if getB R who then some (R (rowOf who)) else none := by
  by_cases hc : 1 ≤ who ∧ who ≤ 6
  · obtain ⟨k, rfl⟩ : ∃ k : Nat, who = (k : Int) + 1 := ⟨(who - 1).toNat, by omega⟩
    have hk : k < 6 := by omega
    have he : rowOf ((k : Int) + 1) = k := by unfold rowOf; omega
    have e1 : (6 : Nat) = k + (1 + (5 - k)) := by omega
    have e2 : seg R 0 6 = seg R 0 k ++ (seg R k 1 ++ seg R (k + 1) (5 - k)) := by
      have := seg_append R 0 k (1 + (5 - k))
      rw [← e1, Nat.zero_add, seg_append R k 1] at this
      exact this
    have n1 : findO (seg R 0 k) ((k : Int) + 1) = none := findO_none _ _ (fun r hr => by have := seg_mem R h 0 k r hr; omega)
    have n2 : findO (seg R (k + 1) (5 - k)) ((k : Int) + 1) = none := findO_none _ _ (fun r hr => by have := seg_mem R h (k + 1) _ r hr; omega)
    rw [e2, findO_app, findO_app, n1, n2]
    have hm := (clientB_iff ((k : Int) + 1)).2 hc
    rw [getB, hm, he, seg, seg]
    by_cases hn : (R k).n = 0
    · simp [hn, findO]
    · have := h k hn
      simp [hn, findO, this]
  · rw [getB, clientB_no who hc, findO_none _ _ (fun r hr => by have := seg_mem R h 0 6 r hr; omega)]
    rfl
theorem find_seg (R : Nat → Rw) (h : Inv R) (who : Int) : findR (seg R 0 6) who = getR R who ∧ findB (seg R 0 6) who = getB R who := by
  unfold findR findB getR
  rw [findO_seg R h]
  cases getB R who <;> exact ⟨rfl, rfl⟩

def judgeL (l : List Rw) (who num : Int) : Int :=
  if clientB who = true ∧ num ≠ 0 then (if findB l who = false ∨ (findR l who).n < num then 0 else if (findR l who).n = num then 1 else 2) else 2
theorem judge_seg (R : Nat → Rw) (h : Inv R) (who num : Int) (hn : 0 ≤ num) : judgeL (seg R 0 6) who num = judgeV R who num := by
  unfold judgeL judgeV
  rw [(find_seg R h who).1, (find_seg R h who).2]
  by_cases hc : clientB who = true ∧ num ≠ 0
  · rw [if_pos hc, if_pos hc]
    cases hb : getB R who
    · have h0 : (R (rowOf who)).n = 0 := by
        unfold getB at hb
        rw [hc.1] at hb
        simpa using hb
      rw [if_pos (.inl rfl), if_pos (by omega)]
    · rw [getR, hb, if_pos rfl]
      simp only [Bool.true_eq_false, false_or]
      by_cases h1 : (R (rowOf who)).n < num
      · rw [if_pos h1, if_pos h1]
      · rw [if_neg h1, if_neg h1]
        by_cases h2 : (R (rowOf who)).n = num
        · rw [if_pos h2, if_pos h2.symm]
        · rw [if_neg h2, if_neg (fun x => h2 x.symm)]
  · rw [if_neg hc, if_neg hc]

theorem fine_num (r : Rw) (h : r.fine = true) : 1 ≤ r.n := by
  unfold Rw.fine at h
  simp only [Bool.and_eq_true, decide_eq_true_eq] at h
  exact h.1.1.1.2
/-- a row put in its place -/
def lo (l : List Rw) (r : Rw) : Nat := (l.takeWhile (fun x => decide (x.c < r.c))).length
def putL (l : List Rw) (r : Rw) : List Rw :=
  l.take (lo l r) ++ [r] ++ l.drop (lo l r + (if ((l[lo l r]?).map (·.c)) = some r.c then 1 else 0))
theorem lo_le (l : List Rw) (r : Rw) : lo l r ≤ l.length := by
  unfold lo
  exact List.Sublist.length_le (List.takeWhile_sublist _)
theorem takeWhile_app (p : Rw → Bool) (l m : List Rw) (h : ∀ x ∈ l, p x = true) : (l ++ m).takeWhile p = l ++ m.takeWhile p := by
  induction l with
  | nil => rfl
  | cons a l ih => rw [List.cons_append, List.takeWhile_cons, h a (by simp), if_pos rfl, ih (fun x hx => h x (by simp [hx]))]; rfl
theorem lo_app (l m : List Rw) (r : Rw) (h : ∀ x ∈ l, x.c < r.c) (h2 : ∀ x, m[0]? = some x → ¬ x.c < r.c) : lo (l ++ m) r = l.length := by
  unfold lo
  rw [takeWhile_app _ l m (fun x hx => by simpa using h x hx)]
  cases m with
  | nil => simp
  | cons a m =>
    have := h2 a rfl
    rw [List.takeWhile_cons, if_neg (by simpa using this)]
    simp
theorem put_seg (R : Nat → Rw) (h : Inv R) (r : Rw) (hf : r.fine = true) (hj : judgeV R r.c r.n = 0) : putL (seg R 0 6) r = seg (setT R r) 0 6 := by
  have hc := fine_client r hf
  have h1 := fine_num r hf
  obtain ⟨k, hk⟩ : ∃ k : Nat, r.c = (k : Int) + 1 := ⟨(r.c - 1).toNat, by omega⟩
  have hk6 : k < 6 := by omega
  have he : rowOf r.c = k := by unfold rowOf; omega
  have e1 : (6 : Nat) = k + (1 + (5 - k)) := by omega
  have e2 : ∀ S : Nat → Rw, seg S 0 6 = seg S 0 k ++ (seg S k 1 ++ seg S (k + 1) (5 - k)) := fun S => by
    have := seg_append S 0 k (1 + (5 - k))
    rw [← e1, Nat.zero_add, seg_append S k 1] at this
    exact this
  have hT : setT R r = upd R k r := by rw [setT, if_pos ⟨hf, hj⟩, he]
  have c1 : seg (upd R k r) 0 k = seg R 0 k := seg_congr _ _ _ _ (fun i _ h2 => by unfold upd; rw [if_neg (by omega)])
  have c2 : seg (upd R k r) (k + 1) (5 - k) = seg R (k + 1) (5 - k) := seg_congr _ _ _ _ (fun i h1 _ => by unfold upd; rw [if_neg (by omega)])
  have c3 : seg (upd R k r) k 1 = [r] := by
    rw [seg, seg, Nat.add_zero, show upd R k r k = r from by simp [upd], if_neg (by omega)]; rfl
  rw [hT, e2 (upd R k r), c1, c2, c3, e2 R]
  have hmid : ∀ x ∈ seg R k 1, x.c = r.c := fun x hx => by have := seg_mem R h k 1 x hx; omega
  have hlast : ∀ x ∈ seg R (k + 1) (5 - k), r.c < x.c := fun x hx => by have := seg_mem R h (k + 1) _ x hx; omega
  have hlo : lo (seg R 0 k ++ (seg R k 1 ++ seg R (k + 1) (5 - k))) r = (seg R 0 k).length := by
    refine lo_app _ _ _ (fun x hx => by have := seg_mem R h 0 k x hx; omega) (fun x hx => ?_)
    have hm := List.mem_of_getElem? hx
    rw [List.mem_append] at hm
    rcases hm with hm | hm
    · have := hmid x hm; omega
    · have := hlast x hm; omega
  unfold putL
  rw [hlo, List.take_left, List.getElem?_append_right (Nat.le_refl _), Nat.sub_self, List.append_assoc]
  congr 1
  rw [List.singleton_append]
  have hs : seg R k 1 = [] ∨ seg R k 1 = [R k] := by
    rw [seg, seg, Nat.add_zero]; split
    · exact .inl rfl
    · exact .inr rfl
  rcases hs with hs | hs
  · rw [hs, List.nil_append]
    have : ¬ (((seg R (k + 1) (5 - k))[0]?).map (·.c)) = some r.c := by
      intro hh
      cases hx : (seg R (k + 1) (5 - k))[0]? with
      | none => rw [hx] at hh; cases hh
      | some x =>
        rw [hx] at hh
        have h3 := hlast x (List.mem_of_getElem? hx)
        have : x.c = r.c := by simpa using hh
        omega
    rw [if_neg this, Nat.add_zero, List.drop_left]; simp
  · rw [hs]
    have : (([R k] ++ seg R (k + 1) (5 - k))[0]?).map (·.c) = some r.c := by
      have := hmid (R k) (by rw [hs]; simp)
      simpa using this
    rw [if_pos this, ← List.append_assoc, List.drop_append]
    simp

end Go.Proofs.Ytcmaekkfeilclaa
