/- A table's bytes: plain. -/
import Derived.Test.YtcmaekkfeilclaaSesG
import Derived.Test.YtcmaekkfeilclaaFixW
namespace Go.Proofs.Ytcmaekkfeilclaa
open Go.RowKit
set_option linter.unusedSimpArgs false
set_option linter.unusedVariables false
set_option maxHeartbeats 1000000

theorem numB_big (j n : Nat) (h : n < 256 ^ j) : numB (big n j) = n := by
  induction j generalizing n with
  | zero => have : n = 0 := by simpa using h
            subst this; rfl
  | succ j ih =>
    have hq : n / 256 < 256 ^ j := by
      rw [Nat.pow_succ] at h
      exact Nat.div_lt_of_lt_mul (by omega)
    have e : n = (n / 256) * 256 + n % 256 := by omega
    have hs := big_snoc (n / 256) j (n % 256) (by omega)
    rw [← e] at hs
    rw [hs, numB_snoc, ih _ hq]
    have : ((n % 256 : Nat) : Int).toNat = n % 256 := Int.toNat_natCast _
    rw [this]; omega
theorem big_bytes (n j : Nat) : bytesB (big n j) := by
  intro z hz
  unfold big digit at hz
  rw [List.mem_map] at hz
  obtain ⟨i, _, rfl⟩ := hz
  omega
theorem next_app (a l : List Int) : (⟨a ++ l, 0⟩ : FI).next a.length = (⟨l, 0⟩, a, true) := by
  rw [FI.next, if_neg (by simp), if_neg (by simp)]
  simp
theorem upto_big (n j most : Nat) (l : List Int) (h1 : 1 ≤ j) (h8 : j ≤ 8) (hn : n < 256 ^ j) (hm : n ≤ most) : (⟨big n j ++ l, 0⟩ : FI).upto j most = (⟨l, 0⟩, n) := by
  have hN := next_app (big n j) l
  rw [big_len] at hN
  rw [FI.upto, if_neg (by simp), (knownB_iff (j : Int)).2 (by omega), if_pos rfl, Int.toNat_natCast, hN]
  simp only [if_true]
  rw [numB_big j n hn, if_neg (by omega)]
theorem bytesB_drop (l : List Int) (k : Nat) (h : bytesB l) : bytesB (l.drop k) := fun z hz => h z (List.mem_of_mem_drop hz)
theorem bytesB_nil : bytesB [] := fun z hz => by cases hz
theorem bytesB_app {a b : List Int} (ha : bytesB a) (hb : bytesB b) : bytesB (a ++ b) := fun z hz => (List.mem_append.1 hz).elim (ha z) (hb z)
theorem FI.upto_bytes (s : FI) (z : Int) (most : Nat) (h : bytesB s.l) : bytesB (s.upto z most).1.l := by
  have hF : ∀ (t : FI) (x : Int), bytesB (t.fail x).l := fun t x => bytesB_nil
  have hN : ∀ k, bytesB (s.next k).1.l := fun k => by
    unfold FI.next
    split
    · exact h
    · split
      · exact hF _ _
      · exact bytesB_drop _ _ h
  unfold FI.upto
  split
  · exact h
  · split
    · split
      · split
        · exact hF _ _
        · exact hN _
      · exact hN _
    · exact hF _ _
theorem FI.upto_lt (s : FI) (j most : Nat) (h : bytesB s.l) : (s.upto j most).2 < 256 ^ j := by
  have h0 : 0 < 256 ^ j := Nat.pow_pos (by decide)
  unfold FI.upto
  split
  · exact h0
  · split
    · split
      · split
        · exact h0
        · rw [Int.toNat_natCast]
          exact Nat.lt_of_lt_of_le (numB_lt _ (s.next_bytes j h)) (Nat.pow_le_pow_right (by decide) (s.next_len j))
      · exact h0
    · exact h0
theorem FI.upto_most (s : FI) (z : Int) (most : Nat) : (s.upto z most).2 ≤ most := by
  unfold FI.upto
  repeat' split
  all_goals (first | exact Nat.zero_le _ | omega)
theorem FI.upto_short (s : FI) (z : Int) (most : Nat) : (s.upto z most).1.l.length ≤ s.l.length := by
  have hN : ∀ k, (s.next k).1.l.length ≤ s.l.length := fun k => s.next_short1 k
  unfold FI.upto
  repeat' split
  all_goals (first | exact Nat.le_refl _ | exact hN _ | (simp [FI.fail]; done))

def Mx : Nat := 18446744073709551615
def getRow (s : FI) : FI × Rw :=
  (((((s.upto 1 Mx).1.upto 8 Mx).1.upto 8 Mx).1.upto 1 Mx).1.upto 8 Mx |>.1,
   ⟨(s.upto 1 Mx).2, ((s.upto 1 Mx).1.upto 8 Mx).2, (((s.upto 1 Mx).1.upto 8 Mx).1.upto 8 Mx).2, ((((s.upto 1 Mx).1.upto 8 Mx).1.upto 8 Mx).1.upto 1 Mx).2, (((((s.upto 1 Mx).1.upto 8 Mx).1.upto 8 Mx).1.upto 1 Mx).1.upto 8 Mx).2⟩)
def lastC (l : List Rw) : Int := (l.getLast?.map (·.c)).getD 0
def goodR (l : List Rw) (r : Rw) : Bool := r.fine && decide (lastC l < r.c)
def getRows : Nat → FI → FI × List Rw × Bool
  | 0, s => (s, [], true)
  | k + 1, s => ((getRow (getRows k s).1).1, (getRows k s).2.1 ++ [(getRow (getRows k s).1).2], (getRows k s).2.2 && goodR (getRows k s).2.1 (getRow (getRows k s).1).2)
/-- what reading a table tells: what is left, the rows, the error -/
def readE (s : FI) : Int := if (getRows (s.upto 1 6).2 (s.upto 1 6).1).1.e ≠ 0 then (getRows (s.upto 1 6).2 (s.upto 1 6).1).1.e else if (getRows (s.upto 1 6).2 (s.upto 1 6).1).2.2 then 0 else 4
def readL (s : FI) : List Rw := if readE s = 0 then (getRows (s.upto 1 6).2 (s.upto 1 6).1).2.1 else []
def readI (s : FI) : FI := (getRows (s.upto 1 6).2 (s.upto 1 6).1).1
theorem getRows_len (k : Nat) (s : FI) : (getRows k s).2.1.length = k := by
  induction k with
  | zero => rfl
  | succ k ih => simp [getRows, ih]
theorem lastC_snoc (l : List Rw) (r : Rw) : lastC (l ++ [r]) = r.c := by simp [lastC]
theorem readE_cases (s : FI) (h : (readI s).e = 0) : readE s = 0 ∨ readE s = 4 := by
  unfold readE
  rw [if_neg (by unfold readI at h; omega)]
  split
  · exact .inl rfl
  · exact .inr rfl

/-- rows as a table has them -/
structure TR (l : List Rw) (R : Nat → Rw) : Prop where
  eq : seg R 0 6 = l
  inv : Inv R
  max : ∀ x ∈ l, x.c ≤ lastC l
theorem TR.zero : TR [] (fun _ => Rw.zero) := ⟨by simp [seg, Rw.zero], Inv_zero, fun x hx => by cases hx⟩
theorem fine_client' (r : Rw) (h : r.fine = true) : clientB r.c = true := (clientB_iff _).2 (fine_client r h)
theorem TR.judge {l : List Rw} {R : Nat → Rw} (h : TR l R) {r : Rw} (hg : goodR l r = true) : judgeV R r.c r.n = 0 := by
  unfold goodR at hg
  rw [Bool.and_eq_true, decide_eq_true_eq] at hg
  have h1 := fine_num r hg.1
  rw [← judge_seg R h.inv r.c r.n (by omega), h.eq]
  have hF : findB l r.c = false := by
    unfold findB
    rw [findO_none l r.c (fun x hx e => by have := h.max x hx; omega)]
    rfl
  unfold judgeL
  rw [if_pos ⟨fine_client' r hg.1, by omega⟩, if_pos (.inl hF)]
theorem lo_end (l : List Rw) (r : Rw) (h : ∀ x ∈ l, x.c < r.c) : lo l r = l.length := by
  have := lo_app l [] r h (fun x hx => by cases hx)
  simpa using this
theorem TR.step {l : List Rw} {R : Nat → Rw} (h : TR l R) {r : Rw} (hg : goodR l r = true) : setE R r = 0 ∧ TR (l ++ [r]) (setT R r) := by
  have hj := h.judge hg
  unfold goodR at hg
  rw [Bool.and_eq_true, decide_eq_true_eq] at hg
  refine ⟨by rw [setE, hg.1, if_pos rfl, if_pos hj], ⟨?_, Inv_set R r h.inv, ?_⟩⟩
  · rw [← put_seg R h.inv r hg.1 hj, h.eq]
    have hlo := lo_end l r (fun x hx => by have := h.max x hx; omega)
    unfold putL
    rw [hlo]
    simp
  · intro x hx
    rw [lastC_snoc]
    rcases List.mem_append.1 hx with hx | hx
    · have := h.max x hx; omega
    · rw [List.mem_singleton] at hx; subst hx; exact Int.le_refl _
theorem TR.no {l : List Rw} {R : Nat → Rw} (h : TR l R) {r : Rw} (hl : lastC l < r.c) (hf : r.fine = false) : setE R r = 1 := by rw [setE, hf]; rfl

/-- rows whose numbers have room -/
structure Rw.small (r : Rw) : Prop where
  c : 0 ≤ r.c ∧ r.c < 256
  n : 0 ≤ r.n ∧ r.n < 18446744073709551616
  s : 0 ≤ r.s ∧ r.s < 18446744073709551616
  k : 0 ≤ r.k ∧ r.k < 256
  v : 0 ≤ r.v ∧ r.v < 18446744073709551616
def rowB (r : Rw) : List Int := big r.c.toNat 1 ++ big r.n.toNat 8 ++ big r.s.toNat 8 ++ big r.k.toNat 1 ++ big r.v.toNat 8
def rowsB (l : List Rw) : List Int := big l.length 1 ++ l.flatMap rowB
theorem rowB_len (r : Rw) : (rowB r).length = 26 := by simp [rowB, big_len]
theorem flatB_len (l : List Rw) : (l.flatMap rowB).length = l.length * 26 := by
  induction l with
  | nil => rfl
  | cons a l ih => rw [List.flatMap_cons, List.length_append, rowB_len, ih, List.length_cons]; omega
theorem rowsB_len (l : List Rw) : (rowsB l).length = 1 + l.length * 26 := by rw [rowsB, List.length_append, big_len, flatB_len]
theorem rowB_bytes (r : Rw) : bytesB (rowB r) := bytesB_app (bytesB_app (bytesB_app (bytesB_app (big_bytes _ _) (big_bytes _ _)) (big_bytes _ _)) (big_bytes _ _)) (big_bytes _ _)
theorem rowsB_bytes (l : List Rw) : bytesB (rowsB l) := bytesB_app (big_bytes _ _) (fun z hz => by
  rw [List.mem_flatMap] at hz
  obtain ⟨x, _, hx⟩ := hz
  exact rowB_bytes x z hx)
theorem getRow_back (r : Rw) (h : r.small) (l : List Int) : getRow ⟨rowB r ++ l, 0⟩ = (⟨l, 0⟩, r) := by
  have hc := h.c; have hn := h.n; have hs := h.s; have hk := h.k; have hv := h.v
  have e1 : (⟨rowB r ++ l, 0⟩ : FI).upto 1 Mx = (⟨big r.n.toNat 8 ++ (big r.s.toNat 8 ++ (big r.k.toNat 1 ++ (big r.v.toNat 8 ++ l))), 0⟩, r.c.toNat) := by
    unfold rowB
    simp only [List.append_assoc]
    exact upto_big _ 1 Mx _ (by omega) (by omega) (by omega) (by unfold Mx; omega)
  have e2 : (⟨big r.n.toNat 8 ++ (big r.s.toNat 8 ++ (big r.k.toNat 1 ++ (big r.v.toNat 8 ++ l))), 0⟩ : FI).upto 8 Mx = _ := upto_big _ 8 Mx _ (by omega) (by omega) (by omega) (by unfold Mx; omega)
  have e3 : (⟨big r.s.toNat 8 ++ (big r.k.toNat 1 ++ (big r.v.toNat 8 ++ l)), 0⟩ : FI).upto 8 Mx = _ := upto_big _ 8 Mx _ (by omega) (by omega) (by omega) (by unfold Mx; omega)
  have e4 : (⟨big r.k.toNat 1 ++ (big r.v.toNat 8 ++ l), 0⟩ : FI).upto 1 Mx = _ := upto_big _ 1 Mx _ (by omega) (by omega) (by omega) (by unfold Mx; omega)
  have e5 : (⟨big r.v.toNat 8 ++ l, 0⟩ : FI).upto 8 Mx = _ := upto_big _ 8 Mx _ (by omega) (by omega) (by omega) (by unfold Mx; omega)
  unfold getRow
  simp only [e1, e2, e3, e4, e5]
  cases r
  simp only [Prod.mk.injEq, Rw.mk.injEq, true_and]
  simp only at hc hn hs hk hv
  omega
theorem seg_sorted (R : Nat → Rw) (h : Inv R) (a n : Nat) : (seg R a n).Pairwise (fun x y => x.c < y.c) := by
  induction n with
  | zero => exact List.Pairwise.nil
  | succ n ih =>
    rw [seg]
    split
    · simpa using ih
    · rename_i hn
      rw [List.pairwise_append]
      refine ⟨ih, List.pairwise_singleton _ _, fun x hx y hy => ?_⟩
      rw [List.mem_singleton] at hy
      subst hy
      have h1 := seg_mem R h a n x hx
      have h2 := h (a + n) hn
      omega
theorem lastC_take (l : List Rw) (k : Nat) (r : Rw) (hs : l.Pairwise (fun x y => x.c < y.c)) (h : l[k]? = some r) (h1 : 1 ≤ r.c) : lastC (l.take k) < r.c := by
  cases k with
  | zero => simp [lastC]; omega
  | succ k =>
    have hlt := (List.getElem?_eq_some_iff.1 h).1
    have hr := (List.getElem?_eq_some_iff.1 h).2
    have e : l.take (k + 1) = l.take k ++ [l[k]] := by rw [List.take_succ_eq_append_getElem]
    rw [e, lastC_snoc]
    have := List.pairwise_iff_getElem.1 hs k (k + 1) (by omega) hlt (by omega)
    rw [hr] at this
    exact this
theorem getRows_back (l : List Rw) (hs : l.Pairwise (fun x y => x.c < y.c)) (hf : ∀ x ∈ l, x.fine = true) (hb : ∀ x ∈ l, x.small) (k : Nat) (hk : k ≤ l.length) :
    getRows k ⟨l.flatMap rowB, 0⟩ = (⟨(l.drop k).flatMap rowB, 0⟩, l.take k, true) := by
  induction k with
  | zero => simp [getRows]
  | succ k ih =>
    have hlt : k < l.length := by omega
    have hm : l[k] ∈ l := List.getElem_mem hlt
    have hr := List.drop_eq_getElem_cons hlt
    have hg := getRow_back l[k] (hb _ hm) ((l.drop (k + 1)).flatMap rowB)
    rw [getRows, ih (by omega)]
    simp only
    rw [hr, List.flatMap_cons, hg, goodR, hf _ hm, decide_eq_true (lastC_take l k l[k] hs (List.getElem?_eq_getElem hlt) (fine_client _ (hf _ hm)).1)]
    simp
theorem read_back (l : List Rw) (hs : l.Pairwise (fun x y => x.c < y.c)) (hf : ∀ x ∈ l, x.fine = true) (hb : ∀ x ∈ l, x.small) (hl : l.length ≤ 6) : readE ⟨rowsB l, 0⟩ = 0 ∧ readL ⟨rowsB l, 0⟩ = l ∧ readI ⟨rowsB l, 0⟩ = ⟨[], 0⟩ := by
  have e1 : (⟨rowsB l, 0⟩ : FI).upto 1 6 = (⟨l.flatMap rowB, 0⟩, l.length) := upto_big _ 1 6 _ (by omega) (by omega) (by omega) hl
  have e2 := getRows_back l hs hf hb l.length (Nat.le_refl _)
  have hE : readE ⟨rowsB l, 0⟩ = 0 := by unfold readE; rw [e1]; simp only; rw [e2]; simp
  refine ⟨hE, ?_, ?_⟩
  · unfold readL; rw [hE, e1]; simp only; rw [e2]; simp
  · unfold readI; rw [e1]; simp only; rw [e2]; simp
end Go.Proofs.Ytcmaekkfeilclaa
