/- What was put is read again: every part of a letter. -/
import Derived.Test.YtmpedblelnpjdaaGreatDoorZCeA
namespace Go.Proofs.YtmpedblelnpjdaaGreatDoor
open Go.RowKit
set_option linter.unusedSimpArgs false
set_option linter.unusedVariables false
set_option maxHeartbeats 2000000
set_option maxRecDepth 100000

/-- the parts i with f i of y, all else of v -/
def LVal.sel (f : Nat → Bool) (v y : LVal) : LVal :=
  ⟨v.kd, v.fr, v.tw, if f 0 then y.ch else v.ch, if f 1 then y.ep else v.ep, if f 2 then y.bl else v.bl, if f 6 then y.nu else v.nu, if f 3 then y.sq else v.sq, if f 4 then y.dz else v.dz, if f 9 then y.vr else v.vr, if f 5 then y.sl else v.sl, if f 8 then y.ky else v.ky, if f 7 then y.cd else v.cd, if f 10 then y.qk else v.qk, if f 10 then y.qc else v.qc, if f 10 then y.qe else v.qe, if f 10 then y.qn else v.qn, if f 11 then y.fc else v.fc, if f 11 then y.fe else v.fe, if f 11 then y.ff else v.ff, if f 11 then y.fj else v.fj, if f 11 then y.ns else v.ns, if f 12 then y.vs else v.vs, if f 13 then y.us else v.us, if f 14 then y.ds else v.ds⟩
theorem ite_ite {α : Type} (a b : Bool) (x z : α) : (if a = true then x else if b = true then x else z) = if (a || b) = true then x else z := by cases a <;> cases b <;> rfl
theorem LVal.sel_sel (f g : Nat → Bool) (v y : LVal) : LVal.sel g (LVal.sel f v y) y = LVal.sel (fun j => g j || f j) v y := by
  simp only [LVal.sel, ite_ite]
theorem LVal.sel_no (v y : LVal) : LVal.sel (fun _ => false) v y = v := by
  simp only [LVal.sel, Bool.false_eq_true, if_false]
theorem LVal.sel_congr {f g : Nat → Bool} (v y : LVal) (h : ∀ j, j < 15 → f j = g j) : LVal.sel f v y = LVal.sel g v y := by
  simp only [LVal.sel, h 0 (by decide), h 1 (by decide), h 2 (by decide), h 3 (by decide), h 4 (by decide), h 5 (by decide), h 6 (by decide), h 7 (by decide), h 8 (by decide), h 9 (by decide), h 10 (by decide), h 11 (by decide), h 12 (by decide), h 13 (by decide), h 14 (by decide)]
def isJ (i : Nat) : Nat → Bool := fun j => j == i
theorem bigOne (n : Int) (h : 0 ≤ n ∧ n < 256) : big n.toNat 1 = [n] := by
  have := big_numB [n] (fun z hz => by simp only [List.mem_singleton] at hz; omega)
  rw [show numB [n] = n.toNat by simp [numB]] at this
  exact this
theorem cmd_back (k c e n : Int) (h : cmdE k c e n = 0) (he : 0 ≤ e ∧ e < 18446744073709551616) (rest : List Int) : (⟨cmdB k c e n ++ rest, 0⟩ : FI).raw 11 = (⟨rest, 0⟩, cmdB k c e n) ∧ cmdP (cmdB k c e n) = ⟨k, c, e, n⟩ := by
  obtain ⟨hk, hc, hn⟩ := cmdE_ok h
  constructor
  · have := next_app (cmdB k c e n) rest
    rw [cmdB_len] at this
    rw [FI.raw, if_neg (by omega), show Int.toNat 11 = 11 from rfl, this]
  · have e1 : cp1 (cmdB k c e n) = (⟨big c.toNat 1 ++ (big e.toNat 8 ++ (big n.toNat 1 ++ [])), 0⟩, k.toNat) := by
      have := upto_big k.toNat 1 18446744073709551615 (big c.toNat 1 ++ (big e.toNat 8 ++ (big n.toNat 1 ++ []))) (by omega) (by omega) (by omega) (by omega)
      rw [cp1, ← this]
      simp only [cmdB, List.append_assoc, List.append_nil]; rfl
    have e2 : cp2 (cmdB k c e n) = (⟨big e.toNat 8 ++ (big n.toNat 1 ++ []), 0⟩, c.toNat) := by
      rw [cp2, e1]
      exact upto_big c.toNat 1 18446744073709551615 _ (by omega) (by omega) (by omega) (by omega)
    have e3 : cp3 (cmdB k c e n) = (⟨big n.toNat 1 ++ [], 0⟩, e.toNat) := by
      rw [cp3, e2]
      exact upto_big e.toNat 8 18446744073709551615 _ (by omega) (by omega) (by omega) (by omega)
    have e4 : cp4 (cmdB k c e n) = (⟨[], 0⟩, n.toNat) := by
      rw [cp4, e3]
      exact upto_big n.toNat 1 18446744073709551615 _ (by omega) (by omega) (by omega) (by omega)
    rw [cmdP, e1, e2, e3, e4]
    simp only [Int.toNat_of_nonneg hk.1, Int.toNat_of_nonneg hc.1, Int.toNat_of_nonneg he.1, Int.toNat_of_nonneg hn.1]
theorem cmdG_back (k c e n : Int) (h : cmdE k c e n = 0) (he : 0 ≤ e ∧ e < 18446744073709551616) (rest : List Int) : cmdGe ⟨cmdB k c e n ++ rest, 0⟩ = 0 ∧ cmdGv ⟨cmdB k c e n ++ rest, 0⟩ = ⟨k, c, e, n⟩ := by
  obtain ⟨h1, h2⟩ := cmd_back k c e n h he rest
  have h3 : (cmdP (cmdB k c e n)).err = 0 := by rw [h2]; exact h
  constructor
  · rw [cmdGe, h1, if_neg (by simp), if_neg (by simpa using h3)]
  · rw [cmdGv, h1, if_neg (by simp), if_neg (by simpa using h3), h2]
theorem vote_back (u : Vt) (h : u.put) (rest : List Int) : cmdGe (w2 ⟨voteB u ++ rest, 0⟩).1 = 0 ∧ voteI ⟨voteB u ++ rest, 0⟩ = ⟨rest, 0⟩ ∧ voteV ⟨voteB u ++ rest, 0⟩ = u := by
  have h1 := h.sl
  have h2 := h.bl
  have e1 : w1 ⟨voteB u ++ rest, 0⟩ = (⟨big u.bl.toNat 8 ++ (cmdB u.qk u.qc u.qe u.qn ++ rest), 0⟩, u.sl.toNat) := by
    have := upto_big u.sl.toNat 2 18446744073709551615 (big u.bl.toNat 8 ++ (cmdB u.qk u.qc u.qe u.qn ++ rest)) (by omega) (by omega) (by omega) (by omega)
    rw [w1, ← this]
    simp only [voteB, List.append_assoc]; rfl
  have e2 : w2 ⟨voteB u ++ rest, 0⟩ = (⟨cmdB u.qk u.qc u.qe u.qn ++ rest, 0⟩, u.bl.toNat) := by
    rw [w2, e1]
    exact upto_big u.bl.toNat 8 18446744073709551615 _ (by omega) (by omega) (by omega) (by omega)
  obtain ⟨e3, e4⟩ := cmdG_back u.qk u.qc u.qe u.qn h.ok h.qe rest
  obtain ⟨e5, _⟩ := cmd_back u.qk u.qc u.qe u.qn h.ok h.qe rest
  refine ⟨by rw [e2]; exact e3, by rw [voteI, e2]; simp only; rw [e5], ?_⟩
  rw [voteV, e1, e2, e4]
  simp only [Int.toNat_of_nonneg h1.1, Int.toNat_of_nonneg h2.1]
theorem votes_back (l : List Vt) (h : ∀ u ∈ l, u.put) (rest : List Int) : ∀ j, j ≤ l.length → votsG ⟨l.flatMap voteB ++ rest, 0⟩ j = (⟨(l.drop j).flatMap voteB ++ rest, 0⟩, l.take j, false) := by
  intro j
  induction j with
  | zero => intro _; rfl
  | succ j ih =>
    intro hj
    have ih := ih (by omega)
    have hd : l.drop j = l[j] :: l.drop (j + 1) := List.drop_eq_getElem_cons (by omega)
    obtain ⟨e1, e2, e3⟩ := vote_back l[j] (h _ (List.getElem_mem _)) ((l.drop (j + 1)).flatMap voteB ++ rest)
    have e0 : (l.drop j).flatMap voteB ++ rest = voteB l[j] ++ ((l.drop (j + 1)).flatMap voteB ++ rest) := by rw [hd, List.flatMap_cons, List.append_assoc]
    rw [votsG, ih]
    simp only [e0, e1, e2, e3]
    rw [if_neg (by simp), if_neg (by simp), List.take_succ_eq_append_getElem (by omega)]
theorem upds_back (l : List Up) (hw : ∀ u ∈ l, u.wf) (h : ∀ u ∈ l, u.put) (rest : List Int) : ∀ j, j ≤ l.length → upsG ⟨l.flatMap upB ++ rest, 0⟩ j = (⟨(l.drop j).flatMap upB ++ rest, 0⟩, (l.take j).map Up.val) := by
  intro j
  induction j with
  | zero => intro _; rfl
  | succ j ih =>
    intro hj
    have ih := ih (by omega)
    have hd : l.drop j = l[j] :: l.drop (j + 1) := List.drop_eq_getElem_cons (by omega)
    obtain ⟨e1, e2⟩ := getU_back l[j] (hw _ (List.getElem_mem _)) (h _ (List.getElem_mem _)) ((l.drop (j + 1)).flatMap upB ++ rest)
    have e0 : (l.drop j).flatMap upB ++ rest = upB l[j] ++ ((l.drop (j + 1)).flatMap upB ++ rest) := by rw [hd, List.flatMap_cons, List.append_assoc]
    rw [upsG, ih]
    simp only [e0, e1, e2]
    rw [List.take_succ_eq_append_getElem (by omega), List.map_append]; rfl
theorem nodes_back (l : List Int) (h : ∀ z ∈ l, 1 ≤ z ∧ z ≤ 24) : nodesB l = l := by
  unfold nodesB
  induction l with
  | nil => rfl
  | cons a l ih =>
    have := h a List.mem_cons_self
    rw [List.flatMap_cons, ih (fun z hz => h z (List.mem_cons_of_mem _ hz)), bigOne a (by omega)]; rfl
open Classical in
theorem right_iff (x : Cf) : x.right = true ↔ x.fine ∧ unlikeB x.stands = true := by unfold Cf.right; rw [Bool.and_eq_true, decide_eq_true_eq]
theorem conf_back (x : Cf) (hl : x.zs.length = x.len) (hr : x.right = true) (he : x.ep < 18446744073709551616) (rest : List Int) : k6 ⟨confB x ++ rest, 0⟩ = (⟨rest, 0⟩, x.zs) ∧ confP ⟨confB x ++ rest, 0⟩ = ⟨x.ch, x.ep, x.fr, x.jn, x.zs⟩ ∧ (confP ⟨confB x ++ rest, 0⟩).right = true := by
  obtain ⟨hch, hjn, hlen, hzs⟩ := Cf.bounds hr
  have e1 : k1 ⟨confB x ++ rest, 0⟩ = (⟨big x.ep 8 ++ (big (oneB x.fr) 1 ++ (big x.jn.toNat 1 ++ (big x.len 1 ++ (x.zs ++ rest)))), 0⟩, x.ch.toNat) := by
    have := upto_big x.ch.toNat 1 18446744073709551615 (big x.ep 8 ++ (big (oneB x.fr) 1 ++ (big x.jn.toNat 1 ++ (big x.len 1 ++ (x.zs ++ rest))))) (by omega) (by omega) (by omega) (by omega)
    rw [k1, ← this]
    simp only [confB, nodes_back _ hzs, List.append_assoc]; rfl
  have e2 : k2 ⟨confB x ++ rest, 0⟩ = (⟨big (oneB x.fr) 1 ++ (big x.jn.toNat 1 ++ (big x.len 1 ++ (x.zs ++ rest))), 0⟩, x.ep) := by
    rw [k2, e1]
    exact upto_big x.ep 8 18446744073709551615 _ (by omega) (by omega) (by omega) (by omega)
  have ho : oneB x.fr ≤ 1 := by unfold oneB; split <;> omega
  have e3 : k3 ⟨confB x ++ rest, 0⟩ = (⟨big x.jn.toNat 1 ++ (big x.len 1 ++ (x.zs ++ rest)), 0⟩, oneB x.fr) := by
    rw [k3, e2]
    exact upto_big (oneB x.fr) 1 1 _ (by omega) (by omega) (by omega) ho
  have e4 : k4 ⟨confB x ++ rest, 0⟩ = (⟨big x.len 1 ++ (x.zs ++ rest), 0⟩, x.jn.toNat) := by
    rw [k4, e3]
    exact upto_big x.jn.toNat 1 18446744073709551615 _ (by omega) (by omega) (by omega) (by omega)
  have e5 : k5 ⟨confB x ++ rest, 0⟩ = (⟨x.zs ++ rest, 0⟩, x.len) := by
    rw [k5, e4]
    exact upto_big x.len 1 18446744073709551615 _ (by omega) (by omega) (by omega) (by omega)
  have e6 : k6 ⟨confB x ++ rest, 0⟩ = (⟨rest, 0⟩, x.zs) := by
    have := next_app x.zs rest
    rw [hl] at this
    rw [k6, e5]
    simp only
    rw [FI.raw, if_neg (by omega), Int.toNat_natCast, this]
  have e7 : confP ⟨confB x ++ rest, 0⟩ = ⟨x.ch, x.ep, x.fr, x.jn, x.zs⟩ := by
    rw [confP, e1, e2, e3, e4, e6]
    simp only [Int.toNat_of_nonneg hch.1, Int.toNat_of_nonneg hjn.1]
    congr 1
    unfold oneB; cases x.fr <;> rfl
  refine ⟨e6, e7, ?_⟩
  have hq := (right_iff x).1 hr
  rw [e7]
  refine (right_iff _).2 ⟨?_, hq.2⟩
  have hq := hq.1
  simp only [Cf.fine] at hq
  simp only [Cn.cf, Cf.fine, Int.toNat_natCast, hl]
  exact hq
open Classical in
/-- what was put of a fine part is read again -/
theorem st_back (x : LV) (w : World) (B i : Nat) (h : LIn w B x) (hi : i < 15) (hf : fineB x i = true) (rest : List Int) (v : LVal) (hk : v.kd = x.l.kd) (h12 : i = 12 → v.vs = []) (h13 : i = 13 → v.us = []) : stX i ⟨partB x i ++ rest, 0⟩ v = (⟨rest, 0⟩, LVal.sel (isJ i) v x.val) := by
  have hp := putP_of x w B i h hi hf
  have W := h.wf
  have M : (18446744073709551615 : Nat) = 18446744073709551615 := rfl
  match i, hp, hf with
  | 0, hp, hf =>
    have hp : 0 ≤ x.l.ch ∧ x.l.ch < 256 := hp
    have e := upto_big x.l.ch.toNat 1 18446744073709551615 rest (by omega) (by omega) (by omega) (by omega)
    show ((FI.upto ⟨big x.l.ch.toNat 1 ++ rest, 0⟩ 1 18446744073709551615).1, { v with ch := ((FI.upto ⟨big x.l.ch.toNat 1 ++ rest, 0⟩ 1 18446744073709551615).2 : Int) }) = _
    rw [show ((1 : Nat) : Int) = 1 from rfl] at e
    rw [e]; simp only [Int.toNat_of_nonneg hp.1]; rfl
  | 1, hp, hf =>
    have hp : 0 ≤ x.l.ep ∧ x.l.ep < 18446744073709551616 := hp
    have e := upto_big x.l.ep.toNat 8 18446744073709551615 rest (by omega) (by omega) (by omega) (by omega)
    show ((FI.upto ⟨big x.l.ep.toNat 8 ++ rest, 0⟩ 8 18446744073709551615).1, { v with ep := ((FI.upto ⟨big x.l.ep.toNat 8 ++ rest, 0⟩ 8 18446744073709551615).2 : Int) }) = _
    rw [show ((8 : Nat) : Int) = 8 from rfl] at e
    rw [e]; simp only [Int.toNat_of_nonneg hp.1]; rfl
  | 2, hp, hf =>
    have hp : 0 ≤ x.l.bl ∧ x.l.bl < 18446744073709551616 := hp
    have e := upto_big x.l.bl.toNat 8 18446744073709551615 rest (by omega) (by omega) (by omega) (by omega)
    show ((FI.upto ⟨big x.l.bl.toNat 8 ++ rest, 0⟩ 8 18446744073709551615).1, { v with bl := ((FI.upto ⟨big x.l.bl.toNat 8 ++ rest, 0⟩ 8 18446744073709551615).2 : Int) }) = _
    rw [show ((8 : Nat) : Int) = 8 from rfl] at e
    rw [e]; simp only [Int.toNat_of_nonneg hp.1]; rfl
  | 3, hp, hf =>
    have hp : 0 ≤ x.l.sq ∧ x.l.sq < 18446744073709551616 := hp
    have e := upto_big x.l.sq.toNat 8 18446744073709551615 rest (by omega) (by omega) (by omega) (by omega)
    show ((FI.upto ⟨big x.l.sq.toNat 8 ++ rest, 0⟩ 8 18446744073709551615).1, { v with sq := ((FI.upto ⟨big x.l.sq.toNat 8 ++ rest, 0⟩ 8 18446744073709551615).2 : Int) }) = _
    rw [show ((8 : Nat) : Int) = 8 from rfl] at e
    rw [e]; simp only [Int.toNat_of_nonneg hp.1]; rfl
  | 4, hp, hf =>
    have hp : 0 ≤ x.l.dz ∧ x.l.dz < 18446744073709551616 := hp
    have e := upto_big x.l.dz.toNat 8 18446744073709551615 rest (by omega) (by omega) (by omega) (by omega)
    show ((FI.upto ⟨big x.l.dz.toNat 8 ++ rest, 0⟩ 8 18446744073709551615).1, { v with dz := ((FI.upto ⟨big x.l.dz.toNat 8 ++ rest, 0⟩ 8 18446744073709551615).2 : Int) }) = _
    rw [show ((8 : Nat) : Int) = 8 from rfl] at e
    rw [e]; simp only [Int.toNat_of_nonneg hp.1]; rfl
  | 5, hp, hf =>
    have hp : 0 ≤ x.l.sl ∧ x.l.sl < 65536 := hp
    have e := upto_big x.l.sl.toNat 2 18446744073709551615 rest (by omega) (by omega) (by omega) (by omega)
    show ((FI.upto ⟨big x.l.sl.toNat 2 ++ rest, 0⟩ 2 18446744073709551615).1, { v with sl := ((FI.upto ⟨big x.l.sl.toNat 2 ++ rest, 0⟩ 2 18446744073709551615).2 : Int) }) = _
    rw [show ((2 : Nat) : Int) = 2 from rfl] at e
    rw [e]; simp only [Int.toNat_of_nonneg hp.1]; rfl
  | 6, hp, hf =>
    have hp : 0 ≤ x.l.nu ∧ x.l.nu < 18446744073709551616 := hp
    have e := upto_big x.l.nu.toNat 8 18446744073709551615 rest (by omega) (by omega) (by omega) (by omega)
    show ((FI.upto ⟨big x.l.nu.toNat 8 ++ rest, 0⟩ 8 18446744073709551615).1, { v with nu := ((FI.upto ⟨big x.l.nu.toNat 8 ++ rest, 0⟩ 8 18446744073709551615).2 : Int) }) = _
    rw [show ((8 : Nat) : Int) = 8 from rfl] at e
    rw [e]; simp only [Int.toNat_of_nonneg hp.1]; rfl
  | 7, hp, hf =>
    have hp : 0 ≤ x.l.cd ∧ x.l.cd < 256 := hp
    have e := upto_big x.l.cd.toNat 1 18446744073709551615 rest (by omega) (by omega) (by omega) (by omega)
    show ((FI.upto ⟨big x.l.cd.toNat 1 ++ rest, 0⟩ 1 18446744073709551615).1, { v with cd := ((FI.upto ⟨big x.l.cd.toNat 1 ++ rest, 0⟩ 1 18446744073709551615).2 : Int) }) = _
    rw [show ((1 : Nat) : Int) = 1 from rfl] at e
    rw [e]; simp only [Int.toNat_of_nonneg hp.1]; rfl
  | 8, hp, hf =>
    have hp : 0 ≤ x.l.ky ∧ x.l.ky < 4294967296 := hp
    have e := upto_big x.l.ky.toNat 4 18446744073709551615 rest (by omega) (by omega) (by omega) (by omega)
    show ((FI.upto ⟨big x.l.ky.toNat 4 ++ rest, 0⟩ 4 18446744073709551615).1, { v with ky := ((FI.upto ⟨big x.l.ky.toNat 4 ++ rest, 0⟩ 4 18446744073709551615).2 : Int) }) = _
    rw [show ((4 : Nat) : Int) = 4 from rfl] at e
    rw [e]; simp only [Int.toNat_of_nonneg hp.1]; rfl
  | 9, hp, hf =>
    have hp : 0 ≤ x.l.vr ∧ x.l.vr < 18446744073709551616 := hp
    have e := upto_big x.l.vr.toNat 8 18446744073709551615 rest (by omega) (by omega) (by omega) (by omega)
    show ((FI.upto ⟨big x.l.vr.toNat 8 ++ rest, 0⟩ 8 18446744073709551615).1, { v with vr := ((FI.upto ⟨big x.l.vr.toNat 8 ++ rest, 0⟩ 8 18446744073709551615).2 : Int) }) = _
    rw [show ((8 : Nat) : Int) = 8 from rfl] at e
    rw [e]; simp only [Int.toNat_of_nonneg hp.1]; rfl
  | 10, hp, hf =>
    obtain ⟨h1, h2⟩ := hp
    obtain ⟨e1, e2⟩ := cmdG_back _ _ _ _ h1 h2 rest
    obtain ⟨e3, _⟩ := cmd_back _ _ _ _ h1 h2 rest
    show st10 ⟨cmdB x.l.qk x.l.qc x.l.qe x.l.qn ++ rest, 0⟩ v = _
    rw [st10, e1, e2, e3, if_neg (by simp)]; rfl
  | 11, hp, hf =>
    obtain ⟨h1, h2, h3⟩ := hp
    obtain ⟨e1, e2, e3⟩ := conf_back x.conf (show x.ns.length = x.l.fn from h.nl) h1 (show x.l.fe.toNat < _ by omega) rest
    have g1 : confGe ⟨confB x.conf ++ rest, 0⟩ = 0 := by rw [confGe, e1, if_neg (by simp), if_pos e3]
    have g2 : confGv ⟨confB x.conf ++ rest, 0⟩ = ⟨x.conf.ch, x.conf.ep, x.conf.fr, x.conf.jn, x.conf.zs⟩ := by rw [confGv, e1, if_neg (by simp), if_pos e3, e2]
    show st11 ⟨confB x.conf ++ rest, 0⟩ v = _
    rw [st11, g1, g2, e1, if_neg (by simp)]
    show (_, { v with fc := x.l.fc, fe := ((x.l.fe.toNat : Nat) : Int), ff := x.l.ff, fj := x.l.fj, ns := x.ns }) = _
    rw [Int.toNat_of_nonneg h2]; rfl
  | 12, hp, hf =>
    obtain ⟨h1, h2⟩ := hp
    have e : votesB x.vs = true := hf
    unfold votesB at e
    rw [decide_eq_true_eq] at e
    have e1 := upto_big x.vs.length 2 512 (x.vs.flatMap voteB ++ rest) (by omega) (by omega) (by have := e.2; omega) e.2
    have e2 := votes_back x.vs h1 rest x.vs.length (Nat.le_refl _)
    show st12 ⟨(big x.vs.length 2 ++ x.vs.flatMap voteB) ++ rest, 0⟩ v = _
    rw [show ((2 : Nat) : Int) = 2 from rfl] at e1
    rw [st12, List.append_assoc, e1]
    simp only
    rw [e2, List.drop_length, List.take_length, h12 rfl]; rfl
  | 13, hp, hf =>
    obtain ⟨h1, h2⟩ := hp
    have e : updsB x.l.kd x.us = true := hf
    unfold updsB at e
    rw [Bool.and_eq_true, decide_eq_true_eq] at e
    have e1 := upto_big x.us.length 1 4 (x.us.flatMap upB ++ rest) (by omega) (by omega) (by have := e.1.2; omega) e.1.2
    have e2 := upds_back x.us (fun u hu => (h.up.mem u hu).wf) h1 rest x.us.length (Nat.le_refl _)
    show st13 ⟨(big x.us.length 1 ++ x.us.flatMap upB) ++ rest, 0⟩ v = _
    rw [show ((1 : Nat) : Int) = 1 from rfl] at e1
    rw [st13, List.append_assoc, e1]
    simp only
    rw [e2, List.drop_length, List.take_length, h13 rfl]; rfl
  | 14, hp, hf =>
    simp only [fineB, decide_eq_true_eq] at hf
    have hd := h.dl
    have hr : (x.ds.length : Int) ≤ roomV v.kd := by rw [hk]; unfold roomV; omega
    have hr2 : 0 ≤ roomV v.kd ∧ roomV v.kd ≤ 2048 := by unfold roomV; split <;> omega
    have e := text_big x.ds rest (roomV v.kd).toNat (by omega) (by omega)
    rw [Int.toNat_of_nonneg hr2.1] at e
    show st14 ⟨(big x.ds.length 2 ++ x.ds) ++ rest, 0⟩ v = _
    rw [st14, e]; rfl
  | (n + 15), _, _ => omega
theorem stF_cons (st : Nat → FI → LVal → FI × LVal) (i : Nat) (is : List Nat) (s : FI) (v : LVal) : stF st (i :: is) s v = stF st is (st i s v).1 (st i s v).2 := rfl
theorem stF_back (x : LV) (w : World) (B : Nat) (h : LIn w B x) (rest : List Int) : ∀ (is : List Nat) (v : LVal), (∀ i ∈ is, i < 15) → (∀ i ∈ is, fineB x i = true) → is.Nodup → v.kd = x.l.kd → (12 ∈ is → v.vs = []) → (13 ∈ is → v.us = []) →
    stF stX is ⟨is.flatMap (partB x) ++ rest, 0⟩ v = (⟨rest, 0⟩, LVal.sel (fun j => is.contains j) v x.val)
  | [], v, _, _, _, _, _, _ => by
    show (_, v) = (_, LVal.sel (fun _ => false) v x.val)
    rw [LVal.sel_no]; rfl
  | i :: is, v, hi, hf, hn, hk, h12, h13 => by
    have hn := List.nodup_cons.1 hn
    rw [stF_cons, List.flatMap_cons, List.append_assoc, st_back x w B i h (hi i List.mem_cons_self) (hf i List.mem_cons_self) (is.flatMap (partB x) ++ rest) v hk (fun e => h12 (e ▸ List.mem_cons_self)) (fun e => h13 (e ▸ List.mem_cons_self))]
    simp only
    rw [stF_back x w B h rest is (LVal.sel (isJ i) v x.val) (fun j hj => hi j (List.mem_cons_of_mem _ hj)) (fun j hj => hf j (List.mem_cons_of_mem _ hj)) hn.2 hk ?_ ?_, LVal.sel_sel]
    · refine congrArg _ (LVal.sel_congr _ _ (fun j hj => ?_))
      simp only [isJ, List.contains_cons, Bool.or_comm]
    · intro e
      have hne : isJ i 12 = false := by simp only [isJ, beq_eq_false_iff_ne]; intro e2; exact hn.1 (e2 ▸ e)
      show (if isJ i 12 = true then _ else v.vs) = _
      rw [hne, if_neg (by simp)]; exact h12 (List.mem_cons_of_mem _ e)
    · intro e
      have hne : isJ i 13 = false := by simp only [isJ, beq_eq_false_iff_ne]; intro e2; exact hn.1 (e2 ▸ e)
      show (if isJ i 13 = true then _ else v.us) = _
      rw [hne, if_neg (by simp)]; exact h13 (List.mem_cons_of_mem _ e)
theorem partsI_nodup : ∀ k, k < 21 → (partsI k).Nodup := by decide +kernel
theorem partsI_has : ∀ k, k < 21 → ∀ j, j < 15 → (partsI k).contains j = partF k 15 j := by decide +kernel
/-- a letter whose parts are those of its kind is made of them -/
theorem sel_all (x : LV) (k : Nat) (hk : k < 21) (hs : sameB x (x.mask (partF k 15)) = true) : LVal.sel (fun j => (partsI k).contains j) { LVal.zero with kd := x.l.kd, fr := x.l.fr, tw := x.l.tw } x.val = x.val := by
  have e : x.val = (x.mask (partF k 15)).val := by simpa [sameB] using hs
  rw [LVal.sel_congr _ _ (partsI_has k hk)]
  conv => rhs; rw [e]
  generalize partF k 15 = f
  have lp : ∀ (b : Bool), ((if b = true then x.us else []).map Up.val) = if b = true then x.us.map Up.val else [] := fun b => by cases b <;> rfl
  simp only [LVal.sel, LV.mask, Lt.mask, LV.val, LVal.zero, lp]
/-- a right letter's bytes are read as the letter -/
theorem decode_back (x : LV) (w : World) (B : Nat) (h : LIn w B x) (h0 : chkX x = 0) (b : List Nat) (hb : b = encB x.l.kd.toNat (bodyB x.l (partsI x.l.kd.toNat) (partB x))) (hK : getK b = x.l.kd.toNat) (hB : bI (getB b) = bodyB x.l (partsI x.l.kd.toNat) (partB x)) :
    decS stX b = (⟨[], 0⟩, x.val) := by
  have h1 := h0
  unfold chkX at h1
  split at h1
  · omega
  · rename_i hk
    split at h1
    · rename_i hh
      obtain ⟨ha, hb2, hs, hf⟩ := hh
      have hf := List.all_eq_true.1 hf
      have hk2 : x.l.kd.toNat < 21 := by omega
      have f1 := addrB_lt ha
      have f2 := addrB_lt hb2
      have e1 : dec1 b = (⟨big x.l.tw.toNat 2 ++ ((partsI x.l.kd.toNat).flatMap (partB x) ++ []), 0⟩, x.l.fr.toNat) := by
        rw [dec1, hB]
        have := upto_big x.l.fr.toNat 2 18446744073709551615 (big x.l.tw.toNat 2 ++ ((partsI x.l.kd.toNat).flatMap (partB x) ++ [])) (by omega) (by omega) (by omega) (by omega)
        rw [← this]
        simp only [bodyB, List.append_assoc, List.append_nil]; rfl
      have e2 : dec2 b = (⟨(partsI x.l.kd.toNat).flatMap (partB x) ++ [], 0⟩, x.l.tw.toNat) := by
        rw [dec2, e1]
        exact upto_big x.l.tw.toNat 2 18446744073709551615 _ (by omega) (by omega) (by omega) (by omega)
      have e3 : decV b = { LVal.zero with kd := x.l.kd, fr := x.l.fr, tw := x.l.tw } := by
        rw [decV, e1, e2, hK]
        simp only [Int.toNat_of_nonneg (show 0 ≤ x.l.fr by omega), Int.toNat_of_nonneg (show 0 ≤ x.l.tw by omega), Int.toNat_of_nonneg (show 0 ≤ x.l.kd by omega)]
      rw [decS, e2, e3, hK, stF_back x w B h [] (partsI x.l.kd.toNat) _ (partsI_lt _ hk2) hf (partsI_nodup _ hk2) rfl (fun _ => rfl) (fun _ => rfl), sel_all x _ hk2 hs]
    · omega
end Go.Proofs.YtmpedblelnpjdaaGreatDoor
