/- What the document's Decode computes: plain; and that it is what the code's Decode computes, up to errors. -/
import Derived.Test.YtmpedblelnpjdaaGreatDoorZCeG
import Derived.Test.YtmpedblelnpjdaaGreatDoorZGN
namespace Go.Proofs.YtmpedblelnpjdaaGreatDoor
open Go.RowKit
set_option linter.unusedSimpArgs false
set_option linter.unusedVariables false
set_option maxRecDepth 100000
def rupG (s : FI) : Nat → FI × List (Int × Int × Int × Int × Int × Int × List Int)
 | 0 => (s, [])
 | j + 1 => if (rupG s j).1.e ≠ 0 then rupG s j else (getUi (rupG s j).1, (rupG s j).2 ++ [getUv (rupG s j).1])
def rd13 (s : FI) (v : LVal) : FI × LVal := ((rupG (s.upto 1 4).1 (s.upto 1 4).2).1, { v with us := v.us ++ (rupG (s.upto 1 4).1 (s.upto 1 4).2).2 })
def rcmdI (s : FI) : FI := if cmdGe s ≠ 0 then (s.raw 11).1.fail (cmdGe s) else (s.raw 11).1
def rd10 (s : FI) (v : LVal) : FI × LVal := (rcmdI s, { v with qk := (cmdGv s).k, qc := (cmdGv s).c, qe := (cmdGv s).e, qn := (cmdGv s).n })
def rvoG (s : FI) : Nat → FI × List Vt
 | 0 => (s, [])
 | j + 1 => if (rvoG s j).1.e ≠ 0 then rvoG s j else (rcmdI (w2 (rvoG s j).1).1, (rvoG s j).2 ++ [voteV (rvoG s j).1])
def rd12 (s : FI) (v : LVal) : FI × LVal := ((rvoG (s.upto 2 512).1 (s.upto 2 512).2).1, { v with vs := v.vs ++ (rvoG (s.upto 2 512).1 (s.upto 2 512).2).2 })
noncomputable def rconI (s : FI) : FI := if confGe s ≠ 0 then (k6 s).1.fail (confGe s) else (k6 s).1
noncomputable def rd11 (s : FI) (v : LVal) : FI × LVal := (rconI s, { v with fc := (confGv s).ch, fe := (confGv s).ep, ff := (confGv s).fr, fj := (confGv s).jn, ns := (confGv s).ns })
noncomputable def rdO (i : Nat) (s : FI) (v : LVal) : FI × LVal := match i with
 | 10 => rd10 s v
 | 11 => rd11 s v
 | 12 => rd12 s v
 | 13 => rd13 s v
 | 14 => st14 s v
 | _ => (s, v)
noncomputable def rdX : Nat → FI → LVal → FI × LVal := stG rdO
def RdEq (p q : FI × LVal) : Prop := (p.1.e = 0 ∧ q = p) ∨ (p.1.e ≠ 0 ∧ q.1.e ≠ 0)
theorem RdEq.refl (p : FI × LVal) : RdEq p p := by
 by_cases h : p.1.e = 0
 ·exact .inl ⟨h, rfl⟩
 ·exact .inr ⟨h, h⟩
theorem upto_err {s : FI} (h : s.e ≠ 0) (k : Int) (m : Nat) : (s.upto k m).1.e ≠ 0 := by
 unfold FI.upto
 rw [if_pos h]; exact h
theorem next_err {s : FI} (h : s.e ≠ 0) (k : Nat) : s.next k = (s, [], false) := by
 unfold FI.next
 rw [if_pos h]
theorem raw_err {s : FI} (h : s.e ≠ 0) (k : Int) : (s.raw k).1.e ≠ 0 := by
 unfold FI.raw
 split
 ·exact FI.fail_e _ _ (by omega)
 ·rw [next_err h]; exact h
theorem text_err {s : FI} (h : s.e ≠ 0) (k : Int) : (s.text k).1.e ≠ 0 := by
 unfold FI.text
 rw [next_err h]
 exact h
theorem fail_err {s : FI} (x : Int) (hx : x ≠ 0) : (s.fail x).e ≠ 0 := FI.fail_e _ _ hx
theorem getUi_err {s : FI} (h : s.e ≠ 0) : (getUi s).e ≠ 0 := text_err (upto_err (upto_err (upto_err (upto_err (upto_err (upto_err h _ _) _ _) _ _) _ _) _ _) _ _) _
theorem upsG_err {s : FI} (h : s.e ≠ 0) : ∀ j, (upsG s j).1.e ≠ 0
 | 0 => h
 | j + 1 => getUi_err (upsG_err h j)
theorem rupG_err {s : FI} (h : s.e ≠ 0) : ∀ j, (rupG s j).1.e ≠ 0
 | 0 => h
 | j + 1 => by rw [rupG, if_pos (rupG_err h j)]; exact rupG_err h j
theorem cmdGe_err {s : FI} (h : s.e ≠ 0) : cmdGe s ≠ 0 := by
 unfold cmdGe
 rw [if_pos (raw_err h 11)]; exact raw_err h 11
theorem rcmdI_err {s : FI} (h : cmdGe s ≠ 0) : (rcmdI s).e ≠ 0 := by
 unfold rcmdI
 rw [if_pos h]; exact fail_err _ h
theorem cmdGe_ok {s : FI} (h : cmdGe s = 0) : (s.raw 11).1.e = 0 := by
 unfold cmdGe at h
 split at h
 ·exact h
 ·rename_i h1; exact Classical.not_not.1 h1
theorem k6_err {s : FI} (h : s.e ≠ 0) : (k6 s).1.e ≠ 0 := raw_err (upto_err (upto_err (upto_err (upto_err (upto_err h _ _) _ _) _ _) _ _) _ _) _
theorem confGe_err {s : FI} (h : s.e ≠ 0) : confGe s ≠ 0 := by
 unfold confGe
 rw [if_pos (k6_err h)]; exact k6_err h
theorem confGe_ok {s : FI} (h : confGe s = 0) : (k6 s).1.e = 0 := by
 unfold confGe at h
 split at h
 ·exact h
 ·rename_i h1; exact Classical.not_not.1 h1
theorem rupG_eq (s : FI) : ∀ j, ((upsG s j).1.e = 0 ∧ rupG s j = upsG s j) ∨ ((upsG s j).1.e ≠ 0 ∧ (rupG s j).1.e ≠ 0)
 | 0 => by
  by_cases h : s.e = 0
  ·exact .inl ⟨h, rfl⟩
  ·exact .inr ⟨h, h⟩
 | j + 1 => by
  rcases rupG_eq s j with ⟨h, e⟩ | ⟨h, e⟩
  ·have e2 : rupG s (j + 1) = upsG s (j + 1) := by
    rw [rupG, if_neg (by rw [e]; exact fun h2 => h2 h), e]; rfl
   by_cases h2 : (upsG s (j + 1)).1.e = 0
   ·exact .inl ⟨h2, e2⟩
   ·exact .inr ⟨h2, by rw [e2]; exact h2⟩
  ·refine .inr ⟨getUi_err h, ?_⟩
   rw [rupG, if_pos e]; exact e
theorem rd13_eq (s : FI) (v : LVal) : RdEq (st13 s v) (rd13 s v) := by
 rcases rupG_eq (s.upto 1 4).1 (s.upto 1 4).2 with ⟨h, e⟩ | ⟨h, e⟩
 ·exact .inl ⟨h, by unfold rd13 st13; rw [e]⟩
 ·exact .inr ⟨h, e⟩
theorem rvoG_err {s : FI} (h : s.e ≠ 0) : ∀ j, (rvoG s j).1.e ≠ 0
 | 0 => h
 | j + 1 => by rw [rvoG, if_pos (rvoG_err h j)]; exact rvoG_err h j
theorem voteI_err {s : FI} (h : s.e ≠ 0) : (voteI s).e ≠ 0 := raw_err (upto_err (upto_err h _ _) _ _) _
theorem votsG_err {s : FI} (h : s.e ≠ 0) : ∀ j, (votsG s j).1.e ≠ 0
 | 0 => h
 | j + 1 => by
  have ih := votsG_err h j
  rw [votsG]
  split
  ·exact ih
  ·split
   ·exact wrongF_e _
   ·exact voteI_err ih
theorem rvoG_eq (s : FI) : ∀ j, ((votsG s j).2.2 = false ∧ (votsG s j).1.e = 0 ∧ rvoG s j = ((votsG s j).1, (votsG s j).2.1)) ∨ ((votsG s j).1.e ≠ 0 ∧ (rvoG s j).1.e ≠ 0)
 | 0 => by
  by_cases h : s.e = 0
  ·exact .inl ⟨rfl, h, rfl⟩
  ·exact .inr ⟨h, h⟩
 | j + 1 => by
  rcases rvoG_eq s j with ⟨hf, h, e⟩ | ⟨h, e⟩
  ·have e0 : rvoG s (j + 1) = (rcmdI (w2 (votsG s j).1).1, (votsG s j).2.1 ++ [voteV (votsG s j).1]) := by
    rw [rvoG, if_neg (by rw [e]; exact fun h2 => h2 h), e]
   by_cases hc : cmdGe (w2 (votsG s j).1).1 = 0
   ·have e1 : votsG s (j + 1) = (voteI (votsG s j).1, (votsG s j).2.1 ++ [voteV (votsG s j).1], false) := by
     rw [votsG, if_neg (by rw [hf]; decide), if_neg (fun h2 => h2 hc)]
    refine .inl ⟨by rw [e1], ?_, ?_⟩
    ·rw [e1]; exact cmdGe_ok hc
    ·rw [e0, e1]
     unfold rcmdI
     rw [if_neg (fun h2 => h2 hc)]; rfl
   ·have e1 : votsG s (j + 1) = (wrongF (voteI (votsG s j).1), (votsG s j).2.1, true) := by
     rw [votsG, if_neg (by rw [hf]; decide), if_pos hc]
    refine .inr ⟨by rw [e1]; exact wrongF_e _, ?_⟩
    rw [e0]; exact rcmdI_err hc
  ·refine .inr ⟨?_, by rw [rvoG, if_pos e]; exact e⟩
   rw [votsG]
   split
   ·exact h
   ·split
    ·exact wrongF_e _
    ·exact voteI_err h
theorem rd12_eq (s : FI) (v : LVal) : RdEq (st12 s v) (rd12 s v) := by
 rcases rvoG_eq (s.upto 2 512).1 (s.upto 2 512).2 with ⟨_, h, e⟩ | ⟨h, e⟩
 ·exact .inl ⟨h, by unfold rd12 st12; rw [e]⟩
 ·exact .inr ⟨h, e⟩
theorem rd10_eq (s : FI) (v : LVal) : RdEq (st10 s v) (rd10 s v) := by
 by_cases hc : cmdGe s = 0
 ·refine .inl ⟨?_, ?_⟩
  ·unfold st10; simp only; rw [if_neg (fun h => h hc)]; exact cmdGe_ok hc
  ·unfold rd10 st10 rcmdI; rw [if_neg (fun h => h hc), if_neg (fun h => h hc)]
 ·refine .inr ⟨?_, rcmdI_err hc⟩
  unfold st10; simp only; rw [if_pos hc]; exact wrongF_e _
theorem rd11_eq (s : FI) (v : LVal) : RdEq (st11 s v) (rd11 s v) := by
 by_cases hc : confGe s = 0
 ·refine .inl ⟨?_, ?_⟩
  ·unfold st11; simp only; rw [if_neg (fun h => h hc)]; exact confGe_ok hc
  ·unfold rd11 st11 rconI; rw [if_neg (fun h => h hc), if_neg (fun h => h hc)]
 ·refine .inr ⟨?_, ?_⟩
  ·unfold st11; simp only; rw [if_pos hc]; exact wrongF_e _
  ·unfold rd11 rconI; simp only; rw [if_pos hc]; exact fail_err _ hc
theorem rdO_eq (i : Nat) (s : FI) (v : LVal) : RdEq (stO i s v) (rdO i s v) := by
 unfold stO rdO
 split
 ·exact rd10_eq s v
 ·exact rd11_eq s v
 ·exact rd12_eq s v
 ·exact rd13_eq s v
 ·exact RdEq.refl _
 ·split <;> first | exact RdEq.refl _ | (exfalso; simp_all)
theorem rdX_eq (i : Nat) (s : FI) (v : LVal) : RdEq (stX i s v) (rdX i s v) := by
 unfold stX rdX stG
 split <;> first | exact RdEq.refl _ | exact rdO_eq _ _ _
theorem stO_err {s : FI} (h : s.e ≠ 0) (i : Nat) (v : LVal) : (stO i s v).1.e ≠ 0 := by
 unfold stO
 split
 ·unfold st10; simp only; rw [if_pos (cmdGe_err h)]; exact wrongF_e _
 ·unfold st11; simp only; rw [if_pos (confGe_err h)]; exact wrongF_e _
 ·exact votsG_err (upto_err h _ _) _
 ·exact upsG_err (upto_err h _ _) _
 ·exact text_err h _
 ·exact h
theorem rdO_err {s : FI} (h : s.e ≠ 0) (i : Nat) (v : LVal) : (rdO i s v).1.e ≠ 0 := by
 unfold rdO
 split
 ·exact rcmdI_err (cmdGe_err h)
 ·unfold rd11 rconI; simp only; rw [if_pos (confGe_err h)]; exact fail_err _ (confGe_err h)
 ·exact rvoG_err (upto_err h _ _) _
 ·exact rupG_err (upto_err h _ _) _
 ·exact text_err h _
 ·exact h
theorem stX_err {s : FI} (h : s.e ≠ 0) (i : Nat) (v : LVal) : (stX i s v).1.e ≠ 0 := by
 unfold stX stG
 split <;> first | exact upto_err h _ _ | exact stO_err h _ _
theorem rdX_err {s : FI} (h : s.e ≠ 0) (i : Nat) (v : LVal) : (rdX i s v).1.e ≠ 0 := by
 unfold rdX stG
 split <;> first | exact upto_err h _ _ | exact rdO_err h _ _
theorem rdX_step (i : Nat) (p q : FI × LVal) (h : RdEq p q) : RdEq (stX i p.1 p.2) (rdX i q.1 q.2) := by
 rcases h with ⟨h, rfl⟩ | ⟨h1, h2⟩
 ·exact rdX_eq i _ _
 ·exact .inr ⟨stX_err h1 _ _, rdX_err h2 _ _⟩
theorem rdF_eq (is : List Nat) : ∀ (p q : FI × LVal), RdEq p q → RdEq (stF stX is p.1 p.2) (stF rdX is q.1 q.2) := by
 induction is with
 | nil => exact fun p q h => h
 | cons i is ih => exact fun p q h => ih _ _ (rdX_step i p q h)
noncomputable def rdS (b : List Nat) : FI × LVal := decS rdX b
noncomputable def rdE (b : List Nat) : Int := decE chkV rdX b
theorem rdS_eq (b : List Nat) : RdEq (decS stX b) (rdS b) := rdF_eq _ ((dec2 b).1, decV b) _ (RdEq.refl _)
theorem done_err {s : FI} (h : s.e ≠ 0) : s.done ≠ 0 := by
 unfold FI.done
 rw [if_pos h]; exact h
theorem rd_same (b : List Nat) : rdE b = decE chkV stX b ∧ (rdE b = 0 → (rdS b).2 = (decS stX b).2) := by
 have h := rdS_eq b
 by_cases h1 : getE b = 0
 ·by_cases h2 : 1 ≤ getK b ∧ getK b ≤ 20
  ·have A : ∀ st, decE chkV st b = if (decS st b).1.done ≠ 0 ∨ chkV (decS st b).2 ≠ 0 then 4 else 0 := fun st => by
    unfold decE
    rw [if_neg (fun h => h h1), if_neg (fun h => h h2)]
   rcases h with ⟨e, h⟩ | ⟨e1, e2⟩
   ·have h : decS rdX b = decS stX b := h
    refine ⟨?_, fun _ => by show (decS rdX b).2 = _; rw [h]⟩
    show decE chkV rdX b = _
    rw [A, A, h]
   ·have e2 : (decS rdX b).1.e ≠ 0 := e2
    have B1 : decE chkV rdX b = 4 := by rw [A, if_pos (.inl (done_err e2))]
    have B2 : decE chkV stX b = 4 := by rw [A, if_pos (.inl (done_err e1))]
    refine ⟨B1.trans B2.symm, fun h => ?_⟩
    have h : decE chkV rdX b = 0 := h
    rw [B1] at h; omega
  ·have A : ∀ st, decE chkV st b = 1 := fun st => by
    unfold decE
    rw [if_neg (fun h => h h1), if_pos h2]
   refine ⟨(A rdX).trans (A stX).symm, fun h => ?_⟩
   have h : decE chkV rdX b = 0 := h
   rw [A] at h; omega
 ·have A : ∀ st, decE chkV st b = getE b := fun st => by
   unfold decE
   rw [if_pos h1]
  refine ⟨(A rdX).trans (A stX).symm, fun h => ?_⟩
  have h : decE chkV rdX b = 0 := h
  rw [A] at h; exact (h1 (by omega)).elim
end Go.Proofs.YtmpedblelnpjdaaGreatDoor
