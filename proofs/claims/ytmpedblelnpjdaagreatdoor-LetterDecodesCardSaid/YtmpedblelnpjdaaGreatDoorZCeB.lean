/- What was put is read again: every part of a letter. -/
import Derived.Test.YtmpedblelnpjdaaGreatDoorZCeA
namespace Go.Proofs.YtmpedblelnpjdaaGreatDoor
open Go.RowKit
set_option linter.unusedSimpArgs false
set_option linter.unusedVariables false
set_option maxHeartbeats 2000000
set_option maxRecDepth 100000
def LVal.sel (f : Nat → Bool) (v y : LVal) : LVal :=
 ⟨v.kd, v.fr, v.tw, if f 0 then y.ch else v.ch, if f 1 then y.ep else v.ep, if f 2 then y.bl else v.bl, if f 6 then y.nu else v.nu, if f 3 then y.sq else v.sq, if f 4 then y.dz else v.dz, if f 9 then y.vr else v.vr, if f 5 then y.sl else v.sl, if f 8 then y.ky else v.ky, if f 7 then y.cd else v.cd, if f 10 then y.qk else v.qk, if f 10 then y.qc else v.qc, if f 10 then y.qe else v.qe, if f 10 then y.qn else v.qn, if f 11 then y.fc else v.fc, if f 11 then y.fe else v.fe, if f 11 then y.ff else v.ff, if f 11 then y.fj else v.fj, if f 11 then y.ns else v.ns, if f 12 then y.vs else v.vs, if f 13 then y.us else v.us, if f 14 then y.ds else v.ds⟩
theorem LVal.sel_no (v y : LVal) : LVal.sel (fun _ => false) v y = v := by
 simp only [LVal.sel, Bool.false_eq_true, if_false]
theorem LVal.sel_congr {f g : Nat → Bool} (v y : LVal) (h : ∀ j, j < 15 → f j = g j) : LVal.sel f v y = LVal.sel g v y := by
 simp only [LVal.sel, h 0 (by decide), h 1 (by decide), h 2 (by decide), h 3 (by decide), h 4 (by decide), h 5 (by decide), h 6 (by decide), h 7 (by decide), h 8 (by decide), h 9 (by decide), h 10 (by decide), h 11 (by decide), h 12 (by decide), h 13 (by decide), h 14 (by decide)]
def isJ (i : Nat) : Nat → Bool := fun j => j == i
theorem bigOne (n : Int) (h : 0 ≤ n ∧ n < 256) : big n.toNat 1 = [n] := by
 have := big_numB [n] (fun z hz => by simp only [List.mem_singleton] at hz; omega)
 rw [show numB [n] = n.toNat by simp [numB]] at this
 exact this
open Classical in
theorem right_iff (x : Cf) : x.right = true ↔ x.fine ∧ unlikeB x.stands = true := by unfold Cf.right; rw [Bool.and_eq_true, decide_eq_true_eq]
theorem stF_cons (st : Nat → FI → LVal → FI × LVal) (i : Nat) (is : List Nat) (s : FI) (v : LVal) : stF st (i :: is) s v = stF st is (st i s v).1 (st i s v).2 := rfl
theorem partsI_nodup : ∀ k, k < 21 → (partsI k).Nodup := by decide +kernel
end Go.Proofs.YtmpedblelnpjdaaGreatDoor
