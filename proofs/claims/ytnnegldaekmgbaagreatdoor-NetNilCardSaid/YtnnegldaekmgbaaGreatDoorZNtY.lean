/- A call on a net, opened. -/
import Derived.Test.YtnnegldaekmgbaaGreatDoorZNtX
import Derived.Test.YtnnegldaekmgbaaGreatDoorZUpdO
import Derived.Test.YtnnegldaekmgbaaGreatDoorZLaidN
namespace Go.Proofs.YtnnegldaekmgbaaGreatDoor
open Go.Joins Go.ChangeShapes Go.WideShapes Go.RowKit Go.Deep
set_option linter.unusedSimpArgs false
set_option linter.unusedVariables false
set_option maxHeartbeats 2000000
set_option maxRecDepth 100000

theorem open_nop {H : Type} {enc : TypeId × Value → H} {W : World} {base : Nat} {v : Value} {d : DataW H} {p : List MemPlace}
    (hv : Value.okWide Tryz.prog W .any base 83 v) (h : DataW.Trod enc Tryz.prog W 0 (fun _ => true) true 83 v d p) : ∃ (o : NOp) (xs : List LV), v = o.agg ∧ LsI0 W W.heap.size o.A o.nn xs ∧ o.pat < 4294967296 ∧ o.nn ≤ o.c ∧ o.c ≤ maxLen := by
  obtain ⟨cs, n, rfl, hl, hf⟩ := open_struct Tryz.underlying83 (by kernel_rfl) (by kernel_rfl) hv h
  obtain ⟨v0, y0, c0, t0⟩ := hf 0 _ rfl
  obtain ⟨v1, y1, c1, t1⟩ := hf 1 _ rfl
  obtain ⟨v2, y2, c2, t2⟩ := hf 2 _ rfl
  obtain ⟨v3, y3, c3, t3⟩ := hf 3 _ rfl
  obtain ⟨v4, y4, c4, t4⟩ := hf 4 _ rfl
  obtain ⟨v5, y5, c5, t5⟩ := hf 5 _ rfl
  obtain ⟨z0, e0, _, w0⟩ := DataW.trod_int Tryz.underlying3 t0
  obtain ⟨A, len, cap, xs, rfl, hlc, hcm, hx⟩ := ls_of_cell t1
  obtain ⟨z2, e2, _, w2⟩ := DataW.trod_int Tryz.underlying3 t2
  obtain ⟨z3, e3, _, w3⟩ := DataW.trod_int Tryz.underlying3 t3
  obtain ⟨z4, e4, _, w4⟩ := DataW.trod_int Tryz.underlying22 t4
  obtain ⟨z5, e5, _, w5⟩ := DataW.trod_int Tryz.underlying3 t5
  obtain rfl := (List.cons.inj e0).1
  obtain rfl := (List.cons.inj e2).1
  obtain rfl := (List.cons.inj e3).1
  obtain rfl := (List.cons.inj e4).1
  obtain rfl := (List.cons.inj e5).1
  have hp := bounds_u32 w4
  obtain ⟨pat, rfl⟩ := Int.eq_ofNat_of_zero_le hp.1
  have hl' : cs.length = 6 := hl
  match cs, hl' with
  | [a0, a1, a2, a3, a4, a5], _ =>
    simp at c0 c1 c2 c3 c4 c5
    subst c0 c1 c2 c3 c4 c5
    exact ⟨⟨z0, A, len, cap, z2, z3, pat, z5⟩, xs, rfl, hx, by show pat < _; omega, hlc, hcm⟩
end Go.Proofs.YtnnegldaekmgbaaGreatDoor
