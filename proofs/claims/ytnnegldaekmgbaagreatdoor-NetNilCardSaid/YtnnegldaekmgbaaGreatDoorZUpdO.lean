/- Structs that come in by value, opened: an update, an operation. -/
import Derived.Test.YtnnegldaekmgbaaGreatDoorZGC
namespace Go.Proofs.YtnnegldaekmgbaaGreatDoor
open Go.Joins Go.ChangeShapes Go.WideShapes Go.RowKit Go.Deep
set_option linter.unusedSimpArgs false
set_option linter.unusedVariables false
set_option maxHeartbeats 1000000

theorem open_struct {H : Type} {enc : TypeId × Value → H} {P : Program} {w : World} {base : Nat} {spare : Nat → Bool} {held : Bool} {r : Reach} {b0 : Nat} {t : TypeId} {fs : Array Field} {v : Value} {d : DataW H} {p : List MemPlace}
    (hs : P.underlying t = some (.struct fs)) (hone : oneCellFields P fs = true) (hC : P.cellsOf t = fs.size) (hv : Value.okWide P w r b0 t v) (h : DataW.Trod enc P w base spare held t v d p) :
    ∃ (cs : List Value) (n : Nat), v = .agg cs.toArray ∧ cs.length = fs.size ∧ ∀ (j : Nat) (f : Field), fs[j]? = some f → ∃ (c : Value) (y : DataW H × List MemPlace), cs[j]? = some c ∧ DataW.trod enc P w base spare held n f.type [c] = some y := by
  obtain ⟨cs, rfl, hsz⟩ := okWide_struct hs hv
  obtain ⟨l⟩ := cs
  obtain ⟨fuel, hf⟩ := h
  obtain ⟨xs, n, _, hx, hcl, hlen, hg⟩ := DataW.trod_struct hs hf
  have hl : l.length = fs.size := by rw [← hC]; exact hsz
  refine ⟨l, n, rfl, hl, fun j f hj => ?_⟩
  obtain ⟨o, k⟩ := hone_of hone j f hj
  have hjl : j < fs.size := (Array.getElem?_eq_some_iff.1 hj).1
  have h1 := hg j f hj
  rw [o, k] at h1
  have hone' : ((Value.agg l.toArray).cells.toList.drop j).take 1 = [l[j]'(by omega)] := by
    show (l.drop j).take 1 = _
    rw [List.drop_eq_getElem_cons (by omega)]
    rfl
  rw [hone'] at h1
  have hys : xs[j]? = some (xs[j]'(by omega)) := List.getElem?_eq_getElem (by omega)
  exact ⟨_, _, List.getElem?_eq_getElem (by omega), h1.trans hys⟩
set_option maxRecDepth 100000 in
theorem open_up {H : Type} {enc : TypeId × Value → H} {W : World} {base : Nat} {v : Value} {d : DataW H} {p : List MemPlace}
    (hv : Value.okWide Tryz.prog W .any base 121 v) (h : DataW.Trod enc Tryz.prog W 0 (fun _ => true) true 121 v d p) : ∃ u : Up, v = u.agg ∧ UpIn W W.heap.size u := by
  obtain ⟨cs, n, rfl, hl, hf⟩ := open_struct Tryz.underlying121 (by kernel_rfl) (by kernel_rfl) hv h
  obtain ⟨v0, y0, c0, t0⟩ := hf 0 _ rfl
  obtain ⟨v1, y1, c1, t1⟩ := hf 1 _ rfl
  obtain ⟨v2, y2, c2, t2⟩ := hf 2 _ rfl
  obtain ⟨v3, y3, c3, t3⟩ := hf 3 _ rfl
  obtain ⟨v4, y4, c4, t4⟩ := hf 4 _ rfl
  obtain ⟨v5, y5, c5, t5⟩ := hf 5 _ rfl
  obtain ⟨v6, y6, c6, t6⟩ := hf 6 _ rfl
  obtain ⟨z0, e0, _, w0⟩ := DataW.trod_int Tryz.underlying23 t0
  obtain ⟨z1, e1, _, w1⟩ := DataW.trod_int Tryz.underlying3 t1
  obtain ⟨z2, e2, _, w2⟩ := DataW.trod_int Tryz.underlying23 t2
  obtain ⟨z3, e3, _, w3⟩ := DataW.trod_int Tryz.underlying3 t3
  obtain ⟨z4, e4, _, w4⟩ := DataW.trod_int Tryz.underlying22 t4
  obtain ⟨z5, e5, _, w5⟩ := DataW.trod_int Tryz.underlying23 t5
  obtain ⟨A6, l6, cp6, zs, rfl, hl6, hm6, hz6, hr6, hw6⟩ := ints_trod Tryz.underlying24 Tryz.underlying5 (by kernel_rfl) t6
  simp at e0 e1 e2 e3 e4 e5
  subst e0 e1 e2 e3 e4 e5
  have hl' : cs.length = 7 := hl
  match cs, hl' with
  | [a0, a1, a2, a3, a4, a5, a6], _ =>
    simp at c0 c1 c2 c3 c4 c5 c6
    subst c0 c1 c2 c3 c4 c5 c6
    exact ⟨⟨z0, z1, z2, z3, z4, z5, A6, l6, cp6, zs⟩, rfl, ⟨hr6, hl6, hm6, ⟨bounds_u64 w0, bounds_i64 w1, bounds_u64 w2, bounds_i64 w3, bounds_u32 w4, bounds_u64 w5, fun z hz => bounds_u8 (hw6 z hz)⟩⟩⟩
/-- an operation -/
structure Opn where
  kd : Int
  key : Int
  ver : Int
  A : Option Addr
  n : Nat
  c : Nat
  pick : Int
  bs : List Int
def Opn.agg (o : Opn) : Value := .agg #[.int .i64 o.kd, .int .u32 o.key, .int .u64 o.ver, .slice o.A o.n o.c, .int .i64 o.pick]
def Opn.cells (o : Opn) : Array Value := #[.int .i64 o.kd, .int .u32 o.key, .int .u64 o.ver, .slice o.A o.n o.c, .int .i64 o.pick]
structure Opn.wf (o : Opn) : Prop where
  kd : -9223372036854775808 ≤ o.kd ∧ o.kd ≤ 9223372036854775807
  key : 0 ≤ o.key ∧ o.key ≤ 4294967295
  ver : 0 ≤ o.ver ∧ o.ver ≤ 18446744073709551615
  pick : -9223372036854775808 ≤ o.pick ∧ o.pick ≤ 9223372036854775807
  bs : ∀ z ∈ o.bs, 0 ≤ z ∧ z ≤ 255
structure OpIn (w : World) (B : Nat) (o : Opn) : Prop where
  rd : Reads w B 1 o.A o.n (o.bs.map (Value.int .u8))
  hc : o.n ≤ o.c
  hm : o.c ≤ maxLen
  wf : o.wf
theorem OpIn.below {w w' : World} {B : Nat} {o : Opn} (h : OpIn w B o) (hb : Below B w w') : OpIn w' B o := ⟨h.rd.below hb, h.hc, h.hm, h.wf⟩
theorem OpIn.more {w : World} {B B' : Nat} {o : Opn} (h : OpIn w B o) (hb : B ≤ B') : OpIn w B' o := ⟨h.rd.more hb, h.hc, h.hm, h.wf⟩
set_option maxRecDepth 100000 in
theorem open_op {H : Type} {enc : TypeId × Value → H} {W : World} {base : Nat} {v : Value} {d : DataW H} {p : List MemPlace}
    (hv : Value.okWide Tryz.prog W .any base 26 v) (h : DataW.Trod enc Tryz.prog W 0 (fun _ => true) true 26 v d p) : ∃ o : Opn, v = o.agg ∧ OpIn W W.heap.size o := by
  obtain ⟨cs, n, rfl, hl, hf⟩ := open_struct Tryz.underlying26 (by kernel_rfl) (by kernel_rfl) hv h
  obtain ⟨v0, y0, c0, t0⟩ := hf 0 _ rfl
  obtain ⟨v1, y1, c1, t1⟩ := hf 1 _ rfl
  obtain ⟨v2, y2, c2, t2⟩ := hf 2 _ rfl
  obtain ⟨v3, y3, c3, t3⟩ := hf 3 _ rfl
  obtain ⟨v4, y4, c4, t4⟩ := hf 4 _ rfl
  obtain ⟨z0, e0, _, w0⟩ := DataW.trod_int Tryz.underlying3 t0
  obtain ⟨z1, e1, _, w1⟩ := DataW.trod_int Tryz.underlying22 t1
  obtain ⟨z2, e2, _, w2⟩ := DataW.trod_int Tryz.underlying23 t2
  obtain ⟨z4, e4, _, w4⟩ := DataW.trod_int Tryz.underlying3 t4
  obtain ⟨A6, l6, cp6, zs, rfl, hl6, hm6, hz6, hr6, hw6⟩ := ints_trod Tryz.underlying24 Tryz.underlying5 (by kernel_rfl) t3
  simp at e0 e1 e2 e4
  subst e0 e1 e2 e4
  have hl' : cs.length = 5 := hl
  match cs, hl' with
  | [a0, a1, a2, a3, a4], _ =>
    simp at c0 c1 c2 c3 c4
    subst c0 c1 c2 c3 c4
    exact ⟨⟨z0, z1, z2, A6, l6, cp6, z4, zs⟩, rfl, ⟨hr6, hl6, hm6, ⟨bounds_i64 w0, bounds_u32 w1, bounds_u64 w2, bounds_i64 w4, fun z hz => bounds_u8 (hw6 z hz)⟩⟩⟩
end Go.Proofs.YtnnegldaekmgbaaGreatDoor
