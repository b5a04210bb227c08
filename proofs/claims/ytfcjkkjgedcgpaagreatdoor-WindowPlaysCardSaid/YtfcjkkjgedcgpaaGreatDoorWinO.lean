/- Calls of windows, opened. -/
import Derived.Test.YtfcjkkjgedcgpaaGreatDoorWinA
import Derived.Test.YtfcjkkjgedcgpaaGreatDoorUpdO
import Derived.Test.YtfcjkkjgedcgpaaGreatDoorMemD
namespace Go.Proofs.YtfcjkkjgedcgpaaGreatDoor
open Go.Joins Go.ChangeShapes Go.WideShapes Go.RowKit Go.Deep
set_option linter.unusedSimpArgs false
set_option linter.unusedVariables false
set_option maxHeartbeats 2000000
set_option maxRecDepth 100000
/-- a slice of whatever: each element's cells, and that they read as the type -/
theorem open_slice_any {H : Type} {enc : TypeId × Value → H} {P : Program} {W : World} {b0 : Nat} {t e : TypeId} {v : Value} {d : DataW H} {p : List MemPlace} (ht : P.underlying t = some (.slice e))
    (hv : Value.okWide P W .any b0 t v) (h : DataW.Trod enc P W 0 (fun _ => true) true t v d p) :
    ∃ (A : Option Addr) (len cap : Nat), v = .slice A len cap ∧ len ≤ cap ∧ cap ≤ maxLen ∧ (len = 0 ∨ ∃ a, A = some a ∧ ∀ i, i < len → ∃ (cs : List Value) (n : Nat) (y : DataW H × List MemPlace), cs.length = P.cellsOf e ∧
      (∀ (j : Nat) (c : Value), cs[j]? = some c → W.cell? (a.add (i * P.cellsOf e + j)) = some c) ∧ DataW.trod enc P W 0 (fun _ => true) true n e cs = some y) := by
  obtain ⟨a0, len0, cap0, rfl⟩ := okWide_slice ht hv
  obtain ⟨fuel, hf⟩ := h
  rcases open_slice ht hf with ⟨hcs, _⟩ | ⟨a, len, cap, m, n, D, Pl, hcs, hb, hl, hm, hmm, hx, hi⟩
  · simp [Value.cells] at hcs
    obtain ⟨rfl, rfl, rfl⟩ := hcs
    exact ⟨none, 0, 0, rfl, Nat.le_refl _, by decide, .inl rfl⟩
  · simp [Value.cells] at hcs
    obtain ⟨rfl, rfl, rfl⟩ := hcs
    simp only [if_true] at hmm
    subst hmm
    refine ⟨some a, len0, _, rfl, hl, hm, .inr ⟨a, rfl, fun i him => ?_⟩⟩
    obtain ⟨cs', hc, ht'⟩ := hi i (by omega)
    obtain ⟨_, hcl, hat⟩ := World.cells?_some hc
    refine ⟨cs', _, _, hcl, fun j c hj => ?_, ht'⟩
    have hjl : j < P.cellsOf e := by rw [← hcl]; exact (List.getElem?_eq_some_iff.1 hj).1
    rw [← Go.Deep.add_add, hat j hjl]
    exact hj
structure WOp where
  kd : Int
  nn : Int
  u : Up
  back : Int
  most : Int
def WOp.row (o : WOp) : List Value := [.int .i64 o.kd, .int .u8 o.nn, .int .u64 o.u.seq, .int .i64 o.u.cl, .int .u64 o.u.num, .int .i64 o.u.kd, .int .u32 o.u.key, .int .u64 o.u.ver, .slice o.u.A o.u.n o.u.c, .int .u8 o.back, .int .i64 o.most]
theorem WOp.row_len (o : WOp) : o.row.length = 11 := rfl
structure WOp.okIn (w : World) (B : Nat) (o : WOp) : Prop where
  kd : -9223372036854775808 ≤ o.kd ∧ o.kd ≤ 9223372036854775807
  nn : 0 ≤ o.nn ∧ o.nn ≤ 255
  back : 0 ≤ o.back ∧ o.back ≤ 255
  most : -9223372036854775808 ≤ o.most ∧ o.most ≤ 9223372036854775807
  u : UpIn w B o.u
def WOp.zero : WOp := ⟨0, 0, Up.zero, 0, 0⟩
structure WOpsIn (w : World) (B : Nat) (A : Option Addr) (n : Nat) (l : List WOp) : Prop where
  rd : Reads w B 11 A n (l.flatMap WOp.row)
  mem : ∀ o ∈ l, o.okIn w B
theorem WOpsIn.below {w w' : World} {B n : Nat} {A : Option Addr} {l : List WOp} (h : WOpsIn w B A n l) (hb : Below B w w') : WOpsIn w' B A n l :=
  ⟨h.rd.below hb, fun o ho => by have := h.mem o ho; exact ⟨this.kd, this.nn, this.back, this.most, this.u.below hb⟩⟩
theorem WOpsIn.len {w : World} {B n : Nat} {A : Option Addr} {l : List WOp} (h : WOpsIn w B A n l) : l.length = n := flat_len WOp.row WOp.row_len (by omega) h.rd
theorem WOpsIn.at_ {w : World} {B n k : Nat} {A : Option Addr} {l : List WOp} (h : WOpsIn w B A n l) (hk : k < n) :
    ∃ b off o, A = some ⟨b, off, none⟩ ∧ b < B ∧ l[k]? = some o ∧ o.okIn w B ∧ ∀ j v, o.row[j]? = some v → w.cell? ⟨b, off + k * 11 + j, none⟩ = some v := by
  obtain ⟨b, off, o, hA, hb, ho, hc⟩ := reads_at WOp.row WOp.row_len (by omega) h.rd hk
  exact ⟨b, off, o, hA, hb, ho, h.mem o (List.mem_of_getElem? ho), hc⟩
theorem cWop : Tryz.prog.cellsOf 31 = 11 := by kernel_rfl
theorem cUp : Tryz.prog.cellsOf 29 = 7 := by kernel_rfl
theorem c1int : Tryz.prog.cellsOf 3 = 1 := by kernel_rfl
theorem c1u8 : Tryz.prog.cellsOf 5 = 1 := by kernel_rfl
theorem list11 {l : List Value} (h : l.length = 11) : ∃ a b c d e f g i j k m, l = [a, b, c, d, e, f, g, i, j, k, m] := by
  match l, h with
  | [a, b, c, d, e, f, g, i, j, k, m], _ => exact ⟨a, b, c, d, e, f, g, i, j, k, m, rfl⟩
theorem up_of_cells {H : Type} {enc : TypeId × Value → H} {W : World} {n : Nat} {y : DataW H × List MemPlace} {a0 a1 a2 a3 a4 a5 a6 : Value} (h : DataW.trod enc Tryz.prog W 0 (fun _ => true) true n 29 [a0, a1, a2, a3, a4, a5, a6] = some y) :
    ∃ u : Up, UpIn W W.heap.size u ∧ [a0, a1, a2, a3, a4, a5, a6] = u.row := by
  obtain ⟨xs, m, rfl, hx, hcl, hlen, hg⟩ := DataW.trod_struct Tryz.underlying29 h
  have hlen' : xs.length = 7 := hlen
  have t0 : DataW.trod enc Tryz.prog W 0 (fun _ => true) true m 25 [a0] = xs[0]? := hg 0 _ rfl
  have t1 : DataW.trod enc Tryz.prog W 0 (fun _ => true) true m 3 [a1] = xs[1]? := hg 1 _ rfl
  have t2 : DataW.trod enc Tryz.prog W 0 (fun _ => true) true m 25 [a2] = xs[2]? := hg 2 _ rfl
  have t3 : DataW.trod enc Tryz.prog W 0 (fun _ => true) true m 3 [a3] = xs[3]? := hg 3 _ rfl
  have t4 : DataW.trod enc Tryz.prog W 0 (fun _ => true) true m 26 [a4] = xs[4]? := hg 4 _ rfl
  have t5 : DataW.trod enc Tryz.prog W 0 (fun _ => true) true m 25 [a5] = xs[5]? := hg 5 _ rfl
  have t6 : DataW.trod enc Tryz.prog W 0 (fun _ => true) true m 27 [a6] = xs[6]? := hg 6 _ rfl
  rw [List.getElem?_eq_getElem (by omega)] at t0 t1 t2 t3 t4 t5 t6
  obtain ⟨z0, e0, _, w0⟩ := DataW.trod_int Tryz.underlying25 t0
  obtain ⟨z1, e1, _, w1⟩ := DataW.trod_int Tryz.underlying3 t1
  obtain ⟨z2, e2, _, w2⟩ := DataW.trod_int Tryz.underlying25 t2
  obtain ⟨z3, e3, _, w3⟩ := DataW.trod_int Tryz.underlying3 t3
  obtain ⟨z4, e4, _, w4⟩ := DataW.trod_int Tryz.underlying26 t4
  obtain ⟨z5, e5, _, w5⟩ := DataW.trod_int Tryz.underlying25 t5
  obtain ⟨A6, l6, cp6, zs, rfl, hl6, hm6, hz6, hr6, hw6⟩ := ints_trod Tryz.underlying27 Tryz.underlying5 (by kernel_rfl) t6
  simp at e0 e1 e2 e3 e4 e5
  subst e0 e1 e2 e3 e4 e5
  exact ⟨⟨z0, z1, z2, z3, z4, z5, A6, l6, cp6, zs⟩, ⟨hr6, hl6, hm6, ⟨bounds_u64 w0, bounds_i64 w1, bounds_u64 w2, bounds_i64 w3, bounds_u32 w4, bounds_u64 w5, fun z hz => bounds_u8 (hw6 z hz)⟩⟩, rfl⟩
theorem open_wops {H : Type} {enc : TypeId × Value → H} {W : World} {base : Nat} {v : Value} {d : DataW H} {p : List MemPlace}
    (hv : Value.okWide Tryz.prog W .any base 22 v) (h : DataW.Trod enc Tryz.prog W 0 (fun _ => true) true 22 v d p) :
    ∃ (A : Option Addr) (len cap : Nat) (l : List WOp), v = .slice A len cap ∧ len ≤ cap ∧ cap ≤ maxLen ∧ WOpsIn W W.heap.size A len l := by
  obtain ⟨A, len, cap, rfl, hlc, hcm, hi⟩ := open_slice_any Tryz.underlying22 hv h
  rcases hi with rfl | ⟨a, rfl, hi⟩
  · exact ⟨A, 0, cap, [], rfl, hlc, hcm, ⟨⟨by simp, fun h => absurd h (by omega)⟩, by simp⟩⟩
  have key : ∀ k, k < len → ∃ o : WOp, o.okIn W W.heap.size ∧ ∀ j v, o.row[j]? = some v → W.cell? (a.add (k * 11 + j)) = some v := by
    intro k hk
    obtain ⟨cs, n, y, hcl, hc, ht⟩ := hi k hk
    rw [cWop] at hcl hc
    obtain ⟨c0, c1, c2, c3, c4, c5, c6, c7, c8, c9, c10, rfl⟩ := list11 hcl
    obtain ⟨xs, m, _, hx, _, hlen, hg⟩ := DataW.trod_struct Tryz.underlying31 ht
    have hlen' : xs.length = 5 := hlen
    have t0 : DataW.trod enc Tryz.prog W 0 (fun _ => true) true m 3 [c0] = xs[0]? := hg 0 _ rfl
    have t1 : DataW.trod enc Tryz.prog W 0 (fun _ => true) true m 5 [c1] = xs[1]? := hg 1 _ rfl
    have t2 : DataW.trod enc Tryz.prog W 0 (fun _ => true) true m 29 [c2, c3, c4, c5, c6, c7, c8] = xs[2]? := hg 2 _ rfl
    have t3 : DataW.trod enc Tryz.prog W 0 (fun _ => true) true m 5 [c9] = xs[3]? := hg 3 _ rfl
    have t4 : DataW.trod enc Tryz.prog W 0 (fun _ => true) true m 3 [c10] = xs[4]? := hg 4 _ rfl
    rw [List.getElem?_eq_getElem (by omega)] at t0 t1 t2 t3 t4
    obtain ⟨z0, e0, _, w0⟩ := DataW.trod_int Tryz.underlying3 t0
    obtain ⟨z1, e1, _, w1⟩ := DataW.trod_int Tryz.underlying5 t1
    obtain ⟨z3, e3, _, w3⟩ := DataW.trod_int Tryz.underlying5 t3
    obtain ⟨z4, e4, _, w4⟩ := DataW.trod_int Tryz.underlying3 t4
    obtain ⟨u, hu, hrow⟩ := up_of_cells t2
    obtain rfl := (List.cons.inj e0).1
    obtain rfl := (List.cons.inj e1).1
    obtain rfl := (List.cons.inj e3).1
    obtain rfl := (List.cons.inj e4).1
    simp [Up.row] at hrow
    obtain ⟨rfl, rfl, rfl, rfl, rfl, rfl, rfl⟩ := hrow
    exact ⟨⟨z0, z1, u, z3, z4⟩, ⟨bounds_i64 w0, bounds_u8 w1, bounds_u8 w3, bounds_i64 w4, hu⟩, fun j v hj => hc j v hj⟩
  obtain ⟨l, hrd, hll, hm⟩ := open_rows WOp.row 11 WOp.zero (fun o => o.okIn W W.heap.size) WOp.row_len (by omega) key
  exact ⟨some a, len, cap, l, rfl, hlc, hcm, ⟨hrd, hm⟩⟩
end Go.Proofs.YtfcjkkjgedcgpaaGreatDoor
