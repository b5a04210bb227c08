import Derived.Test.YtmpedblelnpjdaaGreatDoorZCalC
import Derived.Test.YtmpedblelnpjdaaGreatDoorZGC
import Derived.Test.YtmpedblelnpjdaaGreatDoorZGA
import Derived.Test.YtmpedblelnpjdaaGreatDoorZLaidN
import Derived.OpenShut
import Derived.ProofKit
import Derived.Test.YtmpedblelnpjdaaGreatDoorZAtlU
section
/- An operation, a letter that come in by value, opened (as UpdO, NtO). -/
namespace Go.Proofs.YtmpedblelnpjdaaGreatDoor
open Go.Joins Go.ChangeShapes Go.WideShapes Go.RowKit Go.Deep
set_option linter.unusedSimpArgs false
set_option linter.unusedVariables false
set_option maxHeartbeats 4000000
set_option maxRecDepth 100000
theorem slice_trod {H : Type} {enc : TypeId × Value → H} {P : Program} {W : World} {t e : TypeId} {n : Nat} {c : Value} {y : DataW H × List MemPlace} (ht : P.underlying t = some (.slice e))
  (h : DataW.trod enc P W 0 (fun _ => true) true n t [c] = some y) :
  ∃ (A : Option Addr) (len cap : Nat), c = .slice A len cap ∧ len ≤ cap ∧ cap ≤ maxLen ∧ (len = 0 ∨ ∃ a, A = some a ∧ ∀ i, i < len → ∃ (cs : List Value) (n : Nat) (y : DataW H × List MemPlace), cs.length = P.cellsOf e ∧
   (∀ (j : Nat) (c : Value), cs[j]? = some c → W.cell? (a.add (i * P.cellsOf e + j)) = some c) ∧ DataW.trod enc P W 0 (fun _ => true) true n e cs = some y) := by
 rcases open_slice ht h with ⟨hcs, _⟩ | ⟨a, len, cap, m, n, D, Pl, hcs, hb, hl, hm, hmm, hx, hi⟩
 ·simp at hcs
  exact ⟨none, 0, 0, hcs, Nat.le_refl _, by decide, .inl rfl⟩
 ·simp at hcs
  simp only [if_true] at hmm
  subst hmm
  refine ⟨some a, len, _, hcs, hl, hm, .inr ⟨a, rfl, fun i him => ?_⟩⟩
  obtain ⟨cs', hc, ht'⟩ := hi i (by omega)
  obtain ⟨_, hcl, hat⟩ := World.cells?_some hc
  refine ⟨cs', _, _, hcl, fun j c hj => ?_, ht'⟩
  have hjl : j < P.cellsOf e := by rw [← hcl]; exact (List.getElem?_eq_some_iff.1 hj).1
  rw [← Go.Deep.add_add, hat j hjl]
  exact hj
theorem cVt : Tryz.prog.cellsOf 239 = 6 := by kernel_rfl
theorem cUp7 : Tryz.prog.cellsOf 145 = 7 := by kernel_rfl
theorem list6 {l : List Value} (h : l.length = 6) : ∃ a b c d e f, l = [a, b, c, d, e, f] := by
 match l, h with
 | [a, b, c, d, e, f], _ => exact ⟨a, b, c, d, e, f, rfl⟩
theorem list7 {l : List Value} (h : l.length = 7) : ∃ a b c d e f g, l = [a, b, c, d, e, f, g] := by
 match l, h with
 | [a, b, c, d, e, f, g], _ => exact ⟨a, b, c, d, e, f, g, rfl⟩
section
variable {H : Type} {enc : TypeId × Value → H} {W : World} {n : Nat} {y : DataW H × List MemPlace}
theorem up_of_cellsN {a0 a1 a2 a3 a4 a5 a6 : Value} (h : DataW.trod enc Tryz.prog W 0 (fun _ => true) true n 145 [a0, a1, a2, a3, a4, a5, a6] = some y) :
  ∃ u : Up, UpIn W W.heap.size u ∧ [a0, a1, a2, a3, a4, a5, a6] = u.row := by
 obtain ⟨xs, m, rfl, hx, hcl, hlen, hg⟩ := DataW.trod_struct Tryz.underlying145 h
 have hlen' : xs.length = 7 := hlen
 have t0 : DataW.trod enc Tryz.prog W 0 (fun _ => true) true m 26 [a0] = xs[0]? := hg 0 _ rfl
 have t1 : DataW.trod enc Tryz.prog W 0 (fun _ => true) true m 3 [a1] = xs[1]? := hg 1 _ rfl
 have t2 : DataW.trod enc Tryz.prog W 0 (fun _ => true) true m 26 [a2] = xs[2]? := hg 2 _ rfl
 have t3 : DataW.trod enc Tryz.prog W 0 (fun _ => true) true m 3 [a3] = xs[3]? := hg 3 _ rfl
 have t4 : DataW.trod enc Tryz.prog W 0 (fun _ => true) true m 27 [a4] = xs[4]? := hg 4 _ rfl
 have t5 : DataW.trod enc Tryz.prog W 0 (fun _ => true) true m 26 [a5] = xs[5]? := hg 5 _ rfl
 have t6 : DataW.trod enc Tryz.prog W 0 (fun _ => true) true m 22 [a6] = xs[6]? := hg 6 _ rfl
 rw [List.getElem?_eq_getElem (by omega)] at t0 t1 t2 t3 t4 t5 t6
 obtain ⟨z0, e0, _, w0⟩ := DataW.trod_int Tryz.underlying26 t0
 obtain ⟨z1, e1, _, w1⟩ := DataW.trod_int Tryz.underlying3 t1
 obtain ⟨z2, e2, _, w2⟩ := DataW.trod_int Tryz.underlying26 t2
 obtain ⟨z3, e3, _, w3⟩ := DataW.trod_int Tryz.underlying3 t3
 obtain ⟨z4, e4, _, w4⟩ := DataW.trod_int Tryz.underlying27 t4
 obtain ⟨z5, e5, _, w5⟩ := DataW.trod_int Tryz.underlying26 t5
 obtain ⟨A6, l6, cp6, zs, rfl, hl6, hm6, hz6, hr6, hw6⟩ := ints_trod Tryz.underlying22 Tryz.underlying5 (by kernel_rfl) t6
 simp at e0 e1 e2 e3 e4 e5
 subst e0 e1 e2 e3 e4 e5
 exact ⟨⟨z0, z1, z2, z3, z4, z5, A6, l6, cp6, zs⟩, ⟨hr6, hl6, hm6, ⟨bounds_u64 w0, bounds_i64 w1, bounds_u64 w2, bounds_i64 w3, bounds_u32 w4, bounds_u64 w5, fun z hz => bounds_u8 (hw6 z hz)⟩⟩, rfl⟩
theorem cmd_of_cells {a0 a1 a2 a3 : Value} (h : DataW.trod enc Tryz.prog W 0 (fun _ => true) true n 30 [a0, a1, a2, a3] = some y) : ∃ q : Cm, q.wf ∧ a0 = .int .i64 q.k ∧ a1 = .int .i64 q.c ∧ a2 = .int .u64 q.e ∧ a3 = .int .i64 q.n := by
 obtain ⟨xs, m, rfl, hx, hcl, hlen, hg⟩ := DataW.trod_struct Tryz.underlying30 h
 have hlen' : xs.length = 4 := hlen
 have t0 : DataW.trod enc Tryz.prog W 0 (fun _ => true) true m 3 [a0] = xs[0]? := hg 0 _ rfl
 have t1 : DataW.trod enc Tryz.prog W 0 (fun _ => true) true m 3 [a1] = xs[1]? := hg 1 _ rfl
 have t2 : DataW.trod enc Tryz.prog W 0 (fun _ => true) true m 26 [a2] = xs[2]? := hg 2 _ rfl
 have t3 : DataW.trod enc Tryz.prog W 0 (fun _ => true) true m 3 [a3] = xs[3]? := hg 3 _ rfl
 rw [List.getElem?_eq_getElem (by omega)] at t0 t1 t2 t3
 obtain ⟨z0, e0, _, w0⟩ := DataW.trod_int Tryz.underlying3 t0
 obtain ⟨z1, e1, _, w1⟩ := DataW.trod_int Tryz.underlying3 t1
 obtain ⟨z2, e2, _, w2⟩ := DataW.trod_int Tryz.underlying26 t2
 obtain ⟨z3, e3, _, w3⟩ := DataW.trod_int Tryz.underlying3 t3
 simp at e0 e1 e2 e3
 exact ⟨⟨z0, z1, z2, z3⟩, ⟨bounds_i64 w0, bounds_i64 w1, bounds_u64 w2, bounds_i64 w3⟩, e0, e1, e2, e3⟩
theorem vt_of_cells {a0 a1 a2 a3 a4 a5 : Value} (h : DataW.trod enc Tryz.prog W 0 (fun _ => true) true n 239 [a0, a1, a2, a3, a4, a5] = some y) : ∃ u : Vt, u.wf ∧ [a0, a1, a2, a3, a4, a5] = u.row := by
 obtain ⟨xs, m, rfl, hx, hcl, hlen, hg⟩ := DataW.trod_struct Tryz.underlying239 h
 have hlen' : xs.length = 3 := hlen
 have t0 : DataW.trod enc Tryz.prog W 0 (fun _ => true) true m 3 [a0] = xs[0]? := hg 0 _ rfl
 have t1 : DataW.trod enc Tryz.prog W 0 (fun _ => true) true m 26 [a1] = xs[1]? := hg 1 _ rfl
 have t2 : DataW.trod enc Tryz.prog W 0 (fun _ => true) true m 30 [a2, a3, a4, a5] = xs[2]? := hg 2 _ rfl
 rw [List.getElem?_eq_getElem (by omega)] at t0 t1 t2
 obtain ⟨z0, e0, _, w0⟩ := DataW.trod_int Tryz.underlying3 t0
 obtain ⟨z1, e1, _, w1⟩ := DataW.trod_int Tryz.underlying26 t1
 obtain ⟨q, hq, rfl, rfl, rfl, rfl⟩ := cmd_of_cells t2
 simp at e0 e1
 subst e0 e1
 exact ⟨⟨z0, z1, q.k, q.c, q.e, q.n⟩, ⟨bounds_i64 w0, bounds_u64 w1, hq.k, hq.c, hq.e, hq.n⟩, rfl⟩
theorem upsN_of_cell {c : Value} (h : DataW.trod enc Tryz.prog W 0 (fun _ => true) true n 35 [c] = some y) : ∃ A len cap l, c = .slice A len cap ∧ len ≤ cap ∧ cap ≤ maxLen ∧ UpsIn W W.heap.size A len l := by
 obtain ⟨A, len, cap, rfl, hlc, hcm, hi⟩ := slice_trod Tryz.underlying35 h
 rcases hi with rfl | ⟨a, rfl, hi⟩
 ·exact ⟨A, 0, cap, [], rfl, hlc, hcm, ⟨⟨by simp, fun h => absurd h (by omega)⟩, by simp⟩⟩
 have key : ∀ k, k < len → ∃ u : Up, UpIn W W.heap.size u ∧ ∀ j v, u.row[j]? = some v → W.cell? (a.add (k * 7 + j)) = some v := by
  intro k hk
  obtain ⟨cs, n, y, hcl, hc, ht⟩ := hi k hk
  rw [cUp7] at hcl hc
  obtain ⟨c0, c1, c2, c3, c4, c5, c6, rfl⟩ := list7 hcl
  obtain ⟨u, hu, hrow⟩ := up_of_cellsN ht
  exact ⟨u, hu, fun j v hj => hc j v (by rw [hrow]; exact hj)⟩
 obtain ⟨l, hrd, hll, hm⟩ := open_rows Up.row 7 Up.zero (fun u => UpIn W W.heap.size u) Up.row_len (by omega) key
 exact ⟨some a, len, cap, l, rfl, hlc, hcm, ⟨hrd, hm⟩⟩
theorem vtsN_of_cell {c : Value} (h : DataW.trod enc Tryz.prog W 0 (fun _ => true) true n 34 [c] = some y) : ∃ (A : Option Addr) (len cap : Nat) (l : List Vt), c = .slice A len cap ∧ len ≤ cap ∧ cap ≤ maxLen ∧ Reads W W.heap.size 6 A len (l.flatMap Vt.row) ∧ ∀ u ∈ l, u.wf := by
 obtain ⟨A, len, cap, rfl, hlc, hcm, hi⟩ := slice_trod Tryz.underlying34 h
 rcases hi with rfl | ⟨a, rfl, hi⟩
 ·exact ⟨A, 0, cap, [], rfl, hlc, hcm, ⟨by simp, fun h => absurd h (by omega)⟩, by simp⟩
 have key : ∀ k, k < len → ∃ u : Vt, u.wf ∧ ∀ j v, u.row[j]? = some v → W.cell? (a.add (k * 6 + j)) = some v := by
  intro k hk
  obtain ⟨cs, n, y, hcl, hc, ht⟩ := hi k hk
  rw [cVt] at hcl hc
  obtain ⟨c0, c1, c2, c3, c4, c5, rfl⟩ := list6 hcl
  obtain ⟨u, hu, hrow⟩ := vt_of_cells ht
  exact ⟨u, hu, fun j v hj => hc j v (by rw [hrow]; exact hj)⟩
 obtain ⟨l, hrd, hll, hm⟩ := open_rows Vt.row 6 ⟨0, 0, 0, 0, 0, 0⟩ (fun u => u.wf) Vt.row_len (by omega) key
 exact ⟨some a, len, cap, l, rfl, hlc, hcm, hrd, hm⟩
theorem conf_of_cells {a0 a1 a2 a3 a4 : Value} (h : DataW.trod enc Tryz.prog W 0 (fun _ => true) true n 33 [a0, a1, a2, a3, a4] = some y) : ∃ (ch ep : Int) (A : Option Addr) (len cap : Nat) (fr : Bool) (jn : Int) (zs : List Int), a0 = .int .i64 ch ∧ a1 = .int .u64 ep ∧ a2 = .slice A len cap ∧ a3 = .bool fr ∧ a4 = .int .i64 jn ∧ (-9223372036854775808 ≤ ch ∧ ch ≤ 9223372036854775807) ∧ (0 ≤ ep ∧ ep ≤ 18446744073709551615) ∧ (-9223372036854775808 ≤ jn ∧ jn ≤ 9223372036854775807) ∧ len ≤ cap ∧ cap ≤ maxLen ∧ Reads W W.heap.size 1 A len (zs.map (Value.int .i64)) ∧ ∀ z ∈ zs, -9223372036854775808 ≤ z ∧ z ≤ 9223372036854775807 := by
 obtain ⟨xs, m, rfl, hx, hcl, hlen, hg⟩ := DataW.trod_struct Tryz.underlying33 h
 have hlen' : xs.length = 5 := hlen
 have t0 : DataW.trod enc Tryz.prog W 0 (fun _ => true) true m 3 [a0] = xs[0]? := hg 0 _ rfl
 have t1 : DataW.trod enc Tryz.prog W 0 (fun _ => true) true m 26 [a1] = xs[1]? := hg 1 _ rfl
 have t2 : DataW.trod enc Tryz.prog W 0 (fun _ => true) true m 31 [a2] = xs[2]? := hg 2 _ rfl
 have t3 : DataW.trod enc Tryz.prog W 0 (fun _ => true) true m 4 [a3] = xs[3]? := hg 3 _ rfl
 have t4 : DataW.trod enc Tryz.prog W 0 (fun _ => true) true m 3 [a4] = xs[4]? := hg 4 _ rfl
 rw [List.getElem?_eq_getElem (by omega)] at t0 t1 t2 t3 t4
 obtain ⟨z0, e0, _, w0⟩ := DataW.trod_int Tryz.underlying3 t0
 obtain ⟨z1, e1, _, w1⟩ := DataW.trod_int Tryz.underlying26 t1
 obtain ⟨A6, l6, cp6, zs, e2, hl6, hm6, hz6, hr6, hw6⟩ := ints_trod Tryz.underlying31 Tryz.underlying3 (by kernel_rfl) t2
 obtain ⟨b3, e3, _⟩ := DataW.trod_bool Tryz.underlying4 t3
 obtain ⟨z4, e4, _, w4⟩ := DataW.trod_int Tryz.underlying3 t4
 simp at e0 e1 e3 e4
 exact ⟨z0, z1, A6, l6, cp6, b3, z4, zs, e0, e1, e2, e3, e4, bounds_i64 w0, bounds_u64 w1, bounds_i64 w4, hl6, hm6, hr6, fun z hz => bounds_i64 (hw6 z hz)⟩
def Lt.row (x : LV) : List Value := x.l.cells.toList
theorem lt_of_cells {a0 a1 a2 a3 a4 a5 a6 a7 a8 a9 a10 a11 a12 a13 a14 a15 a16 a17 a18 a19 a20 a21 a22 a23 a24 : Value} (h : DataW.trod enc Tryz.prog W 0 (fun _ => true) true n 37 [a0, a1, a2, a3, a4, a5, a6, a7, a8, a9, a10, a11, a12, a13, a14, a15, a16, a17, a18, a19, a20, a21, a22, a23, a24] = some y) : ∃ x : LV, LIn W W.heap.size x ∧ [a0, a1, a2, a3, a4, a5, a6, a7, a8, a9, a10, a11, a12, a13, a14, a15, a16, a17, a18, a19, a20, a21, a22, a23, a24] = Lt.row x := by
 obtain ⟨xs, m, rfl, hx, hcl, hlen, hg⟩ := DataW.trod_struct Tryz.underlying37 h
 have hlen' : xs.length = 18 := hlen
 have t0 : DataW.trod enc Tryz.prog W 0 (fun _ => true) true m 3 [a0] = xs[0]? := hg 0 _ rfl
 have t1 : DataW.trod enc Tryz.prog W 0 (fun _ => true) true m 3 [a1] = xs[1]? := hg 1 _ rfl
 have t2 : DataW.trod enc Tryz.prog W 0 (fun _ => true) true m 3 [a2] = xs[2]? := hg 2 _ rfl
 have t3 : DataW.trod enc Tryz.prog W 0 (fun _ => true) true m 3 [a3] = xs[3]? := hg 3 _ rfl
 have t4 : DataW.trod enc Tryz.prog W 0 (fun _ => true) true m 26 [a4] = xs[4]? := hg 4 _ rfl
 have t5 : DataW.trod enc Tryz.prog W 0 (fun _ => true) true m 26 [a5] = xs[5]? := hg 5 _ rfl
 have t6 : DataW.trod enc Tryz.prog W 0 (fun _ => true) true m 26 [a6] = xs[6]? := hg 6 _ rfl
 have t7 : DataW.trod enc Tryz.prog W 0 (fun _ => true) true m 26 [a7] = xs[7]? := hg 7 _ rfl
 have t8 : DataW.trod enc Tryz.prog W 0 (fun _ => true) true m 26 [a8] = xs[8]? := hg 8 _ rfl
 have t9 : DataW.trod enc Tryz.prog W 0 (fun _ => true) true m 26 [a9] = xs[9]? := hg 9 _ rfl
 have t10 : DataW.trod enc Tryz.prog W 0 (fun _ => true) true m 3 [a10] = xs[10]? := hg 10 _ rfl
 have t11 : DataW.trod enc Tryz.prog W 0 (fun _ => true) true m 27 [a11] = xs[11]? := hg 11 _ rfl
 have t12 : DataW.trod enc Tryz.prog W 0 (fun _ => true) true m 28 [a12] = xs[12]? := hg 12 _ rfl
 have t13 : DataW.trod enc Tryz.prog W 0 (fun _ => true) true m 30 [a13, a14, a15, a16] = xs[13]? := hg 13 _ rfl
 have t14 : DataW.trod enc Tryz.prog W 0 (fun _ => true) true m 33 [a17, a18, a19, a20, a21] = xs[14]? := hg 14 _ rfl
 have t15 : DataW.trod enc Tryz.prog W 0 (fun _ => true) true m 34 [a22] = xs[15]? := hg 15 _ rfl
 have t16 : DataW.trod enc Tryz.prog W 0 (fun _ => true) true m 35 [a23] = xs[16]? := hg 16 _ rfl
 have t17 : DataW.trod enc Tryz.prog W 0 (fun _ => true) true m 22 [a24] = xs[17]? := hg 17 _ rfl
 rw [List.getElem?_eq_getElem (by omega)] at t0 t1 t2 t3 t4 t5 t6 t7 t8 t9 t10 t11 t12 t13 t14 t15 t16 t17
 obtain ⟨z0, e0, _, w0⟩ := DataW.trod_int Tryz.underlying3 t0
 obtain ⟨z1, e1, _, w1⟩ := DataW.trod_int Tryz.underlying3 t1
 obtain ⟨z2, e2, _, w2⟩ := DataW.trod_int Tryz.underlying3 t2
 obtain ⟨z3, e3, _, w3⟩ := DataW.trod_int Tryz.underlying3 t3
 obtain ⟨z4, e4, _, w4⟩ := DataW.trod_int Tryz.underlying26 t4
 obtain ⟨z5, e5, _, w5⟩ := DataW.trod_int Tryz.underlying26 t5
 obtain ⟨z6, e6, _, w6⟩ := DataW.trod_int Tryz.underlying26 t6
 obtain ⟨z7, e7, _, w7⟩ := DataW.trod_int Tryz.underlying26 t7
 obtain ⟨z8, e8, _, w8⟩ := DataW.trod_int Tryz.underlying26 t8
 obtain ⟨z9, e9, _, w9⟩ := DataW.trod_int Tryz.underlying26 t9
 obtain ⟨z10, e10, _, w10⟩ := DataW.trod_int Tryz.underlying3 t10
 obtain ⟨z11, e11, _, w11⟩ := DataW.trod_int Tryz.underlying27 t11
 obtain ⟨z12, e12, _, w12⟩ := DataW.trod_int Tryz.underlying28 t12
 obtain rfl := (List.cons.inj e0).1
 obtain rfl := (List.cons.inj e1).1
 obtain rfl := (List.cons.inj e2).1
 obtain rfl := (List.cons.inj e3).1
 obtain rfl := (List.cons.inj e4).1
 obtain rfl := (List.cons.inj e5).1
 obtain rfl := (List.cons.inj e6).1
 obtain rfl := (List.cons.inj e7).1
 obtain rfl := (List.cons.inj e8).1
 obtain rfl := (List.cons.inj e9).1
 obtain rfl := (List.cons.inj e10).1
 obtain rfl := (List.cons.inj e11).1
 obtain rfl := (List.cons.inj e12).1
 obtain ⟨q, hq, rfl, rfl, rfl, rfl⟩ := cmd_of_cells t13
 obtain ⟨fc, fe, fA, fn, fp, ff, fj, ns, rfl, rfl, rfl, rfl, rfl, hf1, hf2, hf3, hf4, hf5, hf6, hf7⟩ := conf_of_cells t14
 obtain ⟨vA, vn, vp, vs, rfl, hv1, hv2, hv3, hv4⟩ := vtsN_of_cell t15
 obtain ⟨uA, un, up, us, rfl, hu1, hu2, hu3⟩ := upsN_of_cell t16
 obtain ⟨dA, dn, dp, ds, rfl, hd1, hd2, hd3, hd4, hd5⟩ := ints_trod Tryz.underlying22 Tryz.underlying5 (by kernel_rfl) t17
 exact ⟨⟨⟨z0, z1, z2, z3, z4, z5, z6, z7, z8, z9, z10, z11, z12, q.k, q.c, q.e, q.n, fc, fe, fA, fn, fp, ff, fj, vA, vn, vp, uA, un, up, dA, dn, dp⟩, ns, vs, us, ds⟩,
  ⟨hf6, hv3, hu3, hd4, fun z hz => by have := bounds_u8 (hd5 z hz); omega, ⟨bounds_i64 w0, bounds_i64 w1, bounds_i64 w2, bounds_i64 w3, bounds_u64 w4, bounds_u64 w5, bounds_u64 w6, bounds_u64 w7, bounds_u64 w8, bounds_u64 w9, bounds_i64 w10, bounds_u32 w11, bounds_i64 w12, hq.k, hq.c, hq.e, hq.n, hf1, hf2, hf3⟩, hv4, hf7, ⟨hf4, hf5⟩, ⟨hv1, hv2⟩, ⟨hu1, hu2⟩, ⟨hd1, hd2⟩⟩, rfl⟩
end
end Go.Proofs.YtmpedblelnpjdaaGreatDoor

end
section
/- What CallerPlays takes, opened: two ints, configurations, steps. -/
namespace Go.Proofs.YtmpedblelnpjdaaGreatDoor
open Go.Joins Go.ChangeShapes Go.WideShapes Go.RowKit Go.Deep
set_option linter.unusedSimpArgs false
set_option linter.unusedVariables false
set_option maxHeartbeats 4000000
set_option maxRecDepth 100000
theorem c2int : Tryz.prog.cellsOf 51 = 2 := by kernel_rfl
theorem c1int : Tryz.prog.cellsOf 3 = 1 := by kernel_rfl
theorem open_two_int {H : Type} {enc : TypeId × Value → H} {W : World} {base : Nat} {v : Value} {d : DataW H} {p : List MemPlace}
  (hv : Value.okWide Tryz.prog W .any base 51 v) (h : DataW.Trod enc Tryz.prog W 0 (fun _ => true) true 51 v d p) : ∃ a b : Int, v = .agg #[.int .i64 a, .int .i64 b] ∧ (-9223372036854775808 ≤ a ∧ a ≤ 9223372036854775807) ∧ (-9223372036854775808 ≤ b ∧ b ≤ 9223372036854775807) := by
 have hcs : ∃ cs, v = .agg cs ∧ cs.size = Tryz.prog.cellsOf 51 := by
  simp only [Value.okWide, Tryz.underlying51] at hv
  obtain ⟨cs, h1, h2, _⟩ := hv
  exact ⟨cs, h1, h2⟩
 obtain ⟨cs, rfl, hsz⟩ := hcs
 obtain ⟨l⟩ := cs
 rw [c2int] at hsz
 have hl : l.length = 2 := hsz
 obtain ⟨fuel, hf⟩ := h
 match l, hl with
 | [a0, a1], _ =>
  obtain ⟨xs, m, _, hx, hcl, hlen, hg⟩ := DataW.trod_array Tryz.underlying51 hf
  have g0 := hg 0 (by omega)
  have g1 := hg 1 (by omega)
  rw [c1int] at g0 g1
  have t0 : DataW.trod enc Tryz.prog W 0 (fun _ => true) true m 3 [a0] = xs[0]? := g0
  have t1 : DataW.trod enc Tryz.prog W 0 (fun _ => true) true m 3 [a1] = xs[1]? := g1
  rw [List.getElem?_eq_getElem (by omega)] at t0 t1
  obtain ⟨z0, e0, _, w0⟩ := DataW.trod_int Tryz.underlying3 t0
  obtain ⟨z1, e1, _, w1⟩ := DataW.trod_int Tryz.underlying3 t1
  simp at e0 e1
  subst e0 e1
  exact ⟨z0, z1, rfl, bounds_i64 w0, bounds_i64 w1⟩
theorem cCf5 : Tryz.prog.cellsOf 33 = 5 := by kernel_rfl
section
variable {H : Type} {enc : TypeId × Value → H} {W : World} {n : Nat} {y : DataW H × List MemPlace}
theorem list5 {l : List Value} (h : l.length = 5) : ∃ a b c d e, l = [a, b, c, d, e] := by
 match l, h with
 | [a, b, c, d, e], _ => exact ⟨a, b, c, d, e, rfl⟩
theorem cfs_of_cell {c : Value} (h : DataW.trod enc Tryz.prog W 0 (fun _ => true) true n 52 [c] = some y) : ∃ (A : Option Addr) (len cap : Nat) (l : List Cf), c = .slice A len cap ∧ len ≤ cap ∧ cap ≤ maxLen ∧ CfsIn W W.heap.size A len l ∧ ∀ x ∈ l, x.ep ≤ 18446744073709551615 := by
 obtain ⟨A, len, cap, rfl, hlc, hcm, hi⟩ := slice_trod Tryz.underlying52 h
 rcases hi with rfl | ⟨a, rfl, hi⟩
 ·exact ⟨A, 0, cap, [], rfl, hlc, hcm, ⟨⟨by simp, fun h => absurd h (by omega)⟩, by simp⟩, by simp⟩
 have key : ∀ k, k < len → ∃ u : Cf, (CfIn W W.heap.size u ∧ u.ep ≤ 18446744073709551615) ∧ ∀ j v, u.row[j]? = some v → W.cell? (a.add (k * 5 + j)) = some v := by
  intro k hk
  obtain ⟨cs, n, y, hcl, hc, ht⟩ := hi k hk
  rw [cCf5] at hcl hc
  obtain ⟨c0, c1, c2, c3, c4, rfl⟩ := list5 hcl
  obtain ⟨ch, ep, A2, l2, cp2, fr, jn, zs, rfl, rfl, rfl, rfl, rfl, h1, h2, h3, h4, h5, h6, h7⟩ := conf_of_cells ht
  obtain ⟨e, rfl⟩ := Int.eq_ofNat_of_zero_le h2.1
  exact ⟨⟨ch, e, A2, l2, cp2, fr, jn, zs⟩, ⟨⟨h6, h4, h5⟩, by have := h2.2; show e ≤ _; omega⟩, fun j v hj => hc j v hj⟩
 obtain ⟨l, hrd, hll, hm⟩ := open_rows Cf.row 5 ⟨0, 0, none, 0, 0, false, 0, []⟩ (fun u => CfIn W W.heap.size u ∧ u.ep ≤ 18446744073709551615) Cf.row_len (by omega) key
 exact ⟨some a, len, cap, l, rfl, hlc, hcm, ⟨hrd, fun x hx => (hm x hx).1⟩, fun x hx => (hm x hx).2⟩
theorem op_of_cells {a0 a1 a2 a3 a4 : Value} (h : DataW.trod enc Tryz.prog W 0 (fun _ => true) true n 58 [a0, a1, a2, a3, a4] = some y) : ∃ o : Opn, OpIn W W.heap.size o ∧ a0 = .int .i64 o.kd ∧ a1 = .int .u32 o.key ∧ a2 = .int .u64 o.ver ∧ a3 = .slice o.A o.n o.c ∧ a4 = .int .i64 o.pick := by
 obtain ⟨xs, m, rfl, hx, hcl, hlen, hg⟩ := DataW.trod_struct Tryz.underlying58 h
 have hlen' : xs.length = 5 := hlen
 have t0 : DataW.trod enc Tryz.prog W 0 (fun _ => true) true m 3 [a0] = xs[0]? := hg 0 _ rfl
 have t1 : DataW.trod enc Tryz.prog W 0 (fun _ => true) true m 27 [a1] = xs[1]? := hg 1 _ rfl
 have t2 : DataW.trod enc Tryz.prog W 0 (fun _ => true) true m 26 [a2] = xs[2]? := hg 2 _ rfl
 have t3 : DataW.trod enc Tryz.prog W 0 (fun _ => true) true m 22 [a3] = xs[3]? := hg 3 _ rfl
 have t4 : DataW.trod enc Tryz.prog W 0 (fun _ => true) true m 3 [a4] = xs[4]? := hg 4 _ rfl
 rw [List.getElem?_eq_getElem (by omega)] at t0 t1 t2 t3 t4
 obtain ⟨z0, e0, _, w0⟩ := DataW.trod_int Tryz.underlying3 t0
 obtain ⟨z1, e1, _, w1⟩ := DataW.trod_int Tryz.underlying27 t1
 obtain ⟨z2, e2, _, w2⟩ := DataW.trod_int Tryz.underlying26 t2
 obtain ⟨A6, l6, cp6, zs, e3, hl6, hm6, hz6, hr6, hw6⟩ := ints_trod Tryz.underlying22 Tryz.underlying5 (by kernel_rfl) t3
 obtain ⟨z4, e4, _, w4⟩ := DataW.trod_int Tryz.underlying3 t4
 simp at e0 e1 e2 e4
 exact ⟨⟨z0, z1, z2, A6, l6, cp6, z4, zs⟩, ⟨hr6, hl6, hm6, ⟨bounds_i64 w0, bounds_u32 w1, bounds_u64 w2, bounds_i64 w4, fun z hz => bounds_u8 (hw6 z hz)⟩⟩, e0, e1, e2, e3, e4⟩
end
structure Stp where
 kd : Int
 o : Opn
 own : Bool
 x : LV
def Stp.row (s : Stp) : List Value := [.int .i64 s.kd, .int .i64 s.o.kd, .int .u32 s.o.key, .int .u64 s.o.ver, .slice s.o.A s.o.n s.o.c, .int .i64 s.o.pick, .bool s.own] ++ s.x.l.cells.toList
theorem Stp.row_len (s : Stp) : s.row.length = 32 := rfl
structure StIn (w : World) (B : Nat) (s : Stp) : Prop where
 op : OpIn w B s.o
 lt : LIn w B s.x
 kd : -9223372036854775808 ≤ s.kd ∧ s.kd ≤ 9223372036854775807
structure StsIn (w : World) (B : Nat) (A : Option Addr) (n : Nat) (l : List Stp) : Prop where
 rd : Reads w B 32 A n (l.flatMap Stp.row)
 mem : ∀ s ∈ l, StIn w B s
theorem StIn.below {w w' : World} {B : Nat} {s : Stp} (h : StIn w B s) (hb : Below B w w') : StIn w' B s := ⟨h.op.below hb, h.lt.below hb, h.kd⟩
theorem StsIn.below {w w' : World} {B n : Nat} {A : Option Addr} {l : List Stp} (h : StsIn w B A n l) (hb : Below B w w') : StsIn w' B A n l := ⟨h.rd.below hb, fun u hu => (h.mem u hu).below hb⟩
theorem StsIn.len {w : World} {B n : Nat} {A : Option Addr} {l : List Stp} (h : StsIn w B A n l) : l.length = n := flat_len Stp.row Stp.row_len (by omega) h.rd
theorem cSt32 : Tryz.prog.cellsOf 66 = 32 := by kernel_rfl
theorem list32 {l : List Value} (h : l.length = 32) : ∃ a0 b0 b1 b2 b3 b4 a1 c0 c1 c2 c3 c4 c5 c6 c7 c8 c9 c10 c11 c12 c13 c14 c15 c16 c17 c18 c19 c20 c21 c22 c23 c24, l = [a0, b0, b1, b2, b3, b4, a1, c0, c1, c2, c3, c4, c5, c6, c7, c8, c9, c10, c11, c12, c13, c14, c15, c16, c17, c18, c19, c20, c21, c22, c23, c24] := by
 match l, h with
 | [a0, b0, b1, b2, b3, b4, a1, c0, c1, c2, c3, c4, c5, c6, c7, c8, c9, c10, c11, c12, c13, c14, c15, c16, c17, c18, c19, c20, c21, c22, c23, c24], _ => exact ⟨a0, b0, b1, b2, b3, b4, a1, c0, c1, c2, c3, c4, c5, c6, c7, c8, c9, c10, c11, c12, c13, c14, c15, c16, c17, c18, c19, c20, c21, c22, c23, c24, rfl⟩
section
variable {H : Type} {enc : TypeId × Value → H} {W : World} {n : Nat} {y : DataW H × List MemPlace}
theorem step_of_cells {a0 b0 b1 b2 b3 b4 a1 c0 c1 c2 c3 c4 c5 c6 c7 c8 c9 c10 c11 c12 c13 c14 c15 c16 c17 c18 c19 c20 c21 c22 c23 c24 : Value} (h : DataW.trod enc Tryz.prog W 0 (fun _ => true) true n 66 [a0, b0, b1, b2, b3, b4, a1, c0, c1, c2, c3, c4, c5, c6, c7, c8, c9, c10, c11, c12, c13, c14, c15, c16, c17, c18, c19, c20, c21, c22, c23, c24] = some y) :
  ∃ s : Stp, StIn W W.heap.size s ∧ [a0, b0, b1, b2, b3, b4, a1, c0, c1, c2, c3, c4, c5, c6, c7, c8, c9, c10, c11, c12, c13, c14, c15, c16, c17, c18, c19, c20, c21, c22, c23, c24] = s.row := by
 obtain ⟨xs, m, rfl, hx, hcl, hlen, hg⟩ := DataW.trod_struct Tryz.underlying66 h
 have hlen' : xs.length = 4 := hlen
 have t0 : DataW.trod enc Tryz.prog W 0 (fun _ => true) true m 3 [a0] = xs[0]? := hg 0 _ rfl
 have t1 : DataW.trod enc Tryz.prog W 0 (fun _ => true) true m 58 [b0, b1, b2, b3, b4] = xs[1]? := hg 1 _ rfl
 have t2 : DataW.trod enc Tryz.prog W 0 (fun _ => true) true m 4 [a1] = xs[2]? := hg 2 _ rfl
 have t3 : DataW.trod enc Tryz.prog W 0 (fun _ => true) true m 37 [c0, c1, c2, c3, c4, c5, c6, c7, c8, c9, c10, c11, c12, c13, c14, c15, c16, c17, c18, c19, c20, c21, c22, c23, c24] = xs[3]? := hg 3 _ rfl
 rw [List.getElem?_eq_getElem (by omega)] at t0 t1 t2 t3
 obtain ⟨z0, e0, _, w0⟩ := DataW.trod_int Tryz.underlying3 t0
 obtain ⟨o, ho, rfl, rfl, rfl, rfl, rfl⟩ := op_of_cells t1
 obtain ⟨b, e2, _⟩ := DataW.trod_bool Tryz.underlying4 t2
 obtain ⟨x, hxi, hrow⟩ := lt_of_cells t3
 obtain rfl := (List.cons.inj e0).1
 obtain rfl := (List.cons.inj e2).1
 refine ⟨⟨z0, o, b, x⟩, ⟨ho, hxi, bounds_i64 w0⟩, ?_⟩
 rw [hrow]
 rfl
theorem steps_of_cell {c : Value} (h : DataW.trod enc Tryz.prog W 0 (fun _ => true) true n 53 [c] = some y) : ∃ (A : Option Addr) (len cap : Nat) (l : List Stp), c = .slice A len cap ∧ len ≤ cap ∧ cap ≤ maxLen ∧ StsIn W W.heap.size A len l := by
 obtain ⟨A, len, cap, rfl, hlc, hcm, hi⟩ := slice_trod Tryz.underlying53 h
 rcases hi with rfl | ⟨a, rfl, hi⟩
 ·exact ⟨A, 0, cap, [], rfl, hlc, hcm, ⟨⟨by simp, fun h => absurd h (by omega)⟩, by simp⟩⟩
 have key : ∀ k, k < len → ∃ u : Stp, StIn W W.heap.size u ∧ ∀ j v, u.row[j]? = some v → W.cell? (a.add (k * 32 + j)) = some v := by
  intro k hk
  obtain ⟨cs, n, y, hcl, hc, ht⟩ := hi k hk
  rw [cSt32] at hcl hc
  obtain ⟨a0, b0, b1, b2, b3, b4, a1, c0, c1, c2, c3, c4, c5, c6, c7, c8, c9, c10, c11, c12, c13, c14, c15, c16, c17, c18, c19, c20, c21, c22, c23, c24, rfl⟩ := list32 hcl
  obtain ⟨u, hu, hrow⟩ := step_of_cells ht
  exact ⟨u, hu, fun j v hj => hc j v (by rw [hrow]; exact hj)⟩
 obtain ⟨l, hrd, hll, hm⟩ := open_rows Stp.row 32 ⟨0, ⟨0, 0, 0, none, 0, 0, 0, []⟩, false, LV.zero⟩ (fun u => StIn W W.heap.size u) Stp.row_len (by omega) key
 exact ⟨some a, len, cap, l, rfl, hlc, hcm, ⟨hrd, hm⟩⟩
theorem open_cfs {base : Nat} {v : Value} {d : DataW H} {p : List MemPlace} (hv : Value.okWide Tryz.prog W .any base 52 v) (h : DataW.Trod enc Tryz.prog W 0 (fun _ => true) true 52 v d p) :
  ∃ (A : Option Addr) (len cap : Nat) (l : List Cf), v = .slice A len cap ∧ len ≤ cap ∧ cap ≤ maxLen ∧ CfsIn W W.heap.size A len l ∧ ∀ x ∈ l, x.ep ≤ 18446744073709551615 := by
 obtain ⟨a0, len0, cap0, rfl⟩ := okWide_slice Tryz.underlying52 hv
 obtain ⟨fuel, hf⟩ := h
 exact cfs_of_cell (y := (d, p)) hf
theorem open_steps {base : Nat} {v : Value} {d : DataW H} {p : List MemPlace} (hv : Value.okWide Tryz.prog W .any base 53 v) (h : DataW.Trod enc Tryz.prog W 0 (fun _ => true) true 53 v d p) :
  ∃ (A : Option Addr) (len cap : Nat) (l : List Stp), v = .slice A len cap ∧ len ≤ cap ∧ cap ≤ maxLen ∧ StsIn W W.heap.size A len l := by
 obtain ⟨a0, len0, cap0, rfl⟩ := okWide_slice Tryz.underlying53 hv
 obtain ⟨fuel, hf⟩ := h
 exact steps_of_cell (y := (d, p)) hf
end
end Go.Proofs.YtmpedblelnpjdaaGreatDoor

end
