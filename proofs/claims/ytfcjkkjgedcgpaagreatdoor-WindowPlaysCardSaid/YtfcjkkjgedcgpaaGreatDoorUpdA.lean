/- Updates: as data, in memory; a slice of them that came in. -/
import Derived.Test.YtfcjkkjgedcgpaaGreatDoorRows
import Derived.Shelf.Abstract
import Derived.Test.YtfcjkkjgedcgpaaGreatDoorMemC
import Derived.Test.YtfcjkkjgedcgpaaGreatDoorMemS
import Derived.Test.YtfcjkkjgedcgpaaGreatDoorMemA
namespace Go.Proofs.YtfcjkkjgedcgpaaGreatDoor
open Go.ChangeShapes Go.WideShapes Go.RowKit Go.Deep
set_option linter.unusedSimpArgs false
set_option linter.unusedVariables false
set_option maxHeartbeats 1000000

theorem ints_trod {H : Type} {enc : TypeId × Value → H} {P : Program} {W : World} {t e : TypeId} {k : IntKind} {v : Value} {fuel : Nat} {x : DataW H × List MemPlace}
    (ht : P.underlying t = some (.slice e)) (he : P.underlying e = some (.int k)) (hC : P.cellsOf e = 1)
    (hf : DataW.trod enc P W 0 (fun _ => true) true fuel t [v] = some x) :
    ∃ (A : Option Addr) (len cap : Nat) (zs : List Int), v = .slice A len cap ∧ len ≤ cap ∧ cap ≤ maxLen ∧ zs.length = len ∧ Reads W W.heap.size 1 A len (zs.map (Value.int k)) ∧ ∀ n ∈ zs, (Lit.int k n).wf = true := by
  rcases open_ints ht he hC hf with ⟨hcs, _⟩ | ⟨x, l, c, zs, hcs, _, hl, hm, hz, hx, hcell, hwz⟩
  · simp at hcs
    subst hcs
    exact ⟨none, 0, 0, [], rfl, Nat.le_refl _, by decide, rfl, Reads.none_, by simp⟩
  · simp at hcs
    subst hcs
    have hz' : zs.length = c := by simpa using hz
    refine ⟨some x, l, c, zs.take l, rfl, hl, hm, by rw [List.length_take]; omega, ⟨by rw [List.length_map, List.length_take]; omega, fun hn => ⟨x, rfl, ?_, ?_⟩⟩, fun n hn => hwz n (List.mem_of_mem_take hn)⟩
    · have := World.block_lt_of_cell? W _ (hcell 0 (by omega))
      rwa [block_of_add] at this
    · intro j u hu
      rw [List.getElem?_map] at hu
      by_cases hj : j < l
      · rw [List.getElem?_take_of_lt hj, List.getElem?_eq_getElem (by omega)] at hu
        have hc := hcell j (by omega)
        rw [hc]
        simp only [Option.map_some, Option.some.injEq] at hu
        rw [← hu, List.getD_eq_getElem?_getD, List.getElem?_eq_getElem (by omega)]
        rfl
      · rw [List.getElem?_eq_none (by rw [List.length_take]; omega)] at hu
        simp at hu

structure Up where
  seq : Int
  cl : Int
  num : Int
  kd : Int
  key : Int
  ver : Int
  A : Option Addr
  n : Nat
  c : Nat
  bs : List Int
def Up.zero : Up := ⟨0, 0, 0, 0, 0, 0, none, 0, 0, []⟩
def Up.row (u : Up) : List Value := [.int .u64 u.seq, .int .i64 u.cl, .int .u64 u.num, .int .i64 u.kd, .int .u32 u.key, .int .u64 u.ver, .slice u.A u.n u.c]
def Up.agg (u : Up) : Value := .agg #[.int .u64 u.seq, .int .i64 u.cl, .int .u64 u.num, .int .i64 u.kd, .int .u32 u.key, .int .u64 u.ver, .slice u.A u.n u.c]
def Up.cells (u : Up) : Array Value := #[.int .u64 u.seq, .int .i64 u.cl, .int .u64 u.num, .int .i64 u.kd, .int .u32 u.key, .int .u64 u.ver, .slice u.A u.n u.c]
theorem Up.row_len (u : Up) : u.row.length = 7 := rfl
structure Up.wf (u : Up) : Prop where
  seq : 0 ≤ u.seq ∧ u.seq ≤ 18446744073709551615
  cl : -9223372036854775808 ≤ u.cl ∧ u.cl ≤ 9223372036854775807
  num : 0 ≤ u.num ∧ u.num ≤ 18446744073709551615
  kd : -9223372036854775808 ≤ u.kd ∧ u.kd ≤ 9223372036854775807
  key : 0 ≤ u.key ∧ u.key ≤ 4294967295
  ver : 0 ≤ u.ver ∧ u.ver ≤ 18446744073709551615
  bs : ∀ z ∈ u.bs, 0 ≤ z ∧ z ≤ 255
structure UpIn (w : World) (B : Nat) (u : Up) : Prop where
  rd : Reads w B 1 u.A u.n (u.bs.map (Value.int .u8))
  hc : u.n ≤ u.c
  hm : u.c ≤ maxLen
  wf : u.wf
theorem UpIn.below {w w' : World} {B : Nat} {u : Up} (h : UpIn w B u) (hb : Below B w w') : UpIn w' B u := ⟨h.rd.below hb, h.hc, h.hm, h.wf⟩
theorem UpIn.more {w : World} {B B' : Nat} {u : Up} (h : UpIn w B u) (hb : B ≤ B') : UpIn w B' u := ⟨h.rd.more hb, h.hc, h.hm, h.wf⟩
theorem UpIn.len {w : World} {B : Nat} {u : Up} (h : UpIn w B u) : u.bs.length = u.n := by have := h.rd.1; simpa using this
/-- what an update says, wherever its bytes lie -/
def Up.val (u : Up) : Int × Int × Int × Int × Int × Int × List Int := (u.seq, u.cl, u.num, u.kd, u.key, u.ver, u.bs)
structure UpsIn (w : World) (B : Nat) (A : Option Addr) (n : Nat) (l : List Up) : Prop where
  rd : Reads w B 7 A n (l.flatMap Up.row)
  mem : ∀ u ∈ l, UpIn w B u
theorem UpsIn.below {w w' : World} {B n : Nat} {A : Option Addr} {l : List Up} (h : UpsIn w B A n l) (hb : Below B w w') : UpsIn w' B A n l := ⟨h.rd.below hb, fun u hu => (h.mem u hu).below hb⟩
theorem UpsIn.more {w : World} {B B' n : Nat} {A : Option Addr} {l : List Up} (h : UpsIn w B A n l) (hb : B ≤ B') : UpsIn w B' A n l := ⟨h.rd.more hb, fun u hu => (h.mem u hu).more hb⟩
theorem UpsIn.len {w : World} {B n : Nat} {A : Option Addr} {l : List Up} (h : UpsIn w B A n l) : l.length = n := flat_len Up.row Up.row_len (by omega) h.rd
theorem UpsIn.nil (w : World) (B : Nat) : UpsIn w B none 0 [] := ⟨Reads.none_, fun u hu => by simp at hu⟩
theorem UpsIn.at_ {w : World} {B n k : Nat} {A : Option Addr} {l : List Up} (h : UpsIn w B A n l) (hk : k < n) :
    ∃ b off u, A = some ⟨b, off, none⟩ ∧ b < B ∧ l[k]? = some u ∧ UpIn w B u ∧ (w.cell? ⟨b, off + k * 7, none⟩ = some (.int .u64 u.seq) ∧ w.cell? ⟨b, off + k * 7 + 1, none⟩ = some (.int .i64 u.cl) ∧ w.cell? ⟨b, off + k * 7 + 2, none⟩ = some (.int .u64 u.num) ∧
      w.cell? ⟨b, off + k * 7 + 3, none⟩ = some (.int .i64 u.kd) ∧ w.cell? ⟨b, off + k * 7 + 4, none⟩ = some (.int .u32 u.key) ∧ w.cell? ⟨b, off + k * 7 + 5, none⟩ = some (.int .u64 u.ver) ∧ w.cell? ⟨b, off + k * 7 + 6, none⟩ = some (.slice u.A u.n u.c)) := by
  obtain ⟨b, off, u, hA, hb, hu, hc⟩ := reads_at Up.row Up.row_len (by omega) h.rd hk
  refine ⟨b, off, u, hA, hb, hu, h.mem u (List.mem_of_getElem? hu), hc 0 _ rfl, hc 1 _ rfl, hc 2 _ rfl, hc 3 _ rfl, hc 4 _ rfl, hc 5 _ rfl, hc 6 _ rfl⟩

set_option maxRecDepth 100000 in
theorem open_ups {H : Type} {enc : TypeId × Value → H} {W : World} {base : Nat} {v : Value} {d : DataW H} {p : List MemPlace}
    (hv : Value.okWide Tryz.prog W .any base 36 v) (h : DataW.Trod enc Tryz.prog W 0 (fun _ => true) true 36 v d p) :
    ∃ (A : Option Addr) (len cap : Nat) (l : List Up), v = .slice A len cap ∧ len ≤ cap ∧ cap ≤ maxLen ∧ UpsIn W W.heap.size A len l := by
  obtain ⟨a0, len0, cap0, rfl⟩ := okWide_slice Tryz.underlying36 hv
  obtain ⟨fuel, hf⟩ := h
  rcases open_slice_fields Tryz.underlying36 Tryz.underlying29 (by kernel_rfl) (by kernel_rfl) hf with ⟨hcs, _⟩ | ⟨a, len, cap, m, D, Pl, hcs, hb, hl, hm, hmm, hx, hi⟩
  · simp [Value.cells] at hcs
    obtain ⟨rfl, rfl, rfl⟩ := hcs
    exact ⟨none, 0, 0, [], rfl, Nat.le_refl _, by decide, UpsIn.nil _ _⟩
  · simp [Value.cells] at hcs
    obtain ⟨rfl, rfl, rfl⟩ := hcs
    simp only [if_true] at hmm
    subst hmm
    have key : ∀ k, k < len0 → ∃ u : Up, UpIn W W.heap.size u ∧ ∀ j v, u.row[j]? = some v → W.cell? (a.add (k * 7 + j)) = some v := by
      intro k hk
      obtain ⟨ys, n, _, _, hyl, hfld⟩ := hi k (by omega)
      obtain ⟨v0, y0, c0, _, t0⟩ := hfld 0 _ rfl
      obtain ⟨v1, y1, c1, _, t1⟩ := hfld 1 _ rfl
      obtain ⟨v2, y2, c2, _, t2⟩ := hfld 2 _ rfl
      obtain ⟨v3, y3, c3, _, t3⟩ := hfld 3 _ rfl
      obtain ⟨v4, y4, c4, _, t4⟩ := hfld 4 _ rfl
      obtain ⟨v5, y5, c5, _, t5⟩ := hfld 5 _ rfl
      obtain ⟨v6, y6, c6, _, t6⟩ := hfld 6 _ rfl
      obtain ⟨z0, e0, _, w0⟩ := DataW.trod_int Tryz.underlying25 t0
      obtain ⟨z1, e1, _, w1⟩ := DataW.trod_int Tryz.underlying3 t1
      obtain ⟨z2, e2, _, w2⟩ := DataW.trod_int Tryz.underlying25 t2
      obtain ⟨z3, e3, _, w3⟩ := DataW.trod_int Tryz.underlying3 t3
      obtain ⟨z4, e4, _, w4⟩ := DataW.trod_int Tryz.underlying26 t4
      obtain ⟨z5, e5, _, w5⟩ := DataW.trod_int Tryz.underlying25 t5
      obtain ⟨A6, l6, cp6, zs, rfl, hl6, hm6, hz6, hr6, hw6⟩ := ints_trod Tryz.underlying27 Tryz.underlying5 (by kernel_rfl) t6
      simp at e0 e1 e2 e3 e4 e5
      subst e0 e1 e2 e3 e4 e5
      refine ⟨⟨z0, z1, z2, z3, z4, z5, A6, l6, cp6, zs⟩, ⟨hr6, hl6, hm6, ⟨bounds_u64 w0, bounds_i64 w1, bounds_u64 w2, bounds_i64 w3, bounds_u32 w4, bounds_u64 w5, fun z hz => bounds_u8 (hw6 z hz)⟩⟩, ?_⟩
      intro j v hj
      match j, hj with
      | 0, hj => injection hj with hj; rw [← hj]; exact c0
      | 1, hj => injection hj with hj; rw [← hj]; exact c1
      | 2, hj => injection hj with hj; rw [← hj]; exact c2
      | 3, hj => injection hj with hj; rw [← hj]; exact c3
      | 4, hj => injection hj with hj; rw [← hj]; exact c4
      | 5, hj => injection hj with hj; rw [← hj]; exact c5
      | 6, hj => injection hj with hj; rw [← hj]; exact c6
      | j + 7, hj => simp [Up.row] at hj
    refine ⟨some a, len0, _, (List.range len0).map fun k => if h : k < len0 then (key k h).choose else Up.zero, rfl, hl, hm, ⟨?_, ?_⟩⟩
    · refine ⟨by rw [flat_length Up.row 7 Up.row_len]; simp, fun hn => ⟨a, rfl, ?_, ?_⟩⟩
      · have := World.block_lt_of_cell? W _ ((key 0 hn).choose_spec.2 0 _ rfl)
        rwa [block_of_add] at this
      · intro j v hj
        have hjl : j < len0 * 7 := by
          have := (List.getElem?_eq_some_iff.1 hj).1
          rw [flat_length Up.row 7 Up.row_len] at this
          simpa using this
        have hq : j / 7 < len0 := by omega
        have hs := (key (j / 7) hq).choose_spec.2
        have hrow : ((key (j / 7) hq).choose.row)[j % 7]? = some v := by
          have hjj : (j % 7) < ((key (j / 7) hq).choose.row).length := by rw [Up.row_len]; omega
          have h2 := flat_get Up.row 7 Up.row_len ((List.range len0).map fun k => if h : k < len0 then (key k h).choose else Up.zero) (j / 7) (j % 7) (key (j / 7) hq).choose _
            (by rw [List.getElem?_map, List.getElem?_range hq]; simp only [Option.map_some, dif_pos hq]) (List.getElem?_eq_getElem hjj)
          rw [show j / 7 * 7 + j % 7 = j from by omega, hj] at h2
          rw [List.getElem?_eq_getElem hjj, ← h2]
        have := hs _ _ hrow
        rwa [show j / 7 * 7 + j % 7 = j from by omega] at this
    · intro u hu
      rw [List.mem_map] at hu
      obtain ⟨k, hk, rfl⟩ := hu
      have hk' : k < len0 := by simpa using hk
      simp only [dif_pos hk']
      exact (key k hk').choose_spec.1
end Go.Proofs.YtfcjkkjgedcgpaaGreatDoor
