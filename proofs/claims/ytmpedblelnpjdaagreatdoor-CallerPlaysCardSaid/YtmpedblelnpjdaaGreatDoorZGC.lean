/- GC: FixU FixV FixW FixY UpdA LtuA LtuP LtuC LtuD -/
import Derived.Test.YtmpedblelnpjdaaGreatDoorZGB
import Derived.Test.YtmpedblelnpjdaaGreatDoorRows
import Derived.Shelf.Abstract
import Derived.Test.YtmpedblelnpjdaaGreatDoorZGA
/- The reference's reading: In as a struct; contracts of Fail, Raw, Num, Upto, Get, Read, Bool, Done. -/
namespace Go.Proofs.YtmpedblelnpjdaaGreatDoor
open Go.RowKit
set_option linter.unusedSimpArgs false
set_option linter.unusedVariables false
set_option maxHeartbeats 4000000
structure RI where
 A : Option Addr
 cap : Nat
 s : FI
def RI.agg (x : RI) : Value := .agg #[.slice x.A x.s.l.length x.cap, .int .i64 x.s.e]
def RI.cells (x : RI) : Array Value := #[.slice x.A x.s.l.length x.cap, .int .i64 x.s.e]
structure RIn (w : World) (B : Nat) (x : RI) : Prop where
 rd : Reads w B 1 x.A x.s.l.length (x.s.l.map (Value.int .u8))
 hc : x.s.l.length ≤ x.cap
 hm : x.cap ≤ maxLen
 by_ : bytesB x.s.l
 inv : x.s.e ≠ 0 → x.s.l = []
theorem RIn.below {w w' : World} {B : Nat} {x : RI} (h : RIn w B x) (hb : Below B w w') : RIn w' B x := ⟨h.rd.below hb, h.hc, h.hm, h.by_, h.inv⟩
theorem RIn.alloc {w : World} {B : Nat} {x : RI} (h : RIn w B x) (hB : B ≤ w.heap.size) (o : Obj) : RIn (w.alloc o) B x := ⟨h.rd.alloc hB o, h.hc, h.hm, h.by_, h.inv⟩
theorem RIn.drewN {w : World} {B : Nat} {x : RI} (h : RIn w B x) (k : Nat) : RIn (w.drewN k) B x := ⟨h.rd, h.hc, h.hm, h.by_, h.inv⟩
theorem RIn.drew {w : World} {B : Nat} {x : RI} (h : RIn w B x) : RIn w.drew B x := ⟨h.rd, h.hc, h.hm, h.by_, h.inv⟩
def RI.nil (e : Int) : RI := ⟨none, 0, ⟨[], e⟩⟩
theorem RIn.nil (w : World) (B : Nat) (e : Int) : RIn w B (RI.nil e) := ⟨Reads.none_, Nat.le_refl _, Nat.zero_le _, (fun z hz => by cases hz), fun _ => rfl⟩
theorem blk_at (w : World) (t : TypeId) (cs : Array Value) (g : Nat) (h : g = w.heap.size) : Blk (w.alloc (.cells cs t)) g t cs := by subst h; exact Blk.new w t cs
attribute [local go_sem] RI.agg RI.cells RI.nil
theorem RIn.drop {w : World} {B : Nat} {x : RI} (h : RIn w B x) {k : Nat} (hk : k ≤ x.s.l.length) : RIn w B ⟨if x.cap = k then x.A else x.A.map (·.add k), x.cap - k, ⟨x.s.l.drop k, 0⟩⟩ := by
 have hr := h.rd.cut hk h.hc
 rw [Nat.mul_one, ← List.map_drop] at hr
 have h1 := h.hc
 have h2 := h.hm
 refine ⟨?_, ?_, ?_, fun z hz => h.by_ z (List.mem_of_mem_drop hz), fun hh => absurd rfl hh⟩
 ·show Reads w B 1 _ (x.s.l.drop k).length _
  rw [List.length_drop]; exact hr
 ·show (x.s.l.drop k).length ≤ x.cap - k
  rw [List.length_drop]; omega
 ·show x.cap - k ≤ maxLen
  omega
end Go.Proofs.YtmpedblelnpjdaaGreatDoor
/- The reference's Upto, Get, Read, Bool. -/
namespace Go.Proofs.YtmpedblelnpjdaaGreatDoor
open Go.RowKit
set_option linter.unusedSimpArgs false
set_option linter.unusedVariables false
set_option maxHeartbeats 8000000
attribute [local go_sem] RI.agg RI.cells RI.nil
end Go.Proofs.YtmpedblelnpjdaaGreatDoor
/- The reference's Get, Read, Bool. -/
namespace Go.Proofs.YtmpedblelnpjdaaGreatDoor
open Go.RowKit
set_option linter.unusedSimpArgs false
set_option linter.unusedVariables false
set_option maxHeartbeats 8000000
attribute [local go_sem] RI.agg RI.cells RI.nil
end Go.Proofs.YtmpedblelnpjdaaGreatDoor
/- Numbers put and read back, plain; Put of a number that fits; what a step of Out leaves (the parts of SesH, SesI without package sess). -/
namespace Go.Proofs.YtmpedblelnpjdaaGreatDoor
open Go.RowKit
set_option linter.unusedSimpArgs false
set_option linter.unusedVariables false
set_option maxHeartbeats 2000000
set_option maxRecDepth 100000
theorem bytesB_nil : bytesB [] := fun z hz => by cases hz
def Off (lo hi : Nat) (v : Value) : Prop := ∀ k, v.ownBlock = some k → k < lo ∨ hi ≤ k
theorem OutStep.off {W W' : World} {g lo hi : Nat} {v v' : Value} (h : OutStep W W' g v v') (hd : Off lo hi v) (hh : hi ≤ W.heap.size) : Off lo hi v' := by
 intro k hk
 rcases h.1 with e | e
 ·rw [e] at hk; exact hd k hk
 ·exact .inr (Nat.le_trans hh (e k hk))
theorem OutStep.blk {W W' : World} {g b : Nat} {v v' : Value} {t : TypeId} {cs : Array Value} (h : OutStep W W' g v v') (hb : Blk W b t cs) (hg : g < b) (hd : Off b (b + 1) v) : Blk W' b t cs :=
  h.2.blk hb (by rintro (e | e); · omega
                 · have := hd b e; omega)
theorem OutStep.own {W W' : World} {g base hi n sz : Nat} {v v' rv : Value} {t : TypeId} {xs : List Value} (h : OutStep W W' g v v') (ho : W.ownsRow base t sz rv n xs) (hlt : ∀ k, rv.ownBlock = some k → k < hi) (hg : g < base) (hd : Off base hi v) : W'.ownsRow base t sz rv n xs :=
 h.2.own ho (fun k hk e => by
  have h1 := (ho.lt k hk).1
  have h2 := hlt k hk
  rcases e with e | e
  ·omega
  ·have := hd k e; omega)
theorem OutAt.off {w : World} {g : Nat} {v : Value} {s : FO} (h : OutAt w g v s) (hi : Nat) : Off w.heap.size hi v := fun k hk => .inl (h.2.1.lt k hk).2
end Go.Proofs.YtmpedblelnpjdaaGreatDoor
/- Updates: as data, in memory; a slice of them that came in. -/
namespace Go.Proofs.YtmpedblelnpjdaaGreatDoor
open Go.ChangeShapes Go.WideShapes Go.RowKit Go.Deep
set_option linter.unusedSimpArgs false
set_option linter.unusedVariables false
set_option maxHeartbeats 1000000
theorem ints_trod {H : Type} {enc : TypeId × Value → H} {P : Program} {W : World} {t e : TypeId} {k : IntKind} {v : Value} {fuel : Nat} {x : DataW H × List MemPlace}
  (ht : P.underlying t = some (.slice e)) (he : P.underlying e = some (.int k)) (hC : P.cellsOf e = 1)
  (hf : DataW.trod enc P W 0 (fun _ => true) true fuel t [v] = some x) :
  ∃ (A : Option Addr) (len cap : Nat) (zs : List Int), v = .slice A len cap ∧ len ≤ cap ∧ cap ≤ maxLen ∧ zs.length = len ∧ Reads W W.heap.size 1 A len (zs.map (Value.int k)) ∧ ∀ n ∈ zs, (Lit.int k n).wf = true := by
 rcases open_ints ht he hC hf with ⟨hcs, _⟩ | ⟨x, l, c, zs, hcs, _, hl, hm, hz, hx, hcell, hwz⟩
 ·simp at hcs
  subst hcs
  exact ⟨none, 0, 0, [], rfl, Nat.le_refl _, by decide, rfl, Reads.none_, by simp⟩
 ·simp at hcs
  subst hcs
  have hz' : zs.length = c := by simpa using hz
  refine ⟨some x, l, c, zs.take l, rfl, hl, hm, by rw [List.length_take]; omega, ⟨by rw [List.length_map, List.length_take]; omega, fun hn => ⟨x, rfl, ?_, ?_⟩⟩, fun n hn => hwz n (List.mem_of_mem_take hn)⟩
  ·have := World.block_lt_of_cell? W _ (hcell 0 (by omega))
   rwa [block_of_add] at this
  ·intro j u hu
   rw [List.getElem?_map] at hu
   by_cases hj : j < l
   ·rw [List.getElem?_take_of_lt hj, List.getElem?_eq_getElem (by omega)] at hu
    have hc := hcell j (by omega)
    rw [hc]
    simp only [Option.map_some, Option.some.injEq] at hu
    rw [← hu, List.getD_eq_getElem?_getD, List.getElem?_eq_getElem (by omega)]
    rfl
   ·rw [List.getElem?_eq_none (by rw [List.length_take]; omega)] at hu
    simp at hu
structure Up where
 seq : Int
 cl : Int
 num : Int
 kd : Int
 key : Int
 ver : Int
 A : Option Addr
 n : Nat
 c : Nat
 bs : List Int
def Up.zero : Up := ⟨0, 0, 0, 0, 0, 0, none, 0, 0, []⟩
def Up.row (u : Up) : List Value := [.int .u64 u.seq, .int .i64 u.cl, .int .u64 u.num, .int .i64 u.kd, .int .u32 u.key, .int .u64 u.ver, .slice u.A u.n u.c]
def Up.agg (u : Up) : Value := .agg #[.int .u64 u.seq, .int .i64 u.cl, .int .u64 u.num, .int .i64 u.kd, .int .u32 u.key, .int .u64 u.ver, .slice u.A u.n u.c]
def Up.cells (u : Up) : Array Value := #[.int .u64 u.seq, .int .i64 u.cl, .int .u64 u.num, .int .i64 u.kd, .int .u32 u.key, .int .u64 u.ver, .slice u.A u.n u.c]
theorem Up.row_len (u : Up) : u.row.length = 7 := rfl
structure Up.wf (u : Up) : Prop where
 seq : 0 ≤ u.seq ∧ u.seq ≤ 18446744073709551615
 cl : -9223372036854775808 ≤ u.cl ∧ u.cl ≤ 9223372036854775807
 num : 0 ≤ u.num ∧ u.num ≤ 18446744073709551615
 kd : -9223372036854775808 ≤ u.kd ∧ u.kd ≤ 9223372036854775807
 key : 0 ≤ u.key ∧ u.key ≤ 4294967295
 ver : 0 ≤ u.ver ∧ u.ver ≤ 18446744073709551615
 bs : ∀ z ∈ u.bs, 0 ≤ z ∧ z ≤ 255
structure UpIn (w : World) (B : Nat) (u : Up) : Prop where
 rd : Reads w B 1 u.A u.n (u.bs.map (Value.int .u8))
 hc : u.n ≤ u.c
 hm : u.c ≤ maxLen
 wf : u.wf
theorem UpIn.below {w w' : World} {B : Nat} {u : Up} (h : UpIn w B u) (hb : Below B w w') : UpIn w' B u := ⟨h.rd.below hb, h.hc, h.hm, h.wf⟩
theorem UpIn.more {w : World} {B B' : Nat} {u : Up} (h : UpIn w B u) (hb : B ≤ B') : UpIn w B' u := ⟨h.rd.more hb, h.hc, h.hm, h.wf⟩
theorem UpIn.len {w : World} {B : Nat} {u : Up} (h : UpIn w B u) : u.bs.length = u.n := by have := h.rd.1; simpa using this
def Up.val (u : Up) : Int × Int × Int × Int × Int × Int × List Int := (u.seq, u.cl, u.num, u.kd, u.key, u.ver, u.bs)
structure UpsIn (w : World) (B : Nat) (A : Option Addr) (n : Nat) (l : List Up) : Prop where
 rd : Reads w B 7 A n (l.flatMap Up.row)
 mem : ∀ u ∈ l, UpIn w B u
theorem UpsIn.below {w w' : World} {B n : Nat} {A : Option Addr} {l : List Up} (h : UpsIn w B A n l) (hb : Below B w w') : UpsIn w' B A n l := ⟨h.rd.below hb, fun u hu => (h.mem u hu).below hb⟩
theorem UpsIn.more {w : World} {B B' n : Nat} {A : Option Addr} {l : List Up} (h : UpsIn w B A n l) (hb : B ≤ B') : UpsIn w B' A n l := ⟨h.rd.more hb, fun u hu => (h.mem u hu).more hb⟩
theorem UpsIn.len {w : World} {B n : Nat} {A : Option Addr} {l : List Up} (h : UpsIn w B A n l) : l.length = n := flat_len Up.row Up.row_len (by omega) h.rd
theorem UpsIn.nil (w : World) (B : Nat) : UpsIn w B none 0 [] := ⟨Reads.none_, fun u hu => by simp at hu⟩
theorem UpsIn.at_ {w : World} {B n k : Nat} {A : Option Addr} {l : List Up} (h : UpsIn w B A n l) (hk : k < n) :
  ∃ b off u, A = some ⟨b, off, none⟩ ∧ b < B ∧ l[k]? = some u ∧ UpIn w B u ∧ (w.cell? ⟨b, off + k * 7, none⟩ = some (.int .u64 u.seq) ∧ w.cell? ⟨b, off + k * 7 + 1, none⟩ = some (.int .i64 u.cl) ∧ w.cell? ⟨b, off + k * 7 + 2, none⟩ = some (.int .u64 u.num) ∧
   w.cell? ⟨b, off + k * 7 + 3, none⟩ = some (.int .i64 u.kd) ∧ w.cell? ⟨b, off + k * 7 + 4, none⟩ = some (.int .u32 u.key) ∧ w.cell? ⟨b, off + k * 7 + 5, none⟩ = some (.int .u64 u.ver) ∧ w.cell? ⟨b, off + k * 7 + 6, none⟩ = some (.slice u.A u.n u.c)) := by
 obtain ⟨b, off, u, hA, hb, hu, hc⟩ := reads_at Up.row Up.row_len (by omega) h.rd hk
 refine ⟨b, off, u, hA, hb, hu, h.mem u (List.mem_of_getElem? hu), hc 0 _ rfl, hc 1 _ rfl, hc 2 _ rfl, hc 3 _ rfl, hc 4 _ rfl, hc 5 _ rfl, hc 6 _ rfl⟩
end Go.Proofs.YtmpedblelnpjdaaGreatDoor
/- An update's bytes; PutUpdate. -/
namespace Go.Proofs.YtmpedblelnpjdaaGreatDoor
open Go.RowKit
set_option linter.unusedSimpArgs false
set_option linter.unusedVariables false
set_option maxHeartbeats 2000000
set_option maxRecDepth 100000
attribute [local go_sem] Up.agg Up.cells
structure Up.put (u : Up) : Prop where
 cl : 0 ≤ u.cl ∧ u.cl ≤ 255
 kd : 0 ≤ u.kd ∧ u.kd ≤ 255
 bs : u.bs.length ≤ 2048
theorem OutStep.bel {W W' : World} {g B : Nat} {v v' : Value} {s : FO} (h : OutStep W W' g v v') (ho : OutAt W g v s) (hB : B ≤ g) : Below B W W' :=
 h.2.below (by have := ho.1.lt; omega) (fun k hk e => by
  rcases e with e | e
  ·omega
  ·have := (ho.2.1.lt k e).1; omega)
end Go.Proofs.YtmpedblelnpjdaaGreatDoor
/- Updates read from bytes: plain. -/
namespace Go.Proofs.YtmpedblelnpjdaaGreatDoor
open Go.RowKit
set_option linter.unusedSimpArgs false
set_option linter.unusedVariables false
set_option maxHeartbeats 1000000
def g1 (s : FI) : FI × Nat := s.upto 8 18446744073709551615
def g2 (s : FI) : FI × Nat := (g1 s).1.upto 1 18446744073709551615
def g3 (s : FI) : FI × Nat := (g2 s).1.upto 8 18446744073709551615
def g4 (s : FI) : FI × Nat := (g3 s).1.upto 1 18446744073709551615
def g5 (s : FI) : FI × Nat := (g4 s).1.upto 4 18446744073709551615
def g6 (s : FI) : FI × Nat := (g5 s).1.upto 8 18446744073709551615
def g7 (s : FI) : FI × List Int := (g6 s).1.text 2048
end Go.Proofs.YtmpedblelnpjdaaGreatDoor
/- Raw and Text of In, with a row of its own; GetUpdate. -/
namespace Go.Proofs.YtmpedblelnpjdaaGreatDoor
open Go.RowKit
set_option linter.unusedSimpArgs false
set_option linter.unusedVariables false
set_option maxHeartbeats 2000000
set_option maxRecDepth 100000
attribute [local go_sem] Up.agg Up.cells
end Go.Proofs.YtmpedblelnpjdaaGreatDoor
/- GetUpdate of package letter. -/
namespace Go.Proofs.YtmpedblelnpjdaaGreatDoor
open Go.RowKit
set_option linter.unusedSimpArgs false
set_option linter.unusedVariables false
set_option maxHeartbeats 4000000
set_option maxRecDepth 100000
attribute [local go_sem] Up.agg Up.cells
theorem cellsu7 {w : World} {g : Nat} {t : TypeId} {a0 a1 a2 a3 a4 a5 a6 : Value} (h : Blk w g t #[a0, a1, a2, a3, a4, a5, a6]) : w.cell? ⟨g, 0, none⟩ = some a0 ∧ w.cell? ⟨g, 1, none⟩ = some a1 ∧ w.cell? ⟨g, 2, none⟩ = some a2 ∧ w.cell? ⟨g, 3, none⟩ = some a3 ∧ w.cell? ⟨g, 4, none⟩ = some a4 ∧ w.cell? ⟨g, 5, none⟩ = some a5 ∧ w.cell? ⟨g, 6, none⟩ = some a6 :=
 ⟨h.cell 0, h.cell 1, h.cell 2, h.cell 3, h.cell 4, h.cell 5, h.cell 6⟩
end Go.Proofs.YtmpedblelnpjdaaGreatDoor
