/- Which letters are looked at: catenarylaw14.Far, catenarylaw34.far. -/
import Derived.Test.YtmpedblelnpjdaaGreatDoorZNtT
namespace Go.Proofs.YtmpedblelnpjdaaGreatDoor
open Go.RowKit
set_option linter.unusedSimpArgs false
set_option linter.unusedVariables false
set_option maxHeartbeats 8000000
set_option maxRecDepth 100000

/-- letters in memory, however great -/
structure LsI0 (w : World) (B : Nat) (A : Option Addr) (n : Nat) (xs : List LV) : Prop where
  rd : Reads w B 25 A n (xs.flatMap Lt.row)
  mem : ∀ x ∈ xs, LIn w B x
theorem LsI0.below {w w' : World} {B n : Nat} {A : Option Addr} {xs : List LV} (h : LsI0 w B A n xs) (hb : Below B w w') : LsI0 w' B A n xs := ⟨h.rd.below hb, fun x hx => (h.mem x hx).below hb⟩
theorem LsI0.len {w : World} {B n : Nat} {A : Option Addr} {xs : List LV} (h : LsI0 w B A n xs) : xs.length = n := flat_len Lt.row Lt.row_len (by omega) h.rd
theorem LsI0.at_ {w : World} {B n k : Nat} {A : Option Addr} {xs : List LV} (h : LsI0 w B A n xs) (hk : k < n) :
    ∃ b o x, A = some ⟨b, o, none⟩ ∧ b < B ∧ xs[k]? = some x ∧ LIn w B x ∧ w.rangeAt b (o + k * 25) (Lt.row x) := by
  obtain ⟨b, o, x, hA, hb, hx, hc⟩ := reads_at Lt.row Lt.row_len (by omega) h.rd hk
  exact ⟨b, o, x, hA, hb, hx, h.mem x (List.mem_of_getElem? hx), hc⟩
/-- a call on a net -/
structure NOp where
  kd : Int
  A : Option Addr
  nn : Nat
  c : Nat
  i : Int
  bit : Int
  pat : Nat
  dst : Int
def NOp.cells (o : NOp) : Array Value := #[.int .i64 o.kd, .slice o.A o.nn o.c, .int .i64 o.i, .int .i64 o.bit, .int .u32 (o.pat : Int), .int .i64 o.dst]
def NOp.agg (o : NOp) : Value := .agg #[.int .i64 o.kd, .slice o.A o.nn o.c, .int .i64 o.i, .int .i64 o.bit, .int .u32 (o.pat : Int), .int .i64 o.dst]
end Go.Proofs.YtmpedblelnpjdaaGreatDoor
