/- GB: FixA FixB FixC FixD FixE FixF FixG FixH FixI FixP -/
import Derived.Test.YtmpedblelnpjdaaGreatDoorZGA
import Derived.Test.YtmpedblelnpjdaaGreatDoorRows
import Derived.Lib.AppendZerosOnto
import Derived.Shelf.SlGeneric
import Derived.Laws.BitsAllLaws
import Derived.Lib.SlBytesConst
import Derived.Laws.BytesArg
import Derived.Lib.SmallJoins
/- Contracts of package fix: known, fits, laid. -/
namespace Go.Proofs.YtmpedblelnpjdaaGreatDoor
open Go.RowKit Go.Deep
set_option linter.unusedSimpArgs false
set_option linter.unusedVariables false
set_option maxHeartbeats 1000000
def knownB (w : Int) : Bool := decide (1 ≤ w) && decide (w ≤ 8)
def fitsB (n : Nat) (w : Nat) : Bool := decide (n < 256 ^ w)
theorem byteInfo : (Tryz.prog.info? 5).map (fun i => (i.zero, i.size, i.bytes)) = some (some (.int .u8 0), 1, 1) := by kernel_rfl
def digit (n w j : Nat) : Nat := n / 256 ^ (w - 1 - j) % 256
def big (n w : Nat) : List Int := (List.range w).map fun j => ((digit n w j : Nat) : Int)
end Go.Proofs.YtmpedblelnpjdaaGreatDoor
/- Package fix: what is put (Out), as data, and in memory; contracts of New, fail, put, Raw, Put, Bool. -/
namespace Go.Proofs.YtmpedblelnpjdaaGreatDoor
open Go.RowKit
set_option linter.unusedSimpArgs false
set_option linter.unusedVariables false
set_option maxRecDepth 100000
set_option maxHeartbeats 1000000
structure FO where
 l : List Int
 m : Int
 e : Int
def FO.fail (s : FO) (x : Int) : FO := if s.e = 0 then { s with e := x } else s
def FO.put (s : FO) (b : List Int) : FO := if s.e = 0 then (if s.m - s.l.length < b.length then { s with e := 6 } else { s with l := s.l ++ b }) else s
def FO.num (s : FO) (n : Nat) (w : Int) : FO := if knownB w then (if fitsB n w.toNat then s.put (big n w.toNat) else s.fail 4) else s.fail 1
def FO.text (s : FO) (b : List Int) : FO := if 65535 < b.length then s.fail 4 else s.put (big b.length 2 ++ b)
def FO.bool (s : FO) (x : Bool) : FO := if x then s.num 1 1 else s.num 0 1
def OutAt (w : World) (g : Nat) (v : Value) (s : FO) : Prop :=
 Blk w g 242 #[v, .int .i64 s.m, .int .i64 s.e] ∧ w.ownsRow (g + 1) 5 1 v s.l.length (s.l.map (Value.int .u8)) ∧ (0 ≤ s.m ∧ s.m ≤ 9223372036854775807)
def OutStep (w w' : World) (g : Nat) (v v' : Value) : Prop :=
 (v'.ownBlock = v.ownBlock ∨ ∀ k, v'.ownBlock = some k → w.heap.size ≤ k) ∧ Chg w w' (fun k => k = g ∨ v.ownBlock = some k)
theorem OutStep.refl (w : World) (g : Nat) (v : Value) : OutStep w w g v v := ⟨.inl rfl, Chg.refl _ _⟩
theorem OutStep.trans {a b c : World} {g : Nat} {u v x : Value} (h : OutStep a b g u v) (k : OutStep b c g v x) : OutStep a c g u x := by
 refine ⟨?_, h.2.trans k.2 ?_⟩
 ·rcases k.1 with e | e
  ·rw [e]; exact h.1
  ·exact .inr fun i hi => Nat.le_trans h.2.size (e i hi)
 ·intro i hi hx
  rcases hx with hx | hx
  ·exact .inl hx
  ·rcases h.1 with e | e
   ·rw [e] at hx; exact .inr hx
   ·exact absurd (e i hx) (by omega)
theorem OutStep.pre {a b c : World} {g : Nat} {u v : Value} (h : Below a.heap.size a b) (k : OutStep b c g u v) : OutStep a c g u v :=
 ⟨k.1.imp id (fun e i hi => Nat.le_trans h.size (e i hi)), (Chg.of_below h _).trans k.2 (fun _ _ x => x)⟩
theorem OutAt.chg {w w' : World} {g : Nat} {v : Value} {s : FO} {S : Nat → Prop} (h : OutAt w g v s) (hc : Chg w w' S) (hg : ¬ S g) (hv : ∀ k, v.ownBlock = some k → ¬ S k) : OutAt w' g v s :=
 ⟨hc.blk h.1 hg, hc.own h.2.1 hv, h.2.2⟩
theorem OutAt.below {w w' : World} {g : Nat} {v : Value} {s : FO} (h : OutAt w g v s) (hb : Below w.heap.size w w') : OutAt w' g v s :=
 ⟨h.1.below hb h.1.lt, own_block_same h.2.1 (fun k hk => hb.block k (h.2.1.lt k hk).2), h.2.2⟩
theorem u8_one (l : List Int) : ∀ u ∈ l.map (Value.int .u8), u.oneCell' = true := by
 intro u hu; obtain ⟨z, _, rfl⟩ := List.mem_map.1 hu; rfl
end Go.Proofs.YtmpedblelnpjdaaGreatDoor
/- Package fix: Clone, Concat, Text, Done. -/
namespace Go.Proofs.YtmpedblelnpjdaaGreatDoor
open Go.RowKit
set_option linter.unusedSimpArgs false
set_option linter.unusedVariables false
set_option maxHeartbeats 1000000
end Go.Proofs.YtmpedblelnpjdaaGreatDoor
/- Package fix: Text; the reference's Cut, Put, Big, Text, Yes, Same. -/
namespace Go.Proofs.YtmpedblelnpjdaaGreatDoor
open Go.RowKit
set_option linter.unusedSimpArgs false
set_option linter.unusedVariables false
set_option maxHeartbeats 1000000
theorem same_any (A C : Option Addr) (n m c d B D : Nat) (x y : List Int) (w : World) (hB : B ≤ w.heap.size) (hD : D ≤ w.heap.size) (hx : Reads w B 1 A n (x.map (Value.int .u8))) (hy : Reads w D 1 C m (y.map (Value.int .u8))) (hn : n ≤ 9223372036854775806) :
  Calls Tryz.prog 13 #[.slice A n c, .slice C m d] w fun e w' => e = .returned (.bool (decide (x = y))) ∧ Below w.heap.size w w' := by
 have lx : x.length = n := by have := hx.1; simpa using this
 have ly : y.length = m := by have := hy.1; simpa using this
 by_cases hnm : n = m
 ·have hX : Hid (y.length = x.length) := Lib.hid (by omega)
  subst hnm
  have HX := Lib.hid hx
  have HY := Lib.hid hy
  have LX := Lib.hid lx
  have LY := Lib.hid ly
  clear hx hy lx ly
  go_enter Tryz.func13, Tryz.ntmps13
  go_wp2
  go_loopw [5] (fun i wr => ∃ k : Nat, k ≤ n ∧ i = .int .i64 k ∧ Hid (x.take k = y.take k) ∧ Hid (Below w.heap.size w wr)) (fun i _ => n - (intOf i).toNat)
  case atStart => exact ⟨0, by omega, rfl, Lib.hid rfl, Lib.hid (Below.refl _ _)⟩
  case round =>
   obtain ⟨k, hk, rfl, hT, hb⟩ := hrel
   by_cases hlt : k < n
   ·obtain ⟨ad1, z1, rfl, _, hz1, hc1⟩ := reads_int (HX.out.below (hb.out.mono hB)) hlt
    obtain ⟨ad2, z2, rfl, _, hz2, hc2⟩ := reads_int (HY.out.below (hb.out.mono hD)) hlt
    have Z1 := Lib.hid hz1
    have Z2 := Lib.hid hz2
    clear hz1 hz2
    by_cases hz : z1 = z2
    ·have hz' : (z1 != z2) = false := by simp [hz]
     have HZ := Lib.hid hz
     clear hz
     go_wp2_with (fail)
     go_quiet (fail)
     go_wp2
     go_roundw
     case rel =>
      refine ⟨k + 1, by omega, by go_num, Lib.hid ?_, Lib.hid (below_drewN hb.out _)⟩
      rw [List.take_add_one, List.take_add_one, Z1.out, Z2.out, hT.out, HZ.out]
     case measure => simp [intOf]; omega
    ·have hz' : (z1 != z2) = true := by simp [hz]
     have HZ := Lib.hid hz
     clear hz
     go_wp2_with (fail)
     go_quiet (fail)
     go_wp2
     go_ret
     refine ⟨ret_bool ?_, below_drewN hb.out _⟩
     symm
     rw [decide_eq_false_iff_not]
     intro e
     have := Z2.out
     rw [← e, Z1.out] at this
     exact HZ.out (by injection this)
   ·obtain rfl : k = n := by omega
    go_wp2
    go_ret
    refine ⟨ret_bool ?_, hb.out⟩
    symm
    rw [decide_eq_true_eq]
    have := hT.out
    rw [List.take_of_length_le (by have := LX.out; omega), List.take_of_length_le (by have := LY.out; omega)] at this
    exact this
 ·have he : ¬ x = y := fun e => by subst e; omega
  have hd : decide (x = y) = false := by simp [he]
  rw [hd]
  have hnm' : ((n : Int) != m) = true := by simp; omega
  clear hx hy hnm he hd
  go_enter Tryz.func13, Tryz.ntmps13
  go_wp2
  go_ret
  exact ⟨rfl, Below.refl _ _⟩
end Go.Proofs.YtmpedblelnpjdaaGreatDoor
/- Package fix: the reference's Big, Text; Out.Text. -/
namespace Go.Proofs.YtmpedblelnpjdaaGreatDoor
open Go.RowKit
set_option linter.unusedSimpArgs false
set_option linter.unusedVariables false
set_option maxRecDepth 100000
set_option maxHeartbeats 1000000
end Go.Proofs.YtmpedblelnpjdaaGreatDoor
/- Package fix: In: contracts of Of, fail, next, number, Upto, Get, Raw, Text, Bool, Left, Err, Done. -/
namespace Go.Proofs.YtmpedblelnpjdaaGreatDoor
open Go.RowKit
set_option linter.unusedSimpArgs false
set_option linter.unusedVariables false
set_option maxHeartbeats 1000000
def numB (l : List Int) : Nat := l.foldl (fun n c => n * 256 + c.toNat) 0
def bytesB (l : List Int) : Prop := ∀ z ∈ l, 0 ≤ z ∧ z < 256
structure FI where
 l : List Int
 e : Int
def FI.fail (s : FI) (x : Int) : FI := ⟨[], if s.e = 0 then x else s.e⟩
def FI.next (s : FI) (n : Nat) : FI × List Int × Bool :=
 if s.e ≠ 0 then (s, [], false) else if s.l.length < n then (s.fail 3, [], false) else (⟨s.l.drop n, 0⟩, s.l.take n, true)
def FI.upto (s : FI) (w : Int) (most : Nat) : FI × Nat :=
 if s.e ≠ 0 then (s, 0) else if knownB w then (if (s.next w.toNat).2.2 then (if most < numB (s.next w.toNat).2.1 then ((s.next w.toNat).1.fail 4, 0) else ((s.next w.toNat).1, numB (s.next w.toNat).2.1)) else ((s.next w.toNat).1, 0)) else (s.fail 1, 0)
def FI.raw (s : FI) (n : Int) : FI × List Int :=
 if n < 0 then (s.fail 1, []) else ((s.next n.toNat).1, (s.next n.toNat).2.1)
def FI.text (s : FI) (most : Int) : FI × List Int :=
 if (s.next 2).2.2 then (if most < numB (s.next 2).2.1 then ((s.next 2).1.fail 6, []) else (s.next 2).1.raw (numB (s.next 2).2.1)) else ((s.next 2).1, [])
def FI.done (s : FI) : Int := if s.e ≠ 0 then s.e else if s.l = [] then 0 else 4
structure InAt (w : World) (g B : Nat) (s : FI) : Prop where
 mem : ∃ (A : Option Addr) (c : Nat), Blk w g 223 #[.slice A s.l.length c, .int .i64 s.e] ∧ Reads w B 1 A s.l.length (s.l.map (Value.int .u8)) ∧ (∀ ad, A = some ad → ad.block ≠ g) ∧ s.l.length ≤ c ∧ c ≤ maxLen
 bytes : bytesB s.l
 lt : g < B
 le : B ≤ w.heap.size
theorem InAt.below {w w' : World} {g B : Nat} {s : FI} (h : InAt w g B s) (hb : Below B w w') : InAt w' g B s := by
 obtain ⟨A, c, h1, h2, h3⟩ := h.mem
 exact ⟨⟨A, c, h1.below hb h.lt, h2.below hb, h3⟩, h.bytes, h.lt, Nat.le_trans h.le hb.size⟩
end Go.Proofs.YtmpedblelnpjdaaGreatDoor
/- Package fix: In: contracts of Upto, Get, Bool, Raw, Text, Left, Err, Done, Of. -/
namespace Go.Proofs.YtmpedblelnpjdaaGreatDoor
open Go.RowKit
set_option linter.unusedSimpArgs false
set_option linter.unusedVariables false
set_option maxHeartbeats 1000000
end Go.Proofs.YtmpedblelnpjdaaGreatDoor
/- Package fix: In: Raw, Text, Of. -/
namespace Go.Proofs.YtmpedblelnpjdaaGreatDoor
open Go.RowKit
set_option linter.unusedSimpArgs false
set_option linter.unusedVariables false
set_option maxHeartbeats 1000000
end Go.Proofs.YtmpedblelnpjdaaGreatDoor
/- The law's awake. -/
namespace Go.Proofs.YtmpedblelnpjdaaGreatDoor
open Go.RowKit
set_option linter.unusedSimpArgs false
set_option linter.unusedVariables false
set_option maxHeartbeats 1000000
end Go.Proofs.YtmpedblelnpjdaaGreatDoor
/- Package fix, plain: bytes that are read as numbers are put as the same bytes. -/
namespace Go.Proofs.YtmpedblelnpjdaaGreatDoor
open Go.RowKit
set_option linter.unusedSimpArgs false
set_option linter.unusedVariables false
end Go.Proofs.YtmpedblelnpjdaaGreatDoor
