import Derived.Test.YtmpedblelnpjdaaGreatDoorRows
import Derived.Shelf.Abstract
import Derived.Lib.SliceRun
import Derived.Deep.RegionLaw
import Derived.Test.YtmpedblelnpjdaaGreatDoorZGA
import Derived.Test.YtmpedblelnpjdaaGreatDoorZGD
import Derived.Test.YtmpedblelnpjdaaGreatDoorZCeG
import Derived.Deep.MidRow
section
/- A bag of bytes: as data, in memory; New, has, Len, Last, At, No, Put. -/
namespace Go.Proofs.YtmpedblelnpjdaaGreatDoor
open Go.RowKit
set_option linter.unusedSimpArgs false
set_option linter.unusedVariables false
set_option maxHeartbeats 2000000
structure Sv where
 A : Option Addr
 n : Nat
 c : Nat
def Sv.nil : Sv := ⟨none, 0, 0⟩
structure NBg where
 most : Int
 last : Int
 l : List (Int × Sv)
def nb_itc (p : Int × Sv) : List Value := [.int .i64 p.1, .slice p.2.A p.2.n p.2.c]
def NBagAt (w : World) (g : Nat) (v : Value) (s : NBg) : Prop := Blk w g 270 #[.int .i64 s.most, .int .i64 s.last, v] ∧ w.ownsRow (g + 1) 286 2 v s.l.length (s.l.flatMap nb_itc)
structure NBStep (w w' : World) (g : Nat) (v v' : Value) : Prop where
 chg : Chg w w' (fun k => k = g ∨ v.ownBlock = some k)
 row : ∀ k, v'.ownBlock = some k → v.ownBlock = some k ∨ w.heap.size ≤ k
section
variable {w w' w'' : World} {g : Nat} {v v' v'' : Value} {s : NBg}
theorem NBStep.refl (w : World) (g : Nat) (v : Value) : NBStep w w g v v := ⟨Chg.refl _ _, fun k h => .inl h⟩
theorem NBStep.trans (h : NBStep w w' g v v') (k : NBStep w' w'' g v' v'') : NBStep w w'' g v v'' :=
 ⟨h.chg.trans k.chg (fun i hi hs => by
  rcases hs with hs | hs
  ·exact .inl hs
  ·rcases h.row i hs with h1 | h1
   ·exact .inr h1
   ·omega), fun i hi => by
  rcases k.row i hi with h1 | h1
  ·exact h.row i h1
  ·exact .inr (Nat.le_trans h.chg.size h1)⟩
theorem NBStep.of_below (h : Below w.heap.size w w') (g : Nat) (v : Value) : NBStep w w' g v v := ⟨Chg.of_below h _, fun k h => .inl h⟩
theorem NBStep.below (h : NBStep w w' g v v') (ha : NBagAt w g v s) {B : Nat} (hB : B ≤ g) : Below B w w' :=
 h.chg.below (by have := ha.1.lt; omega) (fun k hk hs => by
  rcases hs with hs | hs
  ·omega
  ·have := (ha.2.lt k hs).1; omega)
theorem NBagAt.below (h : NBagAt w g v s) (hb : Below w.heap.size w w') : NBagAt w' g v s :=
 ⟨h.1.below hb h.1.lt, own_block_same h.2 (fun k hk => hb.block k (h.2.lt k hk).2)⟩
theorem NBagAt.form (h : NBagAt w g v s) : ∃ A c, v = .slice A s.l.length c ∧ Reads w w.heap.size 2 A s.l.length (s.l.flatMap nb_itc) ∧ s.l.length ≤ c ∧ c ≤ maxLen := own_slice h.2
end
def NBg.has (s : NBg) (i : Int) : Bool := decide (0 ≤ i) && decide (i < s.l.length)
def NBg.at_ (s : NBg) (i : Int) : Sv × Bool := if s.has i then ((s.l.getD i.toNat (0, Sv.nil)).2, true) else (Sv.nil, false)
def NBg.no (s : NBg) (i : Int) : Int := if s.has i then (s.l.getD i.toNat (0, Sv.nil)).1 else 0
theorem NBg.has_iff (s : NBg) (i : Int) : s.has i = true ↔ 0 ≤ i ∧ i < s.l.length := by simp [NBg.has]
end Go.Proofs.YtmpedblelnpjdaaGreatDoor

end
section
/- Put; slices.Delete of one; Take. -/
namespace Go.Proofs.YtmpedblelnpjdaaGreatDoor
open Go.RowKit
set_option linter.unusedSimpArgs false
set_option linter.unusedVariables false
set_option maxHeartbeats 8000000
set_option maxRecDepth 100000
def NBg.put (s : NBg) (x : Sv) : NBg := if s.most ≤ s.l.length then s else ⟨s.most, s.last + 1, s.l ++ [(s.last + 1, x)]⟩
def NBg.putE (s : NBg) : Int := if s.most ≤ s.l.length then 9 else 0
end Go.Proofs.YtmpedblelnpjdaaGreatDoor

end
section
/- slices.Delete of one item; Take. -/
namespace Go.Proofs.YtmpedblelnpjdaaGreatDoor
open Go.RowKit
set_option linter.unusedSimpArgs false
set_option linter.unusedVariables false
set_option maxHeartbeats 8000000
set_option maxRecDepth 100000
def NBg.take (s : NBg) (i : Int) : NBg := if s.has i then ⟨s.most, s.last, s.l.eraseIdx i.toNat⟩ else s
end Go.Proofs.YtmpedblelnpjdaaGreatDoor

end
section
/- A board of counts: NewBoard, Add, At. -/
namespace Go.Proofs.YtmpedblelnpjdaaGreatDoor
open Go.RowKit
set_option linter.unusedSimpArgs false
set_option linter.unusedVariables false
set_option maxRecDepth 100000
set_option maxHeartbeats 4000000
structure Bd where
 a : Int
 b : Int
 c : Int
 d : Int
def Bd.cells (s : Bd) : Array Value := #[.int .i64 s.a, .int .i64 s.b, .int .i64 s.c, .int .i64 s.d, .int .i64 0, .int .i64 0, .int .i64 0, .int .i64 0, .int .i64 0, .int .i64 0, .int .i64 0, .int .i64 0, .int .i64 0, .int .i64 0, .int .i64 0, .int .i64 0]
def BdAt (w : World) (g : Nat) (s : Bd) : Prop := Blk w g 275 s.cells
def Bd.get (s : Bd) (i : Nat) : Int := match i with
 | 0 => s.a
 | 1 => s.b
 | 2 => s.c
 | 3 => s.d
 | _ => 0
def Bd.add (s : Bd) (i : Nat) (n : Int) : Bd := match i with
 | 0 => { s with a := s.a + n }
 | 1 => { s with b := s.b + n }
 | 2 => { s with c := s.c + n }
 | 3 => { s with d := s.d + n }
 | _ => s
theorem Bd.cell (s : Bd) (i : Nat) (hi : i < 4) : s.cells[i]? = some (.int .i64 (s.get i)) := by
 match i, hi with
 | 0, _ => rfl
 | 1, _ => rfl
 | 2, _ => rfl
 | 3, _ => rfl
 | (n + 4), h => omega
theorem Bd.set (s : Bd) (i : Nat) (hi : i < 4) (n : Int) {w : World} {g : Nat} (h : BdAt w g s) : BdAt (w.setCell ⟨g, i, none⟩ (.int .i64 (s.get i + n))) g (s.add i n) := by
 have := Blk.set_ h i (.int .i64 (s.get i + n))
 match i, hi with
 | 0, _ => exact this
 | 1, _ => exact this
 | 2, _ => exact this
 | 3, _ => exact this
 | (n + 4), h => omega
end Go.Proofs.YtmpedblelnpjdaaGreatDoor

end
section
/- A net in memory; New, bag, Len. -/
namespace Go.Proofs.YtmpedblelnpjdaaGreatDoor
open Go.RowKit
set_option linter.unusedSimpArgs false
set_option linter.unusedVariables false
set_option maxHeartbeats 4000000
set_option maxRecDepth 100000
structure Nv where
 most : Int
 last : Int
 l : List (Int × List Nat)
 b : Bd
def Nv.new (m : Int) : Nv := ⟨max m 0, 0, [], ⟨0, 0, 0, 0⟩⟩
structure NetAt (W : World) (lo g cd gt bg bd : Nat) (v : Value) (s : NBg) (n : Nv) (m : Int) : Prop where
 box : Blk W g 183 #[.pointer (some ⟨cd, 0, none⟩), .pointer (some ⟨bg, 0, none⟩), .pointer (some ⟨bd, 0, none⟩)]
 cod : ∃ d x y, Cd W cd gt d x y ∧ (0 ≤ x ∧ x ≤ m) ∧ (0 ≤ y ∧ y ≤ m)
 bag : NBagAt W bg v s
 brd : BdAt W bd n.b
 most : s.most = n.most
 last : s.last = n.last
 no : s.l.map Prod.fst = n.l.map Prod.fst
 byt : ∀ (k : Nat) (p : Int × Sv) (q : Int × List Nat), s.l[k]? = some p → n.l[k]? = some q → W.ownsRow lo 5 1 (.slice p.2.A p.2.n p.2.c) p.2.n ((bI q.2).map (Value.int .u8)) ∧ isBs q.2
 low : lo ≤ g ∧ lo ≤ cd ∧ lo ≤ gt ∧ lo ≤ bg ∧ lo ≤ bd
def NetS (cd gt bg bd : Nat) (v : Value) : Nat → Prop := fun k => k = cd ∨ k = gt ∨ k = bg ∨ k = bd ∨ v.ownBlock = some k
section
variable {W W' : World} {lo g cd gt bg bd : Nat} {v v' : Value} {s s' : NBg} {n n' : Nv} {m m' : Int}
theorem NetAt.len (h : NetAt W lo g cd gt bg bd v s n m) : s.l.length = n.l.length := by have := congrArg List.length h.no; simpa using this
theorem tb_blk {w : World} {g : Nat} {d : Bool} (h : Tb w g d) : ∃ cs, Blk w g 218 cs := by obtain ⟨cs, b, _⟩ := h; exact ⟨cs, b⟩
theorem NetAt.out (h : NetAt W lo g cd gt bg bd v s n m) {k : Nat} {t : TypeId} {cs : Array Value} (hb : Blk W k t cs) (h1 : t ≠ 109) (h2 : t ≠ 218) (h3 : t ≠ 270) (h4 : t ≠ 275) (h5 : 286 ≠ t) : ¬ NetS cd gt bg bd v k := by
 obtain ⟨d, x, y, hc, _⟩ := h.cod
 obtain ⟨cs2, htb⟩ := tb_blk hc.2
 rintro (e | e | e | e | e)
 ·exact Blk.ne_ hb hc.1 h1 e
 ·exact Blk.ne_ hb htb h2 e
 ·exact Blk.ne_ hb h.bag.1 h3 e
 ·exact Blk.ne_ hb h.brd h4 e
 ·exact own_blk_ne h.bag.2 hb h5 e
theorem NetAt.outO (h : NetAt W lo g cd gt bg bd v s n m) {b sz q k : Nat} {t : TypeId} {u : Value} {xs : List Value} (ho : W.ownsRow b t sz u q xs) (h1 : t ≠ 109) (h2 : t ≠ 218) (h3 : t ≠ 270) (h4 : t ≠ 275) (h5 : t ≠ 286) (hk : u.ownBlock = some k) : ¬ NetS cd gt bg bd v k := by
 obtain ⟨d, x, y, hc, _⟩ := h.cod
 obtain ⟨cs2, htb⟩ := tb_blk hc.2
 rintro (e | e | e | e | e)
 ·exact own_blk_ne ho hc.1 h1 (by rw [hk, e])
 ·exact own_blk_ne ho htb h2 (by rw [hk, e])
 ·exact own_blk_ne ho h.bag.1 h3 (by rw [hk, e])
 ·exact own_blk_ne ho h.brd h4 (by rw [hk, e])
 ·exact own_ne_ownC ho h.bag.2 h5 k hk e
theorem NetAt.below (h : NetAt W lo g cd gt bg bd v s n m) (hb : Below W.heap.size W W') : NetAt W' lo g cd gt bg bd v s n m := by
 obtain ⟨d, x, y, hc, hx, hy⟩ := h.cod
 exact ⟨h.box.below hb h.box.lt, ⟨d, x, y, hc.below hb hc.1.lt hc.2.lt, hx, hy⟩, h.bag.below hb, Blk.below h.brd hb (Blk.lt h.brd), h.most, h.last, h.no, fun k p q h1 h2 => ⟨(Chg.of_below hb (fun _ => False)).own (h.byt k p q h1 h2).1 (fun _ _ e => e), (h.byt k p q h1 h2).2⟩, h.low⟩
theorem NetAt.bagged (h : NetAt W lo g cd gt bg bd v s n m) (hs : NBStep W W' bg v v') (ha : NBagAt W' bg v' s') (hb : n'.b = n.b) (h1 : s'.most = n'.most) (h2 : s'.last = n'.last) (h3 : s'.l.map Prod.fst = n'.l.map Prod.fst)
  (h4 : ∀ (k : Nat) (p : Int × Sv) (q : Int × List Nat), s'.l[k]? = some p → n'.l[k]? = some q → W.ownsRow lo 5 1 (.slice p.2.A p.2.n p.2.c) p.2.n ((bI q.2).map (Value.int .u8)) ∧ isBs q.2) : NetAt W' lo g cd gt bg bd v' s' n' m := by
 have hc := hs.chg
 have hS : ∀ k, (k = bg ∨ v.ownBlock = some k) → NetS cd gt bg bd v k := fun k e => by rcases e with e | e; exact .inr (.inr (.inl e)); exact .inr (.inr (.inr (.inr e)))
 obtain ⟨d, x, y, hcd, hx, hy⟩ := h.cod
 obtain ⟨cs2, htb⟩ := tb_blk hcd.2
 refine ⟨hc.blk h.box (fun e => h.out h.box (by decide) (by decide) (by decide) (by decide) (by decide) (hS _ e)), ⟨d, x, y, ⟨hc.blk hcd.1 ?_, TabC.chg hcd.2 hc ?_⟩, hx, hy⟩, ha, ?_, h1, h2, h3, fun k p q e1 e2 => ⟨hc.own (h4 k p q e1 e2).1 (fun j hj e => h.outO (h4 k p q e1 e2).1 (by decide) (by decide) (by decide) (by decide) (by decide) hj (hS _ e)), (h4 k p q e1 e2).2⟩, h.low⟩
 ·rintro (e | e)
  ·exact Blk.ne_ hcd.1 h.bag.1 (by decide) e
  ·exact own_blk_ne h.bag.2 hcd.1 (by decide) e
 ·rintro (e | e)
  ·exact Blk.ne_ htb h.bag.1 (by decide) e
  ·exact own_blk_ne h.bag.2 htb (by decide) e
 ·rw [hb]
  refine hc.blk h.brd ?_
  rintro (e | e)
  ·exact Blk.ne_ h.brd h.bag.1 (by decide) e
  ·exact own_blk_ne h.bag.2 h.brd (by decide) e
theorem NetAt.board (h : NetAt W lo g cd gt bg bd v s n m) {b' : Bd} (hc : Chg W W' (fun k => k = bd)) (hb : BdAt W' bd b') : NetAt W' lo g cd gt bg bd v s { n with b := b' } m := by
 have hS : ∀ k, k = bd → NetS cd gt bg bd v k := fun k e => .inr (.inr (.inr (.inl e)))
 obtain ⟨d, x, y, hcd, hx, hy⟩ := h.cod
 obtain ⟨cs2, htb⟩ := tb_blk hcd.2
 exact ⟨hc.blk h.box (fun e => h.out h.box (by decide) (by decide) (by decide) (by decide) (by decide) (hS _ e)), ⟨d, x, y, ⟨hc.blk hcd.1 (fun e => Blk.ne_ hcd.1 h.brd (by decide) e), TabC.chg hcd.2 hc (fun e => Blk.ne_ htb h.brd (by decide) e)⟩, hx, hy⟩,
  ⟨hc.blk h.bag.1 (fun e => Blk.ne_ h.bag.1 h.brd (by decide) e), hc.own h.bag.2 (fun j hj e => own_blk_ne h.bag.2 h.brd (by decide) (by rw [hj, e]))⟩, hb, h.most, h.last, h.no, fun k p q h1 h2 => ⟨hc.own (h.byt k p q h1 h2).1 (fun j hj e => h.outO (h.byt k p q h1 h2).1 (by decide) (by decide) (by decide) (by decide) (by decide) hj (hS _ e)), (h.byt k p q h1 h2).2⟩, h.low⟩
structure NStep (W W' : World) (cd gt bg bd : Nat) (v v' : Value) : Prop where
 chg : Chg W W' (NetS cd gt bg bd v)
 row : ∀ k, v'.ownBlock = some k → v.ownBlock = some k ∨ W.heap.size ≤ k
theorem NStep.of_below (hb : Below W.heap.size W W') (cd gt bg bd : Nat) (v : Value) : NStep W W' cd gt bg bd v v := ⟨Chg.of_below hb _, fun k h => .inl h⟩
theorem NStep.trans {W'' : World} {v'' : Value} (h : NStep W W' cd gt bg bd v v') (k : NStep W' W'' cd gt bg bd v' v'') : NStep W W'' cd gt bg bd v v'' :=
 ⟨h.chg.trans k.chg (fun i hi hs => by
  rcases hs with hs | hs | hs | hs | hs
  ·exact .inl hs
  ·exact .inr (.inl hs)
  ·exact .inr (.inr (.inl hs))
  ·exact .inr (.inr (.inr (.inl hs)))
  ·rcases h.row i hs with h1 | h1
   ·exact .inr (.inr (.inr (.inr h1)))
   ·omega), fun i hi => by
  rcases k.row i hi with h1 | h1
  ·exact h.row i h1
  ·exact .inr (Nat.le_trans h.chg.size h1)⟩
theorem NStep.codec (hc : Chg W W' (fun k => k = gt ∨ k = cd)) (bg bd : Nat) (v : Value) : NStep W W' cd gt bg bd v v := ⟨hc.mono (fun k _ e => by rcases e with e | e; exact .inr (.inl e); exact .inl e), fun k h => .inl h⟩
theorem NStep.bag (hs : NBStep W W' bg v v') (cd gt bd : Nat) : NStep W W' cd gt bg bd v v' := ⟨hs.chg.mono (fun k _ e => by rcases e with e | e; exact .inr (.inr (.inl e)); exact .inr (.inr (.inr (.inr e)))), hs.row⟩
theorem NStep.board (hc : Chg W W' (fun k => k = bd)) (cd gt bg : Nat) (v : Value) : NStep W W' cd gt bg bd v v := ⟨hc.mono (fun k _ e => .inr (.inr (.inr (.inl e)))), fun k h => .inl h⟩
theorem NStep.bel (h : NStep W W' cd gt bg bd v v') (hn : NetAt W lo g cd gt bg bd v s n m) : Below lo W W' :=
 h.chg.below (by have := hn.box.lt; have := hn.low.1; omega) (fun k hk e => by
  obtain ⟨_, l1, l2, l3, l4⟩ := hn.low
  rcases e with e | e | e | e | e
  ·omega
  ·omega
  ·omega
  ·omega
  ·have := (hn.bag.2.lt k e).1; omega)
end
end Go.Proofs.YtmpedblelnpjdaaGreatDoor

end
section
/- Peek. -/
namespace Go.Proofs.YtmpedblelnpjdaaGreatDoor
open Go.RowKit
set_option linter.unusedSimpArgs false
set_option linter.unusedVariables false
set_option maxHeartbeats 8000000
set_option maxRecDepth 100000
noncomputable def dE (f : List Nat) : Int := decE chkV stX f
noncomputable def dV (f : List Nat) : LVal := (decS stX f).2
theorem KindsAt.chg {W W' : World} {S : Nat → Prop} (h : KindsAt W) (hc : Chg W W' S) (h0 : ¬ S 0) : KindsAt W' :=
 ⟨fun k j hk hj => (hc.cell (p := ⟨0, k * 7 + 1 + j, none⟩) h.lt h0).trans (h.cell k j hk hj)⟩
end Go.Proofs.YtmpedblelnpjdaaGreatDoor

end
section
/- A bag of bytes: Twice, Set (printed by netbag.py). -/
namespace Go.Proofs.YtmpedblelnpjdaaGreatDoor
open Go.RowKit
set_option linter.unusedSimpArgs false
set_option linter.unusedVariables false
set_option maxHeartbeats 8000000
set_option maxRecDepth 100000
def NBg.twice (s : NBg) (i : Int) : NBg := if s.has i then s.put (s.l.getD i.toNat (0, Sv.nil)).2 else s
def NBg.set (s : NBg) (i : Int) (x : Sv) : NBg := if s.has i then ⟨s.most, s.last, s.l.set i.toNat ((s.l.getD i.toNat (0, Sv.nil)).1, x)⟩ else s
end Go.Proofs.YtmpedblelnpjdaaGreatDoor

end
section
/- Take of a net's bag; Come; Lose. -/
namespace Go.Proofs.YtmpedblelnpjdaaGreatDoor
open Go.RowKit
set_option linter.unusedSimpArgs false
set_option linter.unusedVariables false
set_option maxHeartbeats 8000000
set_option maxRecDepth 100000
theorem map_erase {α β : Type} (f : α → β) : ∀ (l : List α) (k : Nat), (l.eraseIdx k).map f = (l.map f).eraseIdx k
 | [], _ => rfl
 | _ :: _, 0 => rfl
 | a :: l, k + 1 => by
  show f a :: (l.eraseIdx k).map f = f a :: (l.map f).eraseIdx k
  rw [map_erase f l k]
section
variable {W W' : World} {lo g cd gt bg bd : Nat} {v v' : Value} {s s' : NBg} {n n' : Nv} {m m' : Int}
theorem NetAt.taken (h : NetAt W lo g cd gt bg bd v s n m) {k : Nat} (hk : k < n.l.length) (hs : NBStep W W' bg v v') (ha : NBagAt W' bg v' (s.take k)) : NetAt W' lo g cd gt bg bd v' (s.take k) { n with l := n.l.eraseIdx k } m := by
 have hl := h.len
 have hh : s.has k = true := (NBg.has_iff s k).2 ⟨by omega, by omega⟩
 have hv : s.take k = ⟨s.most, s.last, s.l.eraseIdx k⟩ := by rw [NBg.take, if_pos hh, Int.toNat_natCast]
 refine h.bagged hs ha rfl (by rw [hv]; exact h.most) (by rw [hv]; exact h.last) ?_ ?_
 ·rw [hv]
  show (s.l.eraseIdx k).map Prod.fst = (n.l.eraseIdx k).map Prod.fst
  rw [map_erase, map_erase, h.no]
 ·intro j p q hp hq
  rw [hv] at hp
  have hp : (s.l.eraseIdx k)[j]? = some p := hp
  have hq : (n.l.eraseIdx k)[j]? = some q := hq
  rw [List.getElem?_eraseIdx] at hp hq
  split at hp
  ·rename_i hj
   rw [if_pos hj] at hq
   exact h.byt j p q hp hq
  ·rename_i hj
   rw [if_neg hj] at hq
   exact h.byt (j + 1) p q hp hq
end
def Bd.small (b : Bd) : Prop := (0 ≤ b.a ∧ b.a ≤ 1000000) ∧ (0 ≤ b.b ∧ b.b ≤ 1000000) ∧ (0 ≤ b.c ∧ b.c ≤ 1000000) ∧ (0 ≤ b.d ∧ b.d ≤ 1000000)
theorem Bd.wrap (b : Bd) (h : b.small) (i : Nat) : IntKind.i64.wrap (b.get i + 1) = b.get i + 1 := by
 obtain ⟨h1, h2, h3, h4⟩ := h
 rw [IntKind.wrap_i64]
 unfold Bd.get
 split <;> omega
end Go.Proofs.YtmpedblelnpjdaaGreatDoor

end
section
/- Encode of a letter that is not right; Send. -/
namespace Go.Proofs.YtmpedblelnpjdaaGreatDoor
open Go.RowKit
set_option linter.unusedSimpArgs false
set_option linter.unusedVariables false
set_option maxHeartbeats 8000000
set_option maxRecDepth 100000
theorem encodeF_any (x : LV) (B : Nat) (w : World) (hKW : ∀ W, Below w.heap.size w W → KindsAt W) (h : LIn w B x) (hB : B ≤ w.heap.size) (hn : x.near) (h0 : chkX x ≠ 0) (c : Nat) :
  Calls Tryz.prog 12 #[.pointer (some ⟨c, 0, none⟩), x.l.agg] w fun e w' => e = .returned (.tuple #[.slice none 0 0, .int .i64 (chkX x)]) ∧ Below w.heap.size w w' := by
 obtain ⟨W0, hW0, hb0, hbk⟩ := box_all x w
 have CK := Lib.hid (check_any x B W0 (hKW W0 hb0) (h.below (hb0.mono hB)) (Nat.le_trans hB hb0.size) hn)
 have HB := Lib.hid hb0
 have BK := Lib.hid hbk
 have HW := Lib.hid hW0
 have hll := hbk.lt
 clear hKW h hb0 hbk hW0 hn
 generalize chkX x = ck at *
 have hcb : (ck != 0) = true := by simpa using h0
 clear h0
 obtain ⟨l, ns, vs, us, ds⟩ := x
 simp only at *
 show Calls Tryz.prog 12 #[.pointer (some ⟨c, 0, none⟩), .agg #[.int .i64 l.kd, .int .i64 l.fr, .int .i64 l.tw, .int .i64 l.ch, .int .u64 l.ep, .int .u64 l.bl, .int .u64 l.nu, .int .u64 l.sq, .int .u64 l.dz, .int .u64 l.vr, .int .i64 l.sl, .int .u32 l.ky, .int .i64 l.cd, .int .i64 l.qk, .int .i64 l.qc, .int .u64 l.qe, .int .i64 l.qn, .int .i64 l.fc, .int .u64 l.fe, .slice l.fA l.fn l.fp, .bool l.ff, .int .i64 l.fj, .slice l.vA l.vn l.vp, .slice l.uA l.un l.up, .slice l.dA l.dn l.dp]] w _
 go_enter Tryz.func12, Tryz.ntmps12
 go_upto_region 3 with (fail)
 have e0 := HW.out
 simp only [Lt.cells] at e0
 rw [← e0]
 clear e0
 iterate 1 go_step
 refine wpList_load_row rfl 37 (.tmp 3) rfl w.heap.size rfl 37 l.cells (0, 0) _ BK.out Tryz.underlying37 rfl ltInfo ?_
 go_wp2_with (fail)
 refine CK.out.mono ?_
 rintro e w1 ⟨rfl, h1⟩
 have H1 := Lib.hid (HB.out.trans (h1.mono HB.out.size))
 clear h1 CK
 go_wp2_with (fail)
 go_ret2
 exact ⟨rfl, H1.out⟩
def Lt.row (x : LV) : List Value := x.l.cells.toList
theorem Lt.row_len (x : LV) : (Lt.row x).length = 25 := rfl
structure LsIn (w : World) (B : Nat) (A : Option Addr) (n : Nat) (xs : List LV) : Prop where
 rd : Reads w B 25 A n (xs.flatMap Lt.row)
 mem : ∀ x ∈ xs, LIn w B x ∧ x.near
theorem LsIn.below {w w' : World} {B n : Nat} {A : Option Addr} {xs : List LV} (h : LsIn w B A n xs) (hb : Below B w w') : LsIn w' B A n xs := ⟨h.rd.below hb, fun x hx => ⟨(h.mem x hx).1.below hb, (h.mem x hx).2⟩⟩
theorem LsIn.at_ {w : World} {B n k : Nat} {A : Option Addr} {xs : List LV} (h : LsIn w B A n xs) (hk : k < n) :
  ∃ b o x, A = some ⟨b, o, none⟩ ∧ b < B ∧ xs[k]? = some x ∧ LIn w B x ∧ x.near ∧ w.rangeAt b (o + k * 25) (Lt.row x) := by
 obtain ⟨b, o, x, hA, hb, hx, hc⟩ := reads_at Lt.row Lt.row_len (by omega) h.rd hk
 exact ⟨b, o, x, hA, hb, hx, (h.mem x (List.mem_of_getElem? hx)).1, (h.mem x (List.mem_of_getElem? hx)).2, hc⟩
noncomputable def encX (x : LV) : List Nat := encB x.l.kd.toNat (bodyB x.l (partsI x.l.kd.toNat) (partB x))
structure Nv.ok (n : Nv) (M : Int) : Prop where
 last : 0 ≤ n.last ∧ n.last ≤ M
 len : (n.l.length : Int) ≤ M
 a : 0 ≤ n.b.a ∧ n.b.a ≤ M
 b : 0 ≤ n.b.b ∧ n.b.b ≤ M
 c : 0 ≤ n.b.c ∧ n.b.c ≤ M
 d : 0 ≤ n.b.d ∧ n.b.d ≤ M
theorem Nv.ok.small {n : Nv} {M : Int} (h : n.ok M) (hM : M ≤ 1000000) : n.b.small := by
 have h1 := h.a
 have h2 := h.b
 have h3 := h.c
 have h4 := h.d
 exact ⟨by omega, by omega, by omega, by omega⟩
section
variable {W W' : World} {lo g cd gt bg bd : Nat} {v v' : Value} {s s' : NBg} {n n' : Nv} {m m' : Int}
theorem NetAt.room (h : NetAt W lo g cd gt bg bd v s n m) (hf : ¬ n.most ≤ n.l.length) (x : Sv) : s.put x = ⟨s.most, s.last + 1, s.l ++ [(s.last + 1, x)]⟩ ∧ s.putE = 0 := by
 have h1 := h.most
 have h2 := h.len
 exact ⟨by rw [NBg.put, if_neg (by omega)], by rw [NBg.putE, if_neg (by omega)]⟩
theorem NetAt.put (h : NetAt W lo g cd gt bg bd v s n m) (hf : ¬ n.most ≤ n.l.length) {x : Sv} {f : List Nat} (ho : W.ownsRow lo 5 1 (.slice x.A x.n x.c) x.n ((bI f).map (Value.int .u8))) (hb : isBs f) (hs : NBStep W W' bg v v') (ha : NBagAt W' bg v' (s.put x)) :
  NetAt W' lo g cd gt bg bd v' (s.put x) { n with last := n.last + 1, l := n.l ++ [(n.last + 1, f)] } m := by
 have hv := (h.room hf x).1
 have hl := h.len
 refine h.bagged hs ha rfl (by rw [hv]; exact h.most) (by rw [hv]; show s.last + 1 = n.last + 1; rw [h.last]) ?_ ?_
 ·rw [hv]
  show (s.l ++ [(s.last + 1, x)]).map Prod.fst = (n.l ++ [(n.last + 1, f)]).map Prod.fst
  rw [List.map_append, List.map_append, h.no, h.last]; rfl
 ·intro k p q hp hq
  rw [hv] at hp
  have hp : (s.l ++ [(s.last + 1, x)])[k]? = some p := hp
  have hq : (n.l ++ [(n.last + 1, f)])[k]? = some q := hq
  by_cases hk : k < s.l.length
  ·rw [List.getElem?_append_left hk] at hp
   rw [List.getElem?_append_left (by omega)] at hq
   exact h.byt k p q hp hq
  ·have hk2 : k = s.l.length := by
    have := (List.getElem?_eq_some_iff.1 hp).1
    simp only [List.length_append, List.length_singleton] at this
    omega
   subst hk2
   rw [List.getElem?_append_right (Nat.le_refl _)] at hp
   rw [List.getElem?_append_right (by omega)] at hq
   rw [hl] at hq
   simp only [Nat.sub_self, List.getElem?_cons_zero, Option.some.injEq] at hp hq
   subst hp; subst hq
   exact ⟨ho, hb⟩
end
end Go.Proofs.YtmpedblelnpjdaaGreatDoor

end
