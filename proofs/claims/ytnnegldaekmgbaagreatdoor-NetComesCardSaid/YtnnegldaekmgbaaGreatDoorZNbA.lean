/- A bag of bytes: as data, in memory; New, has, Len, Last, At, No, Put. -/
import Derived.Test.YtnnegldaekmgbaaGreatDoorRows
import Derived.Shelf.Abstract
import Derived.Lib.SliceRun
import Derived.Deep.RegionLaw
import Derived.Test.YtnnegldaekmgbaaGreatDoorZGA
import Derived.Test.YtnnegldaekmgbaaGreatDoorZGA
import Derived.Test.YtnnegldaekmgbaaGreatDoorZGA
namespace Go.Proofs.YtnnegldaekmgbaaGreatDoor
open Go.RowKit
set_option linter.unusedSimpArgs false
set_option linter.unusedVariables false
set_option maxHeartbeats 2000000

structure Sv where
  A : Option Addr
  n : Nat
  c : Nat
def Sv.nil : Sv := ⟨none, 0, 0⟩
structure NBg where
  most : Int
  last : Int
  l : List (Int × Sv)
def nb_itc (p : Int × Sv) : List Value := [.int .i64 p.1, .slice p.2.A p.2.n p.2.c]
theorem nb_itc_len (p : Int × Sv) : (nb_itc p).length = 2 := rfl
theorem nb_itc_one (p : Int × Sv) : ∀ u ∈ nb_itc p, u.oneCell' = true := by
  intro u hu; simp [nb_itc] at hu; rcases hu with rfl | rfl <;> rfl
theorem nb_itInfo : (Tryz.prog.info? 232).map (fun i => (i.zero, i.size, i.bytes)) = some (some (.agg #[.int .i64 0, .slice none 0 0]), 2, 32) := by kernel_rfl
def NBagAt (w : World) (g : Nat) (v : Value) (s : NBg) : Prop := Blk w g 218 #[.int .i64 s.most, .int .i64 s.last, v] ∧ w.ownsRow (g + 1) 232 2 v s.l.length (s.l.flatMap nb_itc)
structure NBStep (w w' : World) (g : Nat) (v v' : Value) : Prop where
  chg : Chg w w' (fun k => k = g ∨ v.ownBlock = some k)
  row : ∀ k, v'.ownBlock = some k → v.ownBlock = some k ∨ w.heap.size ≤ k
section
variable {w w' w'' : World} {g : Nat} {v v' v'' : Value} {s : NBg}
theorem NBStep.refl (w : World) (g : Nat) (v : Value) : NBStep w w g v v := ⟨Chg.refl _ _, fun k h => .inl h⟩
theorem NBStep.trans (h : NBStep w w' g v v') (k : NBStep w' w'' g v' v'') : NBStep w w'' g v v'' :=
  ⟨h.chg.trans k.chg (fun i hi hs => by
    rcases hs with hs | hs
    · exact .inl hs
    · rcases h.row i hs with h1 | h1
      · exact .inr h1
      · omega), fun i hi => by
    rcases k.row i hi with h1 | h1
    · exact h.row i h1
    · exact .inr (Nat.le_trans h.chg.size h1)⟩
theorem NBStep.of_below (h : Below w.heap.size w w') (g : Nat) (v : Value) : NBStep w w' g v v := ⟨Chg.of_below h _, fun k h => .inl h⟩
theorem NBStep.below (h : NBStep w w' g v v') (ha : NBagAt w g v s) {B : Nat} (hB : B ≤ g) : Below B w w' :=
  h.chg.below (by have := ha.1.lt; omega) (fun k hk hs => by
    rcases hs with hs | hs
    · omega
    · have := (ha.2.lt k hs).1; omega)
theorem NBagAt.below (h : NBagAt w g v s) (hb : Below w.heap.size w w') : NBagAt w' g v s :=
  ⟨h.1.below hb h.1.lt, own_block_same h.2 (fun k hk => hb.block k (h.2.lt k hk).2)⟩
theorem NBagAt.form (h : NBagAt w g v s) : ∃ A c, v = .slice A s.l.length c ∧ Reads w w.heap.size 2 A s.l.length (s.l.flatMap nb_itc) ∧ s.l.length ≤ c ∧ c ≤ maxLen := own_slice h.2
theorem nb_bag_cells (h : NBagAt w g v s) : w.cell? ⟨g, 0, none⟩ = some (.int .i64 s.most) ∧ w.cell? ⟨g, 1, none⟩ = some (.int .i64 s.last) ∧ w.cell? ⟨g, 2, none⟩ = some v := ⟨h.1.cell 0, h.1.cell 1, h.1.cell 2⟩
end
theorem nb_it_at {w : World} {B n k : Nat} {A : Option Addr} {l : List (Int × Sv)} (h : Reads w B 2 A n (l.flatMap nb_itc)) (hk : k < n) :
    ∃ b off p, A = some ⟨b, off, none⟩ ∧ b < B ∧ l[k]? = some p ∧ w.cell? ⟨b, off + k * 2, none⟩ = some (.int .i64 p.1) ∧ w.cell? ⟨b, off + k * 2 + 1, none⟩ = some (.slice p.2.A p.2.n p.2.c) := by
  obtain ⟨b, off, p, hA, hb, hp, hc⟩ := reads_at nb_itc nb_itc_len (by omega) h hk
  exact ⟨b, off, p, hA, hb, hp, hc 0 _ rfl, hc 1 _ rfl⟩

theorem nb_new_any (m : Int) (w : World) : Calls Tryz.prog 72 #[.int .i64 m] w fun e w' => e = .returned (.pointer (some ⟨w.heap.size, 0, none⟩)) ∧ NBagAt w' w.heap.size (.slice none 0 0) ⟨max m 0, 0, []⟩ ∧ Below w.heap.size w w' := by
  have hmax : ∀ a : Int, (if a < 0 then (0 : Int) else a) = max a 0 := fun a => by omega
  go_enter Tryz.func72, Tryz.ntmps72
  go_wp2
  all_goals first | (generalize max m 0 = q) | skip
  go_ret
  exact ⟨rfl, ⟨Blk.new _ _ _, World.ownsRow_nil _ _ _ _⟩, (Below.refl _ _).alloc (Nat.le_refl _) _⟩

def NBg.has (s : NBg) (i : Int) : Bool := decide (0 ≤ i) && decide (i < s.l.length)
theorem nb_has_any (g : Nat) (v : Value) (s : NBg) (i : Int) (w : World) (h : NBagAt w g v s) :
    Calls Tryz.prog 137 #[.pointer (some ⟨g, 0, none⟩), .int .i64 i] w fun e w' => e = .returned (.bool (s.has i)) ∧ w = w' := by
  obtain ⟨A, c, rfl, _, _, _⟩ := h.form
  obtain ⟨c0, c1, c2⟩ := nb_bag_cells h
  clear h
  by_cases h0 : 0 ≤ i
  · have hv : Hid (decide (i < s.l.length) = s.has i) := Lib.hid (by simp [NBg.has, h0])
    go_enter Tryz.func137, Tryz.ntmps137
    go_wp2_with (fail)
    go_ret
    exact ⟨ret_bool hv.out, rfl⟩
  · have hv : Hid (false = s.has i) := Lib.hid (by simp [NBg.has, h0])
    have h0' : i < 0 := by omega
    clear h0
    go_enter Tryz.func137, Tryz.ntmps137
    go_wp2_with (fail)
    go_ret
    exact ⟨ret_bool hv.out, rfl⟩
theorem nb_len_any (g : Nat) (v : Value) (s : NBg) (w : World) (h : NBagAt w g v s) :
    Calls Tryz.prog 78 #[.pointer (some ⟨g, 0, none⟩)] w fun e w' => e = .returned (.int .i64 s.l.length) ∧ w = w' := by
  obtain ⟨A, c, rfl, _, _, _⟩ := h.form
  obtain ⟨c0, c1, c2⟩ := nb_bag_cells h
  clear h
  go_enter Tryz.func78, Tryz.ntmps78
  go_wp2_with (fail)
  go_ret
  exact ⟨rfl, rfl⟩
def NBg.at_ (s : NBg) (i : Int) : Sv × Bool := if s.has i then ((s.l.getD i.toNat (0, Sv.nil)).2, true) else (Sv.nil, false)
def NBg.no (s : NBg) (i : Int) : Int := if s.has i then (s.l.getD i.toNat (0, Sv.nil)).1 else 0
theorem NBg.has_iff (s : NBg) (i : Int) : s.has i = true ↔ 0 ≤ i ∧ i < s.l.length := by simp [NBg.has]
theorem nb_at_any (g : Nat) (v : Value) (s : NBg) (i : Int) (w : World) (h : NBagAt w g v s) :
    Calls Tryz.prog 79 #[.pointer (some ⟨g, 0, none⟩), .int .i64 i] w fun e w' => e = .returned (.tuple #[.slice (s.at_ i).1.A (s.at_ i).1.n (s.at_ i).1.c, .bool (s.at_ i).2]) ∧ w = w' := by
  have HF := fun w => nb_has_any g v s i w
  have H := Lib.hid h
  cases hh : s.has i
  · have hv : Hid (s.at_ i = (Sv.nil, false)) := Lib.hid (by rw [NBg.at_, hh]; rfl)
    rw [hv.out]
    rw [hh] at HF
    clear h
    go_enter Tryz.func79, Tryz.ntmps79
    go_wp2_with (first | (go_at_call 137; refine (HF _ H.out).mono ?_; rintro e w' ⟨rfl, rfl⟩) | fail)
    go_ret2
    exact ⟨rfl, rfl⟩
  · obtain ⟨h0, h1⟩ := (NBg.has_iff s i).1 hh
    obtain ⟨k, rfl⟩ := Int.eq_ofNat_of_zero_le h0
    rw [hh] at HF
    obtain ⟨A, c, rfl, hr, _, _⟩ := h.form
    obtain ⟨c0, c1, c2⟩ := nb_bag_cells h
    obtain ⟨b, off, p, rfl, _, hp, d0, d1⟩ := nb_it_at hr (k := k) (by omega)
    have hv : Hid (s.at_ k = (p.2, true)) := Lib.hid (by rw [NBg.at_, if_pos hh, Int.toNat_natCast, List.getD_eq_getElem?_getD, hp]; rfl)
    rw [hv.out]
    clear h hr hp hh
    go_enter Tryz.func79, Tryz.ntmps79
    go_wp2_with (first | (go_at_call 137; refine (HF _ H.out).mono ?_; rintro e w' ⟨rfl, rfl⟩) | fail)
    go_ret2
    exact ⟨rfl, rfl⟩
end Go.Proofs.YtnnegldaekmgbaaGreatDoor
