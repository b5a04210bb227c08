/- A bag: as data, in memory; New, has, Len, Last, At, No, Put. -/
import Derived.Test.YtpkmbnmlepmceaaRows
import Derived.Shelf.Abstract
import Derived.Lib.SliceRun
import Derived.Deep.RegionLaw
import Derived.Test.YtpkmbnmlepmceaaMemC
import Derived.Test.YtpkmbnmlepmceaaMemS
import Derived.Test.YtpkmbnmlepmceaaMemA
namespace Go.Proofs.Ytpkmbnmlepmceaa
open Go.RowKit
set_option linter.unusedSimpArgs false
set_option linter.unusedVariables false
set_option maxHeartbeats 2000000

structure Bg where
  most : Int
  last : Int
  l : List (Int × Int)
def itc (p : Int × Int) : List Value := [.int .i64 p.1, .int .i64 p.2]
theorem itc_len (p : Int × Int) : (itc p).length = 2 := rfl
theorem itc_one (p : Int × Int) : ∀ u ∈ itc p, u.oneCell' = true := by
  intro u hu; simp [itc] at hu; rcases hu with rfl | rfl <;> rfl
theorem itInfo : (Try.prog.info? 54).map (fun i => (i.zero, i.size, i.bytes)) = some (some (.agg #[.int .i64 0, .int .i64 0]), 2, 16) := by kernel_rfl
def BagAt (w : World) (g : Nat) (v : Value) (s : Bg) : Prop := Blk w g 52 #[.int .i64 s.most, .int .i64 s.last, v] ∧ w.ownsRow (g + 1) 54 2 v s.l.length (s.l.flatMap itc)
structure BStep (w w' : World) (g : Nat) (v v' : Value) : Prop where
  chg : Chg w w' (fun k => k = g ∨ v.ownBlock = some k)
  row : ∀ k, v'.ownBlock = some k → v.ownBlock = some k ∨ w.heap.size ≤ k
section
variable {w w' w'' : World} {g : Nat} {v v' v'' : Value} {s : Bg}
theorem BStep.refl (w : World) (g : Nat) (v : Value) : BStep w w g v v := ⟨Chg.refl _ _, fun k h => .inl h⟩
theorem BStep.trans (h : BStep w w' g v v') (k : BStep w' w'' g v' v'') : BStep w w'' g v v'' :=
  ⟨h.chg.trans k.chg (fun i hi hs => by
    rcases hs with hs | hs
    · exact .inl hs
    · rcases h.row i hs with h1 | h1
      · exact .inr h1
      · omega), fun i hi => by
    rcases k.row i hi with h1 | h1
    · exact h.row i h1
    · exact .inr (Nat.le_trans h.chg.size h1)⟩
theorem BStep.of_below (h : Below w.heap.size w w') (g : Nat) (v : Value) : BStep w w' g v v := ⟨Chg.of_below h _, fun k h => .inl h⟩
theorem BStep.below (h : BStep w w' g v v') (ha : BagAt w g v s) {B : Nat} (hB : B ≤ g) : Below B w w' :=
  h.chg.below (by have := ha.1.lt; omega) (fun k hk hs => by
    rcases hs with hs | hs
    · omega
    · have := (ha.2.lt k hs).1; omega)
theorem BagAt.below (h : BagAt w g v s) (hb : Below w.heap.size w w') : BagAt w' g v s :=
  ⟨h.1.below hb h.1.lt, own_block_same h.2 (fun k hk => hb.block k (h.2.lt k hk).2)⟩
theorem BagAt.form (h : BagAt w g v s) : ∃ A c, v = .slice A s.l.length c ∧ Reads w w.heap.size 2 A s.l.length (s.l.flatMap itc) ∧ s.l.length ≤ c ∧ c ≤ maxLen := own_slice h.2
theorem bag_cells (h : BagAt w g v s) : w.cell? ⟨g, 0, none⟩ = some (.int .i64 s.most) ∧ w.cell? ⟨g, 1, none⟩ = some (.int .i64 s.last) ∧ w.cell? ⟨g, 2, none⟩ = some v := ⟨h.1.cell 0, h.1.cell 1, h.1.cell 2⟩
end
theorem it_at {w : World} {B n k : Nat} {A : Option Addr} {l : List (Int × Int)} (h : Reads w B 2 A n (l.flatMap itc)) (hk : k < n) :
    ∃ b off p, A = some ⟨b, off, none⟩ ∧ b < B ∧ l[k]? = some p ∧ w.cell? ⟨b, off + k * 2, none⟩ = some (.int .i64 p.1) ∧ w.cell? ⟨b, off + k * 2 + 1, none⟩ = some (.int .i64 p.2) := by
  obtain ⟨b, off, p, hA, hb, hp, hc⟩ := reads_at itc itc_len (by omega) h hk
  exact ⟨b, off, p, hA, hb, hp, hc 0 _ rfl, hc 1 _ rfl⟩

theorem new_any (m : Int) (w : World) : Calls Try.prog 7 #[.int .i64 m] w fun e w' => e = .returned (.pointer (some ⟨w.heap.size, 0, none⟩)) ∧ BagAt w' w.heap.size (.slice none 0 0) ⟨max m 0, 0, []⟩ ∧ Below w.heap.size w w' := by
  have hmax : ∀ a : Int, (if a < 0 then (0 : Int) else a) = max a 0 := fun a => by omega
  go_enter Try.func7, Try.ntmps7
  go_wp2
  all_goals first | (generalize max m 0 = q) | skip
  go_ret
  exact ⟨rfl, ⟨Blk.new _ _ _, World.ownsRow_nil _ _ _ _⟩, (Below.refl _ _).alloc (Nat.le_refl _) _⟩

def Bg.has (s : Bg) (i : Int) : Bool := decide (0 ≤ i) && decide (i < s.l.length)
theorem has_any (g : Nat) (v : Value) (s : Bg) (i : Int) (w : World) (h : BagAt w g v s) :
    Calls Try.prog 26 #[.pointer (some ⟨g, 0, none⟩), .int .i64 i] w fun e w' => e = .returned (.bool (s.has i)) ∧ w = w' := by
  obtain ⟨A, c, rfl, _, _, _⟩ := h.form
  obtain ⟨c0, c1, c2⟩ := bag_cells h
  clear h
  by_cases h0 : 0 ≤ i
  · have hv : Hid (decide (i < s.l.length) = s.has i) := Lib.hid (by simp [Bg.has, h0])
    go_enter Try.func26, Try.ntmps26
    go_wp2_with (fail)
    go_ret
    exact ⟨ret_bool hv.out, rfl⟩
  · have hv : Hid (false = s.has i) := Lib.hid (by simp [Bg.has, h0])
    have h0' : i < 0 := by omega
    clear h0
    go_enter Try.func26, Try.ntmps26
    go_wp2_with (fail)
    go_ret
    exact ⟨ret_bool hv.out, rfl⟩
theorem len_any (g : Nat) (v : Value) (s : Bg) (w : World) (h : BagAt w g v s) :
    Calls Try.prog 11 #[.pointer (some ⟨g, 0, none⟩)] w fun e w' => e = .returned (.int .i64 s.l.length) ∧ w = w' := by
  obtain ⟨A, c, rfl, _, _, _⟩ := h.form
  obtain ⟨c0, c1, c2⟩ := bag_cells h
  clear h
  go_enter Try.func11, Try.ntmps11
  go_wp2_with (fail)
  go_ret
  exact ⟨rfl, rfl⟩
theorem last_any (g : Nat) (v : Value) (s : Bg) (w : World) (h : BagAt w g v s) :
    Calls Try.prog 12 #[.pointer (some ⟨g, 0, none⟩)] w fun e w' => e = .returned (.int .i64 s.last) ∧ w = w' := by
  obtain ⟨c0, c1, c2⟩ := bag_cells h
  clear h
  go_enter Try.func12, Try.ntmps12
  go_wp2_with (fail)
  go_ret
  exact ⟨rfl, rfl⟩
def Bg.at_ (s : Bg) (i : Int) : Int × Bool := if s.has i then ((s.l.getD i.toNat (0, 0)).2, true) else (0, false)
def Bg.no (s : Bg) (i : Int) : Int := if s.has i then (s.l.getD i.toNat (0, 0)).1 else 0
theorem Bg.has_iff (s : Bg) (i : Int) : s.has i = true ↔ 0 ≤ i ∧ i < s.l.length := by simp [Bg.has]
theorem at_any (g : Nat) (v : Value) (s : Bg) (i : Int) (w : World) (h : BagAt w g v s) :
    Calls Try.prog 21 #[.pointer (some ⟨g, 0, none⟩), .int .i64 i] w fun e w' => e = .returned (.tuple #[.int .i64 (s.at_ i).1, .bool (s.at_ i).2]) ∧ w = w' := by
  have HF := fun w => has_any g v s i w
  have H := Lib.hid h
  cases hh : s.has i
  · have hv : Hid (s.at_ i = (0, false)) := Lib.hid (by rw [Bg.at_, hh]; rfl)
    rw [hv.out]
    rw [hh] at HF
    clear h
    go_enter Try.func21, Try.ntmps21
    go_wp2_with (first | (go_at_call 26; refine (HF _ H.out).mono ?_; rintro e w' ⟨rfl, rfl⟩) | fail)
    go_ret2
    exact ⟨rfl, rfl⟩
  · obtain ⟨h0, h1⟩ := (Bg.has_iff s i).1 hh
    obtain ⟨k, rfl⟩ := Int.eq_ofNat_of_zero_le h0
    rw [hh] at HF
    obtain ⟨A, c, rfl, hr, _, _⟩ := h.form
    obtain ⟨c0, c1, c2⟩ := bag_cells h
    obtain ⟨b, off, p, rfl, _, hp, d0, d1⟩ := it_at hr (k := k) (by omega)
    have hv : Hid (s.at_ k = (p.2, true)) := Lib.hid (by rw [Bg.at_, if_pos hh, Int.toNat_natCast, List.getD_eq_getElem?_getD, hp]; rfl)
    rw [hv.out]
    clear h hr hp hh
    go_enter Try.func21, Try.ntmps21
    go_wp2_with (first | (go_at_call 26; refine (HF _ H.out).mono ?_; rintro e w' ⟨rfl, rfl⟩) | fail)
    go_ret2
    exact ⟨rfl, rfl⟩
theorem no_any (g : Nat) (v : Value) (s : Bg) (i : Int) (w : World) (h : BagAt w g v s) :
    Calls Try.prog 17 #[.pointer (some ⟨g, 0, none⟩), .int .i64 i] w fun e w' => e = .returned (.int .i64 (s.no i)) ∧ w = w' := by
  have HF := fun w => has_any g v s i w
  have H := Lib.hid h
  cases hh : s.has i
  · have hv : Hid (s.no i = 0) := Lib.hid (by rw [Bg.no, hh]; rfl)
    rw [hv.out]
    rw [hh] at HF
    clear h
    go_enter Try.func17, Try.ntmps17
    go_wp2_with (first | (go_at_call 26; refine (HF _ H.out).mono ?_; rintro e w' ⟨rfl, rfl⟩) | fail)
    go_ret
    exact ⟨rfl, rfl⟩
  · obtain ⟨h0, h1⟩ := (Bg.has_iff s i).1 hh
    obtain ⟨k, rfl⟩ := Int.eq_ofNat_of_zero_le h0
    rw [hh] at HF
    obtain ⟨A, c, rfl, hr, _, _⟩ := h.form
    obtain ⟨c0, c1, c2⟩ := bag_cells h
    obtain ⟨b, off, p, rfl, _, hp, d0, d1⟩ := it_at hr (k := k) (by omega)
    have hv : Hid (s.no k = p.1) := Lib.hid (by rw [Bg.no, if_pos hh, Int.toNat_natCast, List.getD_eq_getElem?_getD, hp]; rfl)
    rw [hv.out]
    clear h hr hp hh
    go_enter Try.func17, Try.ntmps17
    go_wp2_with (first | (go_at_call 26; refine (HF _ H.out).mono ?_; rintro e w' ⟨rfl, rfl⟩) | fail)
    go_ret
    exact ⟨rfl, rfl⟩
end Go.Proofs.Ytpkmbnmlepmceaa
