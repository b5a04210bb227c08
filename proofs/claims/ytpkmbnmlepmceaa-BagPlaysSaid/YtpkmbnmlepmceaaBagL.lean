/- The reference's bag as a struct: Has, At, Upto; the program's Set. -/
import Derived.Test.YtpkmbnmlepmceaaBagI

namespace Go.Proofs.Ytpkmbnmlepmceaa
open Go.RowKit
set_option linter.unusedSimpArgs false
set_option linter.unusedVariables false
set_option maxHeartbeats 2000000
set_option maxRecDepth 100000

def Bg.set (s : Bg) (i : Int) (x : Int) : Bg := if s.has i then ⟨s.most, s.last, s.l.set i.toNat ((s.l.getD i.toNat (0, 0)).1, x)⟩ else s
theorem set_row (l : List (Int × Int)) (k : Nat) (x : Int) (h : k < l.length) : (l.set k ((l.getD k (0, 0)).1, x)).flatMap itc = (l.flatMap itc).set (k * 2 + 1) (.int .i64 x) := by
  induction l generalizing k with
  | nil => simp at h
  | cons a l ih =>
    cases k with
    | zero => simp [itc]
    | succ k =>
      have := ih k (by simpa using h)
      simp only [List.set_cons_succ, List.flatMap_cons, List.getD_cons_succ]
      rw [this, show (k + 1) * 2 + 1 = (k * 2 + 1) + 2 from by omega]
      simp [itc]
theorem own_set {w : World} {base sz n : Nat} {t : TypeId} {g cap : Nat} {xs : List Value} (h : w.ownsRow base t sz (.slice (some ⟨g, 0, none⟩) n cap) n xs) (o : Nat) (x : Value) (ho : o < xs.length) : (w.setCell ⟨g, o, none⟩ x).ownsRow base t sz (.slice (some ⟨g, 0, none⟩) n cap) n (xs.set o x) := by
  refine ⟨by rw [List.length_set]; exact h.1, ?_⟩
  rcases h.2 with ⟨h1, _⟩ | ⟨g', cap', cur, h1, h2, h3, h4⟩
  · cases h1
  · cases h1
    have hb : Blk w g t cur := h3
    refine .inr ⟨g, cap, cur.setIfInBounds o x, rfl, h2, hb.set_ o x, h4.1, h4.2.1, by rw [Array.size_setIfInBounds]; exact h4.2.2.1, ?_⟩
    rw [Array.toList_setIfInBounds, List.take_set, h4.2.2.2]
theorem set_any (g : Nat) (v : Value) (s : Bg) (i x : Int) (w : World) (h : BagAt w g v s) :
    Calls Try.prog 22 #[.pointer (some ⟨g, 0, none⟩), .int .i64 i, .int .i64 x] w fun e w' => e = .returned (.bool (s.has i)) ∧ BagAt w' g v (s.set i x) ∧ BStep w w' g v v := by
  have HF := fun w => has_any g v s i w
  have H := Lib.hid h
  cases hh : s.has i
  · have hv : Hid (s.set i x = s) := Lib.hid (by rw [Bg.set, hh]; rfl)
    rw [hh] at HF
    rw [hv.out]
    clear h
    go_enter Try.func22, Try.ntmps22
    go_wp2_with (first | (go_at_call 26; refine (HF _ H.out).mono ?_; rintro e w' ⟨rfl, rfl⟩) | fail)
    go_ret
    exact ⟨rfl, H.out, BStep.refl _ _ _⟩
  · obtain ⟨h0, h1⟩ := (Bg.has_iff s i).1 hh
    obtain ⟨k, rfl⟩ := Int.eq_ofNat_of_zero_le h0
    rw [hh] at HF
    have hk : k < s.l.length := by omega
    have hv : Hid (s.set k x = ⟨s.most, s.last, s.l.set k ((s.l.getD k (0, 0)).1, x)⟩) := Lib.hid (by rw [Bg.set, if_pos hh, Int.toNat_natCast])
    rw [hv.out]
    have ho := h.2
    have hne : v.ownBlock ≠ some g := own_blk_ne h.2 h.1 (by decide)
    obtain ⟨c0, c1, c2⟩ := bag_cells h
    obtain ⟨hlen, hown⟩ := ho
    rcases hown with ⟨_, hz⟩ | ⟨r, cap, cur, rfl, h2, h3, h4⟩
    · omega
    have hne' : r ≠ g := fun e => hne (by simp [Value.ownBlock, e])
    have hbr : Blk w r 54 cur := h3
    obtain ⟨_, _, p, hA, _, hp, d0, d1⟩ := it_at (Reads.of_own h.2) (k := k) hk
    cases hA
    simp only [Nat.zero_add] at d0 d1
    have f1 := hbr.frozen (k * 2 + 1)
    have hfin : Hid (BagAt (w.setCell ⟨r, k * 2 + 1, none⟩ (.int .i64 x)) g (.slice (some ⟨r, 0, none⟩) s.l.length cap) ⟨s.most, s.last, s.l.set k ((s.l.getD k (0, 0)).1, x)⟩ ∧ BStep w (w.setCell ⟨r, k * 2 + 1, none⟩ (.int .i64 x)) g (.slice (some ⟨r, 0, none⟩) s.l.length cap) (.slice (some ⟨r, 0, none⟩) s.l.length cap)) := Lib.hid (by
      refine ⟨⟨h.1.far (fun e => hne' e.symm) _, ?_⟩, ⟨?_, fun q hq => .inl hq⟩⟩
      · have := own_set h.2 (k * 2 + 1) (.int .i64 x) (by rw [h.2.1]; omega)
        simp only [List.length_set]
        rwa [set_row s.l k x hk]
      · exact (Chg.of_grown (only_setCell (World.grownBy.refl w (some r)) (p := ⟨r, k * 2 + 1, none⟩) (.inl rfl) (.int .i64 x))).mono (fun q _ hq => .inr (show some r = some q from hq.symm)))
    have hkl : (k : Int) < s.l.length := by omega
    clear h hne hne' hbr h2 h3 h4 hlen hh h1 hp hv
    go_enter Try.func22, Try.ntmps22
    go_wp2_with (first | (go_at_call 26; refine (HF _ H.out).mono ?_; rintro e w' ⟨rfl, rfl⟩) | fail)
    go_ret
    exact ⟨rfl, hfin.out⟩
/-- the document's bag -/
structure RB where
  most : Int
  last : Int
  A : Option Addr
  cap : Nat
  l : List (Int × Int)
def RB.agg (x : RB) : Value := .agg #[.int .i64 x.most, .int .i64 x.last, .slice x.A x.l.length x.cap]
def RB.cells (x : RB) : Array Value := #[.int .i64 x.most, .int .i64 x.last, .slice x.A x.l.length x.cap]
def RB.bg (x : RB) : Bg := ⟨max x.most 0, x.last, x.l⟩
structure RBn (w : World) (x : RB) : Prop where
  rd : Reads w w.heap.size 2 x.A x.l.length (x.l.flatMap itc)
  hc : x.l.length ≤ x.cap
  hm : x.cap ≤ maxLen
theorem RBn.below {w w' : World} {x : RB} (h : RBn w x) (hb : Below w.heap.size w w') : RBn w' x := ⟨(h.rd.below hb).more hb.size, h.hc, h.hm⟩
theorem rb_cells {w : World} {g : Nat} {t : TypeId} {x : RB} (h : Blk w g t x.cells) : w.cell? ⟨g, 0, none⟩ = some (.int .i64 x.most) ∧ w.cell? ⟨g, 1, none⟩ = some (.int .i64 x.last) ∧ w.cell? ⟨g, 2, none⟩ = some (.slice x.A x.l.length x.cap) := by
  refine ⟨?_, ?_, ?_⟩ <;> (rw [h.cell]; rfl)
def RB.zero : RB := ⟨0, 0, none, 0, []⟩
attribute [local go_sem] RB.agg RB.cells RB.zero

theorem refHas_any (x : RB) (i : Int) (w : World) : Calls Try.prog 34 #[x.agg, .int .i64 i] w fun e w' => e = .returned (.bool (x.bg.has i)) ∧ w.alloc (.cells x.cells 45) = w' := by
  have hB : Hid (x.bg.has i = (decide (0 ≤ i) && decide (i < x.l.length))) := Lib.hid rfl
  rw [hB.out]
  by_cases h0 : 0 ≤ i
  · rw [decide_eq_true h0, Bool.true_and]
    go_enter Try.func34, Try.ntmps34
    go_wp2
    go_ret
    exact ⟨rfl, rfl⟩
  · rw [decide_eq_false h0, Bool.false_and]
    have h0' : decide (0 ≤ i) = false := decide_eq_false h0
    go_enter Try.func34, Try.ntmps34
    go_wp2
    go_ret
    exact ⟨rfl, rfl⟩
def RB.item (x : RB) (i : Int) : Int × Int := (x.bg.no i, (x.bg.at_ i).1)
def itAgg (p : Int × Int) : Value := .agg #[.int .i64 p.1, .int .i64 p.2]
theorem refAt_any (x : RB) (i : Int) (w : World) (h : RBn w x) : Calls Try.prog 31 #[x.agg, .int .i64 i] w fun e w' => e = .returned (.tuple #[itAgg (x.item i), .bool (x.bg.has i)]) ∧ Below w.heap.size w w' := by
  have H := Lib.hid h
  have HF := fun w => refHas_any x i w
  cases hh : x.bg.has i
  · have hv : Hid (x.item i = (0, 0)) := Lib.hid (by rw [RB.item, Bg.no, Bg.at_, hh]; rfl)
    rw [hv.out]
    rw [hh] at HF
    clear h
    go_enter Try.func31, Try.ntmps31
    go_wp2_with (first | (go_at_call 34; refine (HF _).mono ?_; rintro e w' ⟨rfl, rfl⟩) | fail)
    refine bodyPost_ret (v := .tuple #[itAgg (0, 0), .bool false]) (by simp [results, Try.results31, go_sem, itAgg]) rfl ⟨rfl, ?_⟩
    repeat (first | with_reducible exact Below.refl _ _ | with_reducible refine Below.setCell ?_ (by first | omega | (simp <;> omega)) _ | with_reducible refine Below.alloc ?_ (by first | omega | (simp <;> omega)) _ | with_reducible refine below_drewN ?_ _ | with_reducible refine Below.drew ?_)
  · obtain ⟨h0, h1⟩ := (Bg.has_iff _ i).1 hh
    obtain ⟨k, rfl⟩ := Int.eq_ofNat_of_zero_le h0
    have hk : k < x.l.length := by have : (k : Int) < x.l.length := h1; omega
    obtain ⟨b, off, p, hA, hb, hp, d0, d1⟩ := it_at h.rd hk
    have hv : Hid (x.item k = p) := Lib.hid (by rw [RB.item, Bg.no, Bg.at_, hh]; simp only [if_true, Int.toNat_natCast]; rw [List.getD_eq_getElem?_getD]; show (((x.l)[k]?.getD (0, 0)).1, ((x.l)[k]?.getD (0, 0)).2) = p; rw [hp]; rfl)
    rw [hv.out]
    rw [hh] at HF
    obtain ⟨xm, xl, xA, xc, ll⟩ := x
    simp only at hA
    subst hA
    simp only at hk
    have hkl : (k : Int) < ll.length := by omega
    have hb1 : b < w.heap.size + 1 := by omega
    have hb2 : b < w.heap.size + 1 + 1 := by omega
    clear h hh h1 hp h0
    go_enter Try.func31, Try.ntmps31
    go_wp2_with (first | (go_at_call 34; refine (HF _).mono ?_; rintro e w' ⟨rfl, rfl⟩) | fail)
    refine bodyPost_ret (v := .tuple #[itAgg p, .bool true]) (by simp [results, Try.results31, go_sem, itAgg]) rfl ⟨rfl, ?_⟩
    repeat (first | with_reducible exact Below.refl _ _ | with_reducible refine Below.setCell ?_ (by first | omega | (simp <;> omega)) _ | with_reducible refine Below.alloc ?_ (by first | omega | (simp <;> omega)) _ | with_reducible refine below_drewN ?_ _ | with_reducible refine Below.drew ?_)
theorem upto_snoc (l : List (Int × Int)) (k : Nat) (p : Int × Int) (no : Int) (h : l[k]? = some p) : ((l.take (k + 1)).filter fun q => decide (q.1 ≤ no)).length = ((l.take k).filter fun q => decide (q.1 ≤ no)).length + if p.1 ≤ no then 1 else 0 := by
  rw [List.take_add_one, h, List.filter_append, List.length_append]
  congr 1
  by_cases hp : p.1 ≤ no <;> simp [hp]
theorem refUpto_any (x : RB) (no : Int) (w : World) (h : RBn w x) : Calls Try.prog 36 #[x.agg, .int .i64 no] w fun e w' => e = .returned (.int .i64 (x.bg.upto no)) ∧ Below w.heap.size w w' := by
  have hU : Hid (x.bg.upto no = ((x.l.take x.l.length).filter fun q => decide (q.1 ≤ no)).length) := Lib.hid (by rw [List.take_length]; rfl)
  have hml : x.l.length ≤ 9223372036854775807 := Nat.le_trans h.hc h.hm
  obtain ⟨xm, xl, xA, xc, ll⟩ := x
  have H := Lib.hid h
  clear h
  simp only at hml hU
  rw [hU.out]
  go_enter Try.func36, Try.ntmps36
  go_wp2
  go_loopw [5, 6] (fun c i wr => ∃ (k q : Nat), k ≤ ll.length ∧ q ≤ k ∧ i = .int .i64 k ∧ c = .int .i64 q ∧ Hid (q = ((ll.take k).filter fun p => decide (p.1 ≤ no)).length) ∧ w.alloc (.cells (RB.cells ⟨xm, xl, xA, xc, ll⟩) 45) = wr) (fun _ i _ => ll.length - (intOf i).toNat)
  case atStart => exact ⟨0, 0, Nat.zero_le _, Nat.le_refl _, rfl, rfl, Lib.hid (by simp), rfl⟩
  case round =>
    obtain ⟨k, q, hk, hqk, rfl, rfl, hq, rfl⟩ := hrel
    by_cases hlt : k < ll.length
    · obtain ⟨b, off, p, hA, hb, hp, d0, d1⟩ := it_at H.out.rd hlt
      have hs := Lib.hid (upto_snoc ll k p no hp)
      simp only at hA
      subst hA
      have hkl : (k : Int) < ll.length := by omega
      have hbw : b < w.heap.size := hb
      clear hp hb
      by_cases hle : p.1 ≤ no
      · have hled : decide (p.1 ≤ no) = true := decide_eq_true hle
        go_wp2
        go_roundw
        case rel => exact ⟨k + 1, q + 1, by omega, by omega, by go_num, by go_num, Lib.hid (by rw [hs.out, if_pos hle, ← hq.out]), rfl⟩
        case measure => simp [intOf]; omega
      · have hled : decide (p.1 ≤ no) = false := decide_eq_false hle
        go_wp2
        go_roundw
        case rel => exact ⟨k + 1, q, by omega, by omega, by go_num, by first | rfl | go_num, Lib.hid (by rw [hs.out, if_neg hle, ← hq.out]; rfl), rfl⟩
        case measure => simp [intOf]; omega
    · obtain rfl : k = ll.length := by omega
      go_wp2
      go_ret
      exact ⟨by rw [hq.out]; rfl, (Below.refl _ _).alloc (Nat.le_refl _) _⟩
end Go.Proofs.Ytpkmbnmlepmceaa
