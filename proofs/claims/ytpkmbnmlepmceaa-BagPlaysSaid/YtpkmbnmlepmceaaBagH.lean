/- Twice; odd; Upto by a binary search. -/
import Derived.Test.YtpkmbnmlepmceaaBagE
namespace Go.Proofs.Ytpkmbnmlepmceaa
open Go.RowKit
set_option linter.unusedSimpArgs false
set_option linter.unusedVariables false
set_option maxHeartbeats 8000000
set_option maxRecDepth 100000

def Bg.twice (s : Bg) (i : Int) : Bg := if s.has i then s.put (s.l.getD i.toNat (0, 0)).2 else s
def Bg.twiceN (s : Bg) (i : Int) : Int := if s.has i then s.putN else 0
def Bg.twiceE (s : Bg) (i : Int) : Int := if s.has i then s.putE else 7
theorem twice_any (g : Nat) (v : Value) (s : Bg) (i : Int) (w : World) (h : BagAt w g v s) (hl : s.l.length ≤ 1000000) (h0 : 0 ≤ s.last) (h1 : s.last ≤ 1000000) :
    Calls Try.prog 14 #[.pointer (some ⟨g, 0, none⟩), .int .i64 i] w fun e w' => e = .returned (.tuple #[.int .i64 (s.twiceN i), .int .i64 (s.twiceE i)]) ∧ ∃ v', BagAt w' g v' (s.twice i) ∧ BStep w w' g v v' := by
  have HF := fun w => has_any g v s i w
  have H := Lib.hid h
  cases hh : s.has i
  · have hv : Hid (s.twice i = s ∧ s.twiceN i = 0 ∧ s.twiceE i = 7) := Lib.hid (by simp [Bg.twice, Bg.twiceN, Bg.twiceE, hh])
    rw [hv.out.1, hv.out.2.1, hv.out.2.2]
    rw [hh] at HF
    clear h
    go_enter Try.func14, Try.ntmps14
    go_wp2_with (first | (go_at_call 26; refine (HF _ H.out).mono ?_; rintro e w' ⟨rfl, rfl⟩) | fail)
    go_ret2
    exact ⟨rfl, _, H.out, BStep.refl _ _ _⟩
  · obtain ⟨g0, g1⟩ := (Bg.has_iff s i).1 hh
    obtain ⟨k, rfl⟩ := Int.eq_ofNat_of_zero_le g0
    rw [hh] at HF
    obtain ⟨A, c, rfl, hr, _, _⟩ := h.form
    obtain ⟨c0, c1, c2⟩ := bag_cells h
    obtain ⟨b, off, p, rfl, _, hp, d0, d1⟩ := it_at hr (k := k) (by omega)
    have hv : Hid (s.twice k = s.put p.2 ∧ s.twiceN k = s.putN ∧ s.twiceE k = s.putE) := Lib.hid (by
      refine ⟨?_, ?_, ?_⟩
      · rw [Bg.twice, if_pos hh, Int.toNat_natCast, List.getD_eq_getElem?_getD, hp]; rfl
      · rw [Bg.twiceN, if_pos hh]
      · rw [Bg.twiceE, if_pos hh])
    rw [hv.out.1, hv.out.2.1, hv.out.2.2]
    clear h hr hp hh
    go_enter Try.func14, Try.ntmps14
    go_wp2_with (first | (go_at_call 26; refine (HF _ H.out).mono ?_; rintro e w' ⟨rfl, rfl⟩) | fail)
    refine (put_any g _ s p.2 _ H.out hl h0 h1).mono ?_
    rintro e w1 ⟨rfl, v', hA, hS⟩
    go_wp2_with (fail)
    go_ret2
    exact ⟨rfl, _, hA, hS⟩

def oddB (x : Int) : Bool := Int.tmod x 2 != 0
theorem odd_any (no x : Int) (w : World) : Calls Try.prog 16 #[.int .i64 no, .int .i64 x] w fun e w' => e = .returned (.bool (oddB x)) ∧ w = w' := by
  go_enter Try.func16, Try.ntmps16
  go_wp2_with (fail)
  go_ret
  exact ⟨rfl, rfl⟩
theorem uptoF_any (a x no : Int) (w : World) (ha : 0 ≤ a) (ha1 : a ≤ 1000000) (hn : no ≤ 9223372036854775807) :
    Calls Try.prog 28 #[.agg #[.int .i64 a, .int .i64 x], .int .i64 no] w fun e w' => e = .returned (.int .i64 (a - max no 0)) ∧ Below w.heap.size w w' := by
  obtain ⟨m, hm⟩ : ∃ m : Int, m = max no 0 := ⟨_, rfl⟩
  have h1 : (if no < 0 then (0 : Int) else no) = m := by omega
  have h2 : max no 0 = m := hm.symm
  have h3 : IntKind.i64.wrap (a - m) = a - m := by rw [IntKind.wrap_i64]; omega
  clear hm
  rw [h2]
  go_enter Try.func28, Try.ntmps28
  go_wp2_with (fail)
  go_ret
  exact ⟨rfl, (Below.refl _ _).alloc (Nat.le_refl _) _⟩

/-- a bag's numbers rise -/
structure Srt (s : Bg) : Prop where
  up : s.l.Pairwise (fun p q => p.1 < q.1)
  lo : ∀ p ∈ s.l, 1 ≤ p.1 ∧ p.1 ≤ s.last
theorem Srt.lt {s : Bg} (h : Srt s) {i j : Nat} {p q : Int × Int} (hp : s.l[i]? = some p) (hq : s.l[j]? = some q) (hij : i < j) : p.1 < q.1 := by
  obtain ⟨h1, h2⟩ := List.getElem?_eq_some_iff.1 hp
  obtain ⟨h3, h4⟩ := List.getElem?_eq_some_iff.1 hq
  have := List.pairwise_iff_getElem.1 h.up i j h1 h3 hij
  rw [h2, h4] at this
  exact this
def BsP (s : Bg) (m : Int) (n : Nat) (w : World) (e : Ending) (w' : World) : Prop := ∃ (r : Nat) (b : Bool), e = .returned (.tuple #[.int .i64 r, .bool b]) ∧ r ≤ n ∧
  (∀ k p, s.l[k]? = some p → k < r → p.1 < m) ∧ (∀ k p, s.l[k]? = some p → r ≤ k → m ≤ p.1) ∧ (b = true ↔ ∃ p, s.l[r]? = some p ∧ p.1 = m) ∧ Below w.heap.size w w'
theorem bsearch_any (A : Option Addr) (n c B : Nat) (s : Bg) (no : Int) (w : World) (hr : Reads w B 2 A n (s.l.flatMap itc)) (hB : B ≤ w.heap.size) (hn : n ≤ 1000000) (hS : Srt s) (hlast : s.last ≤ 1000000) (hno : no ≤ 9223372036854775807) :
    Calls Try.prog 27 #[.slice A n c, .int .i64 no, .func (.func 28) #[] #[]] w fun e w' => BsP s (max no 0) n w e w' := by
  have HR := Lib.hid hr
  have HS := Lib.hid hS
  have hlen : Hid (s.l.length = n) := Lib.hid (flat_len itc itc_len (by omega) hr)
  have hn1 : (n : Int) ≤ 1000000 := by omega
  obtain ⟨m, hm⟩ : ∃ m : Int, m = max no 0 := ⟨_, rfl⟩
  have HM := Lib.hid hm
  rw [← hm]
  clear hr hS hm
  go_enter Try.func27, Try.ntmps27
  go_wp2_with (fail)
  go_loopw [9, 10, 11] (fun ia ja _ wr => ∃ (i j : Nat), i ≤ j ∧ j ≤ n ∧ ia = .int .i64 i ∧ ja = .int .i64 j ∧ Hid (∀ k p, s.l[k]? = some p → k < i → p.1 < m) ∧ Hid (∀ k p, s.l[k]? = some p → j ≤ k → m ≤ p.1) ∧ Hid (Below w.heap.size w wr)) (fun ia ja _ _ => (intOf ja).toNat - (intOf ia).toNat)
  case atStart => exact ⟨0, n, by omega, by omega, rfl, rfl, Lib.hid (fun k p _ h => absurd h (by omega)), Lib.hid (fun k p h1 h2 => by
    have := (List.getElem?_eq_some_iff.1 h1).1
    have := hlen.out
    omega), Lib.hid (Below.refl _ _)⟩
  case round =>
    obtain ⟨i, j, hij, hjn, rfl, rfl, H1, H2, HB⟩ := hrel
    by_cases hlt : i < j
    · have hlt' : (i : Int) < j := by omega
      obtain ⟨h, hh, hi1, hi2⟩ : ∃ h : Nat, h = (i + j) / 2 ∧ i ≤ h ∧ h < j := ⟨(i + j) / 2, rfl, by omega, by omega⟩
      obtain ⟨b, off, p, rfl, _, hp, d0, d1⟩ := it_at (HR.out.below (HB.out.mono hB)) (k := h) (by omega)
      have hh2 : ((i : Int) + j) / 2 = (h : Int) := by omega
      have HP := Lib.hid hp
      have hpl := HS.out.lo p (List.mem_of_getElem? hp)
      have U := fun w => uptoF_any p.1 p.2 no w (by omega) (by omega) hno
      rw [← HM.out] at U
      have hs := HB.out.size
      clear hh hp
      by_cases hpm : p.1 < m
      · have hpm' : p.1 - m < 0 := by omega
        have H1' : Hid (∀ k q, s.l[k]? = some q → k < h + 1 → q.1 < m) := Lib.hid (fun k q hk hkh => by
          by_cases e : k = h
          · subst e; rw [HP.out] at hk; injection hk with hk; subst hk; exact hpm
          · have := HS.out.lt hk HP.out (show k < h by omega); omega)
        clear hpm
        go_wp2_with (first | (go_at_call 28; refine (U _).mono ?_; rintro e w9 ⟨rfl, h'⟩; have HB9 := Lib.hid (HB.out.trans (h'.mono hs)); clear h') | fail)
        go_roundw
        case rel => exact ⟨h + 1, j, by omega, by omega, by go_num, rfl, H1', H2, HB9⟩
        case measure => simp [intOf]; omega
      · have hpm' : ¬ p.1 - m < 0 := by omega
        have H2' : Hid (∀ k q, s.l[k]? = some q → h ≤ k → m ≤ q.1) := Lib.hid (fun k q hk hkh => by
          by_cases e : k = h
          · subst e; rw [HP.out] at hk; injection hk with hk; subst hk; omega
          · have := HS.out.lt HP.out hk (show h < k by omega); omega)
        clear hpm
        go_wp2_with (first | (go_at_call 28; refine (U _).mono ?_; rintro e w9 ⟨rfl, h'⟩; have HB9 := Lib.hid (HB.out.trans (h'.mono hs)); clear h') | fail)
        go_roundw
        case rel => exact ⟨i, h, by omega, by omega, rfl, rfl, H1, H2', HB9⟩
        case measure => simp [intOf]; omega
    · obtain rfl : i = j := by omega
      clear hlt
      by_cases hin : i < n
      · obtain ⟨b, off, p, rfl, _, hp, d0, d1⟩ := it_at (HR.out.below (HB.out.mono hB)) (k := i) hin
        have hin' : (i : Int) < n := by omega
        have HP := Lib.hid hp
        have hpl := HS.out.lo p (List.mem_of_getElem? hp)
        have U := fun w => uptoF_any p.1 p.2 no w (by omega) (by omega) hno
        rw [← HM.out] at U
        have hs := HB.out.size
        clear hp
        go_wp2_with (first | (go_at_call 28; refine (U _).mono ?_; rintro e w9 ⟨rfl, h'⟩; have HB9 := Lib.hid (HB.out.trans (h'.mono hs)); clear h') | fail)
        go_ret2
        refine ⟨i, _, rfl, hjn, H1.out, H2.out, ?_, HB9.out⟩
        constructor
        · intro hb
          simp at hb
          exact ⟨p, HP.out, by omega⟩
        · rintro ⟨q, hq, he⟩
          rw [HP.out] at hq
          injection hq with hq
          subst hq
          simp; omega
      · have hin' : ¬ (i : Int) < n := by omega
        go_wp2_with (fail)
        go_ret2
        refine ⟨i, false, rfl, hjn, H1.out, H2.out, ?_, HB.out⟩
        constructor
        · intro h; cases h
        · rintro ⟨q, hq, _⟩
          have := (List.getElem?_eq_some_iff.1 hq).1
          have := hlen.out
          omega
/-- how many have a number, or a lesser one -/
def Bg.upto (s : Bg) (no : Int) : Nat := (s.l.filter fun p => decide (p.1 ≤ no)).length
theorem filter_split (l : List (Int × Int)) (no : Int) (r : Nat) (h1 : ∀ k p, l[k]? = some p → k < r → p.1 ≤ no) (h2 : ∀ k p, l[k]? = some p → r ≤ k → no < p.1) (hr : r ≤ l.length) : (l.filter fun p => decide (p.1 ≤ no)).length = r := by
  rw [show l = l.take r ++ l.drop r from (List.take_append_drop r l).symm, List.filter_append, List.length_append]
  have e1 : ((l.take r).filter fun p => decide (p.1 ≤ no)) = l.take r := by
    rw [List.filter_eq_self]
    intro p hp
    obtain ⟨k, hk⟩ := List.getElem?_of_mem hp
    have hkr : k < r := by
      have := (List.getElem?_eq_some_iff.1 hk).1
      rw [List.length_take] at this
      omega
    rw [List.getElem?_take_of_lt hkr] at hk
    simpa using h1 k p hk hkr
  have e2 : ((l.drop r).filter fun p => decide (p.1 ≤ no)) = [] := by
    rw [List.filter_eq_nil_iff]
    intro p hp
    obtain ⟨k, hk⟩ := List.getElem?_of_mem hp
    rw [List.getElem?_drop] at hk
    have := h2 _ p hk (by omega)
    simp; omega
  rw [e1, e2, List.length_take]
  simp; omega
theorem upto_any (g : Nat) (v : Value) (s : Bg) (no : Int) (w : World) (h : BagAt w g v s) (hn : s.l.length ≤ 1000000) (hS : Srt s) (hlast : s.last ≤ 1000000) (hno : no ≤ 9223372036854775807) :
    Calls Try.prog 18 #[.pointer (some ⟨g, 0, none⟩), .int .i64 no] w fun e w' => e = .returned (.int .i64 (s.upto no)) ∧ Below w.heap.size w w' := by
  obtain ⟨A, c, rfl, hr, _, _⟩ := h.form
  obtain ⟨c0, c1, c2⟩ := bag_cells h
  have HR := Lib.hid hr
  have HS := Lib.hid hS
  clear h hr hS
  go_enter Try.func18, Try.ntmps18
  go_wp2_with (fail)
  refine (bsearch_any A s.l.length c w.heap.size s no _ HR.out (Nat.le_refl _) hn HS.out hlast hno).mono ?_
  rintro e w1 ⟨r, b, rfl, hrn, h1, h2, hb, hbel⟩
  have HB := Lib.hid hbel
  have hrm : (r : Int) ≤ 1000000 := by omega
  cases b
  · have hv : Hid (s.upto no = r) := Lib.hid (filter_split s.l no r (fun k p hk hkr => by have := h1 k p hk hkr; have := HS.out.lo p (List.mem_of_getElem? hk); omega) (fun k p hk hkr => by
      have h3 := h2 k p hk hkr
      have h4 := HS.out.lo p (List.mem_of_getElem? hk)
      rcases Nat.lt_or_ge r k with hlt | hge
      · obtain ⟨q, hq⟩ : ∃ q, s.l[r]? = some q := ⟨_, List.getElem?_eq_getElem (by have := (List.getElem?_eq_some_iff.1 hk).1; omega)⟩
        have h5 := h2 r q hq (Nat.le_refl _)
        have h6 := HS.out.lt hq hk hlt
        omega
      · obtain rfl : k = r := by omega
        have h5 : p.1 ≠ max no 0 := fun e => by have := hb.2 ⟨p, hk, e⟩; cases this
        omega) hrn)
    clear h1 h2 hb hbel
    go_wp2_with (fail)
    go_ret
    exact ⟨ret_int (by rw [hv.out]), HB.out⟩
  · obtain ⟨q, hq, he⟩ := hb.1 rfl
    have hq1 := HS.out.lo q (List.mem_of_getElem? hq)
    have hr1 : r + 1 ≤ s.l.length := (List.getElem?_eq_some_iff.1 hq).1
    have hv : Hid (((s.upto no : Nat) : Int) = (r : Int) + 1) := Lib.hid (by
      have := filter_split s.l no (r + 1) (fun k p hk hkr => by
        rcases Nat.lt_or_ge k r with hlt | hge
        · have := h1 k p hk hlt; omega
        · obtain rfl : k = r := by omega
          rw [hq] at hk; injection hk with hk; subst hk; omega) (fun k p hk hkr => by
        have := HS.out.lt hq hk (by omega); omega) hr1
      have h' : s.upto no = r + 1 := this
      omega)
    clear h1 h2 hb hbel hq he
    go_wp2_with (fail)
    go_ret
    exact ⟨ret_int (by rw [hv.out]), HB.out⟩
end Go.Proofs.Ytpkmbnmlepmceaa
