/- Contracts of package sess: client, fine, Get, Judge, Set, New. -/
import Derived.Test.YtcmaekkfeilclaaMem
import Derived.Test.YtcmaekkfeilclaaRows
namespace Go.Proofs.Ytcmaekkfeilclaa
open Go.RowKit
set_option linter.unusedSimpArgs false
set_option linter.unusedVariables false
set_option maxHeartbeats 1000000

def clientB (i : Int) : Bool := decide (1 ≤ i) && decide (i ≤ 6)
theorem clientB_iff (i : Int) : clientB i = true ↔ 1 ≤ i ∧ i ≤ 6 := by simp [clientB]
theorem clientB_no (i : Int) (h : ¬ (1 ≤ i ∧ i ≤ 6)) : clientB i = false := by
  cases hh : clientB i
  · rfl
  · exact absurd ((clientB_iff i).1 hh) h

theorem client_any (i : Int) (w : World) :
    Calls Try.prog 30 #[.int .i64 i] w fun e w' => e = .returned (.bool (clientB i)) ∧ w = w' := by
  unfold clientB
  by_cases h1 : 1 ≤ i
  all_goals by_cases h2 : i ≤ 6
  all_goals
    go_enter Try.func30, Try.ntmps30
    go_wp2
    go_ret
    exact ⟨by simp; omega, rfl⟩

/-- a row -/
structure Rw where
  c : Int
  n : Int
  s : Int
  k : Int
  v : Int
def Rw.zero : Rw := ⟨0, 0, 0, 0, 0⟩
def Rw.agg (r : Rw) : Value := .agg #[.int .i64 r.c, .int .u64 r.n, .int .u64 r.s, .int .i64 r.k, .int .u64 r.v]
def Rw.cells (r : Rw) : Array Value := #[.int .i64 r.c, .int .u64 r.n, .int .u64 r.s, .int .i64 r.k, .int .u64 r.v]
def Rw.fine (r : Rw) : Bool := clientB r.c && decide (1 ≤ r.n) && decide (1 ≤ r.s) && decide (0 ≤ r.k) && decide (r.k ≤ 255)

/-- block g is a table that holds the rows R -/
def Tab (w : World) (g : Nat) (R : Nat → Rw) : Prop :=
  ∃ cs, Blk w g 69 cs ∧ cs.size = 30 ∧ ∀ i, i < 6 → cs[i * 5]? = some (.int .i64 (R i).c) ∧ cs[i * 5 + 1]? = some (.int .u64 (R i).n) ∧ cs[i * 5 + 2]? = some (.int .u64 (R i).s) ∧
    cs[i * 5 + 3]? = some (.int .i64 (R i).k) ∧ cs[i * 5 + 4]? = some (.int .u64 (R i).v)
section
variable {w w' : World} {g : Nat} {R : Nat → Rw}
theorem Tab.lt (h : Tab w g R) : g < w.heap.size := by obtain ⟨cs, hb, _⟩ := h; exact hb.lt
theorem Tab.c (h : Tab w g R) {i : Nat} (hi : i < 6) : w.cell? ⟨g, i * 5, none⟩ = some (.int .i64 (R i).c) := by
  obtain ⟨cs, hb, _, hr⟩ := h; rw [hb.cell]; exact (hr i hi).1
theorem Tab.n (h : Tab w g R) {i : Nat} (hi : i < 6) : w.cell? ⟨g, i * 5 + 1, none⟩ = some (.int .u64 (R i).n) := by
  obtain ⟨cs, hb, _, hr⟩ := h; rw [hb.cell]; exact (hr i hi).2.1
theorem Tab.s (h : Tab w g R) {i : Nat} (hi : i < 6) : w.cell? ⟨g, i * 5 + 2, none⟩ = some (.int .u64 (R i).s) := by
  obtain ⟨cs, hb, _, hr⟩ := h; rw [hb.cell]; exact (hr i hi).2.2.1
theorem Tab.k (h : Tab w g R) {i : Nat} (hi : i < 6) : w.cell? ⟨g, i * 5 + 3, none⟩ = some (.int .i64 (R i).k) := by
  obtain ⟨cs, hb, _, hr⟩ := h; rw [hb.cell]; exact (hr i hi).2.2.2.1
theorem Tab.v (h : Tab w g R) {i : Nat} (hi : i < 6) : w.cell? ⟨g, i * 5 + 4, none⟩ = some (.int .u64 (R i).v) := by
  obtain ⟨cs, hb, _, hr⟩ := h; rw [hb.cell]; exact (hr i hi).2.2.2.2
theorem Tab.frozen (h : Tab w g R) (o : Nat) : w.frozen? ⟨g, o, none⟩ = false := by obtain ⟨cs, hb, _⟩ := h; exact hb.frozen o
theorem Tab.grown {row : Option Nat} (h : Tab w g R) (hb : w.grownBy w' row) (hg : some g ≠ row) : Tab w' g R := by
  obtain ⟨cs, h1, h2⟩ := h; exact ⟨cs, h1.grown hb hg, h2⟩
theorem Tab.below {B : Nat} (h : Tab w g R) (hb : Below B w w') (hg : g < B) : Tab w' g R := by
  obtain ⟨cs, h1, h2⟩ := h; exact ⟨cs, h1.below hb hg, h2⟩
theorem Tab.alloc (h : Tab w g R) (o : Obj) : Tab (w.alloc o) g R := by
  obtain ⟨cs, h1, h2⟩ := h; exact ⟨cs, h1.alloc o, h2⟩
theorem Tab.drewN (h : Tab w g R) (n : Nat) : Tab (w.drewN n) g R := by
  obtain ⟨cs, h1, h2⟩ := h; exact ⟨cs, h1.drewN n, h2⟩
theorem Tab.drew (h : Tab w g R) : Tab w.drew g R := by
  obtain ⟨cs, h1, h2⟩ := h; exact ⟨cs, h1.drew, h2⟩
def upd (R : Nat → Rw) (k : Nat) (r : Rw) : Nat → Rw := fun i => if i = k then r else R i
theorem Tab.set (h : Tab w g R) (k : Nat) (hk : k < 6) (r : Rw) :
    Tab (((((w.setCell ⟨g, k * 5, none⟩ (.int .i64 r.c)).setCell ⟨g, k * 5 + 1, none⟩ (.int .u64 r.n)).setCell ⟨g, k * 5 + 2, none⟩ (.int .u64 r.s)).setCell ⟨g, k * 5 + 3, none⟩ (.int .i64 r.k)).setCell ⟨g, k * 5 + 4, none⟩ (.int .u64 r.v)) g (upd R k r) := by
  obtain ⟨cs, hb, hs, hr⟩ := h
  refine ⟨_, ((((hb.set_ _ _).set_ _ _).set_ _ _).set_ _ _).set_ _ _, by simp [hs], fun i hi => ?_⟩
  have hr := hr i hi
  by_cases e : i = k
  · subst e
    simp only [upd, if_true]
    refine ⟨?_, ?_, ?_, ?_, ?_⟩ <;> simp [Array.getElem?_setIfInBounds, hs] <;> omega
  · simp only [upd, if_neg e]
    refine ⟨?_, ?_, ?_, ?_, ?_⟩ <;> rw [Array.getElem?_setIfInBounds_ne (by omega), Array.getElem?_setIfInBounds_ne (by omega), Array.getElem?_setIfInBounds_ne (by omega), Array.getElem?_setIfInBounds_ne (by omega), Array.getElem?_setIfInBounds_ne (by omega)] <;> simp only [hr]
end

theorem fine_any (r : Rw) (w : World) : Calls Try.prog 31 #[r.agg] w fun e w' => e = .returned (.bool r.fine) ∧ w.alloc (.cells r.cells 28) = w' := by
  unfold Rw.agg Rw.fine Rw.cells
  cases h1 : clientB r.c
  · go_enter Try.func31, Try.ntmps31
    go_wp2_with (go_at_call 30; refine (client_any _ _).mono ?_; rintro e w' ⟨rfl, rfl⟩)
    go_ret
    exact ⟨ret_bool (by simp), rfl⟩
  cases h2 : decide (1 ≤ r.n)
  · go_enter Try.func31, Try.ntmps31
    go_wp2_with (go_at_call 30; refine (client_any _ _).mono ?_; rintro e w' ⟨rfl, rfl⟩)
    go_ret
    exact ⟨ret_bool (by simp), rfl⟩
  cases h3 : decide (1 ≤ r.s)
  · go_enter Try.func31, Try.ntmps31
    go_wp2_with (go_at_call 30; refine (client_any _ _).mono ?_; rintro e w' ⟨rfl, rfl⟩)
    go_ret
    exact ⟨ret_bool (by simp), rfl⟩
  cases h4 : decide (0 ≤ r.k)
  · go_enter Try.func31, Try.ntmps31
    go_wp2_with (go_at_call 30; refine (client_any _ _).mono ?_; rintro e w' ⟨rfl, rfl⟩)
    go_ret
    exact ⟨ret_bool (by simp), rfl⟩
  go_enter Try.func31, Try.ntmps31
  go_wp2_with (go_at_call 30; refine (client_any _ _).mono ?_; rintro e w' ⟨rfl, rfl⟩)
  go_ret
  exact ⟨ret_bool (by simp), rfl⟩

def rowOf (who : Int) : Nat := (who - 1).toNat
def judgeV (R : Nat → Rw) (who num : Int) : Int :=
  if clientB who = true ∧ num ≠ 0 then (if (R (rowOf who)).n < num then 0 else if num = (R (rowOf who)).n then 1 else 2) else 2

theorem judge_any (g : Nat) (R : Nat → Rw) (who num : Int) (w : World) (h : Tab w g R) :
    Calls Try.prog 9 #[.pointer (some ⟨g, 0, none⟩), .int .i64 who, .int .u64 num] w fun e w' => e = .returned (.int .i64 (judgeV R who num)) ∧ w = w' := by
  have H := Lib.hid h
  have hg := h.lt
  clear h
  by_cases hc : 1 ≤ who ∧ who ≤ 6
  · obtain ⟨k, rfl⟩ : ∃ k : Nat, who = (k : Int) + 1 := ⟨(who - 1).toNat, by omega⟩
    have hm := (clientB_iff ((k : Int) + 1)).2 hc
    have hk : k < 6 := by omega
    have cn := H.out.n hk
    have he : Hid (rowOf ((k : Int) + 1) = k) := Lib.hid (by unfold rowOf; omega)
    by_cases h0 : num = 0
    · subst h0
      go_enter Try.func9, Try.ntmps9
      go_wp2_with (go_at_call 30; refine (client_any _ _).mono ?_; rintro e w' ⟨rfl, rfl⟩)
      go_ret
      exact ⟨ret_int (by rw [judgeV, if_neg (by simp)]), rfl⟩
    · have h0' : (num == 0) = false := by simp [h0]
      have H0 := Lib.hid h0
      clear h0
      by_cases h1 : (R k).n < num
      · go_enter Try.func9, Try.ntmps9
        go_wp2_with (go_at_call 30; refine (client_any _ _).mono ?_; rintro e w' ⟨rfl, rfl⟩)
        go_ret
        exact ⟨ret_int (by rw [judgeV, if_pos ⟨hm, H0.out⟩, he.out, if_pos h1]), rfl⟩
      · by_cases h2 : num = (R k).n
        · have h2' : (num == (R k).n) = true := by simp [h2]
          have H2 := Lib.hid h2
          clear h2
          go_enter Try.func9, Try.ntmps9
          go_wp2_with (go_at_call 30; refine (client_any _ _).mono ?_; rintro e w' ⟨rfl, rfl⟩)
          go_ret
          exact ⟨ret_int (by rw [judgeV, if_pos ⟨hm, H0.out⟩, he.out, if_neg (by omega), if_pos H2.out]), rfl⟩
        · have h2' : (num == (R k).n) = false := by simp [h2]
          have H2 := Lib.hid h2
          clear h2
          go_enter Try.func9, Try.ntmps9
          go_wp2_with (go_at_call 30; refine (client_any _ _).mono ?_; rintro e w' ⟨rfl, rfl⟩)
          go_ret
          exact ⟨ret_int (by rw [judgeV, if_pos ⟨hm, H0.out⟩, he.out, if_neg (by omega), if_neg H2.out]), rfl⟩
  · have hm := clientB_no who hc
    go_enter Try.func9, Try.ntmps9
    go_wp2_with (go_at_call 30; refine (client_any _ _).mono ?_; rintro e w' ⟨rfl, rfl⟩)
    go_ret
    exact ⟨ret_int (by rw [judgeV, if_neg (by simp [hm])]), rfl⟩

def getB (R : Nat → Rw) (who : Int) : Bool := clientB who && ((R (rowOf who)).n != 0)
def getR (R : Nat → Rw) (who : Int) : Rw := if getB R who then R (rowOf who) else Rw.zero

theorem sesGet_any (g : Nat) (R : Nat → Rw) (who : Int) (w : World) (h : Tab w g R) :
    Calls Try.prog 8 #[.pointer (some ⟨g, 0, none⟩), .int .i64 who] w fun e w' => e = .returned (.tuple #[(getR R who).agg, .bool (getB R who)]) ∧ w.alloc (.cells (getR R who).cells 28) = w' := by
  have H := Lib.hid h
  have hg := h.lt
  clear h
  by_cases hc : 1 ≤ who ∧ who ≤ 6
  · obtain ⟨k, rfl⟩ : ∃ k : Nat, who = (k : Int) + 1 := ⟨(who - 1).toNat, by omega⟩
    have hm := (clientB_iff ((k : Int) + 1)).2 hc
    have hk : k < 6 := by omega
    have c0 := H.out.c hk
    have c1 := H.out.n hk
    have c2 := H.out.s hk
    have c3 := H.out.k hk
    have c4 := H.out.v hk
    have he : Hid (rowOf ((k : Int) + 1) = k) := Lib.hid (by unfold rowOf; omega)
    cases hn : ((R k).n == 0)
    · have h1 : Hid (getB R ((k : Int) + 1) = true) := Lib.hid (by rw [getB, hm, he.out, bne, hn]; rfl)
      have h2 : Hid (getR R ((k : Int) + 1) = R k) := Lib.hid (by rw [getR, h1.out, if_pos rfl, he.out])
      rw [h1.out, h2.out]
      unfold Rw.agg Rw.cells
      go_enter Try.func8, Try.ntmps8
      go_wp2_with (go_at_call 30; refine (client_any _ _).mono ?_; rintro e w' ⟨rfl, rfl⟩)
      exact bodyPost_ret (v := .tuple #[(R k).agg, .bool true]) (by simp [results, Try.results8, go_sem, Rw.agg]) rfl ⟨rfl, rfl⟩
    · have h1 : Hid (getB R ((k : Int) + 1) = false) := Lib.hid (by rw [getB, hm, he.out, bne, hn]; rfl)
      have h2 : Hid (getR R ((k : Int) + 1) = Rw.zero) := Lib.hid (by rw [getR, h1.out]; rfl)
      rw [h1.out, h2.out]
      unfold Rw.agg Rw.cells
      go_enter Try.func8, Try.ntmps8
      go_wp2_with (go_at_call 30; refine (client_any _ _).mono ?_; rintro e w' ⟨rfl, rfl⟩)
      exact bodyPost_ret (v := .tuple #[Rw.zero.agg, .bool false]) (by simp [results, Try.results8, go_sem, Rw.agg, Rw.zero]) rfl ⟨rfl, rfl⟩
  · have hm := clientB_no who hc
    have h1 : Hid (getB R who = false) := Lib.hid (by rw [getB, hm]; rfl)
    have h2 : Hid (getR R who = Rw.zero) := Lib.hid (by rw [getR, h1.out]; rfl)
    rw [h1.out, h2.out]
    unfold Rw.agg Rw.cells
    go_enter Try.func8, Try.ntmps8
    go_wp2_with (go_at_call 30; refine (client_any _ _).mono ?_; rintro e w' ⟨rfl, rfl⟩)
    exact bodyPost_ret (v := .tuple #[Rw.zero.agg, .bool false]) (by simp [results, Try.results8, go_sem, Rw.agg, Rw.zero]) rfl ⟨rfl, rfl⟩

end Go.Proofs.Ytcmaekkfeilclaa
