/- Small lemmas on worlds that have grown: what is below is as it was. -/
import Derived.Test.YtinghnaigpenkaaMem
import Derived.WideShapes
import Derived.Deep.DeepMust
import Derived.ProofKit
set_option linter.unusedVariables false
namespace Go.Proofs.Ytinghnaigpenkaa
open Go.RowKit

theorem key_of {wr W1 w2 : World} {g : Nat} (hg : W1.grownBy w2 (some g)) (hb : Below wr.heap.size wr W1) (p : Addr) (hp : p.block < wr.heap.size) (hne : p.block ≠ g) : w2.cell? p = wr.cell? p :=
  (World.cell?_of_block (hg.block p.block (Nat.lt_of_lt_of_le hp hb.size) (fun e => hne (by injection e)))).trans (hb.cell hp)
theorem below_of {B g : Nat} {w wr W1 w2 : World} (h1 : Below B w wr) (hB : B ≤ wr.heap.size) (hg : W1.grownBy w2 (some g)) (hgB : B ≤ g) (hb : Below wr.heap.size wr W1) : Below B w w2 :=
  (h1.trans (hb.mono hB)).grown hg (Nat.le_trans hB hb.size) (fun k hk => by injection hk with hk; omega)
theorem below_step {B : Nat} {w wr w2 : World} (h1 : Below B w wr) (hB : B ≤ wr.heap.size) (hb : Below wr.heap.size wr w2) : Below B w w2 := h1.trans (hb.mono hB)

theorem reads_far {W w3 : World} {B size n g : Nat} {A : Option Addr} {xs : List Value} (h : Reads W B size A n xs) (hB : B ≤ W.heap.size) (hg : W.grownBy w3 (some g)) (ha : ∀ ad, A = some ad → ad.block ≠ g) : Reads w3 B size A n xs := by
  refine ⟨h.1, fun hn => ?_⟩
  obtain ⟨ad, hA, hb, hc⟩ := h.2 hn
  have := ha ad hA
  refine ⟨ad, hA, hb, fun j u hu => ?_⟩
  exact (World.cell?_of_block (hg.block _ (by rw [block_of_add]; omega) (by rw [block_of_add]; intro e; injection e; omega))).trans (hc j u hu)
theorem frozen_far {W w3 : World} {g : Nat} (hg : W.grownBy w3 (some g)) {p : Addr} (hp : p.block < W.heap.size) (hne : p.block ≠ g) (h : W.frozen? p = false) : w3.frozen? p = false :=
  (World.frozen?_of_block (hg.block p.block hp (by intro e; injection e; omega))).trans h
theorem cell_relay {w W w' : World} {p : Addr} {v : Value} (h : w.cell? p = some v) (hp : p.block < w.heap.size) (h' : Below W.heap.size W w') (hb : Below w.heap.size w W) : w'.cell? p = some v :=
  ((hb.trans (h'.mono hb.size)).cell hp).trans h
theorem relay {w W w' : World} (h' : Below W.heap.size W w') (hb : Below w.heap.size w W) : Below w.heap.size w w' := hb.trans (h'.mono hb.size)
theorem Reads.relay {w W w' : World} {B size n : Nat} {A : Option Addr} {xs : List Value} (h : Reads w B size A n xs) (hB : B < w.heap.size) (h' : Below W.heap.size W w') (hb : Below w.heap.size w W) : Reads w' B size A n xs :=
  h.below ((hb.trans (h'.mono hb.size)).mono (Nat.le_of_lt hB))
theorem below_relay {w0 w W w' : World} {B : Nat} (h : Below B w0 w) (hB : B < w.heap.size) (h' : Below W.heap.size W w') (hb : Below w.heap.size w W) : Below B w0 w' :=
  h.trans ((hb.trans (h'.mono hb.size)).mono (Nat.le_of_lt hB))
theorem own_drewN {w : World} {base : Nat} {e : TypeId} {size : Nat} {v : Value} {n : Nat} {xs : List Value} (h : w.ownsRow base e size v n xs) (k : Nat) : (w.drewN k).ownsRow base e size v n xs := h
theorem cells_new (w : World) (cs : Array Value) (t : TypeId) (j : Nat) (u : Value) (h : cs.toList[j]? = some u) : (w.alloc (.cells cs t)).cell? ((⟨w.heap.size, 0, none⟩ : Addr).add j) = some u := by
  rw [Go.WideShapes.add_plain, (Blk.new w t cs).cell, Nat.zero_add]
  simpa using h

theorem cells_new_at (w : World) (cs : Array Value) (t : TypeId) (b : Nat) (hb : b = w.heap.size) (j : Nat) (u : Value) (h : cs.toList[j]? = some u) : (w.alloc (.cells cs t)).cell? ((⟨b, 0, none⟩ : Addr).add j) = some u := by
  subst hb; exact cells_new w cs t j u h

/-- a list of structs, flat -/
theorem flat_length {α : Type} (f : α → List Value) (s : Nat) (hf : ∀ a, (f a).length = s) (l : List α) : (l.flatMap f).length = l.length * s := by
  induction l with
  | nil => simp
  | cons a l ih => rw [List.flatMap_cons, List.length_append, hf, ih, List.length_cons, Nat.add_mul]; omega
theorem flat_get {α : Type} (f : α → List Value) (s : Nat) (hf : ∀ a, (f a).length = s) (l : List α) (k j : Nat) (a : α) (u : Value) (hk : l[k]? = some a) (hj : (f a)[j]? = some u) :
    (l.flatMap f)[k * s + j]? = some u := by
  induction l generalizing k with
  | nil => simp at hk
  | cons b l ih =>
    have hjl : j < s := by
      have := (List.getElem?_eq_some_iff.1 hj).1
      rwa [hf] at this
    rw [List.flatMap_cons]
    cases k with
    | zero =>
      simp only [List.getElem?_cons_zero, Option.some.injEq] at hk
      subst hk
      rw [Nat.zero_mul, Nat.zero_add, List.getElem?_append_left (by rw [hf]; exact hjl)]
      exact hj
    | succ k =>
      rw [List.getElem?_cons_succ] at hk
      rw [List.getElem?_append_right (by rw [hf, Nat.add_mul]; omega), hf, show (k + 1) * s + j - s = k * s + j from by rw [Nat.add_mul]; omega]
      exact ih k hk
theorem reads_at {α : Type} {w : World} {B s n : Nat} {A : Option Addr} (f : α → List Value) (hf : ∀ a, (f a).length = s) (hs : 0 < s) {l : List α} (h : Reads w B s A n (l.flatMap f)) {k : Nat} (hk : k < n) :
    ∃ b off a, A = some ⟨b, off, none⟩ ∧ b < B ∧ l[k]? = some a ∧ ∀ j u, (f a)[j]? = some u → w.cell? ⟨b, off + k * s + j, none⟩ = some u := by
  have hl : l.length = n := by
    have h1 := h.1
    rw [flat_length f s hf] at h1
    exact Nat.eq_of_mul_eq_mul_right hs h1
  obtain ⟨ad, hA, hb, hc⟩ := h.2 (by omega)
  have hk' : k < l.length := by omega
  obtain ⟨b, off, spot⟩ := ad
  have h0 : spot = none := by
    have hlt : 0 < l.length := by omega
    have h00 : (f l[0])[0]? = some ((f l[0])[0]'(by rw [hf]; exact hs)) := List.getElem?_eq_getElem (by rw [hf]; exact hs)
    have := hc (0 * s + 0) _ (flat_get f s hf l 0 0 _ _ (List.getElem?_eq_getElem hlt) h00)
    have := World.cell?_spot this
    simpa [Addr.add] using this
  subst h0
  refine ⟨b, off, l[k], hA, hb, List.getElem?_eq_getElem hk', fun j u hj => ?_⟩
  have := hc _ _ (flat_get f s hf l k j _ _ (List.getElem?_eq_getElem hk') hj)
  rw [Go.WideShapes.add_plain] at this
  rw [Nat.add_assoc]
  exact this
theorem flat_len {α : Type} {w : World} {B s n : Nat} {A : Option Addr} (f : α → List Value) (hf : ∀ a, (f a).length = s) (hs : 0 < s) {l : List α} (h : Reads w B s A n (l.flatMap f)) : l.length = n := by
  have h1 := h.1
  rw [flat_length f s hf] at h1
  exact Nat.eq_of_mul_eq_mul_right hs h1
theorem flat_take {α : Type} (f : α → List Value) (s : Nat) (hf : ∀ a, (f a).length = s) (l : List α) (k : Nat) : (l.flatMap f).take (k * s) = (l.take k).flatMap f := by
  induction l generalizing k with
  | nil => simp
  | cons a l ih =>
    cases k with
    | zero => simp
    | succ k =>
      rw [List.take_succ_cons, List.flatMap_cons, List.flatMap_cons, List.take_append, hf, show (k + 1) * s - s = k * s from by rw [Nat.add_mul]; omega, ih, List.take_of_length_le (by rw [hf, Nat.add_mul]; omega)]
theorem flat_drop {α : Type} (f : α → List Value) (s : Nat) (hf : ∀ a, (f a).length = s) (l : List α) (k : Nat) : (l.flatMap f).drop (k * s) = (l.drop k).flatMap f := by
  induction l generalizing k with
  | nil => simp
  | cons a l ih =>
    cases k with
    | zero => simp
    | succ k =>
      rw [List.drop_succ_cons, List.flatMap_cons, List.drop_append, hf, show (k + 1) * s - s = k * s from by rw [Nat.add_mul]; omega, ih, List.drop_of_length_le (by rw [hf, Nat.add_mul]; omega)]
      simp

end Go.Proofs.Ytinghnaigpenkaa
