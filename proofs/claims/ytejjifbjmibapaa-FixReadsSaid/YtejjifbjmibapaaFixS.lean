/- A slice of items that came in. -/
import Derived.Test.YtejjifbjmibapaaFixR
import Derived.Test.YtejjifbjmibapaaMemS
import Derived.Test.YtejjifbjmibapaaMemA
namespace Go.Proofs.Ytejjifbjmibapaa
open Go.ChangeShapes Go.WideShapes Go.RowKit Go.Deep
set_option linter.unusedSimpArgs false
set_option linter.unusedVariables false

theorem ints_trod {H : Type} {enc : TypeId × Value → H} {P : Program} {W : World} {t e : TypeId} {k : IntKind} {v : Value} {fuel : Nat} {x : DataW H × List MemPlace}
    (ht : P.underlying t = some (.slice e)) (he : P.underlying e = some (.int k)) (hC : P.cellsOf e = 1)
    (hf : DataW.trod enc P W 0 (fun _ => true) true fuel t [v] = some x) :
    ∃ (A : Option Addr) (len cap : Nat) (zs : List Int), v = .slice A len cap ∧ len ≤ cap ∧ cap ≤ maxLen ∧ zs.length = len ∧ Reads W W.heap.size 1 A len (zs.map (Value.int k)) ∧ ∀ n ∈ zs, (Lit.int k n).wf = true := by
  rcases open_ints ht he hC hf with ⟨hcs, _⟩ | ⟨x, l, c, zs, hcs, _, hl, hm, hz, hx, hcell, hwz⟩
  · simp at hcs
    subst hcs
    exact ⟨none, 0, 0, [], rfl, Nat.le_refl _, by decide, rfl, Reads.none_, by simp⟩
  · simp at hcs
    subst hcs
    have hz' : zs.length = c := by simpa using hz
    refine ⟨some x, l, c, zs.take l, rfl, hl, hm, by rw [List.length_take]; omega, ⟨by rw [List.length_map, List.length_take]; omega, fun hn => ⟨x, rfl, ?_, ?_⟩⟩, fun n hn => hwz n (List.mem_of_mem_take hn)⟩
    · have := World.block_lt_of_cell? W _ (hcell 0 (by omega))
      rwa [block_of_add] at this
    · intro j u hu
      rw [List.getElem?_map] at hu
      by_cases hj : j < l
      · rw [List.getElem?_take_of_lt hj, List.getElem?_eq_getElem (by omega)] at hu
        have hc := hcell j (by omega)
        rw [hc]
        simp only [Option.map_some, Option.some.injEq] at hu
        rw [← hu, List.getD_eq_getElem?_getD, List.getElem?_eq_getElem (by omega)]
        rfl
      · rw [List.getElem?_eq_none (by rw [List.length_take]; omega)] at hu
        simp at hu

def ItCells (w : World) (b o : Nat) (x : It) : Prop :=
  w.cell? ⟨b, o, none⟩ = some (.int .i64 x.kd) ∧ w.cell? ⟨b, o + 1, none⟩ = some (.int .u64 x.n) ∧ w.cell? ⟨b, o + 2, none⟩ = some (.int .i64 x.wd) ∧ w.cell? ⟨b, o + 3, none⟩ = some (.slice x.A x.len x.cap)
def It.wf (W : World) (x : It) : Prop := ItIn W W.heap.size x ∧ bytesB x.b ∧ (-9223372036854775808 ≤ x.wd ∧ x.wd ≤ 9223372036854775807)
def It.zero : It := ⟨0, 0, 0, none, 0, 0, []⟩
def RdIts (w : World) (B : Nat) (A : Option Addr) (n : Nat) (xs : Nat → It) : Prop :=
  0 < n → ∃ b off, A = some ⟨b, off, none⟩ ∧ b < B ∧ ∀ k, k < n → ItCells w b (off + k * 4) (xs k)
theorem ItCells.keep {w w' : World} {b o : Nat} {x : It} (h : ItCells w b o x) (hk : ∀ p : Addr, p.block = b → w'.cell? p = w.cell? p) : ItCells w' b o x := by
  unfold ItCells at *
  rw [hk _ rfl, hk _ rfl, hk _ rfl, hk _ rfl]
  exact h
theorem RdIts.below {w w' : World} {B : Nat} {A : Option Addr} {n : Nat} {xs : Nat → It} (h : RdIts w B A n xs) (hb : Below B w w') : RdIts w' B A n xs := fun hn => by
  obtain ⟨b, off, hA, hlt, hr⟩ := h hn
  exact ⟨b, off, hA, hlt, fun k hk => (hr k hk).keep fun p hp => hb.cell (by omega)⟩
theorem ItIn.below {w w' : World} {B : Nat} {x : It} (h : ItIn w B x) (hb : Below B w w') : ItIn w' B x := ⟨h.rd.below hb, h.hn, h.hc, h.hm⟩

theorem open_items {H : Type} {enc : TypeId × Value → H} {W : World} {base : Nat} {v : Value} {d : DataW H} {p : List MemPlace}
    (hv : Value.okWide Try.prog W .any base 22 v) (h : DataW.Trod enc Try.prog W 0 (fun _ => true) true 22 v d p) :
    ∃ (A : Option Addr) (len cap : Nat) (xs : Nat → It), v = .slice A len cap ∧ len ≤ cap ∧ cap ≤ maxLen ∧ RdIts W W.heap.size A len xs ∧ ∀ k, k < len → (xs k).wf W := by
  obtain ⟨a0, len0, cap0, rfl⟩ := okWide_slice Try.underlying22 hv
  obtain ⟨fuel, hf⟩ := h
  rcases open_slice_fields Try.underlying22 Try.underlying31 (by kernel_rfl) (by kernel_rfl) hf with ⟨hcs, _⟩ | ⟨a, len, cap, m, D, Pl, hcs, hb, hl, hm, hmm, hx, hi⟩
  · simp [Value.cells] at hcs
    obtain ⟨rfl, rfl, rfl⟩ := hcs
    exact ⟨none, 0, 0, fun _ => It.zero, rfl, Nat.le_refl _, by decide, fun h => absurd h (by omega), fun k hk => absurd hk (by omega)⟩
  · simp [Value.cells] at hcs
    obtain ⟨rfl, rfl, rfl⟩ := hcs
    simp only [if_true] at hmm
    subst hmm
    have key : ∀ k, k < len0 → ∃ x : It, x.wf W ∧ W.cell? (a.add (k * 4 + 0)) = some (.int .i64 x.kd) ∧ W.cell? (a.add (k * 4 + 1)) = some (.int .u64 x.n) ∧ W.cell? (a.add (k * 4 + 2)) = some (.int .i64 x.wd) ∧
        W.cell? (a.add (k * 4 + 3)) = some (.slice x.A x.len x.cap) := by
      intro k hk
      obtain ⟨ys, n, _, _, hyl, hfld⟩ := hi k (by omega)
      obtain ⟨v0, y0, c0, _, t0⟩ := hfld 0 _ rfl
      obtain ⟨v1, y1, c1, _, t1⟩ := hfld 1 _ rfl
      obtain ⟨v2, y2, c2, _, t2⟩ := hfld 2 _ rfl
      obtain ⟨v3, y3, c3, _, t3⟩ := hfld 3 _ rfl
      obtain ⟨z0, e0, _, w0⟩ := DataW.trod_int Try.underlying3 t0
      obtain ⟨z1, e1, _, w1⟩ := DataW.trod_int Try.underlying29 t1
      obtain ⟨z2, e2, _, w2⟩ := DataW.trod_int Try.underlying3 t2
      obtain ⟨A3, l3, cp3, zs, rfl, hl3, hm3, hz3, hr3, hw3⟩ := ints_trod Try.underlying25 Try.underlying5 (by kernel_rfl) t3
      simp at e0 e1 e2
      subst e0 e1 e2
      have b1 := bounds_u64 w1
      obtain ⟨n1, rfl⟩ := Int.eq_ofNat_of_zero_le b1.1
      exact ⟨⟨z0, n1, z2, A3, l3, cp3, zs⟩, ⟨⟨hr3, by show n1 < 18446744073709551616; omega, hl3, hm3⟩, fun z hz => by have := bounds_u8 (hw3 z hz); omega, bounds_i64 w2⟩, c0, c1, c2, c3⟩
    refine ⟨some a, len0, _, fun k => if h : k < len0 then (key k h).choose else It.zero, rfl, hl, hm, fun hn => ?_, fun k hk => ?_⟩
    · obtain ⟨b, off, spot⟩ := a
      have hspot : spot = none := by
        have := World.cell?_spot (key 0 hn).choose_spec.2.1
        simpa [Addr.add] using this
      subst hspot
      have hlt : b < W.heap.size := World.block_lt_of_cell? W _ (by have := (key 0 hn).choose_spec.2.1; simpa [Addr.add] using this)
      refine ⟨b, off, rfl, hlt, fun k hk => ?_⟩
      have hs := (key k hk).choose_spec.2
      simp only [dif_pos hk]
      generalize (key k hk).choose = r at *
      simp only [Go.WideShapes.add_plain, Nat.add_zero, ← Nat.add_assoc] at hs
      exact hs
    · simp only [dif_pos hk]
      exact (key k hk).choose_spec.1
end Go.Proofs.Ytejjifbjmibapaa
