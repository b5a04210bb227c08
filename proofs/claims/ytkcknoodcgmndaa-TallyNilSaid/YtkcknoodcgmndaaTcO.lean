/- TallyClock's arguments, opened. -/
import Derived.Test.YtkcknoodcgmndaaTcH
import Derived.WalkKit
import Derived.WideShapes
import Derived.Deep.Slices
import Derived.Deep.Fields
namespace Go.Proofs.Ytkcknoodcgmndaa
open Go.ChangeShapes Go.WideShapes Go.RowKit Go.Deep
set_option linter.unusedSimpArgs false
set_option linter.unusedVariables false
set_option maxHeartbeats 8000000
set_option maxRecDepth 100000
section
variable {H : Type} {enc : TypeId × Value → H} {P : Program} {w : World} {base : Nat} {spare : Nat → Bool} {held : Bool}
theorem open_slice_fields {t e : TypeId} {fs : Array Field} {fuel : Nat} {cs : List Value} {x : DataW H × List MemPlace} (ht : P.underlying t = some (.slice e)) (he : P.underlying e = some (.struct fs))
    (hone : oneCellFields P fs = true) (hC : P.cellsOf e = fs.size) (h : DataW.trod enc P w base spare held fuel t cs = some x) :
    (cs = [.slice none 0 0] ∧ x = (.nil, [])) ∨
    ∃ (a : Addr) (len cap m : Nat) (D : Nat → DataW H) (Pl : Nat → List MemPlace), cs = [.slice (some a) len cap] ∧ base ≤ a.block ∧ len ≤ cap ∧ cap ≤ maxLen ∧ m = (if spare a.block then cap else len) ∧
      x = (.slice ((List.range len).map D) ((List.range (m - len)).map fun j => D (len + j)), MemPlace.row a (m * fs.size) ++ (List.range m).flatMap Pl) ∧
      ∀ i, i < m → ∃ (ys : List (DataW H × List MemPlace)) (n : Nat), D i = .agg (ys.map (·.1)) ∧ Pl i = ys.flatMap (·.2) ∧ ys.length = fs.size ∧
        ∀ (j : Nat) (f : Field), fs[j]? = some f → ∃ (v : Value) (y : DataW H × List MemPlace), w.cell? (a.add (i * fs.size + j)) = some v ∧ ys[j]? = some y ∧ DataW.trod enc P w base spare held n f.type [v] = some y := by
  rcases open_slice ht h with h0 | ⟨a, len, cap, m, n, D, Pl, hcs, hb, hl, hm, hmm, hx, hi⟩
  · exact .inl h0
  · refine .inr ⟨a, len, cap, m, D, Pl, hcs, hb, hl, hm, hmm, by rw [hC] at hx; exact hx, fun i him => ?_⟩
    obtain ⟨cs', hc, ht'⟩ := hi i him
    rw [hC] at hc
    obtain ⟨ys, n', hn', hy, hlen, hyl, hf⟩ := DataW.trod_struct he ht'
    obtain ⟨_, hcl, hat⟩ := World.cells?_some hc
    simp only [Prod.mk.injEq] at hy
    refine ⟨ys, n', hy.1, hy.2, hyl, fun j f hj => ?_⟩
    obtain ⟨ho, hk⟩ := hone_of hone j f hj
    have hjl : j < fs.size := (Array.getElem?_eq_some_iff.1 hj).1
    have hcell := hat j hjl
    have hv : cs'[j]? = some (cs'[j]'(by omega)) := List.getElem?_eq_getElem (by omega)
    have h1 := hf j f hj
    rw [ho, hk] at h1
    have hone' : (cs'.drop j).take 1 = [cs'[j]'(by omega)] := by
      rw [List.drop_eq_getElem_cons (by omega)]
      rfl
    rw [hone'] at h1
    have hys : ys[j]? = some (ys[j]'(by omega)) := List.getElem?_eq_getElem (by omega)
    refine ⟨_, _, ?_, hys, h1.trans hys⟩
    rw [← Go.Deep.add_add, hcell, hv]
end
theorem add_none (b o n : Nat) : (⟨b, o, none⟩ : Addr).add n = ⟨b, o + n, none⟩ := by unfold Addr.add; split <;> simp_all
theorem open_ticks {H : Type} {enc : TypeId × Value → H} {W : World} {base : Nat} {v : Value} {d : DataW H} {p : List MemPlace}
    (hv : Value.okWide Try.prog W .any base 47 v) (h : DataW.Trod enc Try.prog W 0 (fun _ => true) true 47 v d p) :
    ∃ (A : Option Addr) (len cap : Nat) (k n : Nat → Int) (sb so : Nat), v = .slice A len cap ∧ len ≤ cap ∧ cap ≤ maxLen ∧ TkIn W A len k n sb so := by
  obtain ⟨a0, len0, cap0, rfl⟩ := okWide_slice Try.underlying47 hv
  obtain ⟨fuel, hf⟩ := h
  rcases open_slice_fields Try.underlying47 Try.underlying51 (by kernel_rfl) (by kernel_rfl) hf with ⟨hcs, _⟩ | ⟨a, len, cap, m, D, Pl, hcs, hb, hl, hm, hmm, hx, hi⟩
  · simp [Value.cells] at hcs
    obtain ⟨rfl, rfl, rfl⟩ := hcs
    exact ⟨none, 0, 0, fun _ => 0, fun _ => 0, 0, 0, rfl, Nat.le_refl _, by decide, ⟨fun h => absurd h (by omega), fun h => absurd h (by omega), fun j h => absurd h (by omega), fun j h => absurd h (by omega)⟩⟩
  · simp [Value.cells] at hcs
    obtain ⟨rfl, rfl, rfl⟩ := hcs
    simp only [if_true] at hmm
    subst hmm
    have key : ∀ q, q < len0 → ∃ z : Int × Int, W.cell? (a.add (q * 2)) = some (.int .i64 z.1) ∧ W.cell? (a.add (q * 2 + 1)) = some (.int .u64 z.2) := by
      intro q hq
      obtain ⟨ys, n, _, _, hyl, hfld⟩ := hi q (by omega)
      obtain ⟨v0, y0, c0, _, t0⟩ := hfld 0 _ rfl
      obtain ⟨v1, y1, c1, _, t1⟩ := hfld 1 _ rfl
      obtain ⟨z0, e0, _, w0⟩ := DataW.trod_int Try.underlying3 t0
      obtain ⟨z1, e1, _, w1⟩ := DataW.trod_int Try.underlying46 t1
      simp at e0 e1
      subst e0 e1
      exact ⟨(z0, z1), c0, c1⟩
    by_cases hz : 0 < len0
    · have sp := World.cell?_spot (key 0 hz).choose_spec.1
      obtain ⟨b, off, spot⟩ := a
      have sp : spot = none := by simpa [Addr.add] using sp
      subst sp
      refine ⟨some ⟨b, off, none⟩, len0, _, fun q => if h : q < len0 then (key q h).choose.1 else 0, fun q => if h : q < len0 then (key q h).choose.2 else 0, b, off, rfl, hl, hm, ⟨fun _ => ?_, fun _ => rfl, fun j hj => ?_, fun j hj => ?_⟩⟩
      · have := World.block_lt_of_cell? W _ ((key 0 hz).choose_spec.1)
        simpa [Addr.add] using this
      · rw [dif_pos hj]
        exact (congrArg W.cell? (add_none b off (j * 2))).symm.trans (key j hj).choose_spec.1
      · rw [dif_pos hj]
        exact (congrArg W.cell? (add_none b off (j * 2 + 1))).symm.trans (key j hj).choose_spec.2
    · obtain rfl : len0 = 0 := by omega
      exact ⟨_, 0, _, fun _ => 0, fun _ => 0, 0, 0, rfl, hl, hm, ⟨fun h => absurd h (by omega), fun h => absurd h (by omega), fun j h => absurd h (by omega), fun j h => absurd h (by omega)⟩⟩
end Go.Proofs.Ytkcknoodcgmndaa
