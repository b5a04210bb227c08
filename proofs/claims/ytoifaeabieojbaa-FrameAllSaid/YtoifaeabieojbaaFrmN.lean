/- A slice of frames that came in. -/
import Derived.Test.YtoifaeabieojbaaFrmM
import Derived.Test.YtoifaeabieojbaaFrmO
import Derived.Test.YtoifaeabieojbaaMemS
namespace Go.Proofs.Ytoifaeabieojbaa
open Go.ChangeShapes Go.WideShapes Go.RowKit Go.Deep
set_option linter.unusedSimpArgs false
set_option linter.unusedVariables false
set_option maxRecDepth 100000

theorem open_frames {H : Type} {enc : TypeId × Value → H} {W : World} {base : Nat} {v : Value} {d : DataW H} {p : List MemPlace}
    (hv : Value.okWide Try.prog W .any base 55 v) (h : DataW.Trod enc Try.prog W 0 (fun _ => true) true 55 v d p) :
    ∃ (A : Option Addr) (len cap : Nat) (F : List Fq), v = .slice A len cap ∧ len ≤ cap ∧ cap ≤ maxLen ∧ Reads W W.heap.size 2 A len (F.flatMap Fq.row) ∧ ∀ f ∈ F, f.inn W := by
  obtain ⟨a0, len0, cap0, rfl⟩ := okWide_slice Try.underlying55 hv
  obtain ⟨fuel, hf⟩ := h
  rcases open_slice_fields Try.underlying55 Try.underlying24 (by kernel_rfl) (by kernel_rfl) hf with ⟨hcs, _⟩ | ⟨a, len, cap, m, D, Pl, hcs, hb, hl, hm, hmm, hx, hi⟩
  · simp [Value.cells] at hcs
    obtain ⟨rfl, rfl, rfl⟩ := hcs
    exact ⟨none, 0, 0, [], rfl, Nat.le_refl _, by decide, Reads.none_, fun f hf => absurd hf (by simp)⟩
  · simp [Value.cells] at hcs
    obtain ⟨rfl, rfl, rfl⟩ := hcs
    simp only [if_true] at hmm
    subst hmm
    have key : ∀ k, k < len0 → ∃ f : Fq, f.inn W ∧ W.cell? (a.add (k * 2 + 0)) = some (.int .u8 f.k) ∧ W.cell? (a.add (k * 2 + 1)) = some (.slice f.A f.l.length f.c) := by
      intro k hk
      obtain ⟨ys, n, _, _, hyl, hfld⟩ := hi k (by omega)
      obtain ⟨v0, y0, c0, _, t0⟩ := hfld 0 _ rfl
      obtain ⟨v1, y1, c1, _, t1⟩ := hfld 1 _ rfl
      obtain ⟨z0, e0, _, w0⟩ := DataW.trod_int Try.underlying5 t0
      obtain ⟨A3, l3, cp3, zs, rfl, hl3, hm3, hz3, hr3, hw3⟩ := ints_trod Try.underlying22 Try.underlying5 (by kernel_rfl) t1
      simp at e0
      subst e0
      have b1 := bounds_u8 w0
      obtain ⟨q, rfl⟩ := Int.eq_ofNat_of_zero_le b1.1
      obtain ⟨l, rfl, hlb⟩ := nats_of zs (fun z hz => by have := bounds_u8 (hw3 z hz); omega)
      have hll : l.length = l3 := by rw [← hz3, bI_len]
      subst hll
      exact ⟨⟨q, A3, cp3, l⟩, ⟨by show q < 256; omega, hlb, hr3⟩, c0, c1⟩
    have hlist : ∃ M : List Fq, M.length = len0 ∧ (∀ k f, M[k]? = some f → f.inn W ∧ W.cell? (a.add (k * 2 + 0)) = some (.int .u8 f.k) ∧ W.cell? (a.add (k * 2 + 1)) = some (.slice f.A f.l.length f.c)) := by
      refine ⟨(List.range len0).map fun k => if h : k < len0 then (key k h).choose else ⟨0, none, 0, []⟩, by simp, fun k f hf => ?_⟩
      have hk : k < len0 := by
        have := (List.getElem?_eq_some_iff.1 hf).1
        simpa using this
      rw [List.getElem?_map, List.getElem?_range hk] at hf
      simp only [Option.map_some, dif_pos hk, Option.some.injEq] at hf
      subst hf
      exact (key k hk).choose_spec
    obtain ⟨M, hM1, hM2⟩ := hlist
    refine ⟨some a, len0, _, M, rfl, hl, hm, ⟨by rw [flat_rows, hM1], fun hn => ⟨a, rfl, ?_, fun j u hu => ?_⟩⟩, fun f hf => ?_⟩
    · have h0 : M[0]? = some (M[0]'(by omega)) := List.getElem?_eq_getElem (by omega)
      have := World.block_lt_of_cell? W _ (hM2 0 _ h0).2.1
      rwa [block_of_add] at this
    · have hj : j < len0 * 2 := by
        have := (List.getElem?_eq_some_iff.1 hu).1
        rw [flat_rows, hM1] at this
        exact this
      have hk : M[j / 2]? = some (M[j / 2]'(by omega)) := List.getElem?_eq_getElem (by omega)
      obtain ⟨_, q0, q1⟩ := hM2 (j / 2) _ hk
      rcases Nat.mod_two_eq_zero_or_one j with h0 | h0
      · have e : j = j / 2 * 2 + 0 := by omega
        have := flat_get Fq.row 2 Fq.row_len M (j / 2) 0 _ _ hk rfl
        rw [← e, hu] at this
        injection this with this
        rw [e, q0, this]
      · have e : j = j / 2 * 2 + 1 := by omega
        have := flat_get Fq.row 2 Fq.row_len M (j / 2) 1 _ _ hk rfl
        rw [← e, hu] at this
        injection this with this
        rw [e, q1, this]
    · obtain ⟨k, hk⟩ := List.getElem?_of_mem hf
      exact (hM2 k f hk).1
end Go.Proofs.Ytoifaeabieojbaa
