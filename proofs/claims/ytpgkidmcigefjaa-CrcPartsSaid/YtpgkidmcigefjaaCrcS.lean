/- A slice of slices of bytes that came in, as parts. -/
import Derived.Test.YtpgkidmcigefjaaCrcR
import Derived.Deep.Matrix
namespace Go.Proofs.Ytpgkidmcigefjaa
open Go.RowKit Go.Deep Go.ChangeShapes Go.WideShapes
set_option linter.unusedSimpArgs false
set_option linter.unusedVariables false

theorem open_parts {H : Type} {enc : TypeId × Value → H} {W : World} {base : Nat} {v : Value} {d : DataW H} {p : List MemPlace}
    (hv : Value.okWide Try.prog W .any base 22 v) (h : DataW.Trod enc Try.prog W 0 (fun _ => true) true 22 v d p) :
    ∃ (A : Option Addr) (len cap : Nat) (L : List Pt), v = .slice A len cap ∧ len ≤ cap ∧ cap ≤ maxLen ∧ Reads W W.heap.size 1 A len (L.map Pt.v) ∧ ∀ p ∈ L, p.inn W := by
  obtain ⟨a0, len0, cap0, rfl⟩ := okWide_slice Try.underlying22 hv
  obtain ⟨fuel, hf⟩ := h
  rcases open_int_rows Try.underlying22 Try.underlying25 Try.underlying5 (by kernel_rfl) (by kernel_rfl) hf with ⟨hcs, _⟩ | ⟨a, len, cap, A, L, C, Z, hcs, hb, hl, hm, hx, hi⟩
  · simp [Value.cells] at hcs
    obtain ⟨rfl, rfl, rfl⟩ := hcs
    exact ⟨none, 0, 0, [], rfl, Nat.le_refl _, by decide, Reads.none_, fun p hp => absurd hp (by simp)⟩
  · simp [Value.cells] at hcs
    obtain ⟨rfl, rfl, rfl⟩ := hcs
    have key : ∀ k, k < len0 → ∃ p : Pt, p.inn W ∧ W.cell? (a.add k) = some p.v := by
      intro k hk
      obtain ⟨h1, h2, h3, h4, h5, h6, h7⟩ := hi k (by omega)
      obtain ⟨l, hl1, hl2⟩ := nats_of (Z k) (fun z hz => by have := bounds_u8 (h5 z hz); omega)
      refine ⟨⟨A k, L k, C k, 0, l.take (L k)⟩, ⟨isBs_take hl2 _, ?_, h2, h3⟩, h1⟩
      show Reads W W.heap.size 1 (A k) (L k) ((bI (l.take (L k))).map (Value.int .u8))
      have hll : l.length = C k := by rw [← h4, ← hl1, bI_len]
      refine ⟨by simp [bI]; omega, fun h0 => ?_⟩
      cases hA : A k with
      | none => have := h6 hA; omega
      | some a' =>
        obtain ⟨_, hc⟩ := h7 a' hA
        refine ⟨a', rfl, ?_, fun j u hu => ?_⟩
        · have := World.block_lt_of_cell? W _ (hc 0 (by omega))
          rwa [block_of_add] at this
        · by_cases hj : j < L k
          · have := hc j (by omega)
            rw [this, ← hu, ← hl1]
            simp [bI, List.getElem?_take_of_lt hj, List.getElem?_eq_getElem (show j < l.length by omega)]
          · rw [List.getElem?_eq_none (by simp [bI]; omega)] at hu
            cases hu
    have hlist : ∃ M : List Pt, M.length = len0 ∧ (∀ k p, M[k]? = some p → p.inn W ∧ W.cell? (a.add k) = some p.v) := by
      refine ⟨(List.range len0).map fun k => if h : k < len0 then (key k h).choose else ⟨none, 0, 0, 0, []⟩, by simp, fun k p hp => ?_⟩
      have hk : k < len0 := by
        have := (List.getElem?_eq_some_iff.1 hp).1
        simpa using this
      rw [List.getElem?_map, List.getElem?_range hk] at hp
      simp only [Option.map_some, dif_pos hk, Option.some.injEq] at hp
      subst hp
      exact (key k hk).choose_spec
    obtain ⟨M, hM1, hM2⟩ := hlist
    refine ⟨some a, len0, _, M, rfl, hl, hm, ⟨by simp [hM1], fun hn => ⟨a, rfl, ?_, fun j u hu => ?_⟩⟩, fun p hp => ?_⟩
    · have h0 : M[0]? = some (M[0]'(by omega)) := List.getElem?_eq_getElem (by omega)
      have := World.block_lt_of_cell? W _ (hM2 0 _ h0).2
      rwa [block_of_add] at this
    · rw [List.getElem?_map] at hu
      cases hj : M[j]? with
      | none => rw [hj] at hu; cases hu
      | some q =>
        rw [hj] at hu
        simp only [Option.map_some, Option.some.injEq] at hu
        subst hu
        exact (hM2 j q hj).2
    · obtain ⟨k, hk⟩ := List.getElem?_of_mem hp
      exact (hM2 k p hk).1
end Go.Proofs.Ytpgkidmcigefjaa
