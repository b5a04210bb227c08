/- The walk of BagRises. -/
import Derived.Test.YtpkmbnmlepmceaaBagI

namespace Go.Proofs.Ytpkmbnmlepmceaa
open Go.ChangeShapes Go.WideShapes Go.RowKit Go.Deep
set_option linter.unusedSimpArgs false
set_option linter.unusedVariables false
set_option maxHeartbeats 8000000
set_option maxRecDepth 100000

abbrev Op3 := Int × Int × Int
def opc (o : Op3) : List Value := [.int .i64 o.1, .int .i64 o.2.1, .int .i64 o.2.2]
theorem opc_len (o : Op3) : (opc o).length = 3 := rfl
def I64 (z : Int) : Prop := -9223372036854775808 ≤ z ∧ z ≤ 9223372036854775807
theorem open_ops {H : Type} {enc : TypeId × Value → H} {W : World} {base : Nat} {v : Value} {d : DataW H} {p : List MemPlace}
    (hv : Value.okWide Try.prog W .any base 36 v) (h : DataW.Trod enc Try.prog W 0 (fun _ => true) true 36 v d p) :
    ∃ (A : Option Addr) (len cap : Nat) (l : List Op3), v = .slice A len cap ∧ len ≤ cap ∧ cap ≤ maxLen ∧ Reads W W.heap.size 3 A len (l.flatMap opc) ∧ ∀ o ∈ l, I64 o.1 ∧ I64 o.2.1 ∧ I64 o.2.2 := by
  obtain ⟨a0, len0, cap0, rfl⟩ := okWide_slice Try.underlying36 hv
  obtain ⟨fuel, hf⟩ := h
  rcases open_slice_fields Try.underlying36 Try.underlying38 (by kernel_rfl) (by kernel_rfl) hf with ⟨hcs, _⟩ | ⟨a, len, cap, m, D, Pl, hcs, hb, hl, hm, hmm, hx, hi⟩
  · simp [Value.cells] at hcs
    obtain ⟨rfl, rfl, rfl⟩ := hcs
    exact ⟨none, 0, 0, [], rfl, Nat.le_refl _, by decide, Reads.none_, by simp⟩
  · simp [Value.cells] at hcs
    obtain ⟨rfl, rfl, rfl⟩ := hcs
    simp only [if_true] at hmm
    subst hmm
    have key : ∀ k, k < len0 → ∃ o : Op3, (I64 o.1 ∧ I64 o.2.1 ∧ I64 o.2.2) ∧ ∀ j v, (opc o)[j]? = some v → W.cell? (a.add (k * 3 + j)) = some v := by
      intro k hk
      obtain ⟨ys, n, _, _, hyl, hfld⟩ := hi k (by omega)
      obtain ⟨v0, y0, c0, _, t0⟩ := hfld 0 _ rfl
      obtain ⟨v1, y1, c1, _, t1⟩ := hfld 1 _ rfl
      obtain ⟨v2, y2, c2, _, t2⟩ := hfld 2 _ rfl
      obtain ⟨z0, e0, _, w0⟩ := DataW.trod_int Try.underlying3 t0
      obtain ⟨z1, e1, _, w1⟩ := DataW.trod_int Try.underlying3 t1
      obtain ⟨z2, e2, _, w2⟩ := DataW.trod_int Try.underlying3 t2
      simp at e0 e1 e2
      subst e0 e1 e2
      refine ⟨(z0, z1, z2), ⟨bounds_i64 w0, bounds_i64 w1, bounds_i64 w2⟩, ?_⟩
      intro j v hj
      match j, hj with
      | 0, hj => injection hj with hj; rw [← hj]; exact c0
      | 1, hj => injection hj with hj; rw [← hj]; exact c1
      | 2, hj => injection hj with hj; rw [← hj]; exact c2
      | j + 3, hj => simp [opc] at hj
    refine ⟨some a, len0, _, (List.range len0).map fun k => if h : k < len0 then (key k h).choose else (0, 0, 0), rfl, hl, hm, ?_, ?_⟩
    · refine ⟨by rw [flat_length opc 3 opc_len]; simp, fun hn => ⟨a, rfl, ?_, ?_⟩⟩
      · have := World.block_lt_of_cell? W _ ((key 0 hn).choose_spec.2 0 _ rfl)
        rwa [block_of_add] at this
      · intro j v hj
        have hjl : j < len0 * 3 := by
          have := (List.getElem?_eq_some_iff.1 hj).1
          rw [flat_length opc 3 opc_len] at this
          simpa using this
        have hq : j / 3 < len0 := by omega
        have hs := (key (j / 3) hq).choose_spec.2
        have hrow : (opc (key (j / 3) hq).choose)[j % 3]? = some v := by
          have hjj : (j % 3) < (opc (key (j / 3) hq).choose).length := by rw [opc_len]; omega
          have h2 := flat_get opc 3 opc_len ((List.range len0).map fun k => if h : k < len0 then (key k h).choose else (0, 0, 0)) (j / 3) (j % 3) (key (j / 3) hq).choose _
            (by rw [List.getElem?_map, List.getElem?_range hq]; simp only [Option.map_some, dif_pos hq]) (List.getElem?_eq_getElem hjj)
          rw [show j / 3 * 3 + j % 3 = j from by omega, hj] at h2
          rw [List.getElem?_eq_getElem hjj, ← h2]
        have := hs _ _ hrow
        rwa [show j / 3 * 3 + j % 3 = j from by omega] at this
    · intro o ho
      rw [List.mem_map] at ho
      obtain ⟨k, hk, rfl⟩ := ho
      have hk' : k < len0 := by simpa using hk
      simp only [dif_pos hk']
      exact (key k hk').choose_spec.1

/-- numbers rise, whatever is called -/
structure Up1 (s s' : Bg) : Prop where
  srt : Srt s'
  last : s'.last = s.last ∨ s'.last = s.last + 1
  len : s'.l.length ≤ s.l.length + 1
theorem up_put {s : Bg} (h : Srt s) (x : Int) (h0 : 0 ≤ s.last) : Up1 s (s.put x) := by
  unfold Bg.put
  split
  · exact ⟨h, .inl rfl, by omega⟩
  · refine ⟨⟨?_, ?_⟩, .inr rfl, by simp⟩
    · rw [List.pairwise_append]
      refine ⟨h.up, by simp, ?_⟩
      intro p hp q hq
      simp at hq
      subst hq
      have := (h.lo p hp).2
      show p.1 < s.last + 1
      omega
    · intro p hp
      rw [List.mem_append] at hp
      rcases hp with hp | hp
      · have := h.lo p hp
        exact ⟨this.1, by show p.1 ≤ s.last + 1; omega⟩
      · simp at hp
        subst hp
        exact ⟨by show 1 ≤ s.last + 1; omega, by show s.last + 1 ≤ s.last + 1; omega⟩
theorem up_twice {s : Bg} (h : Srt s) (i : Int) (h0 : 0 ≤ s.last) : Up1 s (s.twice i) := by
  unfold Bg.twice
  split
  · exact up_put h _ h0
  · exact ⟨h, .inl rfl, by omega⟩
theorem up_take {s : Bg} (h : Srt s) (i : Int) : Up1 s (s.take i) := by
  unfold Bg.take
  split
  · refine ⟨⟨h.up.sublist (List.eraseIdx_sublist _ _), fun p hp => h.lo p (List.mem_of_mem_eraseIdx hp)⟩, .inl rfl, ?_⟩
    have := (List.eraseIdx_sublist s.l i.toNat).length_le
    show (s.l.eraseIdx i.toNat).length ≤ _
    omega
  · exact ⟨h, .inl rfl, by omega⟩
theorem up_keep {s : Bg} (h : Srt s) : Up1 s s.keep :=
  ⟨⟨h.up.sublist List.filter_sublist, fun p hp => h.lo p (List.mem_filter.1 hp).1⟩, .inl rfl, by have := oddL_len s.l; show (oddL s.l).length ≤ _; omega⟩
theorem upto_at {s : Bg} (h : Srt s) {k : Nat} {p : Int × Int} (hp : s.l[k]? = some p) : s.upto p.1 = k + 1 ∧ s.upto (p.1 - 1) = k := by
  have hk := (List.getElem?_eq_some_iff.1 hp).1
  refine ⟨filter_split s.l p.1 (k + 1) (fun j q hq hj => ?_) (fun j q hq hj => ?_) hk, filter_split s.l (p.1 - 1) k (fun j q hq hj => ?_) (fun j q hq hj => ?_) (by omega)⟩
  · rcases Nat.lt_or_ge j k with hlt | hge
    · have := h.lt hq hp hlt; omega
    · obtain rfl : j = k := by omega
      rw [hp] at hq; injection hq with hq; subst hq; omega
  · exact h.lt hp hq (by omega)
  · have := h.lt hq hp hj; omega
  · rcases Nat.lt_or_ge k j with hlt | hge
    · have := h.lt hp hq hlt; omega
    · obtain rfl : j = k := by omega
      rw [hp] at hq; injection hq with hq; subst hq; omega
theorem no_at {s : Bg} {k : Nat} {p : Int × Int} (hp : s.l[k]? = some p) : s.no k = p.1 := by
  have hk := (List.getElem?_eq_some_iff.1 hp).1
  rw [Bg.no, if_pos ((Bg.has_iff s k).2 ⟨by omega, by omega⟩), Int.toNat_natCast, List.getD_eq_getElem?_getD, hp]
  rfl
end Go.Proofs.Ytpkmbnmlepmceaa
