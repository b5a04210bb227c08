/- Configurations that came in; epochs rise. -/
import Derived.Test.YtidfnajbanjnaaaAtlU
import Derived.Test.YtidfnajbanjnaaaAtlI
import Derived.Test.YtidfnajbanjnaaaMemD
import Derived.Test.YtidfnajbanjnaaaMemS
import Derived.Test.YtidfnajbanjnaaaMemA
import Derived.OpenShut
import Derived.ProofKit
namespace Go.Proofs.Ytidfnajbanjnaaa
open Go.ChangeShapes Go.WideShapes Go.RowKit Go.Deep
set_option linter.unusedSimpArgs false
set_option linter.unusedVariables false
set_option maxHeartbeats 4000000
set_option maxRecDepth 100000

theorem learn_len (vs : List CfV) (x : Cf) : (learnV vs x).length = vs.length := by
  unfold learnV; split
  · rw [List.length_set]
  · rfl
theorem learn_ep {vs : List CfV} {x : Cf} {c : Nat} {a b : CfV} (ha : vs[c]? = some a) (hb : (learnV vs x)[c]? = some b) : a.2.1 ≤ b.2.1 := by
  cases h : learnB vs x
  · rw [learn_no h, ha] at hb
    cases hb
    exact Int.le_refl _
  · rw [learn_yes h, List.getElem?_set] at hb
    have hc : c < vs.length := (List.getElem?_eq_some_iff.1 ha).1
    by_cases hk : x.ch.toNat = c
    · subst hk
      rw [if_pos rfl, if_pos hc] at hb
      cases hb
      unfold learnB at h
      rw [ha] at h
      simp only [Bool.and_eq_true, decide_eq_true_eq] at h
      exact Int.le_of_lt h.2.2.2
    · rw [if_neg hk, ha] at hb
      cases hb
      exact Int.le_refl _
theorem ints_trod {H : Type} {enc : TypeId × Value → H} {P : Program} {W : World} {t e : TypeId} {k : IntKind} {v : Value} {fuel : Nat} {x : DataW H × List MemPlace}
    (ht : P.underlying t = some (.slice e)) (he : P.underlying e = some (.int k)) (hC : P.cellsOf e = 1)
    (hf : DataW.trod enc P W 0 (fun _ => true) true fuel t [v] = some x) :
    ∃ (A : Option Addr) (len cap : Nat) (zs : List Int), v = .slice A len cap ∧ len ≤ cap ∧ cap ≤ maxLen ∧ zs.length = len ∧ Reads W W.heap.size 1 A len (zs.map (Value.int k)) ∧ ∀ n ∈ zs, (Lit.int k n).wf = true := by
  rcases open_ints ht he hC hf with ⟨hcs, _⟩ | ⟨x, l, c, zs, hcs, _, hl, hm, hz, hx, hcell, hwz⟩
  · simp at hcs
    subst hcs
    exact ⟨none, 0, 0, [], rfl, Nat.le_refl _, by decide, rfl, Reads.none_, by simp⟩
  · simp at hcs
    subst hcs
    have hz' : zs.length = c := by simpa using hz
    refine ⟨some x, l, c, zs.take l, rfl, hl, hm, by rw [List.length_take]; omega, ⟨by rw [List.length_map, List.length_take]; omega, fun hn => ⟨x, rfl, ?_, ?_⟩⟩, fun n hn => hwz n (List.mem_of_mem_take hn)⟩
    · have := World.block_lt_of_cell? W _ (hcell 0 (by omega))
      rwa [block_of_add] at this
    · intro j u hu
      rw [List.getElem?_map] at hu
      by_cases hj : j < l
      · rw [List.getElem?_take_of_lt hj, List.getElem?_eq_getElem (by omega)] at hu
        have hc := hcell j (by omega)
        rw [hc]
        simp only [Option.map_some, Option.some.injEq] at hu
        rw [← hu, List.getD_eq_getElem?_getD, List.getElem?_eq_getElem (by omega)]
        rfl
      · rw [List.getElem?_eq_none (by rw [List.length_take]; omega)] at hu
        simp at hu
theorem open_confs {H : Type} {enc : TypeId × Value → H} {W : World} {base : Nat} {v : Value} {d : DataW H} {p : List MemPlace}
    (hv : Value.okWide Try.prog W .any base 26 v) (h : DataW.Trod enc Try.prog W 0 (fun _ => true) true 26 v d p) :
    ∃ (A : Option Addr) (len cap : Nat) (l : List Cf), v = .slice A len cap ∧ len ≤ cap ∧ cap ≤ maxLen ∧ CfsIn W W.heap.size A len l := by
  obtain ⟨a0, len0, cap0, rfl⟩ := okWide_slice Try.underlying26 hv
  obtain ⟨fuel, hf⟩ := h
  rcases open_slice_fields Try.underlying26 Try.underlying35 (by kernel_rfl) (by kernel_rfl) hf with ⟨hcs, _⟩ | ⟨a, len, cap, m, D, Pl, hcs, hb, hl, hm, hmm, hx, hi⟩
  · simp [Value.cells] at hcs
    obtain ⟨rfl, rfl, rfl⟩ := hcs
    exact ⟨none, 0, 0, [], rfl, Nat.le_refl _, by decide, ⟨Reads.none_, fun x hx => by simp at hx⟩⟩
  · simp [Value.cells] at hcs
    obtain ⟨rfl, rfl, rfl⟩ := hcs
    simp only [if_true] at hmm
    subst hmm
    have key : ∀ k, k < len0 → ∃ u : Cf, CfIn W W.heap.size u ∧ ∀ j v, u.row[j]? = some v → W.cell? (a.add (k * 5 + j)) = some v := by
      intro k hk
      obtain ⟨ys, n, _, _, hyl, hfld⟩ := hi k (by omega)
      obtain ⟨v0, y0, c0, _, t0⟩ := hfld 0 _ rfl
      obtain ⟨v1, y1, c1, _, t1⟩ := hfld 1 _ rfl
      obtain ⟨v2, y2, c2, _, t2⟩ := hfld 2 _ rfl
      obtain ⟨v3, y3, c3, _, t3⟩ := hfld 3 _ rfl
      obtain ⟨v4, y4, c4, _, t4⟩ := hfld 4 _ rfl
      obtain ⟨z0, e0, _, w0⟩ := DataW.trod_int Try.underlying3 t0
      obtain ⟨z1, e1, _, w1⟩ := DataW.trod_int Try.underlying32 t1
      obtain ⟨A2, l2, cp2, zs, rfl, hl2, hm2, hz2, hr2, hw2⟩ := ints_trod Try.underlying33 Try.underlying3 (by kernel_rfl) t2
      obtain ⟨b3, e3, _⟩ := DataW.trod_bool Try.underlying4 t3
      obtain ⟨z4, e4, _, w4⟩ := DataW.trod_int Try.underlying3 t4
      simp at e0 e1 e3 e4
      have b1 := bounds_u64 w1
      obtain ⟨n1, rfl⟩ := Int.eq_ofNat_of_zero_le b1.1
      subst e0 e1 e3 e4
      refine ⟨⟨z0, n1, A2, l2, cp2, b3, z4, zs⟩, ⟨hr2, hl2, hm2⟩, ?_⟩
      intro j v hj
      match j, hj with
      | 0, hj => injection hj with hj; rw [← hj]; exact c0
      | 1, hj => injection hj with hj; rw [← hj]; exact c1
      | 2, hj => injection hj with hj; rw [← hj]; exact c2
      | 3, hj => injection hj with hj; rw [← hj]; exact c3
      | 4, hj => injection hj with hj; rw [← hj]; exact c4
      | j + 5, hj => simp [Cf.row] at hj
    obtain ⟨l, hr, _, hq⟩ := open_rows Cf.row 5 ⟨0, 0, none, 0, 0, false, 0, []⟩ (CfIn W W.heap.size) Cf.row_len (by omega) key
    exact ⟨some a, len0, _, l, rfl, hl, hm, ⟨hr, hq⟩⟩
end Go.Proofs.Ytidfnajbanjnaaa
