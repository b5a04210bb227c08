/- A configuration that came in. -/
import Derived.Test.YthahcpanekdbaaaRolB
import Derived.Test.YthahcpanekdbaaaMemS
import Derived.Test.YthahcpanekdbaaaMemA
import Derived.OpenShut
import Derived.ProofKit
namespace Go.Proofs.Ythahcpanekdbaaa
open Go.ChangeShapes Go.WideShapes Go.RowKit Go.Deep
set_option linter.unusedSimpArgs false
set_option linter.unusedVariables false

theorem ints_trod {H : Type} {enc : TypeId × Value → H} {P : Program} {W : World} {t e : TypeId} {k : IntKind} {v : Value} {fuel : Nat} {x : DataW H × List MemPlace}
    (ht : P.underlying t = some (.slice e)) (he : P.underlying e = some (.int k)) (hC : P.cellsOf e = 1)
    (hf : DataW.trod enc P W 0 (fun _ => true) true fuel t [v] = some x) :
    ∃ (A : Option Addr) (len cap : Nat) (zs : List Int), v = .slice A len cap ∧ len ≤ cap ∧ cap ≤ maxLen ∧ zs.length = len ∧ Reads W W.heap.size 1 A len (zs.map (Value.int k)) ∧ ∀ n ∈ zs, (Lit.int k n).wf = true := by
  rcases open_ints ht he hC hf with ⟨hcs, _⟩ | ⟨x, l, c, zs, hcs, _, hl, hm, hz, hx, hcell, hwz⟩
  · simp at hcs
    subst hcs
    exact ⟨none, 0, 0, [], rfl, Nat.le_refl _, by decide, rfl, Reads.none_, by simp⟩
  · simp at hcs
    subst hcs
    have hz' : zs.length = c := by simpa using hz
    refine ⟨some x, l, c, zs.take l, rfl, hl, hm, by rw [List.length_take]; omega, ⟨by rw [List.length_map, List.length_take]; omega, fun hn => ⟨x, rfl, ?_, ?_⟩⟩, fun n hn => hwz n (List.mem_of_mem_take hn)⟩
    · have := World.block_lt_of_cell? W _ (hcell 0 (by omega))
      rwa [block_of_add] at this
    · intro j u hu
      rw [List.getElem?_map] at hu
      by_cases hj : j < l
      · rw [List.getElem?_take_of_lt hj, List.getElem?_eq_getElem (by omega)] at hu
        have hc := hcell j (by omega)
        rw [hc]
        simp only [Option.map_some, Option.some.injEq] at hu
        rw [← hu, List.getD_eq_getElem?_getD, List.getElem?_eq_getElem (by omega)]
        rfl
      · rw [List.getElem?_eq_none (by rw [List.length_take]; omega)] at hu
        simp at hu


theorem open_conf {H : Type} {enc : TypeId × Value → H} {W : World} {base : Nat} {v : Value} {d : DataW H} {p : List MemPlace}
    (hv : Value.okWide Try.prog W .any base 25 v) (h : DataW.Trod enc Try.prog W 0 (fun _ => true) true 25 v d p) :
    ∃ x : Cf, v = x.agg ∧ CfIn W W.heap.size x := by
  obtain ⟨u0, u1, u2, u3, u4, _, _, _, _, _, n, hv', _, _, t0, t1, t2, t3, t4⟩ := open_agg5 Try.underlying25 (by kernel_rfl) (by kernel_rfl) hv h
  obtain ⟨z0, e0, _, w0⟩ := DataW.trod_int Try.underlying3 t0
  obtain ⟨z1, e1, _, w1⟩ := DataW.trod_int Try.underlying22 t1
  obtain ⟨A2, l2, c2, zs, rfl, hl, hm, hz, hr, hw⟩ := ints_trod Try.underlying23 Try.underlying3 (by kernel_rfl) t2
  obtain ⟨b3, e3, _⟩ := DataW.trod_bool Try.underlying4 t3
  obtain ⟨z4, e4, _, w4⟩ := DataW.trod_int Try.underlying3 t4
  simp at e0 e1 e3 e4
  have b1 := bounds_u64 w1
  obtain ⟨n1, rfl⟩ := Int.eq_ofNat_of_zero_le b1.1
  exact ⟨⟨z0, n1, A2, l2, c2, b3, z4, zs⟩, by rw [hv', e0, e1, e3, e4]; rfl, ⟨hr, hl, hm⟩⟩
end Go.Proofs.Ythahcpanekdbaaa
