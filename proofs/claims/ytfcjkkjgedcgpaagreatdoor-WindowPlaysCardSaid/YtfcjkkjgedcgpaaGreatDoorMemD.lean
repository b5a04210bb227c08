/- A slice of structs that came in, as rows. -/
import Derived.Test.YtfcjkkjgedcgpaaGreatDoorMemB
namespace Go.Proofs.YtfcjkkjgedcgpaaGreatDoor
open Go.RowKit
set_option linter.unusedVariables false
theorem open_rows {α : Type} {W : World} (f : α → List Value) (s : Nat) (z : α) (Q : α → Prop) (hf : ∀ u, (f u).length = s) (hs : 0 < s) {a : Addr} {n : Nat}
    (key : ∀ k, k < n → ∃ u : α, Q u ∧ ∀ j v, (f u)[j]? = some v → W.cell? (a.add (k * s + j)) = some v) :
    ∃ l : List α, Reads W W.heap.size s (some a) n (l.flatMap f) ∧ l.length = n ∧ ∀ u ∈ l, Q u := by
  refine ⟨(List.range n).map fun k => if h : k < n then (key k h).choose else z, ?_, by simp, ?_⟩
  · refine ⟨by rw [flat_length f s hf]; simp, fun hn => ⟨a, rfl, ?_, ?_⟩⟩
    · obtain ⟨v, hv⟩ : ∃ v, (f (key 0 hn).choose)[0]? = some v := ⟨_, List.getElem?_eq_getElem (by rw [hf]; exact hs)⟩
      have := World.block_lt_of_cell? W _ ((key 0 hn).choose_spec.2 0 _ hv)
      rwa [block_of_add] at this
    · intro j v hj
      have hjl : j < n * s := by
        have := (List.getElem?_eq_some_iff.1 hj).1
        rw [flat_length f s hf] at this
        simpa using this
      have hq : j / s < n := Nat.div_lt_of_lt_mul (by rw [Nat.mul_comm]; exact hjl)
      have hm : j % s < s := Nat.mod_lt _ hs
      have he : j / s * s + j % s = j := Nat.div_add_mod' j s
      have h1 := (key (j / s) hq).choose_spec.2
      have hrow : (f (key (j / s) hq).choose)[j % s]? = some v := by
        have hjj : (j % s) < (f (key (j / s) hq).choose).length := by rw [hf]; exact hm
        have h2 := flat_get f s hf ((List.range n).map fun k => if h : k < n then (key k h).choose else z) (j / s) (j % s) (key (j / s) hq).choose _
          (by rw [List.getElem?_map, List.getElem?_range hq]; simp only [Option.map_some, dif_pos hq]) (List.getElem?_eq_getElem hjj)
        rw [he, hj] at h2
        rw [List.getElem?_eq_getElem hjj, ← h2]
      have := h1 _ _ hrow
      rwa [he] at this
  · intro u hu
    rw [List.mem_map] at hu
    obtain ⟨k, hk, rfl⟩ := hu
    have hk' : k < n := by simpa using hk
    simp only [dif_pos hk']
    exact (key k hk').choose_spec.1
end Go.Proofs.YtfcjkkjgedcgpaaGreatDoor
