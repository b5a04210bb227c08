/- TallyMarks: a claim, a freeing. -/
import Derived.Test.YtkcknoodcgmndaaZMqA
import Derived.Test.YtkcknoodcgmndaaZReG
namespace Go.Proofs.Ytkcknoodcgmndaa
open Go.Conc Go.RowKit
set_option linter.unusedVariables false
set_option linter.unusedSimpArgs false
set_option maxRecDepth 100000
set_option maxHeartbeats 8000000















theorem Own.open2 {base : Nat} {w : World} {v : Value} {xs : List Int} (h : Own base w v xs) : ∃ A g c, v = .slice A xs.length c ∧ xs.length ≤ c ∧ (0 < xs.length → g < w.heap.size) ∧ base ≤ g ∧ SlI w A g xs ∧ ((A = none ∧ c = 0 ∧ xs = []) ∨ A = some ⟨g, 0, none⟩) := by
  rcases h.2 with ⟨rfl, h0⟩ | ⟨g, cap, cur, rfl, hb, hg, hn, hm, hs, ht⟩
  · obtain rfl : xs = [] := List.length_eq_zero_iff.1 h0
    exact ⟨none, base, 0, rfl, Nat.le_refl _, fun h => by simp at h, Nat.le_refl _, ⟨fun h => by simp at h, fun q x hx => by simp at hx⟩, .inl ⟨rfl, rfl, rfl⟩⟩
  · refine ⟨some ⟨g, 0, none⟩, g, cap, rfl, hn, fun _ => (Array.getElem?_eq_some_iff.1 hg).1, hb, ⟨fun _ => rfl, fun q x hx => ?_⟩, .inr rfl⟩
    have hq : q < xs.length := (List.getElem?_eq_some_iff.1 hx).1
    have h1 : (cur.toList.take (xs.length * 1))[q]? = some (.int .i64 x) := by
      rw [ht, List.getElem?_map, hx]
      rfl
    rw [List.getElem?_take_of_lt (by omega)] at h1
    simp only [World.cell?, hg]
    simpa using h1
end Go.Proofs.Ytkcknoodcgmndaa
