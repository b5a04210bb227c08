/- The walk of CrcSums. -/
import Derived.Test.YtoifaeabieojbaaCrcF
namespace Go.Proofs.Ytoifaeabieojbaa
open Go.RowKit
set_option linter.unusedSimpArgs false
set_option linter.unusedVariables false
set_option maxRecDepth 100000
set_option maxHeartbeats 1000000

theorem nats_of (bs : List Int) (h : ∀ z ∈ bs, 0 ≤ z ∧ z < 256) : ∃ l : List Nat, bI l = bs ∧ isBs l := by
  induction bs with
  | nil => exact ⟨[], rfl, by intro b hb; cases hb⟩
  | cons z bs ih =>
    obtain ⟨l, h1, h2⟩ := ih (fun x hx => h x (by simp [hx]))
    have hz := h z (by simp)
    obtain ⟨n, rfl⟩ := Int.eq_ofNat_of_zero_le hz.1
    refine ⟨n :: l, by rw [← h1]; rfl, ?_⟩
    intro b hb
    rcases List.mem_cons.1 hb with rfl | hb
    · omega
    · exact h2 b hb
theorem bI_take_map (l : List Nat) (k : Nat) : ((bI l).map (Value.int .u8)).take k = (bI (l.take k)).map (Value.int .u8) := by
  simp [bI, List.map_take]
theorem bI_drop_map (l : List Nat) (k : Nat) : ((bI l).map (Value.int .u8)).drop k = (bI (l.drop k)).map (Value.int .u8) := by
  simp [bI, List.map_drop]
end Go.Proofs.Ytoifaeabieojbaa
