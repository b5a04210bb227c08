/- The walk of CrcBursts. -/
import Derived.Test.YtoifaeabieojbaaCrcN
namespace Go.Proofs.Ytoifaeabieojbaa
open Go.RowKit
set_option linter.unusedSimpArgs false
set_option linter.unusedVariables false
set_option maxRecDepth 100000
set_option maxHeartbeats 2000000

theorem sealB_bs (b : List Nat) (h : isBs b) : isBs (sealB b) := by
  intro x hx
  rcases List.mem_append.1 hx with hx | hx
  · exact h x hx
  · exact le4_lt _ x hx
theorem turnV_bs (bit : Int) (pat : Nat) (l : List Nat) (h : isBs l) : isBs (turnV bit pat l) := by
  unfold turnV
  split
  · exact turnK_lt _ _ _ h 32
  · exact h
theorem burst_V (b : List Nat) (hb : isBs b) (k pat : Nat) (hk : k < 8 * (b.length + 4)) : fitsL (turnV (k : Int) pat (sealB b)) = decide (bI (turnV (k : Int) pat (sealB b)) = bI (sealB b)) := by
  have hinj : ∀ x y : List Nat, bI x = bI y ↔ x = y := fun x y => ⟨fun e => (List.map_inj_right (fun a b hab => by omega)).1 e, fun e => by rw [e]⟩
  have hl : (sealB b).length = b.length + 4 := by simp [sealB, le4]
  have e : turnV (k : Int) pat (sealB b) = turnK k pat (sealB b) 32 := by
    unfold turnV
    rw [if_pos ⟨by omega, by simp [hl]; omega⟩]; simp
  rw [e, burst_fits b hb k pat (by omega), Bool.eq_iff_iff, decide_eq_true_eq, decide_eq_true_eq, hinj]
end Go.Proofs.Ytoifaeabieojbaa
