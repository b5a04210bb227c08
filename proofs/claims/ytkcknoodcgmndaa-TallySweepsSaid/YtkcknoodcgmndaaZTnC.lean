/- TallyNil: the law's end. -/
import Derived.Test.YtkcknoodcgmndaaZOcB
import Derived.Test.YtkcknoodcgmndaaZTnO
import Derived.Test.YtkcknoodcgmndaaZTbA
import Derived.Test.YtkcknoodcgmndaaZSwB
namespace Go.Proofs.Ytkcknoodcgmndaa
open Go.Conc Go.RowKit
open Go.ConcN (sumTo)
set_option linter.unusedVariables false
set_option linter.unusedSimpArgs false
set_option maxRecDepth 100000
set_option maxHeartbeats 8000000
















theorem sum_le9 (f : Nat → Nat) (m : Nat) (h : ∀ j, f j ≤ m) : ∀ n, sumTo n f ≤ n * m
  | 0 => by simp [sumTo]
  | n + 1 => by
    have := sum_le9 f m h n
    have h1 := h n
    simp only [sumTo]
    rw [Nat.add_mul, Nat.one_mul]
    omega
end Go.Proofs.Ytkcknoodcgmndaa
