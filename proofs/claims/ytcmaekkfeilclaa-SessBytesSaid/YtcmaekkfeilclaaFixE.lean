/- Package fix: the reference's Big, Text; Out.Text. -/
import Derived.Test.YtcmaekkfeilclaaFixD
namespace Go.Proofs.Ytcmaekkfeilclaa
open Go.RowKit
set_option linter.unusedSimpArgs false
set_option linter.unusedVariables false
set_option maxHeartbeats 1000000

theorem refBig_any (n k : Nat) (z : Int) (hz : z = n) (hn : n < 18446744073709551616) (hk : 1 ≤ k) (hk8 : k ≤ 8) (hf : fitsB n k = true) (w : World) :
    Calls Try.prog 35 #[.int .u64 z, .int .i64 k] w fun e w' => ∃ v, e = .returned v ∧ w'.ownsRow w.heap.size 5 1 v k ((big n k).map (Value.int .u8)) ∧ Below w.heap.size w w' := by
  subst hz
  go_enter Try.func35, Try.ntmps35
  go_wp2_with (fail)
  refine (refPut_ok n k hn hk hk8 hf _).mono ?_
  rintro e w1 ⟨v, rfl, h1, h2⟩
  have H1 := Lib.hid h1
  have H2 := Lib.hid h2
  clear h1 h2
  go_wp2
  go_ret
  exact ⟨_, rfl, H1.out, H2.out⟩

theorem fits2 (n : Nat) (hn : n ≤ 65535) : fitsB n 2 = true := by rw [fitsB, decide_eq_true_eq]; omega

theorem laid_at (z : Int) (n k : Nat) (hz : z = n) (hn : n < 18446744073709551616) (hk : k ≤ 8) (w : World) :
    Calls Try.prog 45 #[.int .u64 z, .int .i64 k] w fun e w' => ∃ v, e = .returned v ∧ w'.ownsRow w.heap.size 5 1 v k ((big n k).map (Value.int .u8)) ∧ Below w.heap.size w w' := by
  subst hz; exact laid_any n k hn hk w

end Go.Proofs.Ytcmaekkfeilclaa
