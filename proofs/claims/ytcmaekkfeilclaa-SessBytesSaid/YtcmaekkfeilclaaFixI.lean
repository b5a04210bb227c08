/- The law's awake. -/
import Derived.Test.YtcmaekkfeilclaaFixH
import Derived.Lib.SlBytesConst
import Derived.Laws.BytesArg
import Derived.Lib.SmallJoins
namespace Go.Proofs.Ytcmaekkfeilclaa
open Go.RowKit
set_option linter.unusedSimpArgs false
set_option linter.unusedVariables false
set_option maxHeartbeats 1000000

theorem fo_awake : ((((⟨[], atLeast0 9, 0⟩ : FO).num 258 2).bool true).text [97]) = ⟨[1, 2, 1, 0, 1, 97], 9, 0⟩ := by rfl
theorem fi_awake : ((⟨[1, 2, 1, 0, 1, 97], 0⟩ : FI).upto 2 18446744073709551615).2 = 258 := by rfl
theorem str_awake : strOfNums [1, 2, 1, 0, 1, 97] = ⟨#[1, 2, 1, 0, 1, 97]⟩ := by rfl
theorem conv_awake (w : World) (base : Nat) (v : Value) (xs : List Int) (n : Nat) (h : w.ownsRow base 5 1 v n (xs.map (Value.int .u8))) (h0 : 0 < n) :
    ∃ g c, v = .slice (some ⟨g, 0, none⟩) n c ∧ base ≤ g ∧ Reads w w.heap.size 1 (some ⟨g, 0, none⟩) n (xs.map (Value.int .u8)) ∧ (convert 51 9 (.slice (some ⟨g, 0, none⟩) n c)).run Try.prog w = .ok (.string (strOfNums xs)) w := by
  obtain ⟨g, c, rfl, hg, hlt⟩ := h.form h0
  have hr := Reads.of_own h
  refine ⟨g, c, rfl, hg, hr, ?_⟩
  refine run_convert_bytes_arg w 51 5 Try.underlying51 Try.underlying5 g 0 n c xs (by have := hr.1; simpa using this) (fun i hi => ?_) _ Try.underlying9
  obtain ⟨ad, z, e, _, hz, hc⟩ := reads_int hr hi
  injection e with e
  subst e
  rw [Go.WideShapes.add_plain] at hc
  rw [List.getD_eq_getElem?_getD, hz]
  exact hc

end Go.Proofs.Ytcmaekkfeilclaa
