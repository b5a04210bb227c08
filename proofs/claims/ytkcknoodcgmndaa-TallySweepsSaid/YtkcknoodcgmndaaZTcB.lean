/- tally's clock, by goroutine 0 between phases. -/
import Derived.Test.YtkcknoodcgmndaaZRfD
namespace Go.Proofs.Ytkcknoodcgmndaa
open Go.Conc Go.RowKit
set_option linter.unusedVariables false
set_option linter.unusedSimpArgs false
set_option maxRecDepth 100000
set_option maxHeartbeats 4000000














theorem ev_eq_nil {P : Program} {t e : TypeId} (h : P.underlying t = some (.pointer e)) (p : Option Addr) (w : World) : Sem.events P (binOp .eql t (.pointer p) (.pointer none)) w #[] = #[] := by
  have key : Sem.events P (Op.equalIn (9999 + 1) t (.pointer p) (.pointer none)) w #[] = #[] := by
    unfold Op.equalIn
    cases p <;> simp [Sem.events_bind, run_underlying h, events_underlying, Sem.events_pure, Result.evThen]
  have key2 : ∃ b, Sem.run P (Op.equalIn (9999 + 1) t (.pointer p) (.pointer none)) w = .ok b w := by
    unfold Op.equalIn
    cases p <;> simp [Sem.run_bind, run_underlying h, Sem.run_pure]
  obtain ⟨b, hb⟩ := key2
  show Sem.events P (Op.equalIn (9999 + 1) t (.pointer p) (.pointer none) >>= fun b => pure (Value.bool b)) w #[] = #[]
  simp only [Sem.events_bind, hb, key, Sem.events_pure, Result.evThen_ok]
section
variable {Shun : Loc → Prop}
end
end Go.Proofs.Ytkcknoodcgmndaa
