/- What a slice expression lists. -/
import Derived.Test.YtkcknoodcgmndaaZReC
namespace Go.Proofs.Ytkcknoodcgmndaa
open Go.Conc Go.RowKit
set_option linter.unusedVariables false
set_option linter.unusedSimpArgs false
theorem ev_slice_h (w : World) (a : Option Addr) (len cap : Nat) (i : Int) (h0 : 0 ≤ i) (h1 : i ≤ (cap : Int)) (es : Array Event) : (Instr.sliceAt 33 (.slice a len cap) none (some (.int .i64 i)) none).events Try.prog w es = es := by
  have h2 : ((if false then 0 else i.toNat : Nat) : Int) = i := by simp; omega
  have hu := run_underlying (w := w) Try.underlying33
  unfold Instr.sliceAt
  simp [Sem.events_bind, hu, events_underlying, Instr.slice, Instr.sliceBounds, Instr.sliceBound, asIntOf, h0, h1]
theorem ev_slice_l (w : World) (a : Option Addr) (len cap : Nat) (i : Int) (h0 : 0 ≤ i) (h1 : i ≤ (len : Int)) (es : Array Event) : (Instr.sliceAt 33 (.slice a len cap) (some (.int .i64 i)) none none).events Try.prog w es = es := by
  have hu := run_underlying (w := w) Try.underlying33
  unfold Instr.sliceAt
  simp [Sem.events_bind, hu, events_underlying, Instr.slice, Instr.sliceBounds, Instr.sliceBound, asIntOf, h0, h1]
theorem rn_slice_h (w : World) (a : Option Addr) (len cap : Nat) (i : Int) (h0 : 0 ≤ i) (h1 : i ≤ (cap : Int)) : (Instr.sliceAt 33 (.slice a len cap) none (some (.int .i64 i)) none).run Try.prog w = .ok (.slice a i.toNat cap) w := by
  obtain ⟨inf, hi, hz, hsz, hby⟩ := intInfo'
  have hu := run_underlying (w := w) Try.underlying33
  unfold Instr.sliceAt
  simp [Sem.run_bind, hu, Instr.slice, Instr.sliceBounds, Instr.sliceBound, asIntOf, h0, h1, sizeOf, typeInfo, hi, hsz]
  try (cases a <;> simp [Addr.add])
theorem rn_slice_l (w : World) (a : Option Addr) (len cap : Nat) (i : Int) (h0 : 0 ≤ i) (h1 : i ≤ (len : Int)) : (Instr.sliceAt 33 (.slice a len cap) (some (.int .i64 i)) none none).run Try.prog w = .ok (.slice (if cap = i.toNat then a else a.map (·.add i.toNat)) (len - i.toNat) (cap - i.toNat)) w := by
  obtain ⟨inf, hi, hz, hsz, hby⟩ := intInfo'
  have hu := run_underlying (w := w) Try.underlying33
  unfold Instr.sliceAt
  simp [Sem.run_bind, hu, Instr.slice, Instr.sliceBounds, Instr.sliceBound, asIntOf, h0, h1, sizeOf, typeInfo, hi, hsz]
end Go.Proofs.Ytkcknoodcgmndaa
