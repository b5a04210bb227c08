/- LatchRushes: for every input, on every tape, the law returns true, and each argument reads as it did. No condition. -/
import Derived.Test.YtinghnaigpenkaaRows
import Derived.Test.YtinghnaigpenkaaZQuO
import Derived.WalkKit
import Derived.WalkLawsBesides
import Derived.WalkSpells
import Derived.Outline
import Derived.Lib.Hide
import Derived.ProofKit
import Derived.OpenShut
import Derived.ShutString
import Derived.ChangeOld
import Derived.Below
import Derived.Conc.Holds
import Derived.Conc.HoldsTime
import Derived.Conc.LeavingOf
namespace Go.Proofs.Ytinghnaigpenkaa.latchRushes
open Go.ChangeShapes Go.WideShapes Go.ChangeAt Go.RowKit Go.Conc Go.ConcM
set_option linter.unusedVariables false
set_option linter.unusedSimpArgs false

theorem own : ownKnob Try.prog.godebug = none := by kernel_rfl
theorem laidOut : laidOutB Try.prog = true := by kernel_rfl

set_option maxRecDepth 100000 in
theorem lifted (os : Os) (started : os.Started) (H : Type) (enc : TypeId × Value → H) (F : Stop.Interp) :
    ReturnsInLeavingWide Rows.latchRushesRow.assume Try.checked os 6 .any (Rows.latchRushesSpec.pre6 enc Try.prog Try.f6 Rows.latchRushesRow.domain false) ((OpenSpec.ofChange Rows.latchRushesSpec).postWith enc Try.prog Try.f6 F (outsideKept [.timePasses]) false true false) := by
  refine returnsInLeavingWide_of_change_time (C := Try.checked) own started Try.func6
    (ChangeSpec.witness6c (enc := enc) (C := Try.checked) ⟨#[], #[.int .u64 0, .int .i64 0], []⟩ 8 (by kernel_rfl) (by kernel_rfl) (by kernel_rfl) (by kernel_rfl)) ?_
  intro W base args ds gs before hval0 hW _ hsz0 _
  have hval : ∀ (j : Nat) t v, Try.f6.params[j]? = some t → args[j]? = some v → Value.okWide Try.prog W .any base t v := hval0
  have hW' := hW
  obtain ⟨p, q, hA0, hV, rfl, hfz, hnd⟩ := hW
  have hA : DataW.TrodAll enc Try.prog W 0 (fun _ => true) true Try.f6.params.toList args.toList ds p := hA0
  rw [Try.params6] at hA hval
  obtain ⟨v0, vs0, d0, ds0, p0, q0, hargs, rfl, rfl, h0, r0⟩ := trodAll_cons hA
  obtain ⟨v1, vs1, d1, ds1, p1, q1, rfl, rfl, rfl, h1, r1⟩ := trodAll_cons r0
  obtain ⟨rfl, rfl, rfl⟩ := trodAll_nil r1
  obtain rfl : args = #[v0, v1] := by cases args; simp_all
  obtain ⟨rfl, rfl⟩ := trodVars_none hV
  have k0 := h0
  have lt0 : ∀ x ∈ p0, x.block < W.heap.size := by obtain ⟨m, hm⟩ := k0; exact DataW.trod_lt m _ _ _ hm
  have k1 := h1
  have lt1 : ∀ x ∈ p1, x.block < W.heap.size := by obtain ⟨m, hm⟩ := k1; exact DataW.trod_lt m _ _ _ hm
  obtain ⟨a0, rfl, rfl, rfl, w0⟩ := open_int Try.underlying25 (hval 0 25 v0 rfl rfl) h0
  obtain ⟨a1, rfl, rfl, rfl, w1⟩ := open_int Try.underlying3 (hval 1 3 v1 rfl rfl) h1
  have hX := callX_mono (latchRushes_X (Post := fun v w' => v = .bool true ∧ OsLater W.os w'.os ∧ Below W.heap.size W { w' with os := W.os }) a0 a1 W) (fun v w' x' h => (⟨⟨h.1, h.2.1.env.os, ⟨rfl, h.2.1.env.tape, h.2.1.env.output, h.2.1.size, fun k hk => h.2.1.block k hk (by omega)⟩⟩, h.2.2⟩ : (v = .bool true ∧ OsLater W.os w'.os ∧ Below W.heap.size W { w' with os := W.os }) ∧ x'.d = 0))
  obtain ⟨M, last, o, w', t', e1, e2, e3, v, e4, hF, g1, g2, g3, g4⟩ := solo_runs (by kernel_rfl) (fun v w w₁ r hp => by obtain ⟨q, rfl⟩ := r; exact ⟨hp.1, hp.2.1, ⟨hp.2.2.os, hp.2.2.tape, hp.2.2.output, hp.2.2.size, hp.2.2.block⟩⟩) hX
  obtain ⟨he, hlat, bel⟩ := hF
  refine ⟨M, last, o, w', t', e1, e2, e3, v, e4, ⟨?_, hlat⟩, g1, g2, g3, g4⟩
  subst he
  exact ⟨_, _, _, [], _, [], hW', trodAll_mk1 (shut_bool Try.underlying4 _), (trodAll_cons_mk (Below.trod laidOut (by kernel_rfl) (of_decide_eq_true (by kernel_rfl)) k0 bel lt0) (trodAll_cons_mk (Below.trod laidOut (by kernel_rfl) (of_decide_eq_true (by kernel_rfl)) k1 bel lt1) trodAll_mk0)), rfl, bel.frame _, fun h => by cases h⟩

theorem over : Rows.latchRushesRow.holds Try.pinned (OpenSpec.ofChange Rows.latchRushesSpec) :=
  OpenClaim.holds_of_wide_leaving_time 6 Try.f6 rfl rfl rfl rfl rfl rfl rfl ⟨rfl, rfl, rfl, rfl, rfl⟩ rfl rfl rfl rfl rfl (by kernel_rfl) Try.func6 (by kernel_rfl)
    (of_decide_eq_true (by kernel_rfl)) (by unfold Func.isWrapper; first | (rw [if_pos (by decide +kernel)]; kernel_rfl) | (rw [if_neg (by decide +kernel)]; exact ⟨rfl, rfl⟩))
    (fun os started H enc _ F => lifted os started H enc F)

theorem proved : Rows.LatchRushesSaid := over
#print axioms proved
end Go.Proofs.Ytinghnaigpenkaa.latchRushes
