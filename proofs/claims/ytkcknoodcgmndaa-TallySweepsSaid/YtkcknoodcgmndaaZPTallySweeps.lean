/- TallySweeps: for every input, on every tape, the law returns true, and each argument reads as it did. No condition. -/
import Derived.Test.YtkcknoodcgmndaaRows
import Derived.Test.YtkcknoodcgmndaaZSzG
import Derived.Test.YtkcknoodcgmndaaZSzO
import Derived.WalkKit
import Derived.ProofKit
import Derived.OpenShut
import Derived.ShutString
import Derived.ChangeOld
import Derived.Below
import Derived.Conc.Holds
import Derived.Conc.LeavingOf
namespace Go.Proofs.Ytkcknoodcgmndaa.tallySweeps
open Go.ChangeShapes Go.WideShapes Go.ChangeAt Go.RowKit Go.Conc
set_option linter.unusedVariables false
set_option linter.unusedSimpArgs false

theorem own : ownKnob Try.prog.godebug = none := by kernel_rfl
theorem laidOut : laidOutB Try.prog = true := by kernel_rfl

set_option maxRecDepth 100000 in
theorem lifted (os : Os) (started : os.Started) (H : Type) (enc : TypeId × Value → H) :
    ReturnsInLeavingWide {} Try.checked os 4 .any (Rows.tallySweepsSpec.pre6 enc Try.prog Try.f4 Rows.tallySweepsRow.domain false) (Rows.tallySweepsSpec.post enc Try.prog Try.f4 false true false false) := by
  refine returnsInLeavingWide_of_change_sized (C := Try.checked) own started Try.func4
    (ChangeSpec.witness6 (enc := enc) (C := Try.checked) false ⟨#[], #[.int .i64 0, .slice none 0 0, .slice none 0 0], []⟩ 8 (by kernel_rfl) (by kernel_rfl) (by kernel_rfl) (by kernel_rfl)) ?_
  intro W base args ds gs before hval0 hW _ hsz0 _
  have hval : ∀ (j : Nat) t v, Try.f4.params[j]? = some t → args[j]? = some v → Value.okWide Try.prog W .any base t v := hval0
  have hW' := hW
  obtain ⟨p, q, hA0, hV, rfl, hfz, hnd⟩ := hW
  have hA : DataW.TrodAll enc Try.prog W 0 (fun _ => true) true Try.f4.params.toList args.toList ds p := hA0
  rw [Try.params4] at hA hval
  obtain ⟨v0, vs0, d0, ds0, p0, q0, hargs, rfl, rfl, h0, r0⟩ := trodAll_cons hA
  obtain ⟨v1, vs1, d1, ds1, p1, q1, rfl, rfl, rfl, h1, r1⟩ := trodAll_cons r0
  obtain ⟨v2, vs2, d2, ds2, p2, q2, rfl, rfl, rfl, h2, r2⟩ := trodAll_cons r1
  obtain ⟨rfl, rfl, rfl⟩ := trodAll_nil r2
  obtain rfl : args = #[v0, v1, v2] := by cases args; simp_all
  obtain ⟨rfl, rfl⟩ := trodVars_none hV
  have k0 := h0
  have lt0 : ∀ x ∈ p0, x.block < W.heap.size := by obtain ⟨m, hm⟩ := k0; exact DataW.trod_lt m _ _ _ hm
  have k1 := h1
  have lt1 : ∀ x ∈ p1, x.block < W.heap.size := by obtain ⟨m, hm⟩ := k1; exact DataW.trod_lt m _ _ _ hm
  have k2 := h2
  have lt2 : ∀ x ∈ p2, x.block < W.heap.size := by obtain ⟨m, hm⟩ := k2; exact DataW.trod_lt m _ _ _ hm
  obtain ⟨a0, rfl, rfl, rfl, w0⟩ := open_int Try.underlying3 (hval 0 3 v0 rfl rfl) h0
  obtain ⟨fl, fA, fb, fo, fcap, rfl, hfl, hfA, hfc⟩ := open_firsts (hval 1 33 v1 rfl rfl) h1 (fun y hy => by
    have hz := List.all_eq_true.1 hsz0 y (by
      simp only [DataW.weightsEach, Try.params4, List.cons_append, List.nil_append, List.mem_append]
      exact .inr (.inl hy))
    simpa using hz)
  obtain ⟨ll, A1, cap, lb, lo, pA, pd, po, pc, rfl, hlen, hin⟩ := open_lists (hval 2 34 v2 rfl rfl) h2 (fun y hy => by
    have hz := List.all_eq_true.1 hsz0 y (by
      simp only [DataW.weightsEach, Try.params4, List.cons_append, List.nil_append, List.mem_append]
      exact .inr (.inr (.inl hy)))
    simpa using hz)
  have hX := sweepsX (Post := fun v w' => v = .bool true ∧ Below W.heap.size W w') a0 fA fcap fb fo fl ll A1 cap lb lo pA pd po pc W hin hlen hfA hfc hfl
  obtain ⟨M, last, o, w', t', e1, e2, e3, e4⟩ := solo_runs (by kernel_rfl) (fun v w w₁ r hp => by obtain ⟨q, rfl⟩ := r; exact ⟨hp.1, ⟨hp.2.os, hp.2.tape, hp.2.output, hp.2.size, hp.2.block⟩⟩) hX
  refine ⟨M, last, o, w', t', e1, e2, e3, e4.mono fun v hF => ?_⟩
  obtain ⟨he, bel⟩ := hF
  subst he
  exact ⟨_, _, _, [], _, [], hW', trodAll_mk1 (shut_bool Try.underlying4 _), (trodAll_cons_mk (Below.trod laidOut (by kernel_rfl) (of_decide_eq_true (by kernel_rfl)) k0 bel lt0) (trodAll_cons_mk (Below.trod laidOut (by kernel_rfl) (of_decide_eq_true (by kernel_rfl)) k1 bel lt1) (trodAll_cons_mk (Below.trod laidOut (by kernel_rfl) (of_decide_eq_true (by kernel_rfl)) k2 bel lt2) trodAll_mk0))), rfl, bel.frame _, fun h => by cases h⟩

theorem over : Rows.tallySweepsRow.holds Try.pinned (OpenSpec.ofChange Rows.tallySweepsSpec) :=
  OpenClaim.holds_of_wide_leaving 4 Try.f4 rfl rfl rfl rfl rfl rfl rfl ⟨rfl, rfl, rfl, rfl, rfl⟩ rfl rfl rfl rfl rfl (by kernel_rfl) Try.func4 (by kernel_rfl)
    (of_decide_eq_true (by kernel_rfl)) (by unfold Func.isWrapper; first | (rw [if_pos (by decide +kernel)]; kernel_rfl) | (rw [if_neg (by decide +kernel)]; exact ⟨rfl, rfl⟩))
    (fun os started H enc _ => lifted os started H enc)

theorem proved : Rows.TallySweepsSaid := over
#print axioms proved
end Go.Proofs.Ytkcknoodcgmndaa.tallySweeps
