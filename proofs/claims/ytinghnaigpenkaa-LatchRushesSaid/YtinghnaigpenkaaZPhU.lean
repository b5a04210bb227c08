/- The starter's idle steps. -/
import Derived.Test.YtinghnaigpenkaaZPhH
import Derived.Conc.WgGenN3
namespace Go.Proofs.Ytinghnaigpenkaa
open Go.Conc Go.RowKit Go.Conc.Lib Go.ConcR.Gen
open Go.ConcN (st_flag st_waiters)
open Go.ConcN.Gen (WgLive.cell0 WgLive.cell1)
open Go.ConcR (KK wgBlock WgAt stA smA rd wr mk Payload)
set_option linter.unusedVariables false
set_option linter.unusedSimpArgs false
set_option linter.unusedSectionVars false
variable [Payload] {L : WgLink}

theorem D0.refl (c : Cfg) (lw : Nat) (w : World) : D0 c lw w w #[] := ⟨.refl w, Nat.le_refl _, fun _ _ _ => rfl, fun _ h => h, by simp⟩
theorem d0_none {c : Cfg} {lw : Nat} {w : World} {es : Array Event} (h : ∀ e ∈ es, False) : D0 c lw w w es := ⟨.refl w, Nat.le_refl _, fun _ _ _ => rfl, fun _ h => h, fun e he => (h e he).elim⟩
theorem d0_said {c : Cfg} (K : c.Ok) {lw : Nat} {w : World} {m : Mark} (a : Addr) (ha : a.block = c.Wg) (hm : m = .read a ∨ m = .write a) : D0 c lw w w #[⟨.mark m, false, true⟩] := by
  refine ⟨.refl w, Nat.le_refl _, fun _ _ _ => rfl, fun _ h => h, fun e he => ?_⟩
  rw [Array.mem_singleton] at he
  subst he
  refine ⟨fun x hx _ => ?_, ?_⟩
  · rcases hm with rfl | rfl <;> simp only [MemAct.ofEvent, MemAct.touch?, Option.some.injEq] at hx <;> subst hx <;> exact .inl ⟨K.shWg a ha, by simp, fun e => by injection e with e; exact absurd ha (by rw [e]; exact K.pfaWg)⟩
  · rcases hm with rfl | rfl <;> exact ⟨by simp, by simp, by simp⟩
end Go.Proofs.Ytinghnaigpenkaa
