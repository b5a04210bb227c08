/- The starter's walk through the group's Wait, in whatever company of workers. -/
import Derived.Test.YtinghnaigpenkaaZPhU
import Derived.Conc.WgGenN3
namespace Go.Proofs.Ytinghnaigpenkaa
open Go.Conc Go.RowKit Go.Conc.Lib Go.ConcR.Gen
open Go.ConcN (st_flag st_waiters)
open Go.ConcN.Gen (WgLive.cell0 WgLive.cell1)
open Go.ConcR (KK wgBlock WgAt stA smA rd wr mk Payload)
set_option linter.unusedVariables false
set_option linter.unusedSimpArgs false
set_option linter.unusedSectionVars false
variable [Payload] {L : WgLink}

















/-- at the head of Wait's loop -/
def AnchP (L : WgLink) (c : Cfg) (F : Nat → World → Prop) (cc : Frame) (cs : List Frame) (lw : Nat) (g : Goroutine) (w : World) : Prop :=
  ∃ T : Array Value, g = G ((base L.wait).at ⟨T, []⟩ [.code (L7 L), .inLoop (L7 L), .inBlock 0]) (cc :: cs) ∧ T.size = 84 ∧ T[0]? = some (.pointer (some ⟨c.Wg, 0, none⟩)) ∧ F lw w ∧ ConcN.WgLive c.ty c.Wg w
section
variable {c : Cfg} {lw : Nat} {F : Nat → World → Prop} {Fin : Goroutine → World → Prop}
  {b₀ : Frame} {a₀ : Act} {ops₀ : Array Oper} {i₀ : Nat} {rest₀ : List Nat} {k₀ : List Item} {cs : List Frame}

set_option maxRecDepth 100000 in
theorem waitStart {P : Program} (H : WgLib P L) (K : c.Ok) (hFR : ∀ w w', R0 c lw w w' → F lw w → F lw w') (w : World) (hF : F lw w ∧ ConcN.WgLive c.ty c.Wg w) :
    Goes P true (R0 c lw) (D0 c lw) (AtKd P c lw (AnchP L c F (b₀.at a₀ (.inRegion ops₀ (i₀ :: rest₀) :: k₀)) cs lw)) 200
      (G ((base L.wait).at ⟨#[.pointer (some ⟨c.Wg, 0, none⟩)] ++ Array.replicate 83 undef, []⟩ [.code (body_wait L)]) (b₀.at a₀ (.inRegion ops₀ (i₀ :: rest₀) :: k₀) :: cs)) w := by
  lib_facts
  have rl9 : ∀ {w w₁ : World}, (F lw w ∧ ConcN.WgLive c.ty c.Wg w) → R0 c lw w w₁ → (F lw w₁ ∧ ConcN.WgLive c.ty c.Wg w₁) := fun h r => ⟨hFR _ _ r h.1, r.live h.2⟩
  simp only [body_wait, waitFn, Option.getD_some]
  walk_nrm
  refine Goes.step rfl (fun _ h₁ => ?_); replace hF := rl9 hF h₁; clear h₁
  ((first | rw [stepG_seq] | rw [stepG_region_end] | rw [stepG_skip] | rw [stepG_block] | rw [stepG_loop] | rw [stepG_inBlock] | rw [stepG_inLoop] | rw [stepG_ret'] | rw [stepG_end]); simp only [goes_go]; refine ⟨(by refine d0_none ?_; intro e he; simp at he), ?_⟩)
  refine Goes.step rfl (fun _ h₁ => ?_); replace hF := rl9 hF h₁; clear h₁
  ((first | rw [stepG_cond (t := true) rfl] | rw [stepG_cond (t := false) rfl] | rw [stepG_cond (t := false) (by simp [Act.eval]; omega)] | rw [stepG_cond (t := true) (by simp [Act.eval]; omega)]); simp only [goes_go, if_true, if_false, Bool.false_eq_true, ↓reduceIte]; refine ⟨(by refine d0_none ?_; intro e he; simp at he), ?_⟩)
  refine Goes.step rfl (fun _ h₁ => ?_); replace hF := rl9 hF h₁; clear h₁
  (rw [stepG_region]; simp only [goes_go, List.size_toArray, List.length_cons, List.length_nil, Nat.reduceAdd, Nat.zero_add, List.range, List.range.loop]; refine ⟨(by refine d0_none ?_; intro e he; simp at he), ?_⟩)
  refine Goes.stop (fun w₁ h₁ => ?_)
  replace hF := rl9 hF h₁
  clear h₁
  refine ⟨rfl, _, stepG_mark0 .disable (by simp) rfl rfl (by k_ne) rfl H.f_disable (x_disable_n L) (x_disable_b L) (x_disable_x L) (x_disable_f L), 3, ?_⟩
  walk_nrm
  refine Goes.step rfl (fun _ h₁ => ?_); replace hF := rl9 hF h₁; clear h₁
  ((first | rw [stepG_seq] | rw [stepG_region_end] | rw [stepG_skip] | rw [stepG_block] | rw [stepG_loop] | rw [stepG_inBlock] | rw [stepG_inLoop] | rw [stepG_ret'] | rw [stepG_end]); simp only [goes_go]; refine ⟨(by refine d0_none ?_; intro e he; simp at he), ?_⟩)
  refine Goes.step rfl (fun _ h₁ => ?_); replace hF := rl9 hF h₁; clear h₁
  ((first | rw [stepG_seq] | rw [stepG_region_end] | rw [stepG_skip] | rw [stepG_block] | rw [stepG_loop] | rw [stepG_inBlock] | rw [stepG_inLoop] | rw [stepG_ret'] | rw [stepG_end]); simp only [goes_go]; refine ⟨(by refine d0_none ?_; intro e he; simp at he), ?_⟩)
  refine Goes.step rfl (fun _ h₁ => ?_); replace hF := rl9 hF h₁; clear h₁
  ((first | rw [stepG_seq] | rw [stepG_region_end] | rw [stepG_skip] | rw [stepG_block] | rw [stepG_loop] | rw [stepG_inBlock] | rw [stepG_inLoop] | rw [stepG_ret'] | rw [stepG_end]); simp only [goes_go]; refine ⟨(by refine d0_none ?_; intro e he; simp at he), ?_⟩)
  exact Goes.stop (fun w₂ h₂ => ⟨_, rfl, by simp, by simp, rl9 hF h₂⟩)
end
end Go.Proofs.Ytinghnaigpenkaa
