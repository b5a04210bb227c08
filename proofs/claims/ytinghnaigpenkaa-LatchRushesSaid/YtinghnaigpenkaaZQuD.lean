/- Seat 05: many get a value that is made once: a worker's fill. -/
import Derived.Test.YtinghnaigpenkaaZQuC
import Derived.Test.YtinghnaigpenkaaZLwD
namespace Go.Proofs.Ytinghnaigpenkaa
open Go.Conc Go.RowKit Go.ConcR.Gen
open Go.ConcR (Payload rd wr mk WgAt)
set_option linter.unusedVariables false
set_option linter.unusedSimpArgs false
set_option linter.unusedSectionVars false
set_option maxRecDepth 100000
set_option maxHeartbeats 4000000




theorem ev_neq_nilF (g : FuncId) (cap : Array Value) (w : World) : Sem.events Try.prog (binOp .neq 41 (.func (.func g) #[] cap) .nilFunc) w #[] = #[] := by
  have key : Sem.events Try.prog (Op.equalIn (9999 + 1) 41 (.func (.func g) #[] cap) .nilFunc) w #[] = #[] := by
    unfold Op.equalIn
    simp [Sem.events_bind, run_underlying Try.underlying41, events_underlying, Sem.events_pure, Result.evThen]
  have key2 : ∃ b, Sem.run Try.prog (Op.equalIn (9999 + 1) 41 (.func (.func g) #[] cap) .nilFunc) w = .ok b w := by
    unfold Op.equalIn
    simp [Sem.run_bind, run_underlying Try.underlying41, Sem.run_pure]
  obtain ⟨b, hb⟩ := key2
  show Sem.events Try.prog (Op.equalIn (9999 + 1) 41 (.func (.func g) #[] cap) .nilFunc >>= fun b => pure (Value.bool (!b))) w #[] = #[]
  simp only [Sem.events_bind, hb, key, Sem.events_pure, Result.evThen_ok]
section
variable {p : QuP} {C k N : Nat} {w : World} {ix : Nat} {F : World → Prop} {g : FuncId} {cap : Array Value}
/-- the value is made -/
def Makes (p : QuP) (k C : Nat) (F : World → Prop) : Prop := ∃ g cap, p.fv = .func (.func g) #[] cap ∧ ∀ (N : Nat) (u : QU) (w : World), F w → CallsV Try.prog (quC p) k C g cap 100 N u w (fun N' u' v w' => N' ≤ N ∧ u' = u ∧ v = .int .u64 p.x ∧ F w')
theorem fill_V (h : p.Ok) (hS : Stays (quC p) C F) (hM : Makes p k C F) (hF : F w) :
    CallsV Try.prog (quC p) k C 31 #[.pointer (some ⟨p.L, 0, none⟩)] 2000 N (⟨.c1, .own, ix⟩ : QU) w
      (fun N' u' v w' => N' ≤ N ∧ F w' ∧ u' = (⟨.c3, .own, ix⟩ : QU)) := by
  obtain ⟨g, cap, hfv, hmake⟩ := hM
  have rl9 : ∀ {w w₁ : World}, F w → RW (quC p) C w w₁ → F w₁ := fun h r => hS.rely _ _ r h
  have hmk : ∀ w, F w → w.cell? ⟨p.L, 3, none⟩ = some (.func (.func g) #[] cap) := fun w hF => by
    obtain ⟨σ, hr⟩ := hS.rep _ hF
    have hr : quRep p σ w := hr
    simp [World.cell?, hr.1, lazO, hfv]
  have evF := ev_neq_nilF g cap
  have hlow : (⟨p.L, 3, none⟩ : Addr).block < (quC p).H0 ∧ ¬ (quC p).sh (.cell ⟨p.L, 3, none⟩) ∧ ¬ (quC p).sp (.cell ⟨p.L, 3, none⟩) := by
    have := h.hL; have := h.ne
    refine ⟨by show p.L < p.H + 2; omega, ?_, ?_⟩
    · rintro ⟨a', e, h1⟩
      injection e with e
      subst e
      rcases h1 with h1 | h1
      · exact h1.2.1 rfl
      · simp only at h1; omega
    · rintro (e | ⟨i, e⟩)
      · exact absurd (cell_inj e).2 (by decide)
      · exact this (cell_inj e).1
  refine ⟨_, _, Try.func31, by kernel_rfl, rfl, ?_⟩
  simp only [Try.ntmps31]
  walk_nrm
  refine cv_seq (n₁ := 300) (n₂ := 1500) (by decide) ?_
  co_apply codeV_more
  · (co_apply codeV_region; simp only [List.size_toArray, List.length_cons, List.length_nil, Nat.reduceAdd, Nat.zero_add, List.range, List.range.loop])
    (co_apply opsV_cons_k rfl (by rfl); intro _ hR K9 hK9; replace hF := rl9 hF hR; clear hR; go_simp; refine hK9 _ _ ⟨?_, ?_⟩; (· rw [listed_nil (by simp [go_sem, *])]; exact DW.refl _ _ _); clear hK9 K9; try walk_nrm)
    (co_apply opsV_cons_k rfl (by rfl); intro _ hR K9 hK9; replace hF := rl9 hF hR; clear hR; go_simp; refine hK9 _ _ ⟨?_, ?_⟩; (· rw [listed_nil (by simp [go_sem, *])]; exact DW.refl _ _ _); clear hK9 K9; try walk_nrm)
    (co_apply opsV_cons_k rfl (by rfl); intro _ hR K9 hK9; replace hF := rl9 hF hR; clear hR; go_simp; refine hK9 _ _ ⟨?_, ?_⟩; (· rw [listed_nil (by simp [go_sem, *])]; exact DW.refl _ _ _); clear hK9 K9; try walk_nrm)
    (co_apply opsV_cons_k rfl (by rfl); intro _ hR K9 hK9; replace hF := rl9 hF hR; clear hR; have m1 := hmk _ hF; go_simp; refine hK9 _ _ ⟨?_, ?_⟩; (· refine dw_read (fun e he => ?_); have hm := mem_listed he; simp [go_sem, m1] at hm; subst hm; exact evW_cell (.inr hlow.1) hlow.2); clear hK9 K9 m1; try walk_nrm)
    (co_apply opsV_cons_k rfl (by rfl); intro _ hR K9 hK9; replace hF := rl9 hF hR; clear hR; go_simp; refine hK9 _ _ ⟨?_, ?_⟩; (· rw [listed_nil (by simp [go_sem, *])]; exact DW.refl _ _ _); clear hK9 K9; try walk_nrm)
    (co_apply opsV_nil; simp only [ThenV])
    co_apply codeV_more
    · co_apply codeV_cond (t := true)
      focus (exact rfl)
      simp only [if_true]
      co_apply codeV_seq
      (co_apply codeV_region; simp only [List.size_toArray, List.length_cons, List.length_nil, Nat.reduceAdd, Nat.zero_add, List.range, List.range.loop])
      (co_apply opsV_cons_k rfl (by rfl); intro _ hR K9 hK9; replace hF := rl9 hF hR; clear hR; go_simp; refine hK9 _ _ ⟨?_, ?_⟩; (· rw [listed_nil (by simp [go_sem, *])]; exact DW.refl _ _ _); clear hK9 K9; try walk_nrm)
      (co_apply opsV_cons_k rfl (by rfl); intro _ hR K9 hK9; replace hF := rl9 hF hR; clear hR; go_simp; refine hK9 _ _ ⟨?_, ?_⟩; (· rw [listed_nil (by simp [go_sem, *])]; exact DW.refl _ _ _); clear hK9 K9; try walk_nrm)
      (co_apply opsV_cons_k rfl (by rfl); intro _ hR K9 hK9; replace hF := rl9 hF hR; clear hR; go_simp; refine hK9 _ _ ⟨?_, ?_⟩; (· rw [listed_nil (by simp [go_sem, *])]; exact DW.refl _ _ _); clear hK9 K9; try walk_nrm)
      co_apply opsV_call rfl (by rfl) rfl
      · exact callsV_args (by simp [Act.eval]) (qadd_V (k := k) (N := N) h hS hF)
      rintro N4 u4 v4 w4 ⟨hN4, hF4, rfl⟩
      clear hF
      have hF := hF4
      clear hF4
      walk_nrm
      (co_apply opsV_nil; simp only [ThenV])
      (co_apply codeV_region; simp only [List.size_toArray, List.length_cons, List.length_nil, Nat.reduceAdd, Nat.zero_add, List.range, List.range.loop])
      (co_apply opsV_cons_k rfl (by rfl); intro _ hR K9 hK9; replace hF := rl9 hF hR; clear hR; go_simp; refine hK9 _ _ ⟨?_, ?_⟩; (· rw [listed_nil (by simp [go_sem, *])]; exact DW.refl _ _ _); clear hK9 K9; try walk_nrm)
      (co_apply opsV_cons_k rfl (by rfl); intro _ hR K9 hK9; replace hF := rl9 hF hR; clear hR; go_simp; refine hK9 _ _ ⟨?_, ?_⟩; (· rw [listed_nil (by simp [go_sem, *])]; exact DW.refl _ _ _); clear hK9 K9; try walk_nrm)
      (co_apply opsV_cons_k rfl (by rfl); intro _ hR K9 hK9; replace hF := rl9 hF hR; clear hR; go_simp; refine hK9 _ _ ⟨?_, ?_⟩; (· rw [listed_nil (by simp [go_sem, *])]; exact DW.refl _ _ _); clear hK9 K9; try walk_nrm)
      (co_apply opsV_cons_k rfl (by rfl); intro _ hR K9 hK9; replace hF := rl9 hF hR; clear hR; go_simp; refine hK9 _ _ ⟨?_, ?_⟩; (· rw [listed_nil (by simp [go_sem, *])]; exact DW.refl _ _ _); clear hK9 K9; try walk_nrm)
      (co_apply opsV_cons_k rfl (by rfl); intro _ hR K9 hK9; replace hF := rl9 hF hR; clear hR; have m1 := hmk _ hF; go_simp; refine hK9 _ _ ⟨?_, ?_⟩; (· refine dw_read (fun e he => ?_); have hm := mem_listed he; simp [go_sem, m1] at hm; subst hm; exact evW_cell (.inr hlow.1) hlow.2); clear hK9 K9 m1; try walk_nrm)
      co_apply opsV_callV rfl (by rfl) rfl rfl
      · exact callsV_args (by simp) (hmake N4 _ _ hF)
      rintro N5 u5 v5 w5 ⟨hN5, rfl, rfl, hF5⟩
      clear hF
      have hF := hF5
      clear hF5
      walk_nrm
      (co_apply opsV_cons_k rfl (by rfl); intro _ hR K9 hK9; replace hF := rl9 hF hR; clear hR; go_simp; refine hK9 _ _ ⟨?_, ?_⟩; (· rw [listed_nil (by simp [go_sem, *])]; exact DW.refl _ _ _); clear hK9 K9; try walk_nrm)
      (co_apply opsV_cons_k rfl (by rfl); intro _ hR K9 hK9; replace hF := rl9 hF hR; clear hR; go_simp; refine hK9 _ _ ⟨?_, ?_⟩; (· rw [listed_nil (by simp [go_sem, *])]; exact DW.refl _ _ _); clear hK9 K9; try walk_nrm)
      refine opsV_visop rfl (by rfl) (by show ¬ QPh.c2 = QPh.fin; simp) fun w₁ h₁ σ hr hp => ?_
      replace hF := rl9 hF h₁
      clear h₁
      have hr0 : quRep p σ w₁ := hr
      obtain ⟨hL, hO, hsz⟩ := hr0
      have hc4 : w₁.cell? ⟨p.L, 5, none⟩ = some (.int .u64 (QS.v σ)) := by simp [World.cell?, hL, lazO]
      have hz4 : w₁.frozen? ⟨p.L, 5, none⟩ = false := by simp [World.frozen?, hL, lazO]
      have hA := aside_setCell w₁ (⟨p.L, 5, none⟩ : Addr) (.int .u64 p.x)
      have ho4 := onlySB_set (quC_ok h) hr (⟨p.L, 5, none⟩ : Addr) (.int .u64 p.x) (.inl rfl)
      have hr4 : quRep p ({ (σ : QS) with v := p.x } : QS) (w₁.setCell ⟨p.L, 5, none⟩ (.int .u64 p.x)) := by
        refine ⟨?_, (hA.block _ (Ne.symm h.ne)).trans hO, by rw [hA.size]; exact hsz⟩
        unfold lazO at hL ⊢
        rw [setCell_eq_setRow w₁ p.L 5 _ _ (0, 0) _ hL, setRow_heap w₁ p.L _ _ _ _ hL]
        rfl
      refine ⟨fun hb => (by cases hb.1), undef, w₁.setCell ⟨p.L, 5, none⟩ (.int .u64 p.x), (⟨.c3, .own, ix⟩ : QU), ({ (σ : QS) with v := p.x } : QS), .inr ⟨by go_simp, rfl⟩, fun e he => ?_, QT.sv (u := (⟨.c2, .own, ix⟩ : QU)) rfl, hr4, ho4, rfl, fun es => ⟨fun l hl => hl, fun l hl => .inl hl, fun l hl => by cases hl.1⟩, fun l ho => .inl ?_, fun _ hb => hb, fun N1 hN => ?_⟩
      · simp [go_sem, storedEv, hc4] at he
        rw [he.2]
        exact ev_own (.inr ⟨rfl, rfl⟩)
      · rcases ho with ⟨h1, rfl⟩ | ⟨h1, rfl⟩
        · exact .inl ⟨by show QPh.c2 ≠ QPh.a0; simp, rfl⟩
        · exact .inr ⟨rfl, rfl⟩
      have hF2 := hS.act _ _ ho4 ⟨_, hr4⟩ hF
      co_apply Exists.intro
      try walk_nrm
      co_apply opsV_nil
      exact ⟨rfl, _, resultsC_none rfl _, by omega, hF2, rfl⟩
    · decide
  · decide
end
end Go.Proofs.Ytinghnaigpenkaa
