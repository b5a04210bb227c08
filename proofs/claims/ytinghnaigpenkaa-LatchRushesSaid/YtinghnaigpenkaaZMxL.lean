/- Seat 05: sync.Mutex's Lock and Unlock, called by a worker, in whatever company. -/
import Derived.Test.YtinghnaigpenkaaZMxK
namespace Go.Proofs.Ytinghnaigpenkaa
open Go.Conc Go.RowKit Go.ConcR.Gen
open Go.ConcR (Payload rd wr mk)
set_option linter.unusedVariables false
set_option linter.unusedSimpArgs false
set_option linter.unusedSectionVars false
set_option maxRecDepth 100000
set_option maxHeartbeats 4000000




section
variable {c : Cfg} {X : MxI c} {k C N : Nat} {u₀ : c.U} {F : World → Prop} {w : World}
/-- internal/sync's Lock -/
theorem lockI_V (K : c.Ok) (hX : X.Ok) (hl : X.Lk u₀) (hS : Stays c C F) (hF : F w) :
    CallsV Try.prog c k C 67 #[.pointer (some X.st)] ((N + 1) * 5001 + 4000) N (X.put u₀ .pre) w (fun N' u' v w' => N' ≤ N ∧ u' = X.put u₀ .own ∧ F w') := by
  have rl9 : ∀ {w w₁ : World}, F w → RW c C w w₁ → F w₁ := fun h r => hS.rely _ _ r h
  refine ⟨_, _, Try.func67, by kernel_rfl, rfl, ?_⟩
  simp only [Try.ntmps67]
  walk_nrm
  refine cv_seq (n₁ := 60) (n₂ := (N + 1) * 5001 + 3900) (by omega) ?_
  co_apply codeV_more
  · (co_apply codeV_region; simp only [List.size_toArray, List.length_cons, List.length_nil, Nat.reduceAdd, Nat.zero_add, List.range, List.range.loop])
    refine opsV_disM K hX hl hS rfl (by rfl) rfl hF (by simp) (fun _ => .dis) rfl rfl ?_
    rintro w1 hF N1 hN1
    co_apply Exists.intro
    walk_nrm
    (co_apply opsV_nil; simp only [ThenV])
    refine cv_seq (n₁ := 300) (n₂ := (N + 1) * 5001 + 3500) (by omega) ?_
    co_apply codeV_more
    · co_apply codeV_seq
      (co_apply codeV_region; simp only [List.size_toArray, List.length_cons, List.length_nil, Nat.reduceAdd, Nat.zero_add, List.range, List.range.loop])
      (co_apply opsV_cons_k rfl (by rfl); intro _ hR K9 hK9; replace hF := rl9 hF hR; clear hR; go_simp; refine hK9 _ _ ⟨?_, ?_⟩; (· rw [listed_nil (by simp [go_sem, *])]; exact DW.refl _ _ _); clear hK9 K9; try walk_nrm)
      (co_apply opsV_cons_k rfl (by rfl); intro _ hR K9 hK9; replace hF := rl9 hF hR; clear hR; go_simp; refine hK9 _ _ ⟨?_, ?_⟩; (· rw [listed_nil (by simp [go_sem, *])]; exact DW.refl _ _ _); clear hK9 K9; try walk_nrm)
      (co_apply opsV_cons_k rfl (by rfl); intro _ hR K9 hK9; replace hF := rl9 hF hR; clear hR; go_simp; refine hK9 _ _ ⟨?_, ?_⟩; (· rw [listed_nil (by simp [go_sem, *])]; exact DW.refl _ _ _); clear hK9 K9; try walk_nrm)
      refine opsV_casM K hX hl hS rfl (by rfl) rfl (old := w0) (new := ⟨true, false, false, 0⟩) (by rfl) (by rfl) (by rfl) hF (by simp) (fun b mu' => (b = true ∧ mu' = .le) ∨ (b = false ∧ mu' = .r0)) (fun ms _ _ e => ?_) (fun ms _ _ e => ⟨_, .miss e, rfl, .inr ⟨rfl, rfl⟩⟩) ?_
      · have hM := MStep.take (m := ms) e
        rw [e] at hM
        exact ⟨_, hM, rfl, .inl ⟨rfl, rfl⟩⟩
      rintro w2 b mu2 hF hR N2 hN2
      rcases hR with ⟨rfl, rfl⟩ | ⟨rfl, rfl⟩
      · co_apply Exists.intro
        walk_nrm
        (co_apply opsV_nil; simp only [ThenV])
        refine codeV_more (n := 200 + 1) (codeV_cond (t := true) rfl ?_) (by decide : 201 ≤ 201)
        simp only [if_true]
        co_apply codeV_more
        · co_apply codeV_seq
          co_apply codeV_cond (t := true)
          focus (exact rfl)
          simp only [if_true]
          co_apply codeV_seq
          (co_apply codeV_region; simp only [List.size_toArray, List.length_cons, List.length_nil, Nat.reduceAdd, Nat.zero_add, List.range, List.range.loop])
          refine opsV_enM K hX hl hS rfl (by rfl) rfl hF (by simp) (fun _ => .en) rfl rfl ?_
          rintro w3 hF N3 hN3
          co_apply Exists.intro
          walk_nrm
          (co_apply opsV_nil; simp only [ThenV])
          (co_apply codeV_region; simp only [List.size_toArray, List.length_cons, List.length_nil, Nat.reduceAdd, Nat.zero_add, List.range, List.range.loop])
          (co_apply opsV_cons_k rfl (by rfl); intro _ hR K9 hK9; replace hF := rl9 hF hR; clear hR; go_simp; refine hK9 _ _ ⟨?_, ?_⟩; (· rw [listed_nil (by simp [go_sem, *])]; exact DW.refl _ _ _); clear hK9 K9; try walk_nrm)
          (co_apply opsV_cons_k rfl (by rfl); intro _ hR K9 hK9; replace hF := rl9 hF hR; clear hR; obtain ⟨σ9, hrp⟩ := hS.rep _ hF; have hc1 := (hX.rst σ9 _ hrp).1; have hcv := run_convert_to_unsafe (P := Try.prog) Try.underlying117 Try.underlying99 (by kernel_rfl) hc1; have hce := fun es => events_convert_to_unsafe (P := Try.prog) Try.underlying117 Try.underlying99 (by kernel_rfl) hc1 es; go_simp; refine hK9 _ _ ⟨?_, ?_⟩; (· rw [listed_nil (by simp [go_sem, hce, *])]; exact DW.refl _ _ _); clear hK9 K9 hcv hce hc1 hrp; clear σ9; try walk_nrm)
          co_apply opsV_idle
          intro w₂ hR
          refine ⟨_, _, _, fun b kk cs hb hk => stepG_markAt .acquire (by simp) rfl (by rfl) hk rfl wgLib.f_acquire (x_acquire_n lnk) (x_acquire_b lnk) (x_acquire_x lnk) (x_acquire_f lnk) (ad := X.st) (by simp [Act.eval]), dw_mark rfl (by simp) (by simp) (by simp), ?_⟩
          replace hF := rl9 hF hR
          clear hR
          walk_nrm
          (co_apply opsV_nil; simp only [ThenV])
          refine codeV_of (wpC_ret (termsW c C) ?_)
          exact ⟨rfl, _, resultsC_none rfl _, by omega, rfl, hF⟩
        · decide
      · co_apply Exists.intro
        walk_nrm
        (co_apply opsV_nil; simp only [ThenV])
        refine codeV_more (n := 200 + 1) (codeV_cond (t := false) rfl ?_) (by decide : 201 ≤ 201)
        simp only [if_false, Bool.false_eq_true]
        refine cv_skip (n := 199) ?_
        simp only [ThenV]
        co_apply codeV_more
        · (co_apply codeV_region; simp only [List.size_toArray, List.length_cons, List.length_nil, Nat.reduceAdd, Nat.zero_add, List.range, List.range.loop])
          (co_apply opsV_cons_k rfl (by rfl); intro _ hR K9 hK9; replace hF := rl9 hF hR; clear hR; go_simp; refine hK9 _ _ ⟨?_, ?_⟩; (· rw [listed_nil (by simp [go_sem, *])]; exact DW.refl _ _ _); clear hK9 K9; try walk_nrm)
          co_apply opsV_call rfl (by rfl) rfl
          · have := lockSlow_V (k := k) (N := N2) K hX hl hS hF
            simpa [Act.eval] using this
          rintro N4 u4 v4 w4 ⟨hN4, rfl, hF⟩
          walk_nrm
          co_apply opsV_nil
          exact ⟨rfl, _, resultsC_none rfl _, by omega, rfl, hF⟩
        · omega
    · decide
  · decide
/-- internal/sync's Unlock -/
theorem unlockI_V (K : c.Ok) (hX : X.Ok) (hl : X.Lk u₀) (hS : Stays c C F) (hF : F w) :
    CallsV Try.prog c k C 68 #[.pointer (some X.st)] ((N + 1) * 2001 + 5000) N (X.put u₀ .own) w (fun N' u' v w' => N' ≤ N ∧ u' = X.put u₀ .out ∧ F w') := by
  have rl9 : ∀ {w w₁ : World}, F w → RW c C w w₁ → F w₁ := fun h r => hS.rely _ _ r h
  have hq : ((Program.funcs Try.prog)[68]?).any (·.norace) = true := by rfl
  refine ⟨_, _, Try.func68, by kernel_rfl, rfl, ?_⟩
  simp only [Try.ntmps68]
  walk_nrm
  refine cv_seq (n₁ := 200) (n₂ := (N + 1) * 2001 + 4700) (by omega) ?_
  co_apply codeV_more
  · co_apply codeV_cond (t := true)
    focus (exact rfl)
    simp only [if_true]
    co_apply codeV_seq
    (co_apply codeV_region; simp only [List.size_toArray, List.length_cons, List.length_nil, Nat.reduceAdd, Nat.zero_add, List.range, List.range.loop])
    (co_apply opsV_cons_k rfl (by rfl); intro _ hR K9 hK9; replace hF := rl9 hF hR; clear hR; go_simp; refine hK9 _ _ ⟨?_, ?_⟩; (· rw [listed_nil (by simp [go_sem, *])]; exact DW.refl _ _ _); clear hK9 K9; try walk_nrm)
    (co_apply opsV_cons_k rfl (by rfl); intro _ hR K9 hK9; replace hF := rl9 hF hR; clear hR; go_simp; refine hK9 _ _ ⟨?_, ?_⟩; (· rw [listed_nil (by simp [go_sem, *])]; exact DW.refl _ _ _); clear hK9 K9; try walk_nrm)
    (co_apply opsV_cons_k rfl (by rfl); intro _ hR K9 hK9; replace hF := rl9 hF hR; clear hR; go_simp; refine hK9 _ _ ⟨?_, ?_⟩; (· rw [listed_nil (by simp [go_sem, *])]; exact DW.refl _ _ _); clear hK9 K9; try walk_nrm)
    co_apply opsV_cons_k rfl (by rfl)
    intro w₁ hR K9 hK9
    replace hF := rl9 hF hR
    clear hR
    obtain ⟨σ9, hrp⟩ := hS.rep _ hF
    have hc1 := (hX.rst σ9 _ hrp).1
    go_simp
    refine hK9 _ _ ⟨?_, ?_⟩
    · unfold listed
      rw [seen_quiet hq _ (fun e he => by
        simp [go_sem, hc1] at he
        subst he
        exact ⟨rfl, by simp⟩)]
      exact DW.refl _ _ _
    clear hK9 K9 hrp
    generalize (X.get σ9).w.enc = e9 at hc1 ⊢
    clear hc1
    clear σ9
    try walk_nrm
    (co_apply opsV_nil; simp only [ThenV])
    co_apply codeV_seq
    (co_apply codeV_region; simp only [List.size_toArray, List.length_cons, List.length_nil, Nat.reduceAdd, Nat.zero_add, List.range, List.range.loop])
    (co_apply opsV_cons_k rfl (by rfl); intro _ hR K9 hK9; replace hF := rl9 hF hR; clear hR; go_simp; refine hK9 _ _ ⟨?_, ?_⟩; (· rw [listed_nil (by simp [go_sem, *])]; exact DW.refl _ _ _); clear hK9 K9; try walk_nrm)
    (co_apply opsV_cons_k rfl (by rfl); intro _ hR K9 hK9; replace hF := rl9 hF hR; clear hR; obtain ⟨σ9, hrp⟩ := hS.rep _ hF; have hc1 := (hX.rst σ9 _ hrp).1; have hcv := run_convert_to_unsafe (P := Try.prog) Try.underlying117 Try.underlying99 (by kernel_rfl) hc1; have hce := fun es => events_convert_to_unsafe (P := Try.prog) Try.underlying117 Try.underlying99 (by kernel_rfl) hc1 es; go_simp; refine hK9 _ _ ⟨?_, ?_⟩; (· rw [listed_nil (by simp [go_sem, hce, *])]; exact DW.refl _ _ _); clear hK9 K9 hcv hce hc1 hrp; clear σ9; try walk_nrm)
    co_apply opsV_idle
    intro w₂ hR
    refine ⟨_, _, _, fun b kk cs hb hk => stepG_markAt .releaseMerge (by simp) rfl (by rfl) hk rfl wgLib.f_relMerge (x_relMerge_n lnk) (x_relMerge_b lnk) (x_relMerge_x lnk) (x_relMerge_f lnk) (ad := X.st) (by simp [Act.eval]), dw_mark rfl (by simp) (by simp) (by simp), ?_⟩
    replace hF := rl9 hF hR
    clear hR
    walk_nrm
    (co_apply opsV_nil; simp only [ThenV])
    (co_apply codeV_region; simp only [List.size_toArray, List.length_cons, List.length_nil, Nat.reduceAdd, Nat.zero_add, List.range, List.range.loop])
    refine opsV_disM K hX hl hS rfl (by rfl) rfl hF (by simp) (fun _ => .dis') rfl rfl ?_
    rintro w3 hF N3 hN3
    co_apply Exists.intro
    walk_nrm
    (co_apply opsV_nil; simp only [ThenV])
    refine cv_seq (n₁ := 200) (n₂ := (N + 1) * 2001 + 4400) (by omega) ?_
    co_apply codeV_more
    · (co_apply codeV_region; simp only [List.size_toArray, List.length_cons, List.length_nil, Nat.reduceAdd, Nat.zero_add, List.range, List.range.loop])
      (co_apply opsV_cons_k rfl (by rfl); intro _ hR K9 hK9; replace hF := rl9 hF hR; clear hR; go_simp; refine hK9 _ _ ⟨?_, ?_⟩; (· rw [listed_nil (by simp [go_sem, *])]; exact DW.refl _ _ _); clear hK9 K9; try walk_nrm)
      (co_apply opsV_cons_k rfl (by rfl); intro _ hR K9 hK9; replace hF := rl9 hF hR; clear hR; go_simp; refine hK9 _ _ ⟨?_, ?_⟩; (· rw [listed_nil (by simp [go_sem, *])]; exact DW.refl _ _ _); clear hK9 K9; try walk_nrm)
      (co_apply opsV_cons_k rfl (by rfl); intro _ hR K9 hK9; replace hF := rl9 hF hR; clear hR; go_simp; refine hK9 _ _ ⟨?_, ?_⟩; (· rw [listed_nil (by simp [go_sem, *])]; exact DW.refl _ _ _); clear hK9 K9; try walk_nrm)
      refine opsV_addM K hX hl hS rfl (by rfl) rfl (d := -1) (by rfl) (by rfl) hF (by simp) (fun m1 mu' => m1.wn ≤ 70 ∧ Lft X u₀ (X.put u₀ mu') m1) (fun ms hp hw => ?_) ?_
      · obtain ⟨⟨L, K', V, wn⟩, sm⟩ := ms
        have hp : L = true := hp
        subst hp
        have ha : IntKind.i32.wrap ((⟨true, K', V, wn⟩ : MW).enc + -1) = (⟨false, K', V, wn⟩ : MW).enc := by
          simp only at hw
          rw [IntKind.wrap_i32]
          cases K' <;> cases V <;> simp only [MW.enc] <;> simp <;> omega
        cases V
        · by_cases hd : wn = 0 ∨ K' = true
          · exact ⟨_, .ue, ha, .drop rfl hd, rfl, hw, rfl, .inr (.inl ⟨rfl, hd, rfl⟩)⟩
          · have h1 : wn ≠ 0 := fun e => hd (.inl e)
            have h2 : K' = false := by cases K' <;> simp_all
            exact ⟨_, _, ha, .dropC rfl h1 h2, rfl, hw, rfl, .inr (.inr ⟨rfl, h1, h2, rfl⟩)⟩
        · exact ⟨_, .us, ha, .dropV rfl, rfl, hw, rfl, .inl ⟨rfl, rfl⟩⟩
      rintro w4 m1 mu' hF ⟨hw1, hL1⟩ N4 hN4
      co_apply Exists.intro
      walk_nrm
      (co_apply opsV_cons_k rfl (by rfl); intro _ hR K9 hK9; replace hF := rl9 hF hR; clear hR; go_simp; refine hK9 _ _ ⟨?_, ?_⟩; (· rw [listed_nil (by simp [go_sem, *])]; exact DW.refl _ _ _); clear hK9 K9; try walk_nrm)
      (co_apply opsV_nil; simp only [ThenV])
      refine cv_seq (n₁ := (N + 1) * 2001 + 4200) (n₂ := 100) (by omega) ?_
      have last : ∀ N' T' w', N' ≤ N → F w' → CodeV Try.prog c k C 68 (.region 6 (Cd.o (Cd.b (Cd.b (Cd.b (Try.f68.body.getD .skip))))) false) 100 N' (X.put u₀ .ue) (bodyPostV Try.prog c Try.f68 (fun N' u' v w' => N' ≤ N ∧ u' = X.put u₀ .out ∧ F w')) ⟨T', []⟩ w' := by
        intro N' T' w' hN' hF'
        rw [show Cd.o (Cd.b (Cd.b (Cd.b (Try.f68.body.getD .skip)))) = _ from (by simp only [Cd.b, Cd.o, Try.f68, Option.getD_some]; try rfl)]
        co_apply codeV_more
        · (co_apply codeV_region; simp only [List.size_toArray, List.length_cons, List.length_nil, Nat.reduceAdd, Nat.zero_add, List.range, List.range.loop])
          refine opsV_enM K hX hl hS rfl (by rfl) rfl hF' (by simp) (fun _ => .en') rfl rfl ?_
          rintro w5 hF5 N5 hN5
          co_apply Exists.intro
          co_apply opsV_nil
          exact ⟨rfl, _, resultsC_none rfl _, by omega, rfl, hF5⟩
        · decide
      rw [show Cd.o (Cd.b (Cd.b (Cd.b (Try.f68.body.getD .skip)))) = _ from (by simp only [Cd.b, Cd.o, Try.f68, Option.getD_some]; try rfl)] at last
      refine cv_seq (n₁ := 100) (n₂ := (N + 1) * 2001 + 4050) (by omega) ?_
      by_cases hz : m1.enc = 0
      · rw [hz]
        co_apply codeV_more
        · (co_apply codeV_region; simp only [List.size_toArray, List.length_cons, List.length_nil, Nat.reduceAdd, Nat.zero_add, List.range, List.range.loop])
          (co_apply opsV_cons_k rfl (by rfl); intro _ hR K9 hK9; replace hF := rl9 hF hR; clear hR; go_simp; refine hK9 _ _ ⟨?_, ?_⟩; (· rw [listed_nil (by simp [go_sem, *])]; exact DW.refl _ _ _); clear hK9 K9; try walk_nrm)
          (co_apply opsV_cons_k rfl (by rfl); intro _ hR K9 hK9; replace hF := rl9 hF hR; clear hR; go_simp; refine hK9 _ _ ⟨?_, ?_⟩; (· rw [listed_nil (by simp [go_sem, *])]; exact DW.refl _ _ _); clear hK9 K9; try walk_nrm)
          (co_apply opsV_nil; simp only [ThenV])
          refine codeV_more (n := (N + 1) * 2001 + 4000 + 1) (codeV_cond (t := false) rfl ?_) (by omega)
          simp only [if_false, Bool.false_eq_true]
          refine cv_skip (n := (N + 1) * 2001 + 3999) ?_
          simp only [ThenV]
          have hm : m1 = w0 := enc_inj (m' := w0) (by rw [hz]; rfl)
          subst hm
          obtain ⟨_, hL1⟩ := hL1
          rcases hL1 with h | h | h
          · cases h.1
          · rw [h.2.2]; exact last _ _ _ (by omega) hF
          · exact absurd rfl h.2.1
        · decide
      · co_apply codeV_more
        · (co_apply codeV_region; simp only [List.size_toArray, List.length_cons, List.length_nil, Nat.reduceAdd, Nat.zero_add, List.range, List.range.loop])
          (co_apply opsV_cons_k rfl (by rfl); intro _ hR K9 hK9; replace hF := rl9 hF hR; clear hR; go_simp; refine hK9 _ _ ⟨?_, ?_⟩; (· rw [listed_nil (by simp [go_sem, *])]; exact DW.refl _ _ _); clear hK9 K9; try walk_nrm)
          (co_apply opsV_cons_k rfl (by rfl); intro _ hR K9 hK9; replace hF := rl9 hF hR; clear hR; go_simp; refine hK9 _ _ ⟨?_, ?_⟩; (· rw [listed_nil (by simp [go_sem, *])]; exact DW.refl _ _ _); clear hK9 K9; try walk_nrm)
          (co_apply opsV_nil; simp only [ThenV])
          refine codeV_more (n := (N + 1) * 2001 + 4000 + 1) (codeV_cond (t := true) (by simp [Act.eval, hz]) ?_) (by omega)
          simp only [if_true]
          co_apply codeV_more
          · (co_apply codeV_region; simp only [List.size_toArray, List.length_cons, List.length_nil, Nat.reduceAdd, Nat.zero_add, List.range, List.range.loop])
            (co_apply opsV_cons_k rfl (by rfl); intro _ hR K9 hK9; replace hF := rl9 hF hR; clear hR; go_simp; refine hK9 _ _ ⟨?_, ?_⟩; (· rw [listed_nil (by simp [go_sem, *])]; exact DW.refl _ _ _); clear hK9 K9; try walk_nrm)
            (co_apply opsV_cons_k rfl (by rfl); intro _ hR K9 hK9; replace hF := rl9 hF hR; clear hR; go_simp; refine hK9 _ _ ⟨?_, ?_⟩; (· rw [listed_nil (by simp [go_sem, *])]; exact DW.refl _ _ _); clear hK9 K9; try walk_nrm)
            co_apply opsV_call rfl (by rfl) rfl
            · have := unlockSlow_V (k := k) (N := N4) K hX hl hS hw1 hL1 hF
              simpa [Act.eval] using this
            rintro N6 u6 v6 w6 ⟨hN6, rfl, hF⟩
            walk_nrm
            (co_apply opsV_nil; simp only [ThenV])
            exact last _ _ _ (by omega) hF
          · omega
        · decide
    · decide
  · decide
end
end Go.Proofs.Ytinghnaigpenkaa
