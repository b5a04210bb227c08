/- Seat 05: sync.Mutex, not contended, by goroutine 0 between phases. -/
import Derived.Test.YtinghnaigpenkaaZLwA
namespace Go.Proofs.Ytinghnaigpenkaa
open Go.Conc Go.RowKit Go.ConcR.Gen
open Go.ConcR (WgAt stA)
set_option linter.unusedVariables false
set_option linter.unusedSimpArgs false
set_option maxRecDepth 100000
set_option maxHeartbeats 4000000















section
variable {Post : Value → World → Prop} {S : Loc → Prop} {n : Nat}
theorem mark_ok {S : Loc → Prop} {m : Mark} (h : (MemAct.ofEvent ⟨.mark m, false, true⟩).touch? = none) : ∀ e ∈ (#[⟨.mark m, false, true⟩] : Array Event), ∀ y, (MemAct.ofEvent e).touch? = some y → S y.loc → y.kind ≠ .plain := by
  intro e he y hy
  simp at he
  subst he
  rw [h] at hy
  cases hy
theorem codeX_rely {P : Program} {fn : FuncId} {c : Code} {Q : Exit → Act → World → XS → Prop} {a : Act} {w w₁ : World} {x : XS} (h : CodeX P Post fn c Q a w x) (hr : AtRel w w₁) : CodeX P Post fn c Q a w₁ x := fun b k cs hb hk hc => (h b k cs hb hk hc).rely hr
theorem callX_rely {P : Program} {f : FuncId} {args : Array Value} {w w₁ : World} {x : XS} {Pos : Value → World → XS → Prop} (hr : AtRel w w₁) (h : CallX P Post f args w x Pos) : CallX P Post f args w₁ x Pos := by
  obtain ⟨fn, cd, h1, h2, h3, h4⟩ := h
  exact ⟨fn, cd, h1, h2, h3, codeX_rely h4 hr⟩
theorem callE_rely {P : Program} {f : FuncId} {args : Array Value} {w w₁ : World} {x : XS} {Pos : Value → World → XS → Prop} (hr : AtRel w w₁) (h : CallE P Post f args w x Pos) : CallE P Post f args w₁ x Pos := by
  obtain ⟨fn, cd, h1, h2, h3, h4⟩ := h
  exact ⟨fn, cd, h1, h2, h3, codeX_rely h4 hr⟩
theorem lockI_X (g o : Nat) (w : World) (hc : w.cell? ⟨g, o, none⟩ = some (.int .i32 0)) (hz : w.frozen? ⟨g, o, none⟩ = false) :
    CallX Try.prog Post 67 #[.pointer (some ⟨g, o, none⟩)] w ⟨S, n, 0⟩ (fun v w' x' => x' = ⟨S, n, 0⟩ ∧ AtRel (w.setCell ⟨g, o, none⟩ (.int .i32 1)) w') := by
  have T9 := termsP S
  refine ⟨_, _, Try.func67, by kernel_rfl, rfl, ?_⟩
  simp only [Try.ntmps67]
  walk_nrm
  have hF := atRel_refl w
  have hc1 : (w.setCell ⟨g, o, none⟩ (.int .i32 1)).cell? ⟨g, o, none⟩ = some (.int .i32 1) := World.cell?_setCell_same _ _ _ hc
  (refine codeX_seq ?_)
  (refine codeX_region ?_; simp only [List.size_toArray, List.length_cons, List.length_nil, Nat.reduceAdd, Nat.zero_add, List.range, List.range.loop])
  (refine opsX_step (d' := 1) (fun w₁ h₁ => ⟨_, _, _, fun b k cs hb hk => stepG_mark0 .disable (by simp) rfl rfl hk rfl wgLib.f_disable (x_disable_n lnk) (x_disable_b lnk) (x_disable_x lnk) (x_disable_f lnk), mark_ok rfl, by rfl, ?_⟩); replace hF := atRel_trans _ _ _ hF h₁; clear h₁; walk_nrm)
  (refine opsX_nil ?_; simp only [Exit.thenX])
  (refine codeX_seq ?_)
  (refine codeX_seq ?_)
  (refine codeX_region ?_; simp only [List.size_toArray, List.length_cons, List.length_nil, Nat.reduceAdd, Nat.zero_add, List.range, List.range.loop])
  (refine opsX_cons rfl (by rfl) ?_; intro _ hR K hK; replace hF := atRel_trans _ _ _ hF hR; clear hR; go_simp; refine hK _ _ ⟨?_, ?_⟩; (· rw [listed_nil (by simp [go_sem, *])]; exact dp0_nil); clear hK K; try walk_nrm)
  (refine opsX_cons rfl (by rfl) ?_; intro _ hR K hK; replace hF := atRel_trans _ _ _ hF hR; clear hR; go_simp; refine hK _ _ ⟨?_, ?_⟩; (· rw [listed_nil (by simp [go_sem, *])]; exact dp0_nil); clear hK K; try walk_nrm)
  (refine opsX_cons rfl (by rfl) ?_; intro _ hR K hK; replace hF := atRel_trans _ _ _ hF hR; clear hR; go_simp; refine hK _ _ ⟨?_, ?_⟩; (· rw [listed_nil (by simp [go_sem, *])]; exact dp0_nil); clear hK K; try walk_nrm)
  refine opsX_step (d' := 1) (fun w₁ h₁ => ⟨_, _, _, fun b k cs hb hk => stepG_cas_hit rfl rfl hk rfl Try.func74 (by kernel_rfl) (by kernel_rfl) (by kernel_rfl) .i32 (by rfl) rfl rfl rfl ((atRel_cell (atRel_trans _ _ _ hF h₁) _).trans hc) ((atRel_frozen (atRel_trans _ _ _ hF h₁) _).trans hz), fun e he => (by simp at he; rcases he with rfl | rfl <;> exact (evP_sync _ _ _).1), by rfl, ?_⟩)
  replace hF := atRel_set (atRel_trans _ _ _ hF h₁) ⟨g, o, none⟩ (.int .i32 1)
  clear h₁ hc hz
  walk_nrm
  (refine opsX_nil ?_; simp only [Exit.thenX])
  ((first | refine codeX_cond (t := true) rfl ?_ | refine codeX_cond (t := false) rfl ?_); simp only [if_true, if_false, Bool.false_eq_true, ↓reduceIte])
  (refine codeX_seq ?_)
  ((first | refine codeX_cond (t := true) rfl ?_ | refine codeX_cond (t := false) rfl ?_); simp only [if_true, if_false, Bool.false_eq_true, ↓reduceIte])
  (refine codeX_seq ?_)
  (refine codeX_region ?_; simp only [List.size_toArray, List.length_cons, List.length_nil, Nat.reduceAdd, Nat.zero_add, List.range, List.range.loop])
  (refine opsX_step (d' := 0) (fun w₁ h₁ => ⟨_, _, _, fun b k cs hb hk => stepG_mark0 .enable (by simp) rfl rfl hk rfl wgLib.f_enable (x_enable_n lnk) (x_enable_b lnk) (x_enable_x lnk) (x_enable_f lnk), mark_ok rfl, by rfl, ?_⟩); replace hF := atRel_trans _ _ _ hF h₁; clear h₁; walk_nrm)
  (refine opsX_nil ?_; simp only [Exit.thenX])
  (refine codeX_region ?_; simp only [List.size_toArray, List.length_cons, List.length_nil, Nat.reduceAdd, Nat.zero_add, List.range, List.range.loop])
  (refine opsX_cons rfl (by rfl) ?_; intro _ hR K hK; replace hF := atRel_trans _ _ _ hF hR; clear hR; go_simp; refine hK _ _ ⟨?_, ?_⟩; (· rw [listed_nil (by simp [go_sem, *])]; exact dp0_nil); clear hK K; try walk_nrm)
  (refine opsX_cons rfl (by rfl) ?_; intro _ hR K hK; replace hF := atRel_trans _ _ _ hF hR; clear hR; have hcv := run_convert_to_unsafe (P := Try.prog) Try.underlying117 Try.underlying99 (by kernel_rfl) ((atRel_cell hF _).trans hc1); have hce := fun es => events_convert_to_unsafe (P := Try.prog) Try.underlying117 Try.underlying99 (by kernel_rfl) ((atRel_cell hF _).trans hc1) es; go_simp; refine hK _ _ ⟨?_, ?_⟩; (· intro e he; have hm := mem_listed he; simp [go_sem, hce] at hm); clear hK K hcv hce; try walk_nrm)
  (refine opsX_step (d' := 0) (fun w₁ h₁ => ⟨_, _, _, fun b k cs hb hk => stepG_markAt .acquire (by simp) rfl rfl hk rfl wgLib.f_acquire (x_acquire_n lnk) (x_acquire_b lnk) (x_acquire_x lnk) (x_acquire_f lnk) (ad := ⟨g, o, none⟩) (by simp [Act.eval]), mark_ok rfl, by rfl, ?_⟩); replace hF := atRel_trans _ _ _ hF h₁; clear h₁; walk_nrm)
  (refine opsX_nil ?_; simp only [Exit.thenX])
  (refine codeX_of ?_; refine codeW_ret (termsP _) ?_)
  exact ⟨rfl, _, resultsC_none rfl _, rfl, hF⟩
theorem unlockI_X (g o : Nat) (hS : ¬ S (.cell ⟨g, o, none⟩)) (w : World) (hc : w.cell? ⟨g, o, none⟩ = some (.int .i32 1)) (hz : w.frozen? ⟨g, o, none⟩ = false) :
    CallX Try.prog Post 68 #[.pointer (some ⟨g, o, none⟩)] w ⟨S, n, 0⟩ (fun v w' x' => x' = ⟨S, n, 0⟩ ∧ AtRel (w.setCell ⟨g, o, none⟩ (.int .i32 0)) w') := by
  have T9 := termsP S
  refine ⟨_, _, Try.func68, by kernel_rfl, rfl, ?_⟩
  simp only [Try.ntmps68]
  walk_nrm
  have hF := atRel_refl w
  have hc1 := hc
  (refine codeX_seq ?_)
  ((first | refine codeX_cond (t := true) rfl ?_ | refine codeX_cond (t := false) rfl ?_); simp only [if_true, if_false, Bool.false_eq_true, ↓reduceIte])
  (refine codeX_seq ?_)
  (refine codeX_region ?_; simp only [List.size_toArray, List.length_cons, List.length_nil, Nat.reduceAdd, Nat.zero_add, List.range, List.range.loop])
  (refine opsX_cons rfl (by rfl) ?_; intro _ hR K hK; replace hF := atRel_trans _ _ _ hF hR; clear hR; go_simp; refine hK _ _ ⟨?_, ?_⟩; (· rw [listed_nil (by simp [go_sem, *])]; exact dp0_nil); clear hK K; try walk_nrm)
  (refine opsX_cons rfl (by rfl) ?_; intro _ hR K hK; replace hF := atRel_trans _ _ _ hF hR; clear hR; go_simp; refine hK _ _ ⟨?_, ?_⟩; (· rw [listed_nil (by simp [go_sem, *])]; exact dp0_nil); clear hK K; try walk_nrm)
  (refine opsX_cons rfl (by rfl) ?_; intro _ hR K hK; replace hF := atRel_trans _ _ _ hF hR; clear hR; go_simp; refine hK _ _ ⟨?_, ?_⟩; (· rw [listed_nil (by simp [go_sem, *])]; exact dp0_nil); clear hK K; try walk_nrm)
  (refine opsX_cons rfl (by rfl) ?_; intro _ hR K hK; replace hF := atRel_trans _ _ _ hF hR; clear hR; have hl9 := (atRel_cell hF _).trans hc1; go_simp; refine hK _ _ ⟨?_, ?_⟩; (· intro e he; have hm := mem_listed he; simp [go_sem, hl9] at hm; rw [hm]; exact evP_cell _ hS); clear hK K hl9; try walk_nrm)
  (refine opsX_nil ?_; simp only [Exit.thenX])
  (refine codeX_seq ?_)
  (refine codeX_region ?_; simp only [List.size_toArray, List.length_cons, List.length_nil, Nat.reduceAdd, Nat.zero_add, List.range, List.range.loop])
  (refine opsX_cons rfl (by rfl) ?_; intro _ hR K hK; replace hF := atRel_trans _ _ _ hF hR; clear hR; go_simp; refine hK _ _ ⟨?_, ?_⟩; (· rw [listed_nil (by simp [go_sem, *])]; exact dp0_nil); clear hK K; try walk_nrm)
  (refine opsX_cons rfl (by rfl) ?_; intro _ hR K hK; replace hF := atRel_trans _ _ _ hF hR; clear hR; have hcv := run_convert_to_unsafe (P := Try.prog) Try.underlying117 Try.underlying99 (by kernel_rfl) ((atRel_cell hF _).trans hc1); have hce := fun es => events_convert_to_unsafe (P := Try.prog) Try.underlying117 Try.underlying99 (by kernel_rfl) ((atRel_cell hF _).trans hc1) es; go_simp; refine hK _ _ ⟨?_, ?_⟩; (· intro e he; have hm := mem_listed he; simp [go_sem, hce] at hm); clear hK K hcv hce; try walk_nrm)
  (refine opsX_step (d' := 0) (fun w₁ h₁ => ⟨_, _, _, fun b k cs hb hk => stepG_markAt .releaseMerge (by simp) rfl rfl hk rfl wgLib.f_relMerge (x_relMerge_n lnk) (x_relMerge_b lnk) (x_relMerge_x lnk) (x_relMerge_f lnk) (ad := ⟨g, o, none⟩) (by simp [Act.eval]), mark_ok rfl, by rfl, ?_⟩); replace hF := atRel_trans _ _ _ hF h₁; clear h₁; walk_nrm)
  (refine opsX_nil ?_; simp only [Exit.thenX])
  (refine codeX_region ?_; simp only [List.size_toArray, List.length_cons, List.length_nil, Nat.reduceAdd, Nat.zero_add, List.range, List.range.loop])
  (refine opsX_step (d' := 1) (fun w₁ h₁ => ⟨_, _, _, fun b k cs hb hk => stepG_mark0 .disable (by simp) rfl rfl hk rfl wgLib.f_disable (x_disable_n lnk) (x_disable_b lnk) (x_disable_x lnk) (x_disable_f lnk), mark_ok rfl, by rfl, ?_⟩); replace hF := atRel_trans _ _ _ hF h₁; clear h₁; walk_nrm)
  (refine opsX_nil ?_; simp only [Exit.thenX])
  (refine codeX_seq ?_)
  (refine codeX_region ?_; simp only [List.size_toArray, List.length_cons, List.length_nil, Nat.reduceAdd, Nat.zero_add, List.range, List.range.loop])
  (refine opsX_cons rfl (by rfl) ?_; intro _ hR K hK; replace hF := atRel_trans _ _ _ hF hR; clear hR; go_simp; refine hK _ _ ⟨?_, ?_⟩; (· rw [listed_nil (by simp [go_sem, *])]; exact dp0_nil); clear hK K; try walk_nrm)
  (refine opsX_cons rfl (by rfl) ?_; intro _ hR K hK; replace hF := atRel_trans _ _ _ hF hR; clear hR; go_simp; refine hK _ _ ⟨?_, ?_⟩; (· rw [listed_nil (by simp [go_sem, *])]; exact dp0_nil); clear hK K; try walk_nrm)
  (refine opsX_cons rfl (by rfl) ?_; intro _ hR K hK; replace hF := atRel_trans _ _ _ hF hR; clear hR; go_simp; refine hK _ _ ⟨?_, ?_⟩; (· rw [listed_nil (by simp [go_sem, *])]; exact dp0_nil); clear hK K; try walk_nrm)
  refine opsX_step (d' := 1) (fun w₁ h₁ => ⟨_, _, _, fun b k cs hb hk => stepG_add_atomic rfl rfl hk rfl Try.func46 (by kernel_rfl) (by kernel_rfl) (by kernel_rfl) .i32 (by rfl) rfl rfl ((atRel_cell (atRel_trans _ _ _ hF h₁) _).trans hc) ((atRel_frozen (atRel_trans _ _ _ hF h₁) _).trans hz), fun e he => (by simp at he; rcases he with rfl | rfl <;> exact (evP_sync _ _ _).1), by rfl, ?_⟩)
  replace hF := atRel_set (atRel_trans _ _ _ hF h₁) ⟨g, o, none⟩ (.int .i32 0)
  clear h₁ hc hz hc1
  rw [show IntKind.i32.wrap (1 + -1) = 0 from by decide]
  walk_nrm
  (refine opsX_cons rfl (by rfl) ?_; intro _ hR K hK; replace hF := atRel_trans _ _ _ hF hR; clear hR; go_simp; refine hK _ _ ⟨?_, ?_⟩; (· rw [listed_nil (by simp [go_sem, *])]; exact dp0_nil); clear hK K; try walk_nrm)
  (refine opsX_nil ?_; simp only [Exit.thenX])
  (refine codeX_seq ?_)
  (refine codeX_seq ?_)
  (refine codeX_region ?_; simp only [List.size_toArray, List.length_cons, List.length_nil, Nat.reduceAdd, Nat.zero_add, List.range, List.range.loop])
  (refine opsX_cons rfl (by rfl) ?_; intro _ hR K hK; replace hF := atRel_trans _ _ _ hF hR; clear hR; go_simp; refine hK _ _ ⟨?_, ?_⟩; (· rw [listed_nil (by simp [go_sem, *])]; exact dp0_nil); clear hK K; try walk_nrm)
  (refine opsX_cons rfl (by rfl) ?_; intro _ hR K hK; replace hF := atRel_trans _ _ _ hF hR; clear hR; go_simp; refine hK _ _ ⟨?_, ?_⟩; (· rw [listed_nil (by simp [go_sem, *])]; exact dp0_nil); clear hK K; try walk_nrm)
  (refine opsX_nil ?_; simp only [Exit.thenX])
  ((first | refine codeX_cond (t := true) rfl ?_ | refine codeX_cond (t := false) rfl ?_); simp only [if_true, if_false, Bool.false_eq_true, ↓reduceIte])
  (refine codeX_of ?_; refine codeW_skip (termsP _) ?_; simp only [Exit.thenX])
  (refine codeX_region ?_; simp only [List.size_toArray, List.length_cons, List.length_nil, Nat.reduceAdd, Nat.zero_add, List.range, List.range.loop])
  (refine opsX_step (d' := 0) (fun w₁ h₁ => ⟨_, _, _, fun b k cs hb hk => stepG_mark0 .enable (by simp) rfl rfl hk rfl wgLib.f_enable (x_enable_n lnk) (x_enable_b lnk) (x_enable_x lnk) (x_enable_f lnk), mark_ok rfl, by rfl, ?_⟩); replace hF := atRel_trans _ _ _ hF h₁; clear h₁; walk_nrm)
  refine opsX_nil ?_
  exact ⟨rfl, _, resultsC_none rfl _, rfl, hF⟩
theorem lock_X (g o : Nat) (w : World) (hc : w.cell? ⟨g, o, none⟩ = some (.int .i32 0)) (hz : w.frozen? ⟨g, o, none⟩ = false) :
    CallX Try.prog Post 47 #[.pointer (some ⟨g, o, none⟩)] w ⟨S, n, 0⟩ (fun v w' x' => x' = ⟨S, n, 0⟩ ∧ AtRel (w.setCell ⟨g, o, none⟩ (.int .i32 1)) w') := by
  refine ⟨_, _, Try.func47, by kernel_rfl, rfl, ?_⟩
  simp only [Try.ntmps47]
  walk_nrm
  have hF := atRel_refl w
  (refine codeX_region ?_; simp only [List.size_toArray, List.length_cons, List.length_nil, Nat.reduceAdd, Nat.zero_add, List.range, List.range.loop])
  (refine opsX_cons rfl (by rfl) ?_; intro _ hR K hK; replace hF := atRel_trans _ _ _ hF hR; clear hR; go_simp; refine hK _ _ ⟨?_, ?_⟩; (· rw [listed_nil (by simp [go_sem, *])]; exact dp0_nil); clear hK K; try walk_nrm)
  (refine opsX_cons rfl (by rfl) ?_; intro _ hR K hK; replace hF := atRel_trans _ _ _ hF hR; clear hR; go_simp; refine hK _ _ ⟨?_, ?_⟩; (· rw [listed_nil (by simp [go_sem, *])]; exact dp0_nil); clear hK K; try walk_nrm)
  (refine opsX_cons rfl (by rfl) ?_; intro _ hR K hK; replace hF := atRel_trans _ _ _ hF hR; clear hR; go_simp; refine hK _ _ ⟨?_, ?_⟩; (· rw [listed_nil (by simp [go_sem, *])]; exact dp0_nil); clear hK K; try walk_nrm)
  refine opsX_call rfl (by rfl) rfl ?_ ?_ (Pos := fun v w' x' => x' = ⟨S, n, 0⟩ ∧ AtRel (w.setCell ⟨g, o, none⟩ (.int .i32 1)) w')
  · walk_nrm
    refine callX_rely hF ?_
    exact lockI_X g o w hc hz
  rintro v w' x' ⟨rfl, hF'⟩
  refine opsX_nil ?_
  exact ⟨rfl, _, resultsC_none rfl _, rfl, hF'⟩
theorem unlock_X (g o : Nat) (hS : ¬ S (.cell ⟨g, o, none⟩)) (w : World) (hc : w.cell? ⟨g, o, none⟩ = some (.int .i32 1)) (hz : w.frozen? ⟨g, o, none⟩ = false) :
    CallX Try.prog Post 48 #[.pointer (some ⟨g, o, none⟩)] w ⟨S, n, 0⟩ (fun v w' x' => x' = ⟨S, n, 0⟩ ∧ AtRel (w.setCell ⟨g, o, none⟩ (.int .i32 0)) w') := by
  refine ⟨_, _, Try.func48, by kernel_rfl, rfl, ?_⟩
  simp only [Try.ntmps48]
  walk_nrm
  have hF := atRel_refl w
  (refine codeX_region ?_; simp only [List.size_toArray, List.length_cons, List.length_nil, Nat.reduceAdd, Nat.zero_add, List.range, List.range.loop])
  (refine opsX_cons rfl (by rfl) ?_; intro _ hR K hK; replace hF := atRel_trans _ _ _ hF hR; clear hR; go_simp; refine hK _ _ ⟨?_, ?_⟩; (· rw [listed_nil (by simp [go_sem, *])]; exact dp0_nil); clear hK K; try walk_nrm)
  (refine opsX_cons rfl (by rfl) ?_; intro _ hR K hK; replace hF := atRel_trans _ _ _ hF hR; clear hR; go_simp; refine hK _ _ ⟨?_, ?_⟩; (· rw [listed_nil (by simp [go_sem, *])]; exact dp0_nil); clear hK K; try walk_nrm)
  (refine opsX_cons rfl (by rfl) ?_; intro _ hR K hK; replace hF := atRel_trans _ _ _ hF hR; clear hR; go_simp; refine hK _ _ ⟨?_, ?_⟩; (· rw [listed_nil (by simp [go_sem, *])]; exact dp0_nil); clear hK K; try walk_nrm)
  refine opsX_call rfl (by rfl) rfl ?_ ?_ (Pos := fun v w' x' => x' = ⟨S, n, 0⟩ ∧ AtRel (w.setCell ⟨g, o, none⟩ (.int .i32 0)) w')
  · walk_nrm
    refine callX_rely hF ?_
    exact unlockI_X g o hS w hc hz
  rintro v w' x' ⟨rfl, hF'⟩
  refine opsX_nil ?_
  exact ⟨rfl, _, resultsC_none rfl _, rfl, hF'⟩
end
end Go.Proofs.Ytinghnaigpenkaa
