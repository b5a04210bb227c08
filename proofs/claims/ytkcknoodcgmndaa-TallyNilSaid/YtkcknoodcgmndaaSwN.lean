/- tally.Sweep behind Wait. -/
import Derived.Test.YtkcknoodcgmndaaSwM
import Derived.Test.YtkcknoodcgmndaaTcC
namespace Go.Proofs.Ytkcknoodcgmndaa
open Go.Conc Go.RowKit
open Go.ConcN (WgLive sumTo)
open Go.ConcR (WgAt Payload wgBlock)
set_option linter.unusedVariables false
set_option linter.unusedSimpArgs false
set_option linter.unusedSectionVars false
set_option maxRecDepth 100000
set_option maxHeartbeats 4000000






theorem atRel_draw {W w : World} {n : Nat} (h : AtRel W w) : AtRel W { w with drawn := n } := by obtain ⟨d, rfl⟩ := h; exact ⟨n, rfl⟩
theorem tail16_W {S : Loc → Prop} {s : SwP} {z : SwL} {σ : SS} (w : World) (hbb : w.heap[z.bB]? = some (.cells #[.pointer (some ⟨s.Bb, 0, none⟩)] 23)) (hb : w.heap[s.Bb]? = some (.cells (boardC σ.won σ.lost) 70)) (hrd : ¬ S (.cell ⟨z.bB, 0, none⟩))
    (v3 v8 v9 v14 v15 v16 v17 v18 v19 v20 v21 v22 v23 v24 : Value) :
    CodeW Try.prog true AtRel (DP0 S) 16 tail9 (bodyPostC Try.prog Try.f16 (fun v w' => v = .tuple #[.int .i64 σ.won, .int .i64 σ.lost] ∧ AtRel w w')) (act16 s z s.l.length v3 v8 v9 v14 v15 v16 v17 v18 v19 v20 v21 v22 v23 v24) w := by
  have T9 := termsP S
  have hc : w.cell? ⟨z.bB, 0, none⟩ = some (.pointer (some ⟨s.Bb, 0, none⟩)) := box_cell hbb
  have hw : w.cell? ⟨s.Bb, 0, none⟩ = some (.int .i64 σ.won) := by simp [World.cell?, hb, boardC]
  have hl : w.cell? ⟨s.Bb, 1, none⟩ = some (.int .i64 σ.lost) := by simp [World.cell?, hb, boardC]
  clear hb hbb
  rw [show tail9 = _ from (by unfold tail9 rest16; simp only [Try.f16, Option.getD_some]; try rfl)]
  unfold act16
  have hF := atRel_refl w
  (refine codeW_seq T9 ?_)
  refine codeW_region_any T9 (letsDraw_P S) (by rfl) (fun w₁ h₁ => ?_)
  replace hF := atRel_draw (n := w₁.drawn + 1) (atRel_trans _ _ _ hF h₁)
  clear h₁
  generalize { w₁ with drawn := w₁.drawn + 1 } = w2 at hF ⊢
  simp only [List.size_toArray, List.length_cons, List.length_nil, Nat.reduceAdd, Nat.zero_add]
  refine anyW_all (rs := [0, 2]) (by kernel_rfl) (by simp) ?_
  intro i hi
  simp only [List.mem_cons, List.not_mem_nil, or_false] at hi
  rcases hi with rfl | rfl
  · skip
    (refine opW_cons rfl (by rfl) ?_; intro _ hR K hK; replace hF := atRel_trans _ _ _ hF hR; clear hR; have hl9 := (atRel_cell hF ⟨z.bB, 0, none⟩).trans hc; go_simp; refine hK _ _ ⟨?_, ?_⟩; (· intro e he; have hm := mem_listed he; simp [go_sem, hl9] at hm; rw [hm]; exact evP_cell _ hrd); clear hK K hl9; try walk_nrm)
    refine anyW_all (rs := [1, 2]) (by kernel_rfl) (by simp) ?_
    intro i hi
    simp only [List.mem_cons, List.not_mem_nil, or_false] at hi
    rcases hi with rfl | rfl
    · skip
      co_apply opW_call T9 rfl (by rfl) rfl
      · walk_nrm
        exact at10_W _ _ _ _ (by decide) (by decide) ((atRel_cell hF _).trans hw)
      rintro _ w' ⟨rfl, hF'⟩
      replace hF := atRel_trans _ _ _ hF hF'
      clear hF'
      walk_nrm
      refine anyW_all (rs := [2]) (by kernel_rfl) (by simp) ?_
      intro i hi
      simp only [List.mem_cons, List.not_mem_nil, or_false] at hi
      subst hi
      (refine opW_cons rfl (by rfl) ?_; intro _ hR K hK; replace hF := atRel_trans _ _ _ hF hR; clear hR; have hl9 := (atRel_cell hF ⟨z.bB, 0, none⟩).trans hc; go_simp; refine hK _ _ ⟨?_, ?_⟩; (· intro e he; have hm := mem_listed he; simp [go_sem, hl9] at hm; rw [hm]; exact evP_cell _ hrd); clear hK K hl9; try walk_nrm)
      refine anyW_all (rs := [3]) (by kernel_rfl) (by simp) ?_
      intro i hi
      simp only [List.mem_cons, List.not_mem_nil, or_false] at hi
      subst hi
      co_apply opW_call T9 rfl (by rfl) rfl
      · walk_nrm
        exact at10_W _ _ _ _ (by decide) (by decide) ((atRel_cell hF _).trans hl)
      rintro _ w' ⟨rfl, hF'⟩
      replace hF := atRel_trans _ _ _ hF hF'
      clear hF'
      walk_nrm
      refine anyW_all (rs := [4]) (by kernel_rfl) (by simp) ?_
      intro i hi
      simp only [List.mem_cons, List.not_mem_nil, or_false] at hi
      subst hi
      (refine opW_cons rfl (by rfl) ?_; intro _ hR K hK; replace hF := atRel_trans _ _ _ hF hR; clear hR; go_simp; refine hK _ _ ⟨?_, ?_⟩; (· rw [listed_nil (by simp [go_sem, *])]; exact dp0_nil); clear hK K; try walk_nrm)
      refine anyW_all (rs := [5]) (by kernel_rfl) (by simp) ?_
      intro i hi
      simp only [List.mem_cons, List.not_mem_nil, or_false] at hi
      subst hi
      (refine opW_cons rfl (by rfl) ?_; intro _ hR K hK; replace hF := atRel_trans _ _ _ hF hR; clear hR; go_simp; refine hK _ _ ⟨?_, ?_⟩; (· rw [listed_nil (by simp [go_sem, *])]; exact dp0_nil); clear hK K; try walk_nrm)
      refine anyW_done ?_
      (refine codeW_ret T9 ?_)
      exact ⟨rfl, _, resultsC_tmp2 rfl _, rfl, hF⟩
    · skip
      (refine opW_cons rfl (by rfl) ?_; intro _ hR K hK; replace hF := atRel_trans _ _ _ hF hR; clear hR; have hl9 := (atRel_cell hF ⟨z.bB, 0, none⟩).trans hc; go_simp; refine hK _ _ ⟨?_, ?_⟩; (· intro e he; have hm := mem_listed he; simp [go_sem, hl9] at hm; rw [hm]; exact evP_cell _ hrd); clear hK K hl9; try walk_nrm)
      refine anyW_all (rs := [1]) (by kernel_rfl) (by simp) ?_
      intro i hi
      simp only [List.mem_cons, List.not_mem_nil, or_false] at hi
      subst hi
      co_apply opW_call T9 rfl (by rfl) rfl
      · walk_nrm
        exact at10_W _ _ _ _ (by decide) (by decide) ((atRel_cell hF _).trans hw)
      rintro _ w' ⟨rfl, hF'⟩
      replace hF := atRel_trans _ _ _ hF hF'
      clear hF'
      walk_nrm
      refine anyW_all (rs := [3]) (by kernel_rfl) (by simp) ?_
      intro i hi
      simp only [List.mem_cons, List.not_mem_nil, or_false] at hi
      subst hi
      co_apply opW_call T9 rfl (by rfl) rfl
      · walk_nrm
        exact at10_W _ _ _ _ (by decide) (by decide) ((atRel_cell hF _).trans hl)
      rintro _ w' ⟨rfl, hF'⟩
      replace hF := atRel_trans _ _ _ hF hF'
      clear hF'
      walk_nrm
      refine anyW_all (rs := [4]) (by kernel_rfl) (by simp) ?_
      intro i hi
      simp only [List.mem_cons, List.not_mem_nil, or_false] at hi
      subst hi
      (refine opW_cons rfl (by rfl) ?_; intro _ hR K hK; replace hF := atRel_trans _ _ _ hF hR; clear hR; go_simp; refine hK _ _ ⟨?_, ?_⟩; (· rw [listed_nil (by simp [go_sem, *])]; exact dp0_nil); clear hK K; try walk_nrm)
      refine anyW_all (rs := [5]) (by kernel_rfl) (by simp) ?_
      intro i hi
      simp only [List.mem_cons, List.not_mem_nil, or_false] at hi
      subst hi
      (refine opW_cons rfl (by rfl) ?_; intro _ hR K hK; replace hF := atRel_trans _ _ _ hF hR; clear hR; go_simp; refine hK _ _ ⟨?_, ?_⟩; (· rw [listed_nil (by simp [go_sem, *])]; exact dp0_nil); clear hK K; try walk_nrm)
      refine anyW_done ?_
      (refine codeW_ret T9 ?_)
      exact ⟨rfl, _, resultsC_tmp2 rfl _, rfl, hF⟩
  · skip
    (refine opW_cons rfl (by rfl) ?_; intro _ hR K hK; replace hF := atRel_trans _ _ _ hF hR; clear hR; have hl9 := (atRel_cell hF ⟨z.bB, 0, none⟩).trans hc; go_simp; refine hK _ _ ⟨?_, ?_⟩; (· intro e he; have hm := mem_listed he; simp [go_sem, hl9] at hm; rw [hm]; exact evP_cell _ hrd); clear hK K hl9; try walk_nrm)
    refine anyW_all (rs := [0]) (by kernel_rfl) (by simp) ?_
    intro i hi
    simp only [List.mem_cons, List.not_mem_nil, or_false] at hi
    subst hi
    (refine opW_cons rfl (by rfl) ?_; intro _ hR K hK; replace hF := atRel_trans _ _ _ hF hR; clear hR; have hl9 := (atRel_cell hF ⟨z.bB, 0, none⟩).trans hc; go_simp; refine hK _ _ ⟨?_, ?_⟩; (· intro e he; have hm := mem_listed he; simp [go_sem, hl9] at hm; rw [hm]; exact evP_cell _ hrd); clear hK K hl9; try walk_nrm)
    refine anyW_all (rs := [1]) (by kernel_rfl) (by simp) ?_
    intro i hi
    simp only [List.mem_cons, List.not_mem_nil, or_false] at hi
    subst hi
    co_apply opW_call T9 rfl (by rfl) rfl
    · walk_nrm
      exact at10_W _ _ _ _ (by decide) (by decide) ((atRel_cell hF _).trans hw)
    rintro _ w' ⟨rfl, hF'⟩
    replace hF := atRel_trans _ _ _ hF hF'
    clear hF'
    walk_nrm
    refine anyW_all (rs := [3]) (by kernel_rfl) (by simp) ?_
    intro i hi
    simp only [List.mem_cons, List.not_mem_nil, or_false] at hi
    subst hi
    co_apply opW_call T9 rfl (by rfl) rfl
    · walk_nrm
      exact at10_W _ _ _ _ (by decide) (by decide) ((atRel_cell hF _).trans hl)
    rintro _ w' ⟨rfl, hF'⟩
    replace hF := atRel_trans _ _ _ hF hF'
    clear hF'
    walk_nrm
    refine anyW_all (rs := [4]) (by kernel_rfl) (by simp) ?_
    intro i hi
    simp only [List.mem_cons, List.not_mem_nil, or_false] at hi
    subst hi
    (refine opW_cons rfl (by rfl) ?_; intro _ hR K hK; replace hF := atRel_trans _ _ _ hF hR; clear hR; go_simp; refine hK _ _ ⟨?_, ?_⟩; (· rw [listed_nil (by simp [go_sem, *])]; exact dp0_nil); clear hK K; try walk_nrm)
    refine anyW_all (rs := [5]) (by kernel_rfl) (by simp) ?_
    intro i hi
    simp only [List.mem_cons, List.not_mem_nil, or_false] at hi
    subst hi
    (refine opW_cons rfl (by rfl) ?_; intro _ hR K hK; replace hF := atRel_trans _ _ _ hF hR; clear hR; go_simp; refine hK _ _ ⟨?_, ?_⟩; (· rw [listed_nil (by simp [go_sem, *])]; exact dp0_nil); clear hK K; try walk_nrm)
    refine anyW_done ?_
    (refine codeW_ret T9 ?_)
    exact ⟨rfl, _, resultsC_tmp2 rfl _, rfl, hF⟩
end Go.Proofs.Ytkcknoodcgmndaa
