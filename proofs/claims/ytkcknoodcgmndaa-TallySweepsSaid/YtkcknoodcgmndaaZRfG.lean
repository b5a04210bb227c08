/- tally's All, in general: called. -/
import Derived.Test.YtkcknoodcgmndaaZRfF
namespace Go.Proofs.Ytkcknoodcgmndaa
open Go.Conc Go.RowKit
set_option linter.unusedVariables false
set_option linter.unusedSimpArgs false
set_option maxRecDepth 100000
set_option maxHeartbeats 4000000













def AllOut (w0 : World) (L : List Int) (v : Value) (w' : World) : Prop := Below w0.heap.size w0 w' ∧ w'.ownsRow (w0.heap.size + 4) 3 1 v L.length (L.map (Value.int .i64))
theorem AllOut.at {w0 W W' : World} {L : List Int} {v : Value} (h : AllOut w0 L v W) (r : AtRel W W') : AllOut w0 L v W' := ⟨below_at h.1 r, ownsRow_at r h.2⟩
structure All1 (w0 : World) (Mb Wb n cap : Nat) (ws : List Nat) (W : World) : Prop where
  bel : Below w0.heap.size w0 W
  mm : MkMem W Mb Wb n cap ws
  mb : Mb < w0.heap.size
  wb : Wb < w0.heap.size
  mbox : W.heap[w0.heap.size]? = some (.cells #[.pointer (some ⟨Mb, 0, none⟩)] 35)
  size : W.heap.size = w0.heap.size + 1
theorem All1.at {w0 W W' : World} {Mb Wb n cap : Nat} {ws : List Nat} (h : All1 w0 Mb Wb n cap ws W) (r : AtRel W W') : All1 w0 Mb Wb n cap ws W' := by
  obtain ⟨q, rfl⟩ := r
  exact ⟨⟨h.bel.os, h.bel.tape, h.bel.output, h.bel.size, h.bel.block⟩, h.mm.at ⟨q, rfl⟩, h.mb, h.wb, h.mbox, h.size⟩
section
variable {Shun : Loc → Prop}
theorem appSeqAll_D {w0 W : World} {Mb Wb n cap : Nat} {ws : List Nat} (hSo : ∀ r, ¬ Shun (.obj r)) (hSn : ∀ a : Addr, w0.heap.size ≤ a.block → ¬ Shun (.cell a)) (hSm : ∀ o, ¬ Shun (.cell ⟨Mb, o, none⟩)) (h : All1 w0 Mb Wb n cap ws W) :
    CallsD Try.prog Shun 63 #[.slice none 0 0, .func (.func 64) #[] #[.pointer (some ⟨w0.heap.size, 0, none⟩)]] W (AllOut w0 (markL ws n)) := by
  have T9 := termsP Shun
  refine ⟨_, _, Try.func63, by kernel_rfl, rfl, ?_⟩
  simp only [Try.ntmps63]
  walk_nrm
  have hF := atRel_refl W
  have hz := h.size
  (refine codeW_seq T9 ?_)
  (refine codeW_region T9 ?_; simp only [List.size_toArray, List.length_cons, List.length_nil, Nat.reduceAdd, Nat.zero_add, List.range, List.range.loop])
  (refine opsW_cons rfl (by rfl) ?_; intro _ hR K hK; replace hF := atRel_trans _ _ _ hF hR; clear hR; have hs9 := atRel_size hF; go_simp; refine hK _ _ ⟨?_, ?_⟩; (· rw [listed_nil (by simp [go_sem, *])]; exact dp0_nil); clear hK K hs9; try walk_nrm)
  try rw [hz]
  replace hF := atRel_alloc hF (.cells #[.slice none 0 0] 33)
  (refine opsW_cons rfl (by rfl) ?_; intro _ hR K hK; replace hF := atRel_trans _ _ _ hF hR; clear hR; have hs9 := atRel_size hF; go_simp; refine hK _ _ ⟨?_, ?_⟩; (· rw [listed_nil (by simp [go_sem, *])]; exact dp0_nil); clear hK K hs9; try walk_nrm)
  (refine opsW_nil T9 ?_; simp only [Exit.then, Exit.inBlock])
  (refine codeW_seq T9 ?_)
  (refine codeW_seq T9 ?_)
  (refine codeW_region T9 ?_; simp only [List.size_toArray, List.length_cons, List.length_nil, Nat.reduceAdd, Nat.zero_add, List.range, List.range.loop])
  (refine opsW_cons rfl (by rfl) ?_; intro _ hR K hK; replace hF := atRel_trans _ _ _ hF hR; clear hR; have hs9 := atRel_size hF; go_simp; refine hK _ _ ⟨?_, ?_⟩; (· rw [listed_nil (by simp [go_sem, *])]; exact dp0_nil); clear hK K hs9; try walk_nrm)
  (refine opsW_nil T9 ?_; simp only [Exit.then, Exit.inBlock])
  (refine codeW_block T9 ?_)
  obtain ⟨q, rfl⟩ := hF
  have e0 : ((W.alloc (.cells #[.slice none 0 0] 33)).at q).heap.size = w0.heap.size + 2 := by simp [World.at, hz]
  have hmb := h.mb
  have hwb := h.wb
  refine codeW_rangeFunc hSo (g := 64) (cap := #[.pointer (some ⟨w0.heap.size, 0, none⟩)]) (Pos := fun w' => ∃ v' rec', AllG w0 Mb Wb n cap ws rec' v' w' ∧ w'.ownsRow (w0.heap.size + 4) 3 1 v' (markL ws n).length ((markL ws n).map (Value.int .i64))) rfl ?_ ?_
  · intro w₁ h₁
    rw [e0]
    have e1 : w₁.heap.size = w0.heap.size + 2 := (atRel_size h₁).trans e0
    rw [e1]
    have hrec : ({ state := LoopState.ready, pending := none, fn := 63, tmps := #[Value.slice none 0 0, Value.func (Fn.func 64) #[] #[Value.pointer (some ⟨w0.heap.size, 0, none⟩)], Value.pointer (some ⟨w0.heap.size + 1, 0, none⟩), undef, Value.slice none 0 0, undef, Value.func (Fn.func 64) #[] #[Value.pointer (some ⟨w0.heap.size, 0, none⟩)], undef, undef, undef, undef, undef, undef], params := #[7], assign := asgA, body := bodyA, defers := w0.heap.size + 2 } : Loop) = recA w0.heap.size (.func (.func 64) #[] #[.pointer (some ⟨w0.heap.size, 0, none⟩)]) := rfl
    rw [show (asgA = _) from (by unfold asgA; simp only [Try.f63, Option.getD_some]; try rfl), show (bodyA = _) from (by unfold bodyA; simp only [Try.f63, Option.getD_some]; try rfl)] at hrec
    rw [hrec]
    have hold : ∀ g, g < w0.heap.size + 1 → ((w₁.alloc (.deferred (some []))).alloc (.loop (recA w0.heap.size (.func (.func 64) #[] #[.pointer (some ⟨w0.heap.size, 0, none⟩)])))).heap[g]? = W.heap[g]? := fun g hg =>
      (enter_old w₁ _ (by omega)).trans ((congrArg (fun h => h[g]?) (atRel_heap h₁)).trans (Below.heap_alloc _ _ _ (by omega)))
    have hA : AllG w0 Mb Wb n cap ws (recA w0.heap.size (.func (.func 64) #[] #[.pointer (some ⟨w0.heap.size, 0, none⟩)])) (.slice none 0 0) ((w₁.alloc (.deferred (some []))).alloc (.loop (recA w0.heap.size (.func (.func 64) #[] #[.pointer (some ⟨w0.heap.size, 0, none⟩)])))) := by
      obtain ⟨q2, rfl⟩ := h₁
      refine ⟨⟨h.bel.os, h.bel.tape, h.bel.output, by simp [e1]; omega, fun g hg => (hold g (by omega)).trans (h.bel.block g hg)⟩, h.mm.of (hold _ (by omega)) (hold _ (by omega)), hmb, hwb, (hold _ (by omega)).trans h.mbox, ?_, ?_, ?_, by simp [e1]⟩
      · rw [enter_old _ _ (by omega)]
        have := alloc_new W (.cells #[.slice none 0 0] 33)
        rw [hz] at this
        exact this
      · have := enter_mark ((((W.alloc (.cells #[.slice none 0 0] 33)).at q).at q2)) (recA w0.heap.size (.func (.func 64) #[] #[.pointer (some ⟨w0.heap.size, 0, none⟩)]))
        rw [e1] at this
        exact this
      · have := enter_loop ((((W.alloc (.cells #[.slice none 0 0] 33)).at q).at q2)) (recA w0.heap.size (.func (.func 64) #[] #[.pointer (some ⟨w0.heap.size, 0, none⟩)]))
        rw [e1] at this
        exact this
    walk_nrm
    refine CallsW.mono (iterAll_W hSo hSn hSm hA (World.ownsRow_nil _ _ _ _)) ?_
    rintro v w' ⟨v', h5, hown5⟩
    refine ⟨_, h5.loop, by simp [recA], rfl, v', _, h5.put _, ownsRow_of hown5 (fun g hg _ => putO_obj _ (by omega))⟩
  · rintro w' ⟨v', rec', hp, hown⟩
    simp only [Exit.inBlock, Exit.then]
    rw [e0]
    have hS := hSn ⟨w0.heap.size + 1, 0, none⟩ (by show w0.heap.size ≤ w0.heap.size + 1; omega)
    have hF := atRel_refl w'
    (refine codeW_seq T9 ?_)
    (refine codeW_region T9 ?_; simp only [List.size_toArray, List.length_cons, List.length_nil, Nat.reduceAdd, Nat.zero_add, List.range, List.range.loop])
    have hc1 := box_cell hp.box
    (refine opsW_cons rfl (by rfl) ?_; intro _ hR K hK; replace hF := atRel_trans _ _ _ hF hR; clear hR; have hl9 := (atRel_cell hF _).trans hc1; go_simp; refine hK _ _ ⟨?_, ?_⟩; (· intro e he; have hm := mem_listed he; simp [go_sem, hl9] at hm; rw [hm]; exact evP_cell _ hS); clear hK K hl9; try walk_nrm)
    clear hc1
    (refine opsW_cons rfl (by rfl) ?_; intro _ hR K hK; replace hF := atRel_trans _ _ _ hF hR; clear hR; have hs9 := atRel_size hF; go_simp; refine hK _ _ ⟨?_, ?_⟩; (· rw [listed_nil (by simp [go_sem, *])]; exact dp0_nil); clear hK K hs9; try walk_nrm)
    (refine opsW_nil T9 ?_; simp only [Exit.then, Exit.inBlock])
    (refine codeW_ret T9 ?_)
    exact ⟨.inr rfl, _, rfl, (hp.at hF).mark, v', resultsC_tmp (t := 4) rfl _, below_putO (hp.at hF).bel _ (by omega) _, ownsRow_of (ownsRow_at hF hown) (fun g hg _ => putO_obj _ (by omega))⟩
theorem collectAll_W {w0 W : World} {Mb Wb n cap : Nat} {ws : List Nat} (hSo : ∀ r, ¬ Shun (.obj r)) (hSn : ∀ a : Addr, w0.heap.size ≤ a.block → ¬ Shun (.cell a)) (hSm : ∀ o, ¬ Shun (.cell ⟨Mb, o, none⟩)) (h : All1 w0 Mb Wb n cap ws W) :
    CW Shun 38 #[.func (.func 64) #[] #[.pointer (some ⟨w0.heap.size, 0, none⟩)]] W (AllOut w0 (markL ws n)) := by
  have T9 := termsP Shun
  refine callsW_enter Try.func38 (by kernel_rfl) rfl ?_
  simp only [Try.ntmps38]
  walk_nrm
  have hF := atRel_refl W
  (refine codeW_seq T9 ?_)
  (refine codeW_region T9 ?_; simp only [List.size_toArray, List.length_cons, List.length_nil, Nat.reduceAdd, Nat.zero_add, List.range, List.range.loop])
  (refine opsW_cons rfl (by rfl) ?_; intro _ hR K hK; replace hF := atRel_trans _ _ _ hF hR; clear hR; have hs9 := atRel_size hF; go_simp; refine hK _ _ ⟨?_, ?_⟩; (· rw [listed_nil (by simp [go_sem, *])]; exact dp0_nil); clear hK K hs9; try walk_nrm)
  (refine opsW_nil T9 ?_; simp only [Exit.then, Exit.inBlock])
  (refine codeW_seq T9 ?_)
  (refine codeW_region T9 ?_; simp only [List.size_toArray, List.length_cons, List.length_nil, Nat.reduceAdd, Nat.zero_add, List.range, List.range.loop])
  (refine opsW_cons rfl (by rfl) ?_; intro _ hR K hK; replace hF := atRel_trans _ _ _ hF hR; clear hR; have hs9 := atRel_size hF; go_simp; refine hK _ _ ⟨?_, ?_⟩; (· rw [listed_nil (by simp [go_sem, *])]; exact dp0_nil); clear hK K hs9; try walk_nrm)
  co_apply opsW_callD hSo rfl (by rfl) rfl
  · walk_nrm
    exact appSeqAll_D hSo hSn hSm (h.at hF)
  rintro v w' hb
  have hF := atRel_refl w'
  walk_nrm
  (refine opsW_cons rfl (by rfl) ?_; intro _ hR K hK; replace hF := atRel_trans _ _ _ hF hR; clear hR; have hs9 := atRel_size hF; go_simp; refine hK _ _ ⟨?_, ?_⟩; (· rw [listed_nil (by simp [go_sem, *])]; exact dp0_nil); clear hK K hs9; try walk_nrm)
  (refine opsW_nil T9 ?_; simp only [Exit.then, Exit.inBlock])
  (refine codeW_ret T9 ?_)
  exact ⟨rfl, v, resultsC_tmp (t := 2) rfl _, hb.at hF⟩
theorem all18_W {w0 : World} {Mb Wb n cap : Nat} {ws : List Nat} (hSo : ∀ r, ¬ Shun (.obj r)) (hSn : ∀ a : Addr, w0.heap.size ≤ a.block → ¬ Shun (.cell a)) (hSm : ∀ o, ¬ Shun (.cell ⟨Mb, o, none⟩)) (h : MkMem w0 Mb Wb n cap ws) :
    CW Shun 18 #[.pointer (some ⟨Mb, 0, none⟩)] w0 (AllOut w0 (markL ws n)) := by
  have T9 := termsP Shun
  refine callsW_enter Try.func18 (by kernel_rfl) rfl ?_
  simp only [Try.ntmps18]
  walk_nrm
  have hF := atRel_refl w0
  (repeat (first | (refine codeW_seq T9 ?_) | (refine codeW_region T9 ?_; simp only [List.size_toArray, List.length_cons, List.length_nil, Nat.reduceAdd, Nat.zero_add, List.range, List.range.loop]) | (refine opsW_nil T9 ?_; simp only [Exit.then, Exit.inBlock]) | (refine codeW_skip T9 ?_; simp only [Exit.then, Exit.inBlock]) | ((first | refine codeW_cond T9 (t := true) rfl ?_ | refine codeW_cond T9 (t := false) rfl ?_); simp only [if_true, if_false, Bool.false_eq_true, ↓reduceIte]) | (refine opsW_unwanted T9 rfl (by rfl) ?_; try walk_nrm) | (refine opsW_cons rfl (by rfl) ?_; intro _ hR K hK; replace hF := atRel_trans _ _ _ hF hR; clear hR; have hs9 := atRel_size hF; go_simp; refine hK _ _ ⟨?_, ?_⟩; (· rw [listed_nil (by simp [go_sem, *])]; exact dp0_nil); clear hK K hs9; try walk_nrm) | (refine codeW_block T9 ?_)))
  co_apply opsW_call T9 rfl (by rfl) rfl
  · walk_nrm
    exact marked39_W _ _
  rintro _ w' ⟨rfl, hF'⟩
  obtain ⟨q, rfl⟩ := hF
  have hmb : Mb < w0.heap.size := (Array.getElem?_eq_some_iff.1 h.row).1
  have hwb : Wb < w0.heap.size := (Array.getElem?_eq_some_iff.1 h.wds).1
  have hb2 : Below w0.heap.size w0 w' := below_at (below_alloc9 (below_self _ w0) (Nat.le_refl _) _) (by obtain ⟨q2, rfl⟩ := hF'; exact ⟨q2, rfl⟩)
  have h1 : All1 w0 Mb Wb n cap ws w' := ⟨hb2, h.of (hb2.block _ hmb) (hb2.block _ hwb), hmb, hwb, (atRel_obj hF' _).trans (alloc_new w0 _), by rw [atRel_size hF']; simp [World.at]⟩
  clear hF'
  rw [show (w0.at q).heap.size = w0.heap.size from rfl]
  have hF := atRel_refl w'
  walk_nrm
  co_apply opsW_call T9 rfl (by rfl) rfl
  · walk_nrm
    exact collectAll_W hSo hSn hSm h1
  rintro v w3 hb3
  have hF := atRel_refl w3
  walk_nrm
  (refine opsW_cons rfl (by rfl) ?_; intro _ hR K hK; replace hF := atRel_trans _ _ _ hF hR; clear hR; have hs9 := atRel_size hF; go_simp; refine hK _ _ ⟨?_, ?_⟩; (· rw [listed_nil (by simp [go_sem, *])]; exact dp0_nil); clear hK K hs9; try walk_nrm)
  (refine opsW_nil T9 ?_; simp only [Exit.then, Exit.inBlock])
  (refine codeW_ret T9 ?_)
  exact ⟨rfl, v, resultsC_tmp (t := 2) rfl _, hb3.at hF⟩
end
end Go.Proofs.Ytkcknoodcgmndaa
