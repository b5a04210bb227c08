/- tally's All of no marks. -/
import Derived.Test.YtkcknoodcgmndaaRfC
import Derived.Test.YtkcknoodcgmndaaTcI
import Derived.Test.YtkcknoodcgmndaaSwO
import Derived.Conc.WgWords
namespace Go.Proofs.Ytkcknoodcgmndaa
open Go.Conc Go.RowKit
set_option linter.unusedVariables false
set_option linter.unusedSimpArgs false
set_option maxRecDepth 100000
set_option maxHeartbeats 4000000













section
variable {Shun : Loc → Prop}
theorem marked39_W (p : Option Addr) (w : World) : CW Shun 39 #[.pointer p] w (fun r w' => r = .func (.func 64) #[] #[.pointer (some ⟨w.heap.size, 0, none⟩)] ∧ AtRel (w.alloc (.cells #[.pointer p] 35)) w') := by
  have T9 := termsP Shun
  refine callsW_enter Try.func39 (by kernel_rfl) rfl ?_
  simp only [Try.ntmps39]
  walk_nrm
  have hF := atRel_refl w
  (refine codeW_seq T9 ?_)
  (refine codeW_region T9 ?_; simp only [List.size_toArray, List.length_cons, List.length_nil, Nat.reduceAdd, Nat.zero_add, List.range, List.range.loop])
  (refine opsW_cons rfl (by rfl) ?_; intro _ hR K hK; replace hF := atRel_trans _ _ _ hF hR; clear hR; have hs9 := atRel_size hF; go_simp; refine hK _ _ ⟨?_, ?_⟩; (· rw [listed_nil (by simp [go_sem, *])]; exact dp0_nil); clear hK K hs9; try walk_nrm)
  replace hF := atRel_alloc hF (.cells #[.pointer p] 35)
  (repeat (first | (refine codeW_seq T9 ?_) | (refine codeW_region T9 ?_; simp only [List.size_toArray, List.length_cons, List.length_nil, Nat.reduceAdd, Nat.zero_add, List.range, List.range.loop]) | (refine opsW_nil T9 ?_; simp only [Exit.then, Exit.inBlock]) | (refine codeW_skip T9 ?_; simp only [Exit.then]) | ((first | refine codeW_cond T9 (t := true) rfl ?_ | refine codeW_cond T9 (t := false) rfl ?_); simp only [if_true, if_false, Bool.false_eq_true, ↓reduceIte]) | (refine opsW_unwanted T9 rfl (by rfl) ?_; try walk_nrm) | (refine opsW_cons rfl (by rfl) ?_; intro _ hR K hK; replace hF := atRel_trans _ _ _ hF hR; clear hR; have hs9 := atRel_size hF; go_simp; refine hK _ _ ⟨?_, ?_⟩; (· rw [listed_nil (by simp [go_sem, *])]; exact dp0_nil); clear hK K hs9; try walk_nrm) | (refine codeW_block T9 ?_)))
  (refine codeW_ret T9 ?_)
  exact ⟨rfl, _, resultsC_tmp rfl _, rfl, hF⟩
theorem iterNil_W (y : Value) (B : Nat) (w : World) (hc : w.cell? ⟨B, 0, none⟩ = some (.pointer none)) (hS : ¬ Shun (.cell ⟨B, 0, none⟩)) : CW Shun 64 #[y, .pointer (some ⟨B, 0, none⟩)] w (fun r w' => AtRel w w') := by
  have T9 := termsP Shun
  refine callsW_enter Try.func64 (by kernel_rfl) rfl ?_
  simp only [Try.ntmps64]
  walk_nrm
  have hF := atRel_refl w
  (refine codeW_seq T9 ?_)
  (refine codeW_region T9 ?_; simp only [List.size_toArray, List.length_cons, List.length_nil, Nat.reduceAdd, Nat.zero_add, List.range, List.range.loop])
  have hc1 := hc
  (refine opsW_cons rfl (by rfl) ?_; intro _ hR K hK; replace hF := atRel_trans _ _ _ hF hR; clear hR; have hl9 := (atRel_cell hF _).trans hc1; go_simp; refine hK _ _ ⟨?_, ?_⟩; (· intro e he; have hm := mem_listed he; simp [go_sem, hl9] at hm; rw [hm]; exact evP_cell _ hS); clear hK K hl9; try walk_nrm)
  clear hc1
  co_apply opsW_call T9 rfl (by rfl) rfl
  · walk_nrm
    exact len29Nil_W _
  rintro _ w' ⟨rfl, hF'⟩
  replace hF := atRel_trans _ _ _ hF hF'
  clear hF'
  walk_nrm
  (repeat (first | (refine codeW_seq T9 ?_) | (refine codeW_region T9 ?_; simp only [List.size_toArray, List.length_cons, List.length_nil, Nat.reduceAdd, Nat.zero_add, List.range, List.range.loop]) | (refine opsW_nil T9 ?_; simp only [Exit.then, Exit.inBlock]) | (refine codeW_skip T9 ?_; simp only [Exit.then]) | ((first | refine codeW_cond T9 (t := true) rfl ?_ | refine codeW_cond T9 (t := false) rfl ?_); simp only [if_true, if_false, Bool.false_eq_true, ↓reduceIte]) | (refine opsW_unwanted T9 rfl (by rfl) ?_; try walk_nrm) | (refine opsW_cons rfl (by rfl) ?_; intro _ hR K hK; replace hF := atRel_trans _ _ _ hF hR; clear hR; have hs9 := atRel_size hF; go_simp; refine hK _ _ ⟨?_, ?_⟩; (· rw [listed_nil (by simp [go_sem, *])]; exact dp0_nil); clear hK K hs9; try walk_nrm) | (refine codeW_block T9 ?_)))
  refine codeW_loop T9 (fun a' w' => ∃ (v2 v3 v7 v8 v9 v10 v11 v12 v13 v14 v15 v16 v17 v18 : Value), a' = ⟨#[y, .pointer (some ⟨B, 0, none⟩), v2, v3, .pointer none, .int .i64 0, .int .i64 0, v7, v8, v9, v10, v11, v12, v13, v14, v15, v16, v17, v18], []⟩ ∧ AtRel w w')
    (fun _ _ => 0) ⟨_, _, _, _, _, _, _, _, _, _, _, _, _, _, rfl, hF⟩ ?_
  clear hF
  rintro _ w2 ⟨v2, v3, v7, v8, v9, v10, v11, v12, v13, v14, v15, v16, v17, v18, rfl, hF⟩
  (repeat (first | (refine codeW_seq T9 ?_) | (refine codeW_region T9 ?_; simp only [List.size_toArray, List.length_cons, List.length_nil, Nat.reduceAdd, Nat.zero_add, List.range, List.range.loop]) | (refine opsW_nil T9 ?_; simp only [Exit.then, Exit.inBlock]) | (refine codeW_skip T9 ?_; simp only [Exit.then]) | ((first | refine codeW_cond T9 (t := true) rfl ?_ | refine codeW_cond T9 (t := false) rfl ?_); simp only [if_true, if_false, Bool.false_eq_true, ↓reduceIte]) | (refine opsW_unwanted T9 rfl (by rfl) ?_; try walk_nrm) | (refine opsW_cons rfl (by rfl) ?_; intro _ hR K hK; replace hF := atRel_trans _ _ _ hF hR; clear hR; have hs9 := atRel_size hF; go_simp; refine hK _ _ ⟨?_, ?_⟩; (· rw [listed_nil (by simp [go_sem, *])]; exact dp0_nil); clear hK K hs9; try walk_nrm) | (refine codeW_block T9 ?_)))
  (refine codeW_exit T9 ?_; simp only [Exit.then, Exit.inBlock, Exit.thenX, if_true, if_false, reduceIte, Nat.reduceEqDiff])
  exact ⟨rfl, _, resultsC_none rfl _, hF⟩
structure NilP (w w' : World) : Prop where
  bel : Below w.heap.size w w'
  cell : w'.cell? ⟨w.heap.size, 0, none⟩ = some (.slice none 0 0)
  mark : w'.heap[w.heap.size + 1]? = some (.deferred (some []))
theorem NilP.at {w W W' : World} (h : NilP w W) (r : AtRel W W') : NilP w W' := by
  obtain ⟨q, rfl⟩ := r
  exact ⟨⟨h.bel.os, h.bel.tape, h.bel.output, h.bel.size, h.bel.block⟩, h.cell, h.mark⟩
theorem below_putO {n : Nat} {w W : World} (h : Below n w W) (l : Nat) (hl : n ≤ l) (o : Obj) : Below n w (putO W l o) :=
  ⟨h.os, h.tape, h.output, by have := h.size; simpa [putO] using this, fun g hg => by
    have e : (putO W l o).heap[g]? = W.heap[g]? := by
      simp only [putO]
      rw [Array.getElem?_setIfInBounds_ne (by omega)]
    exact e.trans (h.block g hg)⟩
theorem below_alloc9 {n : Nat} {w W : World} (x : Below n w W) (hn : n ≤ w.heap.size) (o : Obj) : Below n w (W.alloc o) :=
  ⟨x.os, x.tape, x.output, by have := x.size; simp; omega, fun g hg => (Below.heap_alloc _ _ _ (by have := x.size; omega)).trans (x.block g hg)⟩
theorem below_self (n : Nat) (w : World) : Below n w w := ⟨rfl, rfl, rfl, Nat.le_refl _, fun _ _ => rfl⟩
theorem enter_loop (w : World) (r : Loop) : ((w.alloc (.deferred (some []))).alloc (.loop r)).heap[w.heap.size + 1]? = some (.loop r) := by
  have := alloc_new (w.alloc (.deferred (some []))) (.loop r)
  simpa using this
theorem enter_mark (w : World) (r : Loop) : ((w.alloc (.deferred (some []))).alloc (.loop r)).heap[w.heap.size]? = some (.deferred (some [])) :=
  (Below.heap_alloc _ _ _ (by simp)).trans (alloc_new w _)
theorem enter_old (w : World) (r : Loop) {g : Nat} (hg : g < w.heap.size) : ((w.alloc (.deferred (some []))).alloc (.loop r)).heap[g]? = w.heap[g]? :=
  (Below.heap_alloc _ _ _ (by simp; omega)).trans (Below.heap_alloc _ _ _ hg)
theorem below_at {n : Nat} {w W W' : World} (h : Below n w W) (r : AtRel W W') : Below n w W' := by
  obtain ⟨q, rfl⟩ := r
  exact ⟨h.os, h.tape, h.output, h.size, h.block⟩
theorem putO_obj {w : World} {l g : Nat} (o : Obj) (h : g ≠ l) : (putO w l o).heap[g]? = w.heap[g]? := by
  simp only [putO]
  rw [Array.getElem?_setIfInBounds_ne (by omega)]
theorem putO_cell {w : World} {l g : Nat} (o : Obj) (h : g ≠ l) (i : Nat) : (putO w l o).cell? ⟨g, i, none⟩ = w.cell? ⟨g, i, none⟩ := cell_same (putO_obj o h) i
theorem appSeqNil_D (B : Nat) (w : World) (hSo : ∀ r, ¬ Shun (.obj r)) (hSn : ∀ a : Addr, w.heap.size ≤ a.block → ¬ Shun (.cell a)) (hc : w.cell? ⟨B, 0, none⟩ = some (.pointer none)) (hS0 : ¬ Shun (.cell ⟨B, 0, none⟩)) :
    CallsD Try.prog Shun 63 #[.slice none 0 0, .func (.func 64) #[] #[.pointer (some ⟨B, 0, none⟩)]] w (fun v w' => v = .slice none 0 0 ∧ Below w.heap.size w w') := by
  have T9 := termsP Shun
  have hB : B < w.heap.size := World.block_lt_of_cell? w _ hc
  refine ⟨_, _, Try.func63, by kernel_rfl, rfl, ?_⟩
  simp only [Try.ntmps63]
  walk_nrm
  have hF := atRel_refl w
  (refine codeW_seq T9 ?_)
  (refine codeW_region T9 ?_; simp only [List.size_toArray, List.length_cons, List.length_nil, Nat.reduceAdd, Nat.zero_add, List.range, List.range.loop])
  (refine opsW_cons rfl (by rfl) ?_; intro _ hR K hK; replace hF := atRel_trans _ _ _ hF hR; clear hR; have hs9 := atRel_size hF; go_simp; refine hK _ _ ⟨?_, ?_⟩; (· rw [listed_nil (by simp [go_sem, *])]; exact dp0_nil); clear hK K hs9; try walk_nrm)
  replace hF := atRel_alloc hF (.cells #[.slice none 0 0] 33)
  (refine opsW_cons rfl (by rfl) ?_; intro _ hR K hK; replace hF := atRel_trans _ _ _ hF hR; clear hR; have hs9 := atRel_size hF; go_simp; refine hK _ _ ⟨?_, ?_⟩; (· rw [listed_nil (by simp [go_sem, *])]; exact dp0_nil); clear hK K hs9; try walk_nrm)
  (refine opsW_nil T9 ?_; simp only [Exit.then, Exit.inBlock])
  (refine codeW_seq T9 ?_)
  (refine codeW_seq T9 ?_)
  (refine codeW_region T9 ?_; simp only [List.size_toArray, List.length_cons, List.length_nil, Nat.reduceAdd, Nat.zero_add, List.range, List.range.loop])
  (refine opsW_cons rfl (by rfl) ?_; intro _ hR K hK; replace hF := atRel_trans _ _ _ hF hR; clear hR; have hs9 := atRel_size hF; go_simp; refine hK _ _ ⟨?_, ?_⟩; (· rw [listed_nil (by simp [go_sem, *])]; exact dp0_nil); clear hK K hs9; try walk_nrm)
  (refine opsW_nil T9 ?_; simp only [Exit.then, Exit.inBlock])
  (refine codeW_block T9 ?_)
  obtain ⟨q, rfl⟩ := hF
  refine codeW_rangeFunc hSo (g := 64) (cap := #[.pointer (some ⟨B, 0, none⟩)]) (Pos := NilP w) rfl ?_ ?_
  · intro w₁ h₁
    walk_nrm
    have hh : w₁.heap = (w.alloc (.cells #[.slice none 0 0] 33)).heap := atRel_heap h₁
    have hz : w₁.heap.size = w.heap.size + 1 := by rw [hh]; simp
    have hb1 : Below w.heap.size w w₁ := below_at (below_alloc9 (below_self _ w) (Nat.le_refl _) _) (by obtain ⟨q2, rfl⟩ := h₁; exact ⟨q2, rfl⟩)
    have hl0 : (w₁.heap[w.heap.size]? : Option Obj) = some (.cells #[.slice none 0 0] 33) := by rw [hh]; exact alloc_new w _
    refine CallsW.mono (iterNil_W _ B _ ?_ hS0) ?_
    · exact (cell_same (enter_old w₁ _ (by omega)) 0).trans ((cell_same (hb1.block B hB) 0).trans hc)
    · intro v w' hr
      have e1 : ((w.alloc (.cells #[.slice none 0 0] 33)).at q).heap.size + 1 = w₁.heap.size + 1 := by rw [hz]; simp [World.at]
      rw [e1]
      refine ⟨_, (atRel_obj hr _).trans (enter_loop w₁ _), by simp, rfl, ?_⟩
      refine ⟨below_putO (below_at ?_ hr) _ (by omega) _, ?_, ?_⟩
      · exact below_alloc9 (below_alloc9 hb1 (Nat.le_refl _) _) (Nat.le_refl _) _
      · rw [putO_cell _ (by omega), atRel_cell hr, cell_same (enter_old w₁ _ (by omega))]
        exact box_cell hl0
      · rw [putO_obj _ (by omega), atRel_obj hr, ← hz]
        exact enter_mark w₁ _
  · intro w' hp
    simp only [Exit.inBlock, Exit.then]
    have e1 : ((w.alloc (.cells #[.slice none 0 0] 33)).at q).heap.size = w.heap.size + 1 := by simp [World.at]
    rw [e1]
    have hS := hSn ⟨w.heap.size, 0, none⟩ (Nat.le_refl _)
    have hF := atRel_refl w'
    (refine codeW_seq T9 ?_)
    (refine codeW_region T9 ?_; simp only [List.size_toArray, List.length_cons, List.length_nil, Nat.reduceAdd, Nat.zero_add, List.range, List.range.loop])
    have hc1 := hp.cell
    (refine opsW_cons rfl (by rfl) ?_; intro _ hR K hK; replace hF := atRel_trans _ _ _ hF hR; clear hR; have hl9 := (atRel_cell hF _).trans hc1; go_simp; refine hK _ _ ⟨?_, ?_⟩; (· intro e he; have hm := mem_listed he; simp [go_sem, hl9] at hm; rw [hm]; exact evP_cell _ hS); clear hK K hl9; try walk_nrm)
    clear hc1
    (refine opsW_cons rfl (by rfl) ?_; intro _ hR K hK; replace hF := atRel_trans _ _ _ hF hR; clear hR; have hs9 := atRel_size hF; go_simp; refine hK _ _ ⟨?_, ?_⟩; (· rw [listed_nil (by simp [go_sem, *])]; exact dp0_nil); clear hK K hs9; try walk_nrm)
    (refine opsW_nil T9 ?_; simp only [Exit.then, Exit.inBlock])
    (refine codeW_ret T9 ?_)
    exact ⟨.inr rfl, _, rfl, (hp.at hF).mark, _, resultsC_tmp rfl _, rfl, below_putO (hp.at hF).bel _ (by omega) _⟩
theorem collectNil_W (B : Nat) (w : World) (hSo : ∀ r, ¬ Shun (.obj r)) (hSn : ∀ a : Addr, w.heap.size ≤ a.block → ¬ Shun (.cell a)) (hc : w.cell? ⟨B, 0, none⟩ = some (.pointer none)) (hS0 : ¬ Shun (.cell ⟨B, 0, none⟩)) :
    CW Shun 38 #[.func (.func 64) #[] #[.pointer (some ⟨B, 0, none⟩)]] w (fun v w' => v = .slice none 0 0 ∧ Below w.heap.size w w') := by
  have T9 := termsP Shun
  refine callsW_enter Try.func38 (by kernel_rfl) rfl ?_
  simp only [Try.ntmps38]
  walk_nrm
  have hF := atRel_refl w
  (refine codeW_seq T9 ?_)
  (refine codeW_region T9 ?_; simp only [List.size_toArray, List.length_cons, List.length_nil, Nat.reduceAdd, Nat.zero_add, List.range, List.range.loop])
  (refine opsW_cons rfl (by rfl) ?_; intro _ hR K hK; replace hF := atRel_trans _ _ _ hF hR; clear hR; have hs9 := atRel_size hF; go_simp; refine hK _ _ ⟨?_, ?_⟩; (· rw [listed_nil (by simp [go_sem, *])]; exact dp0_nil); clear hK K hs9; try walk_nrm)
  (refine opsW_nil T9 ?_; simp only [Exit.then, Exit.inBlock])
  (refine codeW_seq T9 ?_)
  (refine codeW_region T9 ?_; simp only [List.size_toArray, List.length_cons, List.length_nil, Nat.reduceAdd, Nat.zero_add, List.range, List.range.loop])
  (refine opsW_cons rfl (by rfl) ?_; intro _ hR K hK; replace hF := atRel_trans _ _ _ hF hR; clear hR; have hs9 := atRel_size hF; go_simp; refine hK _ _ ⟨?_, ?_⟩; (· rw [listed_nil (by simp [go_sem, *])]; exact dp0_nil); clear hK K hs9; try walk_nrm)
  co_apply opsW_callD hSo rfl (by rfl) rfl
  · walk_nrm
    exact appSeqNil_D B _ hSo (fun a ha => hSn a (by rw [← atRel_size hF]; exact ha)) ((atRel_cell hF _).trans hc) hS0
  rintro _ w' ⟨rfl, hb⟩
  obtain ⟨q, rfl⟩ := hF
  have hb2 : Below w.heap.size w w' := ⟨hb.os, hb.tape, hb.output, hb.size, hb.block⟩
  have hF := atRel_refl w'
  walk_nrm
  (refine opsW_cons rfl (by rfl) ?_; intro _ hR K hK; replace hF := atRel_trans _ _ _ hF hR; clear hR; have hs9 := atRel_size hF; go_simp; refine hK _ _ ⟨?_, ?_⟩; (· rw [listed_nil (by simp [go_sem, *])]; exact dp0_nil); clear hK K hs9; try walk_nrm)
  (refine opsW_nil T9 ?_; simp only [Exit.then, Exit.inBlock])
  (refine codeW_ret T9 ?_)
  exact ⟨rfl, _, resultsC_tmp rfl _, rfl, below_at hb2 hF⟩
theorem allNil_W (w : World) (hSo : ∀ r, ¬ Shun (.obj r)) (hSn : ∀ a : Addr, w.heap.size ≤ a.block → ¬ Shun (.cell a)) :
    CW Shun 18 #[.pointer none] w (fun v w' => v = .slice none 0 0 ∧ Below w.heap.size w w') := by
  have T9 := termsP Shun
  refine callsW_enter Try.func18 (by kernel_rfl) rfl ?_
  simp only [Try.ntmps18]
  walk_nrm
  have hF := atRel_refl w
  (repeat (first | (refine codeW_seq T9 ?_) | (refine codeW_region T9 ?_; simp only [List.size_toArray, List.length_cons, List.length_nil, Nat.reduceAdd, Nat.zero_add, List.range, List.range.loop]) | (refine opsW_nil T9 ?_; simp only [Exit.then, Exit.inBlock]) | (refine codeW_skip T9 ?_; simp only [Exit.then]) | ((first | refine codeW_cond T9 (t := true) rfl ?_ | refine codeW_cond T9 (t := false) rfl ?_); simp only [if_true, if_false, Bool.false_eq_true, ↓reduceIte]) | (refine opsW_unwanted T9 rfl (by rfl) ?_; try walk_nrm) | (refine opsW_cons rfl (by rfl) ?_; intro _ hR K hK; replace hF := atRel_trans _ _ _ hF hR; clear hR; have hs9 := atRel_size hF; go_simp; refine hK _ _ ⟨?_, ?_⟩; (· rw [listed_nil (by simp [go_sem, *])]; exact dp0_nil); clear hK K hs9; try walk_nrm) | (refine codeW_block T9 ?_)))
  co_apply opsW_call T9 rfl (by rfl) rfl
  · walk_nrm
    exact marked39_W _ _
  rintro _ w' ⟨rfl, hF'⟩
  obtain ⟨q, rfl⟩ := hF
  have hb2 : Below w.heap.size w w' := below_at (below_alloc9 (below_self _ w) (Nat.le_refl _) _) (by obtain ⟨q2, rfl⟩ := hF'; exact ⟨q2, rfl⟩)
  have hbx : w'.cell? ⟨w.heap.size, 0, none⟩ = some (.pointer none) := (atRel_cell hF' _).trans (box_cell (alloc_new w _))
  have hsz : w'.heap.size = w.heap.size + 1 := by rw [atRel_size hF']; simp [World.at]
  clear hF'
  rw [show (w.at q).heap.size = w.heap.size from rfl]
  have hF := atRel_refl w'
  walk_nrm
  co_apply opsW_call T9 rfl (by rfl) rfl
  · walk_nrm
    exact collectNil_W w.heap.size _ hSo (fun a ha => hSn a (by omega)) hbx (hSn _ (Nat.le_refl _))
  rintro _ w3 ⟨rfl, hb3⟩
  have hb4 : Below w.heap.size w w3 := hb2.trans ⟨hb3.os, hb3.tape, hb3.output, hb3.size, fun g hg => hb3.block g (by omega)⟩
  have hF := atRel_refl w3
  walk_nrm
  (refine opsW_cons rfl (by rfl) ?_; intro _ hR K hK; replace hF := atRel_trans _ _ _ hF hR; clear hR; have hs9 := atRel_size hF; go_simp; refine hK _ _ ⟨?_, ?_⟩; (· rw [listed_nil (by simp [go_sem, *])]; exact dp0_nil); clear hK K hs9; try walk_nrm)
  (refine opsW_nil T9 ?_; simp only [Exit.then, Exit.inBlock])
  (refine codeW_ret T9 ?_)
  exact ⟨rfl, _, resultsC_tmp rfl _, rfl, below_at hb4 hF⟩
end
end Go.Proofs.Ytkcknoodcgmndaa
