/- tally's clock, by goroutine 0 between phases. -/
import Derived.Test.YtkcknoodcgmndaaTcA
namespace Go.Proofs.Ytkcknoodcgmndaa
open Go.Conc Go.RowKit
set_option linter.unusedVariables false
set_option linter.unusedSimpArgs false
set_option maxRecDepth 100000
set_option maxHeartbeats 4000000














theorem ev_eq_nil {P : Program} {t e : TypeId} (h : P.underlying t = some (.pointer e)) (p : Option Addr) (w : World) : Sem.events P (binOp .eql t (.pointer p) (.pointer none)) w #[] = #[] := by
  have key : Sem.events P (Op.equalIn (9999 + 1) t (.pointer p) (.pointer none)) w #[] = #[] := by
    unfold Op.equalIn
    cases p <;> simp [Sem.events_bind, run_underlying h, events_underlying, Sem.events_pure, Result.evThen]
  have key2 : ∃ b, Sem.run P (Op.equalIn (9999 + 1) t (.pointer p) (.pointer none)) w = .ok b w := by
    unfold Op.equalIn
    cases p <;> simp [Sem.run_bind, run_underlying h, Sem.run_pure]
  obtain ⟨b, hb⟩ := key2
  show Sem.events P (Op.equalIn (9999 + 1) t (.pointer p) (.pointer none) >>= fun b => pure (Value.bool b)) w #[] = #[]
  simp only [Sem.events_bind, hb, key, Sem.events_pure, Result.evThen_ok]
section
variable {Shun : Loc → Prop}
theorem newClock_W (n : Int) (w : World) : CW Shun 19 #[.int .u64 n] w (fun r w' => r = .pointer (some ⟨w.heap.size, 0, none⟩) ∧ AtRel ((w.alloc (.cells #[.int .u64 0] 88)).setCell ⟨w.heap.size, 0, none⟩ (.int .u64 n)) w') := by
  have T9 := termsP Shun
  have hz : ∀ w : World, (Instr.build 88 #[]).run Try.prog w = .ok (.agg #[.int .u64 0]) w := fun w => by kernel_rfl
  have he : ∀ w : World, (Instr.build 88 #[]).events Try.prog w #[] = #[] := fun w => by kernel_rfl
  refine callsW_enter Try.func19 (by kernel_rfl) rfl ?_
  simp only [Try.ntmps19]
  walk_nrm
  have hF := atRel_refl w
  ((refine codeW_seq T9 ?_); (refine codeW_region T9 ?_; simp only [List.size_toArray, List.length_cons, List.length_nil, Nat.reduceAdd, Nat.zero_add, List.range, List.range.loop]); (repeat (refine opsW_cons rfl (by rfl) ?_; intro _ hR K hK; replace hF := atRel_trans _ _ _ hF hR; clear hR; have hs9 := atRel_size hF; go_simp; refine hK _ _ ⟨?_, ?_⟩; (· rw [listed_nil (by simp [go_sem, *])]; exact dp0_nil); clear hK K hs9; try walk_nrm)); (refine opsW_nil T9 ?_; simp only [Exit.then]))
  (refine codeW_seq T9 ?_)
  (refine codeW_region T9 ?_; simp only [List.size_toArray, List.length_cons, List.length_nil, Nat.reduceAdd, Nat.zero_add, List.range, List.range.loop])
  (refine opsW_cons rfl (by rfl) ?_; intro _ hR K hK; replace hF := atRel_trans _ _ _ hF hR; clear hR; have hs9 := atRel_size hF; go_simp; refine hK _ _ ⟨?_, ?_⟩; (· rw [listed_nil (by simp [go_sem, *])]; exact dp0_nil); clear hK K hs9; try walk_nrm)
  (refine opsW_cons rfl (by rfl) ?_; intro _ hR K hK; replace hF := atRel_trans _ _ _ hF hR; clear hR; have hs9 := atRel_size hF; go_simp; refine hK _ _ ⟨?_, ?_⟩; (· rw [listed_nil (by simp [go_sem, *])]; exact dp0_nil); clear hK K hs9; try walk_nrm)
  replace hF := atRel_alloc hF (.cells #[.int .u64 0] 88)
  have c0 : (w.alloc (.cells #[.int .u64 0] 88)).cell? ⟨w.heap.size, 0, none⟩ = some (.int .u64 0) := by rw [World.cell?_alloc_new]; rfl
  have f0 : (w.alloc (.cells #[.int .u64 0] 88)).frozen? ⟨w.heap.size, 0, none⟩ = false := World.frozen?_alloc_new _ _ _ _
  (refine opsW_cons rfl (by rfl) ?_; intro _ hR K hK; replace hF := atRel_trans _ _ _ hF hR; clear hR; have hs9 := atRel_size hF; go_simp; refine hK _ _ ⟨?_, ?_⟩; (· rw [listed_nil (by simp [go_sem, *])]; exact dp0_nil); clear hK K hs9; try walk_nrm)
  (refine opsW_nil T9 ?_; simp only [Exit.then])
  (refine codeW_seq T9 ?_)
  (refine codeW_region T9 ?_; simp only [List.size_toArray, List.length_cons, List.length_nil, Nat.reduceAdd, Nat.zero_add, List.range, List.range.loop])
  repeat (refine opsW_cons rfl (by rfl) ?_; intro _ hR K hK; replace hF := atRel_trans _ _ _ hF hR; clear hR; have hs9 := atRel_size hF; go_simp; refine hK _ _ ⟨?_, ?_⟩; (· rw [listed_nil (by simp [go_sem, *])]; exact dp0_nil); clear hK K hs9; try walk_nrm)
  co_apply opsW_call T9 rfl (by rfl) rfl
  · walk_nrm
    exact store40_W _ _ _ _ _ ((atRel_cell hF _).trans c0) ((atRel_frozen hF _).trans f0)
  rintro v w' ⟨rfl, hF'⟩
  replace hF := atRel_trans _ _ _ (atRel_set hF ⟨w.heap.size, 0, none⟩ (.int .u64 n)) hF'
  walk_nrm
  (refine opsW_nil T9 ?_; simp only [Exit.then])
  (refine codeW_seq T9 ?_)
  (refine codeW_region T9 ?_; simp only [List.size_toArray, List.length_cons, List.length_nil, Nat.reduceAdd, Nat.zero_add, List.range, List.range.loop])
  repeat (refine opsW_cons rfl (by rfl) ?_; intro _ hR K hK; replace hF := atRel_trans _ _ _ hF hR; clear hR; have hs9 := atRel_size hF; go_simp; refine hK _ _ ⟨?_, ?_⟩; (· rw [listed_nil (by simp [go_sem, *])]; exact dp0_nil); clear hK K hs9; try walk_nrm)
  (refine opsW_nil T9 ?_; simp only [Exit.then])
  (refine codeW_ret T9 ?_)
  exact ⟨rfl, _, resultsC_tmp rfl _, rfl, hF⟩
theorem next_W (g : Nat) (v : Int) (w : World) (hc : w.cell? ⟨g, 0, none⟩ = some (.int .u64 v)) (hz : w.frozen? ⟨g, 0, none⟩ = false) : CW Shun 20 #[.pointer (some ⟨g, 0, none⟩)] w (fun r w' => r = .int .u64 (IntKind.u64.wrap (v + 1)) ∧ AtRel (w.setCell ⟨g, 0, none⟩ (.int .u64 (IntKind.u64.wrap (v + 1)))) w') := by
  have T9 := termsP Shun
  have ev9 := fun (p : Option Addr) (w : World) => ev_eq_nil (P := Try.prog) Try.underlying48 p w
  refine callsW_enter Try.func20 (by kernel_rfl) rfl ?_
  simp only [Try.ntmps20]
  walk_nrm
  have hF := atRel_refl w
  (repeat (first | (refine codeW_seq T9 ?_) | (refine codeW_region T9 ?_; simp only [List.size_toArray, List.length_cons, List.length_nil, Nat.reduceAdd, Nat.zero_add, List.range, List.range.loop]) | (refine opsW_nil T9 ?_; simp only [Exit.then]) | (refine codeW_skip T9 ?_; simp only [Exit.then]) | ((first | refine codeW_cond T9 (t := true) rfl ?_ | refine codeW_cond T9 (t := false) rfl ?_); simp only [if_true, if_false, Bool.false_eq_true, ↓reduceIte]) | (refine opsW_unwanted T9 rfl (by rfl) ?_; try walk_nrm) | (refine opsW_cons rfl (by rfl) ?_; intro _ hR K hK; replace hF := atRel_trans _ _ _ hF hR; clear hR; have hs9 := atRel_size hF; go_simp; refine hK _ _ ⟨?_, ?_⟩; (· rw [listed_nil (by simp [go_sem, *])]; exact dp0_nil); clear hK K hs9; try walk_nrm) | (refine codeW_block T9 ?_)))
  co_apply opsW_call T9 rfl (by rfl) rfl
  · walk_nrm
    exact add41_W _ _ _ _ _ ((atRel_cell hF _).trans hc) ((atRel_frozen hF _).trans hz)
  rintro v w' ⟨rfl, hF'⟩
  replace hF := atRel_trans _ _ _ (atRel_set hF _ _) hF'
  walk_nrm
  (repeat (first | (refine codeW_seq T9 ?_) | (refine codeW_region T9 ?_; simp only [List.size_toArray, List.length_cons, List.length_nil, Nat.reduceAdd, Nat.zero_add, List.range, List.range.loop]) | (refine opsW_nil T9 ?_; simp only [Exit.then]) | (refine codeW_skip T9 ?_; simp only [Exit.then]) | ((first | refine codeW_cond T9 (t := true) rfl ?_ | refine codeW_cond T9 (t := false) rfl ?_); simp only [if_true, if_false, Bool.false_eq_true, ↓reduceIte]) | (refine opsW_unwanted T9 rfl (by rfl) ?_; try walk_nrm) | (refine opsW_cons rfl (by rfl) ?_; intro _ hR K hK; replace hF := atRel_trans _ _ _ hF hR; clear hR; have hs9 := atRel_size hF; go_simp; refine hK _ _ ⟨?_, ?_⟩; (· rw [listed_nil (by simp [go_sem, *])]; exact dp0_nil); clear hK K hs9; try walk_nrm) | (refine codeW_block T9 ?_)))
  (refine codeW_ret T9 ?_)
  exact ⟨rfl, _, resultsC_tmp rfl _, rfl, hF⟩
theorem nextNil_W (w : World) : CW Shun 20 #[.pointer none] w (fun r w' => r = .int .u64 0 ∧ AtRel w w') := by
  have T9 := termsP Shun
  have ev9 := fun (p : Option Addr) (w : World) => ev_eq_nil (P := Try.prog) Try.underlying48 p w
  refine callsW_enter Try.func20 (by kernel_rfl) rfl ?_
  simp only [Try.ntmps20]
  walk_nrm
  have hF := atRel_refl w
  (repeat (first | (refine codeW_seq T9 ?_) | (refine codeW_region T9 ?_; simp only [List.size_toArray, List.length_cons, List.length_nil, Nat.reduceAdd, Nat.zero_add, List.range, List.range.loop]) | (refine opsW_nil T9 ?_; simp only [Exit.then]) | (refine codeW_skip T9 ?_; simp only [Exit.then]) | ((first | refine codeW_cond T9 (t := true) rfl ?_ | refine codeW_cond T9 (t := false) rfl ?_); simp only [if_true, if_false, Bool.false_eq_true, ↓reduceIte]) | (refine opsW_unwanted T9 rfl (by rfl) ?_; try walk_nrm) | (refine opsW_cons rfl (by rfl) ?_; intro _ hR K hK; replace hF := atRel_trans _ _ _ hF hR; clear hR; have hs9 := atRel_size hF; go_simp; refine hK _ _ ⟨?_, ?_⟩; (· rw [listed_nil (by simp [go_sem, *])]; exact dp0_nil); clear hK K hs9; try walk_nrm) | (refine codeW_block T9 ?_)))
  (refine codeW_ret T9 ?_)
  exact ⟨rfl, _, resultsC_tmp rfl _, rfl, hF⟩
theorem nowNil_W (w : World) : CW Shun 21 #[.pointer none] w (fun r w' => r = .int .u64 0 ∧ AtRel w w') := by
  have T9 := termsP Shun
  have ev9 := fun (p : Option Addr) (w : World) => ev_eq_nil (P := Try.prog) Try.underlying48 p w
  refine callsW_enter Try.func21 (by kernel_rfl) rfl ?_
  simp only [Try.ntmps21]
  walk_nrm
  have hF := atRel_refl w
  (repeat (first | (refine codeW_seq T9 ?_) | (refine codeW_region T9 ?_; simp only [List.size_toArray, List.length_cons, List.length_nil, Nat.reduceAdd, Nat.zero_add, List.range, List.range.loop]) | (refine opsW_nil T9 ?_; simp only [Exit.then]) | (refine codeW_skip T9 ?_; simp only [Exit.then]) | ((first | refine codeW_cond T9 (t := true) rfl ?_ | refine codeW_cond T9 (t := false) rfl ?_); simp only [if_true, if_false, Bool.false_eq_true, ↓reduceIte]) | (refine opsW_unwanted T9 rfl (by rfl) ?_; try walk_nrm) | (refine opsW_cons rfl (by rfl) ?_; intro _ hR K hK; replace hF := atRel_trans _ _ _ hF hR; clear hR; have hs9 := atRel_size hF; go_simp; refine hK _ _ ⟨?_, ?_⟩; (· rw [listed_nil (by simp [go_sem, *])]; exact dp0_nil); clear hK K hs9; try walk_nrm) | (refine codeW_block T9 ?_)))
  (refine codeW_ret T9 ?_)
  exact ⟨rfl, _, resultsC_tmp rfl _, rfl, hF⟩
theorem reachNil_W (n : Int) (w : World) : CW Shun 23 #[.pointer none, .int .u64 n] w (fun r w' => r = .int .u64 0 ∧ AtRel w w') := by
  have T9 := termsP Shun
  have ev9 := fun (p : Option Addr) (w : World) => ev_eq_nil (P := Try.prog) Try.underlying48 p w
  refine callsW_enter Try.func23 (by kernel_rfl) rfl ?_
  simp only [Try.ntmps23]
  walk_nrm
  have hF := atRel_refl w
  (repeat (first | (refine codeW_seq T9 ?_) | (refine codeW_region T9 ?_; simp only [List.size_toArray, List.length_cons, List.length_nil, Nat.reduceAdd, Nat.zero_add, List.range, List.range.loop]) | (refine opsW_nil T9 ?_; simp only [Exit.then]) | (refine codeW_skip T9 ?_; simp only [Exit.then]) | ((first | refine codeW_cond T9 (t := true) rfl ?_ | refine codeW_cond T9 (t := false) rfl ?_); simp only [if_true, if_false, Bool.false_eq_true, ↓reduceIte]) | (refine opsW_unwanted T9 rfl (by rfl) ?_; try walk_nrm) | (refine opsW_cons rfl (by rfl) ?_; intro _ hR K hK; replace hF := atRel_trans _ _ _ hF hR; clear hR; have hs9 := atRel_size hF; go_simp; refine hK _ _ ⟨?_, ?_⟩; (· rw [listed_nil (by simp [go_sem, *])]; exact dp0_nil); clear hK K hs9; try walk_nrm) | (refine codeW_block T9 ?_)))
  (refine codeW_ret T9 ?_)
  exact ⟨rfl, _, resultsC_tmp rfl _, rfl, hF⟩
theorem now_W (g : Nat) (v : Int) (w : World) (hc : w.cell? ⟨g, 0, none⟩ = some (.int .u64 v)) : CW Shun 21 #[.pointer (some ⟨g, 0, none⟩)] w (fun r w' => r = .int .u64 v ∧ AtRel w w') := by
  have T9 := termsP Shun
  have ev9 := fun (p : Option Addr) (w : World) => ev_eq_nil (P := Try.prog) Try.underlying48 p w
  refine callsW_enter Try.func21 (by kernel_rfl) rfl ?_
  simp only [Try.ntmps21]
  walk_nrm
  have hF := atRel_refl w
  (repeat (first | (refine codeW_seq T9 ?_) | (refine codeW_region T9 ?_; simp only [List.size_toArray, List.length_cons, List.length_nil, Nat.reduceAdd, Nat.zero_add, List.range, List.range.loop]) | (refine opsW_nil T9 ?_; simp only [Exit.then]) | (refine codeW_skip T9 ?_; simp only [Exit.then]) | ((first | refine codeW_cond T9 (t := true) rfl ?_ | refine codeW_cond T9 (t := false) rfl ?_); simp only [if_true, if_false, Bool.false_eq_true, ↓reduceIte]) | (refine opsW_unwanted T9 rfl (by rfl) ?_; try walk_nrm) | (refine opsW_cons rfl (by rfl) ?_; intro _ hR K hK; replace hF := atRel_trans _ _ _ hF hR; clear hR; have hs9 := atRel_size hF; go_simp; refine hK _ _ ⟨?_, ?_⟩; (· rw [listed_nil (by simp [go_sem, *])]; exact dp0_nil); clear hK K hs9; try walk_nrm) | (refine codeW_block T9 ?_)))
  co_apply opsW_call T9 rfl (by rfl) rfl
  · walk_nrm
    exact load42_W _ _ _ _ ((atRel_cell hF _).trans hc)
  rintro _ w' ⟨rfl, hF'⟩
  replace hF := atRel_trans _ _ _ hF hF'
  walk_nrm
  (repeat (first | (refine codeW_seq T9 ?_) | (refine codeW_region T9 ?_; simp only [List.size_toArray, List.length_cons, List.length_nil, Nat.reduceAdd, Nat.zero_add, List.range, List.range.loop]) | (refine opsW_nil T9 ?_; simp only [Exit.then]) | (refine codeW_skip T9 ?_; simp only [Exit.then]) | ((first | refine codeW_cond T9 (t := true) rfl ?_ | refine codeW_cond T9 (t := false) rfl ?_); simp only [if_true, if_false, Bool.false_eq_true, ↓reduceIte]) | (refine opsW_unwanted T9 rfl (by rfl) ?_; try walk_nrm) | (refine opsW_cons rfl (by rfl) ?_; intro _ hR K hK; replace hF := atRel_trans _ _ _ hF hR; clear hR; have hs9 := atRel_size hF; go_simp; refine hK _ _ ⟨?_, ?_⟩; (· rw [listed_nil (by simp [go_sem, *])]; exact dp0_nil); clear hK K hs9; try walk_nrm) | (refine codeW_block T9 ?_)))
  (refine codeW_ret T9 ?_)
  exact ⟨rfl, _, resultsC_tmp rfl _, rfl, hF⟩
theorem refReach_W (a n : Int) (w : World) : CW Shun 22 #[.int .u64 a, .int .u64 n] w (fun r w' => r = .int .u64 (if a < n then n else a) ∧ AtRel w w') := by
  by_cases h : a < n
  · have e9 : decide (a < n) = true := decide_eq_true h
    rw [if_pos h]
    have T9 := termsP Shun
    refine callsW_enter Try.func22 (by kernel_rfl) rfl ?_
    simp only [Try.ntmps22]
    walk_nrm
    have hF := atRel_refl w
    (repeat (first | (refine codeW_seq T9 ?_) | (refine codeW_region T9 ?_; simp only [List.size_toArray, List.length_cons, List.length_nil, Nat.reduceAdd, Nat.zero_add, List.range, List.range.loop]) | (refine opsW_nil T9 ?_; simp only [Exit.then]) | (refine codeW_skip T9 ?_; simp only [Exit.then]) | ((first | refine codeW_cond T9 (t := true) rfl ?_ | refine codeW_cond T9 (t := false) rfl ?_); simp only [if_true, if_false, Bool.false_eq_true, ↓reduceIte]) | (refine opsW_unwanted T9 rfl (by rfl) ?_; try walk_nrm) | (refine opsW_cons rfl (by rfl) ?_; intro _ hR K hK; replace hF := atRel_trans _ _ _ hF hR; clear hR; have hs9 := atRel_size hF; go_simp; refine hK _ _ ⟨?_, ?_⟩; (· rw [listed_nil (by simp [go_sem, *])]; exact dp0_nil); clear hK K hs9; try walk_nrm) | (refine codeW_block T9 ?_)))
    (refine codeW_ret T9 ?_)
    exact ⟨rfl, _, resultsC_tmp rfl _, rfl, hF⟩
  · have e9 : decide (a < n) = false := decide_eq_false h
    rw [if_neg h]
    have T9 := termsP Shun
    refine callsW_enter Try.func22 (by kernel_rfl) rfl ?_
    simp only [Try.ntmps22]
    walk_nrm
    have hF := atRel_refl w
    (repeat (first | (refine codeW_seq T9 ?_) | (refine codeW_region T9 ?_; simp only [List.size_toArray, List.length_cons, List.length_nil, Nat.reduceAdd, Nat.zero_add, List.range, List.range.loop]) | (refine opsW_nil T9 ?_; simp only [Exit.then]) | (refine codeW_skip T9 ?_; simp only [Exit.then]) | ((first | refine codeW_cond T9 (t := true) rfl ?_ | refine codeW_cond T9 (t := false) rfl ?_); simp only [if_true, if_false, Bool.false_eq_true, ↓reduceIte]) | (refine opsW_unwanted T9 rfl (by rfl) ?_; try walk_nrm) | (refine opsW_cons rfl (by rfl) ?_; intro _ hR K hK; replace hF := atRel_trans _ _ _ hF hR; clear hR; have hs9 := atRel_size hF; go_simp; refine hK _ _ ⟨?_, ?_⟩; (· rw [listed_nil (by simp [go_sem, *])]; exact dp0_nil); clear hK K hs9; try walk_nrm) | (refine codeW_block T9 ?_)))
    (refine codeW_ret T9 ?_)
    exact ⟨rfl, _, resultsC_tmp rfl _, rfl, hF⟩
theorem ev_max2 {P : Program} {k : IntKind} (t : TypeId) (a n : Int) (w : World) : Sem.events P (Builtin.max_ #[t, t] t #[.int k a, .int k n]) w #[] = #[] := by
  simp [Builtin.max_, Builtin.max2, List.foldlM, Sem.events_bind, Sem.events_pure, Result.evThen]
theorem reach_W (g : Nat) (v n : Int) (w : World) (hc : w.cell? ⟨g, 0, none⟩ = some (.int .u64 v)) (hz : w.frozen? ⟨g, 0, none⟩ = false) : CW Shun 23 #[.pointer (some ⟨g, 0, none⟩), .int .u64 n] w (fun r w' => r = .int .u64 (if v < n then n else v) ∧ ((v < n ∧ AtRel (w.setCell ⟨g, 0, none⟩ (.int .u64 n)) w') ∨ (¬ v < n ∧ AtRel w w'))) := by
  have T9 := termsP Shun
  have ev9 := fun (p : Option Addr) (w : World) => ev_eq_nil (P := Try.prog) Try.underlying48 p w
  refine callsW_enter Try.func23 (by kernel_rfl) rfl ?_
  simp only [Try.ntmps23]
  walk_nrm
  have hF := atRel_refl w
  (repeat (first | (refine codeW_seq T9 ?_) | (refine codeW_region T9 ?_; simp only [List.size_toArray, List.length_cons, List.length_nil, Nat.reduceAdd, Nat.zero_add, List.range, List.range.loop]) | (refine opsW_nil T9 ?_; simp only [Exit.then]) | (refine codeW_skip T9 ?_; simp only [Exit.then]) | ((first | refine codeW_cond T9 (t := true) rfl ?_ | refine codeW_cond T9 (t := false) rfl ?_); simp only [if_true, if_false, Bool.false_eq_true, ↓reduceIte]) | (refine opsW_unwanted T9 rfl (by rfl) ?_; try walk_nrm) | (refine opsW_cons rfl (by rfl) ?_; intro _ hR K hK; replace hF := atRel_trans _ _ _ hF hR; clear hR; have hs9 := atRel_size hF; go_simp; refine hK _ _ ⟨?_, ?_⟩; (· rw [listed_nil (by simp [go_sem, *])]; exact dp0_nil); clear hK K hs9; try walk_nrm) | (refine codeW_block T9 ?_)))
  co_apply opsW_call T9 rfl (by rfl) rfl
  · walk_nrm
    exact load42_W _ _ _ _ ((atRel_cell hF _).trans hc)
  rintro _ w' ⟨rfl, hF'⟩
  replace hF := atRel_trans _ _ _ hF hF'
  clear hF'
  walk_nrm
  (repeat (first | (refine codeW_seq T9 ?_) | (refine codeW_region T9 ?_; simp only [List.size_toArray, List.length_cons, List.length_nil, Nat.reduceAdd, Nat.zero_add, List.range, List.range.loop]) | (refine opsW_nil T9 ?_; simp only [Exit.then]) | (refine codeW_skip T9 ?_; simp only [Exit.then]) | ((first | refine codeW_cond T9 (t := true) rfl ?_ | refine codeW_cond T9 (t := false) rfl ?_); simp only [if_true, if_false, Bool.false_eq_true, ↓reduceIte]) | (refine opsW_unwanted T9 rfl (by rfl) ?_; try walk_nrm) | (refine opsW_cons rfl (by rfl) ?_; intro _ hR K hK; replace hF := atRel_trans _ _ _ hF hR; clear hR; have hs9 := atRel_size hF; go_simp; refine hK _ _ ⟨?_, ?_⟩; (· rw [listed_nil (by simp [go_sem, *])]; exact dp0_nil); clear hK K hs9; try walk_nrm) | (refine codeW_block T9 ?_)))
  refine codeW_loop T9 (fun a' w' => a' = _ ∧ AtRel _ w') (fun _ _ => 0) ⟨rfl, hF⟩ ?_
  clear hF
  rintro _ w2 ⟨rfl, hF⟩
  by_cases h : v < n
  · have e9 : decide (v < n) = true := decide_eq_true h
    (repeat (first | (refine codeW_seq T9 ?_) | (refine codeW_region T9 ?_; simp only [List.size_toArray, List.length_cons, List.length_nil, Nat.reduceAdd, Nat.zero_add, List.range, List.range.loop]) | (refine opsW_nil T9 ?_; simp only [Exit.then]) | (refine codeW_skip T9 ?_; simp only [Exit.then]) | ((first | refine codeW_cond T9 (t := true) rfl ?_ | refine codeW_cond T9 (t := false) rfl ?_); simp only [if_true, if_false, Bool.false_eq_true, ↓reduceIte]) | (refine opsW_unwanted T9 rfl (by rfl) ?_; try walk_nrm) | (refine opsW_cons rfl (by rfl) ?_; intro _ hR K hK; replace hF := atRel_trans _ _ _ hF hR; clear hR; have hs9 := atRel_size hF; go_simp; refine hK _ _ ⟨?_, ?_⟩; (· rw [listed_nil (by simp [go_sem, *])]; exact dp0_nil); clear hK K hs9; try walk_nrm) | (refine codeW_block T9 ?_)))
    co_apply opsW_call T9 rfl (by rfl) rfl
    · walk_nrm
      exact cas43_W _ _ _ _ _ _ ((atRel_cell hF _).trans hc) ((atRel_frozen hF _).trans hz)
    rintro _ w' (⟨_, rfl, hF'⟩ | ⟨hne, _⟩)
    rotate_left
    · exact absurd rfl hne
    replace hF := atRel_trans _ _ _ (atRel_set hF ⟨g, 0, none⟩ (.int .u64 n)) hF'
    clear hF'
    walk_nrm
    (repeat (first | (refine codeW_seq T9 ?_) | (refine codeW_region T9 ?_; simp only [List.size_toArray, List.length_cons, List.length_nil, Nat.reduceAdd, Nat.zero_add, List.range, List.range.loop]) | (refine opsW_nil T9 ?_; simp only [Exit.then]) | (refine codeW_skip T9 ?_; simp only [Exit.then]) | ((first | refine codeW_cond T9 (t := true) rfl ?_ | refine codeW_cond T9 (t := false) rfl ?_); simp only [if_true, if_false, Bool.false_eq_true, ↓reduceIte]) | (refine opsW_unwanted T9 rfl (by rfl) ?_; try walk_nrm) | (refine opsW_cons rfl (by rfl) ?_; intro _ hR K hK; replace hF := atRel_trans _ _ _ hF hR; clear hR; have hs9 := atRel_size hF; go_simp; refine hK _ _ ⟨?_, ?_⟩; (· rw [listed_nil (by simp [go_sem, *])]; exact dp0_nil); clear hK K hs9; try walk_nrm) | (refine codeW_block T9 ?_)))
    (refine codeW_exit T9 ?_; simp only [Exit.then, Exit.inBlock, if_true, if_false, reduceIte, Nat.reduceEqDiff])
    have em : max v n = n := by omega
    have ex := fun w => ev_max2 (P := Try.prog) (k := .u64) 46 v n w
    (repeat (first | (refine codeW_seq T9 ?_) | (refine codeW_region T9 ?_; simp only [List.size_toArray, List.length_cons, List.length_nil, Nat.reduceAdd, Nat.zero_add, List.range, List.range.loop]) | (refine opsW_nil T9 ?_; simp only [Exit.then]) | (refine codeW_skip T9 ?_; simp only [Exit.then]) | ((first | refine codeW_cond T9 (t := true) rfl ?_ | refine codeW_cond T9 (t := false) rfl ?_); simp only [if_true, if_false, Bool.false_eq_true, ↓reduceIte]) | (refine opsW_unwanted T9 rfl (by rfl) ?_; try walk_nrm) | (refine opsW_cons rfl (by rfl) ?_; intro _ hR K hK; replace hF := atRel_trans _ _ _ hF hR; clear hR; have hs9 := atRel_size hF; go_simp; refine hK _ _ ⟨?_, ?_⟩; (· rw [listed_nil (by simp [go_sem, *])]; exact dp0_nil); clear hK K hs9; try walk_nrm) | (refine codeW_block T9 ?_)))
    (refine codeW_ret T9 ?_)
    exact ⟨rfl, _, resultsC_tmp rfl _, by rw [if_pos h]; simp [em], .inl ⟨h, hF⟩⟩
  · have e9 : decide (v < n) = false := decide_eq_false h
    (repeat (first | (refine codeW_seq T9 ?_) | (refine codeW_region T9 ?_; simp only [List.size_toArray, List.length_cons, List.length_nil, Nat.reduceAdd, Nat.zero_add, List.range, List.range.loop]) | (refine opsW_nil T9 ?_; simp only [Exit.then]) | (refine codeW_skip T9 ?_; simp only [Exit.then]) | ((first | refine codeW_cond T9 (t := true) rfl ?_ | refine codeW_cond T9 (t := false) rfl ?_); simp only [if_true, if_false, Bool.false_eq_true, ↓reduceIte]) | (refine opsW_unwanted T9 rfl (by rfl) ?_; try walk_nrm) | (refine opsW_cons rfl (by rfl) ?_; intro _ hR K hK; replace hF := atRel_trans _ _ _ hF hR; clear hR; have hs9 := atRel_size hF; go_simp; refine hK _ _ ⟨?_, ?_⟩; (· rw [listed_nil (by simp [go_sem, *])]; exact dp0_nil); clear hK K hs9; try walk_nrm) | (refine codeW_block T9 ?_)))
    (refine codeW_exit T9 ?_; simp only [Exit.then, Exit.inBlock, if_true, if_false, reduceIte, Nat.reduceEqDiff])
    have em : max v n = v := by omega
    have ex := fun w => ev_max2 (P := Try.prog) (k := .u64) 46 v n w
    (repeat (first | (refine codeW_seq T9 ?_) | (refine codeW_region T9 ?_; simp only [List.size_toArray, List.length_cons, List.length_nil, Nat.reduceAdd, Nat.zero_add, List.range, List.range.loop]) | (refine opsW_nil T9 ?_; simp only [Exit.then]) | (refine codeW_skip T9 ?_; simp only [Exit.then]) | ((first | refine codeW_cond T9 (t := true) rfl ?_ | refine codeW_cond T9 (t := false) rfl ?_); simp only [if_true, if_false, Bool.false_eq_true, ↓reduceIte]) | (refine opsW_unwanted T9 rfl (by rfl) ?_; try walk_nrm) | (refine opsW_cons rfl (by rfl) ?_; intro _ hR K hK; replace hF := atRel_trans _ _ _ hF hR; clear hR; have hs9 := atRel_size hF; go_simp; refine hK _ _ ⟨?_, ?_⟩; (· rw [listed_nil (by simp [go_sem, *])]; exact dp0_nil); clear hK K hs9; try walk_nrm) | (refine codeW_block T9 ?_)))
    (refine codeW_ret T9 ?_)
    exact ⟨rfl, _, resultsC_tmp rfl _, by rw [if_neg h]; simp [em], .inr ⟨h, hF⟩⟩
end
end Go.Proofs.Ytkcknoodcgmndaa
