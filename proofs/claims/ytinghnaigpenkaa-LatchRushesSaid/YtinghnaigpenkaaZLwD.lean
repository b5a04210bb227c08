/- Seat 05: a latch of int, the law's example: by goroutine 0 between phases. -/
import Derived.Test.YtinghnaigpenkaaZLwC
namespace Go.Proofs.Ytinghnaigpenkaa
open Go.Conc Go.RowKit Go.ConcR.Gen
open Go.ConcR (WgAt stA)
set_option linter.unusedVariables false
set_option linter.unusedSimpArgs false
set_option maxRecDepth 100000
set_option maxHeartbeats 4000000











theorem ev_store_bool (P : Program) (w : World) (es : Array Event) (a : Addr) (m : Mode) (p : Bool) : (store a (.bool p) m).events P w es = storedEv P w es a (.bool p) m := events_store P w es a _ m rfl
theorem ev_eql_nil {P : Program} {t e : TypeId} (h : P.underlying t = some (.pointer e)) (p : Option Addr) (w : World) : Sem.events P (binOp .eql t (.pointer p) (.pointer none)) w #[] = #[] := by
  have key : Sem.events P (Op.equalIn (9999 + 1) t (.pointer p) (.pointer none)) w #[] = #[] := by
    unfold Op.equalIn
    cases p <;> simp [Sem.events_bind, run_underlying h, events_underlying, Sem.events_pure, Result.evThen]
  have key2 : ∃ b, Sem.run P (Op.equalIn (9999 + 1) t (.pointer p) (.pointer none)) w = .ok b w := by
    unfold Op.equalIn
    cases p <;> simp [Sem.run_bind, run_underlying h, Sem.run_pure]
  obtain ⟨b, hb⟩ := key2
  show Sem.events P (Op.equalIn (9999 + 1) t (.pointer p) (.pointer none) >>= fun b => pure (Value.bool b)) w #[] = #[]
  simp only [Sem.events_bind, hb, key, Sem.events_pure, Result.evThen_ok]
section
variable {Post : Value → World → Prop} {S : Loc → Prop} {n : Nat}
theorem doFirst_X (g : Nat) (f : FuncId) (cap : Array Value) (w W2 : World) (hS : ¬ S (.cell ⟨g, 1, none⟩)) (hc0 : w.cell? ⟨g, 0, none⟩ = some (.int .u32 0)) (hc1 : w.cell? ⟨g, 1, none⟩ = some (.int .i32 0)) (hz : w.frozen? ⟨g, 1, none⟩ = false)
    (hf : CallX Try.prog Post f cap (w.setCell ⟨g, 1, none⟩ (.int .i32 1)) ⟨S, n, 0⟩ (fun v w' x' => x' = ⟨S, n, 0⟩ ∧ AtRel W2 w')) (h21 : W2.cell? ⟨g, 1, none⟩ = some (.int .i32 1)) (h20 : W2.cell? ⟨g, 0, none⟩ = some (.int .u32 0)) (hz0 : W2.frozen? ⟨g, 0, none⟩ = false) (hz1 : W2.frozen? ⟨g, 1, none⟩ = false) :
    CallX Try.prog Post 23 #[.pointer (some ⟨g, 0, none⟩), .func (.func f) #[] cap] w ⟨S, n, 0⟩ (fun v w' x' => x' = ⟨S, n, 0⟩ ∧ AtRel ((W2.setCell ⟨g, 0, none⟩ (.int .u32 1)).setCell ⟨g, 1, none⟩ (.int .i32 0)) w') := by
  have D := doSlow_X g f cap w W2 hS hc0 hc1 hz hf h21 h20 hz0 hz1
  clear hf hc1 hz h21 h20 hz0 hz1
  refine ⟨_, _, Try.func23, by kernel_rfl, rfl, ?_⟩
  simp only [Try.ntmps23]
  walk_nrm
  have hF := atRel_refl w
  (refine codeX_seq ?_)
  (refine codeX_region ?_; simp only [List.size_toArray, List.length_cons, List.length_nil, Nat.reduceAdd, Nat.zero_add, List.range, List.range.loop])
  (refine opsX_cons rfl (by rfl) ?_; intro _ hR K hK; replace hF := atRel_trans _ _ _ hF hR; clear hR; have hs9 := atRel_size hF; go_simp; refine hK _ _ ⟨?_, ?_⟩; (· rw [listed_nil (by simp [go_sem, *])]; exact dp0_nil); clear hK K hs9; try walk_nrm)
  (refine opsX_cons rfl (by rfl) ?_; intro _ hR K hK; replace hF := atRel_trans _ _ _ hF hR; clear hR; have hs9 := atRel_size hF; go_simp; refine hK _ _ ⟨?_, ?_⟩; (· rw [listed_nil (by simp [go_sem, *])]; exact dp0_nil); clear hK K hs9; try walk_nrm)
  (refine opsX_cons rfl (by rfl) ?_; intro _ hR K hK; replace hF := atRel_trans _ _ _ hF hR; clear hR; have hs9 := atRel_size hF; go_simp; refine hK _ _ ⟨?_, ?_⟩; (· rw [listed_nil (by simp [go_sem, *])]; exact dp0_nil); clear hK K hs9; try walk_nrm)
  refine opsX_callW rfl (by rfl) rfl ?_ ?_ (Pos := fun r w' => r = .bool false ∧ AtRel w w')
  · walk_nrm
    exact CallsW.rely (termsP _) (bload_W g 0 0 w hc0) hF
  rintro v w' ⟨rfl, hF'⟩
  clear hF
  have hF := hF'
  clear hF'
  walk_nrm
  (refine opsX_cons rfl (by rfl) ?_; intro _ hR K hK; replace hF := atRel_trans _ _ _ hF hR; clear hR; have hs9 := atRel_size hF; go_simp; refine hK _ _ ⟨?_, ?_⟩; (· rw [listed_nil (by simp [go_sem, *])]; exact dp0_nil); clear hK K hs9; try walk_nrm)
  (refine opsX_nil ?_; simp only [Exit.thenX])
  ((first | refine codeX_cond (t := true) rfl ?_ | refine codeX_cond (t := false) rfl ?_); simp only [if_true, if_false, Bool.false_eq_true, ↓reduceIte])
  (refine codeX_region ?_; simp only [List.size_toArray, List.length_cons, List.length_nil, Nat.reduceAdd, Nat.zero_add, List.range, List.range.loop])
  (refine opsX_cons rfl (by rfl) ?_; intro _ hR K hK; replace hF := atRel_trans _ _ _ hF hR; clear hR; have hs9 := atRel_size hF; go_simp; refine hK _ _ ⟨?_, ?_⟩; (· rw [listed_nil (by simp [go_sem, *])]; exact dp0_nil); clear hK K hs9; try walk_nrm)
  (refine opsX_cons rfl (by rfl) ?_; intro _ hR K hK; replace hF := atRel_trans _ _ _ hF hR; clear hR; have hs9 := atRel_size hF; go_simp; refine hK _ _ ⟨?_, ?_⟩; (· rw [listed_nil (by simp [go_sem, *])]; exact dp0_nil); clear hK K hs9; try walk_nrm)
  refine opsX_callE rfl (by rfl) rfl ?_ ?_ (Pos := fun v w' x' => x' = ⟨S, n, 0⟩ ∧ AtRel ((W2.setCell ⟨g, 0, none⟩ (.int .u32 1)).setCell ⟨g, 1, none⟩ (.int .i32 0)) w')
  · walk_nrm
    exact callE_rely hF D
  rintro v w' x' ⟨rfl, hF'⟩
  refine opsX_nil ?_
  exact ⟨rfl, _, resultsC_none rfl _, rfl, hF'⟩
/-- a latch: whether it is set, its value -/
def LatI (w : World) (g : Nat) (b : Bool) (v : Int) : Prop := Blk w g 87 #[.int .u32 (if b then 1 else 0), .int .i32 0, .int .u32 0, .int .u32 (if b then 1 else 0), .int .i64 v]
theorem setFI_X (g vB lB fB : Nat) (x v : Int) (w : World) (hSa : ∀ k i, k = g ∨ k = vB ∨ k = lB ∨ k = fB → ¬ S (.cell ⟨k, i, none⟩)) (hv : Blk w vB 3 #[.int .i64 x]) (hl : Blk w lB 67 #[.pointer (some ⟨g, 0, none⟩)]) (hf : Blk w fB 4 #[.bool false])
    (hg : Blk w g 87 #[.int .u32 0, .int .i32 1, .int .u32 0, .int .u32 0, .int .i64 v]) :
    CallX Try.prog Post 40 #[.pointer (some ⟨vB, 0, none⟩), .pointer (some ⟨lB, 0, none⟩), .pointer (some ⟨fB, 0, none⟩)] w ⟨S, n, 0⟩ (fun v' w' x' => x' = ⟨S, n, 0⟩ ∧
      AtRel (((w.setCell ⟨g, 4, none⟩ (.int .i64 x)).setCell ⟨fB, 0, none⟩ (.bool true)).setCell ⟨g, 3, none⟩ (.int .u32 1)) w') := by
  have c0 : w.cell? ⟨vB, 0, none⟩ = some (.int .i64 x) := hv.cell 0
  have c1 : w.cell? ⟨lB, 0, none⟩ = some (.pointer (some ⟨g, 0, none⟩)) := hl.cell 0
  have c4 : w.cell? ⟨g, 4, none⟩ = some (.int .i64 v) := hg.cell 4
  have f4 : w.frozen? ⟨g, 4, none⟩ = false := hg.frozen 4
  have n1 : g ≠ lB := Blk.ne_ hg hl (by decide)
  have n2 : g ≠ fB := Blk.ne_ hg hf (by decide)
  have n3 : fB ≠ lB := Blk.ne_ hf hl (by decide)
  have hf1 := hf.far (p := ⟨g, 4, none⟩) n2.symm (.int .i64 x)
  have c2 : (w.setCell ⟨g, 4, none⟩ (.int .i64 x)).cell? ⟨fB, 0, none⟩ = some (.bool false) := hf1.cell 0
  have f2 : (w.setCell ⟨g, 4, none⟩ (.int .i64 x)).frozen? ⟨fB, 0, none⟩ = false := hf1.frozen 0
  have hg2 := ((hg.set_ 4 (.int .i64 x)).far (p := ⟨fB, 0, none⟩) n2 (.bool true))
  have hl2 := ((hl.far (p := ⟨g, 4, none⟩) n1.symm (.int .i64 x)).far (p := ⟨fB, 0, none⟩) n3.symm (.bool true))
  have c3 : ((w.setCell ⟨g, 4, none⟩ (.int .i64 x)).setCell ⟨fB, 0, none⟩ (.bool true)).cell? ⟨g, 3, none⟩ = some (.int .u32 0) := hg2.cell 3
  have f3 : ((w.setCell ⟨g, 4, none⟩ (.int .i64 x)).setCell ⟨fB, 0, none⟩ (.bool true)).frozen? ⟨g, 3, none⟩ = false := hg2.frozen 3
  have c1' : ((w.setCell ⟨g, 4, none⟩ (.int .i64 x)).setCell ⟨fB, 0, none⟩ (.bool true)).cell? ⟨lB, 0, none⟩ = some (.pointer (some ⟨g, 0, none⟩)) := hl2.cell 0
  have s0 := hSa vB 0 (.inr (.inl rfl))
  have s1 := hSa lB 0 (.inr (.inr (.inl rfl)))
  have s2 := hSa fB 0 (.inr (.inr (.inr rfl)))
  have s4 := hSa g 4 (.inl rfl)
  clear hv hl hf hg hf1 hg2 hl2 hSa
  refine ⟨_, _, Try.func40, by kernel_rfl, rfl, ?_⟩
  simp only [Try.ntmps40]
  walk_nrm
  have hF := atRel_refl w
  (refine codeX_seq ?_)
  (refine codeX_region ?_; simp only [List.size_toArray, List.length_cons, List.length_nil, Nat.reduceAdd, Nat.zero_add, List.range, List.range.loop])
  (have hc9 := c1; have hS9 := s1; (refine opsX_cons rfl (by rfl) ?_; intro _ hR K hK; replace hF := atRel_trans _ _ _ hF hR; clear hR; have hl9 := (atRel_cell hF _).trans hc9; go_simp; refine hK _ _ ⟨?_, ?_⟩; (· intro e he; have hm := mem_listed he; simp [go_sem, hl9] at hm; rw [hm]; exact evP_cell _ hS9); clear hK K hl9 hc9 hS9; try walk_nrm))
  (have hc9 := c0; have hS9 := s0; (refine opsX_cons rfl (by rfl) ?_; intro _ hR K hK; replace hF := atRel_trans _ _ _ hF hR; clear hR; have hl9 := (atRel_cell hF _).trans hc9; go_simp; refine hK _ _ ⟨?_, ?_⟩; (· intro e he; have hm := mem_listed he; simp [go_sem, hl9] at hm; rw [hm]; exact evP_cell _ hS9); clear hK K hl9 hc9 hS9; try walk_nrm))
  (refine opsX_cons rfl (by rfl) ?_; intro _ hR K hK; replace hF := atRel_trans _ _ _ hF hR; clear hR; have hs9 := atRel_size hF; go_simp; refine hK _ _ ⟨?_, ?_⟩; (· rw [listed_nil (by simp [go_sem, *])]; exact dp0_nil); clear hK K hs9; try walk_nrm)
  (refine opsX_cons rfl (by rfl) ?_; intro _ hR K hK; replace hF := atRel_trans _ _ _ hF hR; clear hR; have hs9 := atRel_size hF; go_simp; refine hK _ _ ⟨?_, ?_⟩; (· rw [listed_nil (by simp [go_sem, *])]; exact dp0_nil); clear hK K hs9; try walk_nrm)
  (have hc9 := c4; have hz9 := f4; have hS9 := s4; (refine opsX_cons rfl (by rfl) ?_; intro _ hR K hK; replace hF := atRel_trans _ _ _ hF hR; clear hR; have hl9 := (atRel_cell hF _).trans hc9; have hz9' := (atRel_frozen hF _).trans hz9; go_simp; refine hK _ _ ⟨?_, ?_⟩; (· intro e he; have hm := mem_listed he; simp [go_sem, ev_store_bool, storedEv, hl9] at hm; rw [hm.2]; exact evP_cell _ hS9); clear hK K hl9 hc9 hz9 hz9' hS9; try walk_nrm))
  replace hF := atRel_set hF ⟨g, 4, none⟩ (.int .i64 x)
  (have hc9 := c2; have hz9 := f2; have hS9 := s2; (refine opsX_cons rfl (by rfl) ?_; intro _ hR K hK; replace hF := atRel_trans _ _ _ hF hR; clear hR; have hl9 := (atRel_cell hF _).trans hc9; have hz9' := (atRel_frozen hF _).trans hz9; go_simp; refine hK _ _ ⟨?_, ?_⟩; (· intro e he; have hm := mem_listed he; simp [go_sem, ev_store_bool, storedEv, hl9] at hm; rw [hm.2]; exact evP_cell _ hS9); clear hK K hl9 hc9 hz9 hz9' hS9; try walk_nrm))
  replace hF := atRel_set hF ⟨fB, 0, none⟩ (.bool true)
  (refine opsX_nil ?_; simp only [Exit.thenX])
  (refine codeX_region ?_; simp only [List.size_toArray, List.length_cons, List.length_nil, Nat.reduceAdd, Nat.zero_add, List.range, List.range.loop])
  (have hc9 := c1'; have hS9 := s1; (refine opsX_cons rfl (by rfl) ?_; intro _ hR K hK; replace hF := atRel_trans _ _ _ hF hR; clear hR; have hl9 := (atRel_cell hF _).trans hc9; go_simp; refine hK _ _ ⟨?_, ?_⟩; (· intro e he; have hm := mem_listed he; simp [go_sem, hl9] at hm; rw [hm]; exact evP_cell _ hS9); clear hK K hl9 hc9 hS9; try walk_nrm))
  (refine opsX_cons rfl (by rfl) ?_; intro _ hR K hK; replace hF := atRel_trans _ _ _ hF hR; clear hR; have hs9 := atRel_size hF; go_simp; refine hK _ _ ⟨?_, ?_⟩; (· rw [listed_nil (by simp [go_sem, *])]; exact dp0_nil); clear hK K hs9; try walk_nrm)
  (refine opsX_cons rfl (by rfl) ?_; intro _ hR K hK; replace hF := atRel_trans _ _ _ hF hR; clear hR; have hs9 := atRel_size hF; go_simp; refine hK _ _ ⟨?_, ?_⟩; (· rw [listed_nil (by simp [go_sem, *])]; exact dp0_nil); clear hK K hs9; try walk_nrm)
  refine opsX_callW rfl (by rfl) rfl ?_ ?_ (Pos := fun r w' => r = .tuple #[] ∧ AtRel (((w.setCell ⟨g, 4, none⟩ (.int .i64 x)).setCell ⟨fB, 0, none⟩ (.bool true)).setCell ⟨g, 3, none⟩ (.int .u32 1)) w')
  · walk_nrm
    exact CallsW.rely (termsP _) (bstore_W g 3 _ _ c3 f3) hF
  rintro v w' ⟨rfl, hF'⟩
  refine opsX_nil ?_
  exact ⟨rfl, _, resultsC_none rfl _, rfl, hF'⟩
theorem newI_X (w : World) : CallX Try.prog Post 27 #[] w ⟨S, n, 0⟩ (fun v' w' x' => x' = ⟨S, n, 0⟩ ∧ v' = .pointer (some ⟨w.heap.size, 0, none⟩) ∧ LatI w' w.heap.size false 0 ∧ Below w.heap.size w w') := by
  refine ⟨_, _, Try.func27, by kernel_rfl, rfl, ?_⟩
  simp only [Try.ntmps27]
  walk_nrm
  have hF := atRel_refl w
  (refine codeX_seq ?_)
  (refine codeX_region ?_; simp only [List.size_toArray, List.length_cons, List.length_nil, Nat.reduceAdd, Nat.zero_add, List.range, List.range.loop])
  (refine opsX_cons rfl (by rfl) ?_; intro _ hR K hK; replace hF := atRel_trans _ _ _ hF hR; clear hR; have hs9 := atRel_size hF; go_simp; refine hK _ _ ⟨?_, ?_⟩; (· rw [listed_nil (by simp [go_sem, *])]; exact dp0_nil); clear hK K hs9; try walk_nrm)
  (refine opsX_nil ?_; simp only [Exit.thenX])
  (refine codeX_seq ?_)
  (refine codeX_region ?_; simp only [List.size_toArray, List.length_cons, List.length_nil, Nat.reduceAdd, Nat.zero_add, List.range, List.range.loop])
  (refine opsX_cons rfl (by rfl) ?_; intro _ hR K hK; replace hF := atRel_trans _ _ _ hF hR; clear hR; have hs9 := atRel_size hF; go_simp; refine hK _ _ ⟨?_, ?_⟩; (· rw [listed_nil (by simp [go_sem, *])]; exact dp0_nil); clear hK K hs9; try walk_nrm)
  (refine opsX_cons rfl (by rfl) ?_; intro _ hR K hK; replace hF := atRel_trans _ _ _ hF hR; clear hR; have hs9 := atRel_size hF; go_simp; refine hK _ _ ⟨?_, ?_⟩; (· rw [listed_nil (by simp [go_sem, *])]; exact dp0_nil); clear hK K hs9; try walk_nrm)
  replace hF := atRel_alloc hF (.cells #[.int .u32 0, .int .i32 0, .int .u32 0, .int .u32 0, .int .i64 0] 87)
  (refine opsX_cons rfl (by rfl) ?_; intro _ hR K hK; replace hF := atRel_trans _ _ _ hF hR; clear hR; have hs9 := atRel_size hF; go_simp; refine hK _ _ ⟨?_, ?_⟩; (· rw [listed_nil (by simp [go_sem, *])]; exact dp0_nil); clear hK K hs9; try walk_nrm)
  (refine opsX_nil ?_; simp only [Exit.thenX])
  (refine codeX_of ?_; refine codeW_ret (termsP _) ?_)
  exact ⟨rfl, _, resultsC_tmp rfl _, rfl, rfl, atRel_blk hF (Blk.new _ _ _), atRel_below hF ((Below.refl _ _).alloc (Nat.le_refl _) _)⟩
theorem getI_X (g : Nat) (b : Bool) (v : Int) (w : World) (hS : ¬ S (.cell ⟨g, 4, none⟩)) (h : LatI w g b v) :
    CallX Try.prog Post 29 #[.pointer (some ⟨g, 0, none⟩)] w ⟨S, n, 0⟩ (fun v' w' x' => x' = ⟨S, n, 0⟩ ∧ v' = .tuple #[.int .i64 (if b then v else 0), .bool b] ∧ AtRel w w') := by
  have c3 : w.cell? ⟨g, 3, none⟩ = some (.int .u32 (if b then 1 else 0)) := h.cell 3
  have c4 : w.cell? ⟨g, 4, none⟩ = some (.int .i64 v) := h.cell 4
  have ev9 := fun (p : Option Addr) (w : World) => ev_eql_nil (P := Try.prog) Try.underlying67 p w
  clear h
  refine ⟨_, _, Try.func29, by kernel_rfl, rfl, ?_⟩
  simp only [Try.ntmps29]
  walk_nrm
  have hF := atRel_refl w
  (refine codeX_seq ?_)
  (refine codeX_region ?_; simp only [List.size_toArray, List.length_cons, List.length_nil, Nat.reduceAdd, Nat.zero_add, List.range, List.range.loop])
  (refine opsX_cons rfl (by rfl) ?_; intro _ hR K hK; replace hF := atRel_trans _ _ _ hF hR; clear hR; have hs9 := atRel_size hF; go_simp; refine hK _ _ ⟨?_, ?_⟩; (· rw [listed_nil (by simp [go_sem, *])]; exact dp0_nil); clear hK K hs9; try walk_nrm)
  (refine opsX_cons rfl (by rfl) ?_; intro _ hR K hK; replace hF := atRel_trans _ _ _ hF hR; clear hR; have hs9 := atRel_size hF; go_simp; refine hK _ _ ⟨?_, ?_⟩; (· rw [listed_nil (by simp [go_sem, *])]; exact dp0_nil); clear hK K hs9; try walk_nrm)
  (refine opsX_nil ?_; simp only [Exit.thenX])
  (refine codeX_seq ?_)
  (refine codeX_region ?_; simp only [List.size_toArray, List.length_cons, List.length_nil, Nat.reduceAdd, Nat.zero_add, List.range, List.range.loop])
  (refine opsX_cons rfl (by rfl) ?_; intro _ hR K hK; replace hF := atRel_trans _ _ _ hF hR; clear hR; have hs9 := atRel_size hF; go_simp; refine hK _ _ ⟨?_, ?_⟩; (· rw [listed_nil (by simp [go_sem, *])]; exact dp0_nil); clear hK K hs9; try walk_nrm)
  (refine opsX_nil ?_; simp only [Exit.thenX])
  (refine codeX_seq ?_)
  cases b
  · simp only [Bool.false_eq_true, if_false] at c3 ⊢
    (refine codeX_seq ?_)
    (refine codeX_region ?_; simp only [List.size_toArray, List.length_cons, List.length_nil, Nat.reduceAdd, Nat.zero_add, List.range, List.range.loop])
    (refine opsX_cons rfl (by rfl) ?_; intro _ hR K hK; replace hF := atRel_trans _ _ _ hF hR; clear hR; have hs9 := atRel_size hF; go_simp; refine hK _ _ ⟨?_, ?_⟩; (· rw [listed_nil (by simp [go_sem, *])]; exact dp0_nil); clear hK K hs9; try walk_nrm)
    (refine opsX_cons rfl (by rfl) ?_; intro _ hR K hK; replace hF := atRel_trans _ _ _ hF hR; clear hR; have hs9 := atRel_size hF; go_simp; refine hK _ _ ⟨?_, ?_⟩; (· rw [listed_nil (by simp [go_sem, *])]; exact dp0_nil); clear hK K hs9; try walk_nrm)
    (refine opsX_cons rfl (by rfl) ?_; intro _ hR K hK; replace hF := atRel_trans _ _ _ hF hR; clear hR; have hs9 := atRel_size hF; go_simp; refine hK _ _ ⟨?_, ?_⟩; (· rw [listed_nil (by simp [go_sem, *])]; exact dp0_nil); clear hK K hs9; try walk_nrm)
    (refine opsX_cons rfl (by rfl) ?_; intro _ hR K hK; replace hF := atRel_trans _ _ _ hF hR; clear hR; have hs9 := atRel_size hF; go_simp; refine hK _ _ ⟨?_, ?_⟩; (· rw [listed_nil (by simp [go_sem, *])]; exact dp0_nil); clear hK K hs9; try walk_nrm)
    (refine opsX_cons rfl (by rfl) ?_; intro _ hR K hK; replace hF := atRel_trans _ _ _ hF hR; clear hR; have hs9 := atRel_size hF; go_simp; refine hK _ _ ⟨?_, ?_⟩; (· rw [listed_nil (by simp [go_sem, *])]; exact dp0_nil); clear hK K hs9; try walk_nrm)
    (refine opsX_cons rfl (by rfl) ?_; intro _ hR K hK; replace hF := atRel_trans _ _ _ hF hR; clear hR; have hs9 := atRel_size hF; go_simp; refine hK _ _ ⟨?_, ?_⟩; (· rw [listed_nil (by simp [go_sem, *])]; exact dp0_nil); clear hK K hs9; try walk_nrm)
    refine opsX_callW rfl (by rfl) rfl ?_ ?_ (Pos := fun r w' => r = .bool false ∧ AtRel w w')
    · walk_nrm
      exact CallsW.rely (termsP _) (bload_W g 3 0 w c3) hF
    rintro v w' ⟨rfl, hF'⟩
    clear hF
    have hF := hF'
    clear hF'
    walk_nrm
    (refine opsX_cons rfl (by rfl) ?_; intro _ hR K hK; replace hF := atRel_trans _ _ _ hF hR; clear hR; have hs9 := atRel_size hF; go_simp; refine hK _ _ ⟨?_, ?_⟩; (· rw [listed_nil (by simp [go_sem, *])]; exact dp0_nil); clear hK K hs9; try walk_nrm)
    (refine opsX_cons rfl (by rfl) ?_; intro _ hR K hK; replace hF := atRel_trans _ _ _ hF hR; clear hR; have hs9 := atRel_size hF; go_simp; refine hK _ _ ⟨?_, ?_⟩; (· rw [listed_nil (by simp [go_sem, *])]; exact dp0_nil); clear hK K hs9; try walk_nrm)
    (refine opsX_nil ?_; simp only [Exit.thenX])
    ((first | refine codeX_cond (t := true) rfl ?_ | refine codeX_cond (t := false) rfl ?_); simp only [if_true, if_false, Bool.false_eq_true, ↓reduceIte])
    (refine codeX_seq ?_)
    (refine codeX_region ?_; simp only [List.size_toArray, List.length_cons, List.length_nil, Nat.reduceAdd, Nat.zero_add, List.range, List.range.loop])
    (refine opsX_cons rfl (by rfl) ?_; intro _ hR K hK; replace hF := atRel_trans _ _ _ hF hR; clear hR; have hs9 := atRel_size hF; go_simp; refine hK _ _ ⟨?_, ?_⟩; (· rw [listed_nil (by simp [go_sem, *])]; exact dp0_nil); clear hK K hs9; try walk_nrm)
    (refine opsX_cons rfl (by rfl) ?_; intro _ hR K hK; replace hF := atRel_trans _ _ _ hF hR; clear hR; have hs9 := atRel_size hF; go_simp; refine hK _ _ ⟨?_, ?_⟩; (· rw [listed_nil (by simp [go_sem, *])]; exact dp0_nil); clear hK K hs9; try walk_nrm)
    (refine opsX_cons rfl (by rfl) ?_; intro _ hR K hK; replace hF := atRel_trans _ _ _ hF hR; clear hR; have hs9 := atRel_size hF; go_simp; refine hK _ _ ⟨?_, ?_⟩; (· rw [listed_nil (by simp [go_sem, *])]; exact dp0_nil); clear hK K hs9; try walk_nrm)
    (refine opsX_nil ?_; simp only [Exit.thenX])
    (refine codeX_of ?_; refine codeW_ret (termsP _) ?_)
    exact ⟨rfl, _, resultsC_tmp2 rfl _, rfl, rfl, hF⟩
  · simp only [if_true] at c3 ⊢
    (refine codeX_seq ?_)
    (refine codeX_region ?_; simp only [List.size_toArray, List.length_cons, List.length_nil, Nat.reduceAdd, Nat.zero_add, List.range, List.range.loop])
    (refine opsX_cons rfl (by rfl) ?_; intro _ hR K hK; replace hF := atRel_trans _ _ _ hF hR; clear hR; have hs9 := atRel_size hF; go_simp; refine hK _ _ ⟨?_, ?_⟩; (· rw [listed_nil (by simp [go_sem, *])]; exact dp0_nil); clear hK K hs9; try walk_nrm)
    (refine opsX_cons rfl (by rfl) ?_; intro _ hR K hK; replace hF := atRel_trans _ _ _ hF hR; clear hR; have hs9 := atRel_size hF; go_simp; refine hK _ _ ⟨?_, ?_⟩; (· rw [listed_nil (by simp [go_sem, *])]; exact dp0_nil); clear hK K hs9; try walk_nrm)
    (refine opsX_cons rfl (by rfl) ?_; intro _ hR K hK; replace hF := atRel_trans _ _ _ hF hR; clear hR; have hs9 := atRel_size hF; go_simp; refine hK _ _ ⟨?_, ?_⟩; (· rw [listed_nil (by simp [go_sem, *])]; exact dp0_nil); clear hK K hs9; try walk_nrm)
    (refine opsX_cons rfl (by rfl) ?_; intro _ hR K hK; replace hF := atRel_trans _ _ _ hF hR; clear hR; have hs9 := atRel_size hF; go_simp; refine hK _ _ ⟨?_, ?_⟩; (· rw [listed_nil (by simp [go_sem, *])]; exact dp0_nil); clear hK K hs9; try walk_nrm)
    (refine opsX_cons rfl (by rfl) ?_; intro _ hR K hK; replace hF := atRel_trans _ _ _ hF hR; clear hR; have hs9 := atRel_size hF; go_simp; refine hK _ _ ⟨?_, ?_⟩; (· rw [listed_nil (by simp [go_sem, *])]; exact dp0_nil); clear hK K hs9; try walk_nrm)
    (refine opsX_cons rfl (by rfl) ?_; intro _ hR K hK; replace hF := atRel_trans _ _ _ hF hR; clear hR; have hs9 := atRel_size hF; go_simp; refine hK _ _ ⟨?_, ?_⟩; (· rw [listed_nil (by simp [go_sem, *])]; exact dp0_nil); clear hK K hs9; try walk_nrm)
    refine opsX_callW rfl (by rfl) rfl ?_ ?_ (Pos := fun r w' => r = .bool true ∧ AtRel w w')
    · walk_nrm
      exact CallsW.rely (termsP _) (bload_W g 3 1 w c3) hF
    rintro v w' ⟨rfl, hF'⟩
    clear hF
    have hF := hF'
    clear hF'
    walk_nrm
    (refine opsX_cons rfl (by rfl) ?_; intro _ hR K hK; replace hF := atRel_trans _ _ _ hF hR; clear hR; have hs9 := atRel_size hF; go_simp; refine hK _ _ ⟨?_, ?_⟩; (· rw [listed_nil (by simp [go_sem, *])]; exact dp0_nil); clear hK K hs9; try walk_nrm)
    (refine opsX_cons rfl (by rfl) ?_; intro _ hR K hK; replace hF := atRel_trans _ _ _ hF hR; clear hR; have hs9 := atRel_size hF; go_simp; refine hK _ _ ⟨?_, ?_⟩; (· rw [listed_nil (by simp [go_sem, *])]; exact dp0_nil); clear hK K hs9; try walk_nrm)
    (refine opsX_nil ?_; simp only [Exit.thenX])
    ((first | refine codeX_cond (t := true) rfl ?_ | refine codeX_cond (t := false) rfl ?_); simp only [if_true, if_false, Bool.false_eq_true, ↓reduceIte])
    (refine codeX_of ?_; refine codeW_skip (termsP _) ?_; simp only [Exit.thenX])
    (refine codeX_seq ?_)
    (refine codeX_region ?_; simp only [List.size_toArray, List.length_cons, List.length_nil, Nat.reduceAdd, Nat.zero_add, List.range, List.range.loop])
    (refine opsX_cons rfl (by rfl) ?_; intro _ hR K hK; replace hF := atRel_trans _ _ _ hF hR; clear hR; have hs9 := atRel_size hF; go_simp; refine hK _ _ ⟨?_, ?_⟩; (· rw [listed_nil (by simp [go_sem, *])]; exact dp0_nil); clear hK K hs9; try walk_nrm)
    (refine opsX_cons rfl (by rfl) ?_; intro _ hR K hK; replace hF := atRel_trans _ _ _ hF hR; clear hR; have hs9 := atRel_size hF; go_simp; refine hK _ _ ⟨?_, ?_⟩; (· rw [listed_nil (by simp [go_sem, *])]; exact dp0_nil); clear hK K hs9; try walk_nrm)
    (refine opsX_cons rfl (by rfl) ?_; intro _ hR K hK; replace hF := atRel_trans _ _ _ hF hR; clear hR; have hs9 := atRel_size hF; go_simp; refine hK _ _ ⟨?_, ?_⟩; (· rw [listed_nil (by simp [go_sem, *])]; exact dp0_nil); clear hK K hs9; try walk_nrm)
    (have hc9 := c4; have hS9 := hS; (refine opsX_cons rfl (by rfl) ?_; intro _ hR K hK; replace hF := atRel_trans _ _ _ hF hR; clear hR; have hl9 := (atRel_cell hF _).trans hc9; go_simp; refine hK _ _ ⟨?_, ?_⟩; (· intro e he; have hm := mem_listed he; simp [go_sem, hl9] at hm; rw [hm]; exact evP_cell _ hS9); clear hK K hl9 hc9 hS9; try walk_nrm))
    (refine opsX_cons rfl (by rfl) ?_; intro _ hR K hK; replace hF := atRel_trans _ _ _ hF hR; clear hR; have hs9 := atRel_size hF; go_simp; refine hK _ _ ⟨?_, ?_⟩; (· rw [listed_nil (by simp [go_sem, *])]; exact dp0_nil); clear hK K hs9; try walk_nrm)
    (refine opsX_cons rfl (by rfl) ?_; intro _ hR K hK; replace hF := atRel_trans _ _ _ hF hR; clear hR; have hs9 := atRel_size hF; go_simp; refine hK _ _ ⟨?_, ?_⟩; (· rw [listed_nil (by simp [go_sem, *])]; exact dp0_nil); clear hK K hs9; try walk_nrm)
    (refine opsX_nil ?_; simp only [Exit.thenX])
    (refine codeX_of ?_; refine codeW_ret (termsP _) ?_)
    exact ⟨rfl, _, resultsC_tmp2 rfl _, rfl, rfl, hF⟩
theorem setI_X (g : Nat) (b : Bool) (v x : Int) (w : World) (hSa : ∀ k i, k = g ∨ w.heap.size ≤ k → ¬ S (.cell ⟨k, i, none⟩)) (h : LatI w g b v) :
    CallX Try.prog Post 28 #[.pointer (some ⟨g, 0, none⟩), .int .i64 x] w ⟨S, n, 0⟩ (fun v' w' x' => x' = ⟨S, n, 0⟩ ∧ v' = .bool (!b) ∧ LatI w' g true (if b then v else x) ∧ Chg w w' (fun k => k = g)) := by
  have ev9 := fun (p : Option Addr) (w : World) => ev_eql_nil (P := Try.prog) Try.underlying67 p w
  have hlt := h.lt
  obtain ⟨lB, hl⟩ : ∃ lB, lB = w.heap.size := ⟨_, rfl⟩
  have b2 : Below w.heap.size w ((w.alloc (.cells #[.pointer (some ⟨g, 0, none⟩)] 67)).alloc (.cells #[.int .i64 x] 3)) := ((Below.refl _ _).alloc (Nat.le_refl _) _).alloc (by simp) _
  have l2 : Blk ((w.alloc (.cells #[.pointer (some ⟨g, 0, none⟩)] 67)).alloc (.cells #[.int .i64 x] 3)) lB 67 #[.pointer (some ⟨g, 0, none⟩)] := by rw [hl]; exact (Blk.new w _ _).alloc _
  have v2 : Blk ((w.alloc (.cells #[.pointer (some ⟨g, 0, none⟩)] 67)).alloc (.cells #[.int .i64 x] 3)) (lB + 1) 3 #[.int .i64 x] := by
    have := Blk.new (w.alloc (.cells #[.pointer (some ⟨g, 0, none⟩)] 67)) 3 #[.int .i64 x]
    rw [hl]
    simpa using this
  have sz2 : ((w.alloc (.cells #[.pointer (some ⟨g, 0, none⟩)] 67)).alloc (.cells #[.int .i64 x] 3)).heap.size = lB + 1 + 1 := by rw [hl]; simp
  refine ⟨_, _, Try.func28, by kernel_rfl, rfl, ?_⟩
  simp only [Try.ntmps28]
  walk_nrm
  have hF := atRel_refl w
  replace b2 := Lib.hid b2
  replace l2 := Lib.hid l2
  replace v2 := Lib.hid v2
  replace sz2 := Lib.hid sz2
  replace h := Lib.hid h
  (refine codeX_seq ?_)
  (refine codeX_region ?_; simp only [List.size_toArray, List.length_cons, List.length_nil, Nat.reduceAdd, Nat.zero_add, List.range, List.range.loop])
  replace hl := Lib.hid hl
  (refine opsX_cons rfl (by rfl) ?_; intro _ hR K hK; replace hF := atRel_trans _ _ _ hF hR; clear hR; have hs9 := atRel_size hF; go_simp; refine hK _ _ ⟨?_, ?_⟩; (· rw [listed_nil (by simp [go_sem, *])]; exact dp0_nil); clear hK K hs9; try walk_nrm)
  replace hF := atRel_alloc hF (.cells #[.pointer (some ⟨g, 0, none⟩)] 67)
  (refine opsX_cons rfl (by rfl) ?_; intro _ hR K hK; replace hF := atRel_trans _ _ _ hF hR; clear hR; have hs9 := atRel_size hF; go_simp; refine hK _ _ ⟨?_, ?_⟩; (· rw [listed_nil (by simp [go_sem, *])]; exact dp0_nil); clear hK K hs9; try walk_nrm)
  replace hF := atRel_alloc hF (.cells #[.int .i64 x] 3)
  (refine opsX_cons rfl (by rfl) ?_; intro _ hR K hK; replace hF := atRel_trans _ _ _ hF hR; clear hR; have hs9 := atRel_size hF; go_simp; refine hK _ _ ⟨?_, ?_⟩; (· rw [listed_nil (by simp [go_sem, *])]; exact dp0_nil); clear hK K hs9; try walk_nrm)
  (refine opsX_nil ?_; simp only [Exit.thenX])
  rw [← hl.out]
  have hlt' : g < lB := by rw [hl.out]; exact hlt
  have s2 : ∀ k, k = g ∨ lB ≤ k → ∀ i, ¬ S (.cell ⟨k, i, none⟩) := fun k hk i => hSa k i (by rw [← hl.out]; exact hk)
  clear hSa
  generalize (w.alloc (.cells #[.pointer (some ⟨g, 0, none⟩)] 67)).alloc (.cells #[.int .i64 x] 3) = W2 at hF b2 l2 v2 sz2
  (refine codeX_seq ?_)
  (refine codeX_seq ?_)
  (refine codeX_region ?_; simp only [List.size_toArray, List.length_cons, List.length_nil, Nat.reduceAdd, Nat.zero_add, List.range, List.range.loop])
  (have hc9 : W2.cell? ⟨lB, 0, none⟩ = _ := l2.out.cell 0; have hS9 := s2 lB (.inr (Nat.le_refl _)) 0; (refine opsX_cons rfl (by rfl) ?_; intro _ hR K hK; replace hF := atRel_trans _ _ _ hF hR; clear hR; have hl9 := (atRel_cell hF _).trans hc9; go_simp; refine hK _ _ ⟨?_, ?_⟩; (· intro e he; have hm := mem_listed he; simp [go_sem, hl9] at hm; rw [hm]; exact evP_cell _ hS9); clear hK K hl9 hc9 hS9; try walk_nrm))
  (refine opsX_cons rfl (by rfl) ?_; intro _ hR K hK; replace hF := atRel_trans _ _ _ hF hR; clear hR; have hs9 := atRel_size hF; go_simp; refine hK _ _ ⟨?_, ?_⟩; (· rw [listed_nil (by simp [go_sem, *])]; exact dp0_nil); clear hK K hs9; try walk_nrm)
  (refine opsX_nil ?_; simp only [Exit.thenX])
  ((first | refine codeX_cond (t := true) rfl ?_ | refine codeX_cond (t := false) rfl ?_); simp only [if_true, if_false, Bool.false_eq_true, ↓reduceIte])
  (refine codeX_of ?_; refine codeW_skip (termsP _) ?_; simp only [Exit.thenX])
  (refine codeX_seq ?_)
  (refine codeX_region ?_; simp only [List.size_toArray, List.length_cons, List.length_nil, Nat.reduceAdd, Nat.zero_add, List.range, List.range.loop])
  (refine opsX_cons rfl (by rfl) ?_; intro _ hR K hK; replace hF := atRel_trans _ _ _ hF hR; clear hR; have hs9 := atRel_size hF; go_simp; refine hK _ _ ⟨?_, ?_⟩; (· rw [listed_nil (by simp [go_sem, *])]; exact dp0_nil); clear hK K hs9; try walk_nrm)
  replace hF := atRel_alloc hF (.cells #[.bool false] 4)
  rw [sz2.out]
  have fA : Blk (W2.alloc (.cells #[.bool false] 4)) (lB + 1 + 1) 4 #[.bool false] := by
    have := Blk.new W2 4 #[.bool false]
    rwa [sz2.out] at this
  replace fA := Lib.hid fA
  (have hc9 : (W2.alloc (.cells #[.bool false] 4)).cell? ⟨lB + 1 + 1, 0, none⟩ = _ := fA.out.cell 0; have hz9 : (W2.alloc (.cells #[.bool false] 4)).frozen? ⟨lB + 1 + 1, 0, none⟩ = _ := fA.out.frozen 0; have hS9 := s2 (lB + 1 + 1) (.inr (by omega)) 0; (refine opsX_cons rfl (by rfl) ?_; intro _ hR K hK; replace hF := atRel_trans _ _ _ hF hR; clear hR; have hl9 := (atRel_cell hF _).trans hc9; have hz9' := (atRel_frozen hF _).trans hz9; go_simp; refine hK _ _ ⟨?_, ?_⟩; (· intro e he; have hm := mem_listed he; simp [go_sem, ev_store_bool, storedEv, hl9] at hm; rw [hm.2]; exact evP_cell _ hS9); clear hK K hl9 hc9 hz9 hz9' hS9; try walk_nrm))
  replace hF := atRel_set hF ⟨lB + 1 + 1, 0, none⟩ (.bool false)
  have lW := Lib.hid ((l2.out.alloc (.cells #[.bool false] 4)).far (p := ⟨lB + 1 + 1, 0, none⟩) (by simp <;> omega) (.bool false))
  have vW := Lib.hid ((v2.out.alloc (.cells #[.bool false] 4)).far (p := ⟨lB + 1 + 1, 0, none⟩) (by simp <;> omega) (.bool false))
  have fW := Lib.hid (fA.out.set_ 0 (.bool false))
  have hbel := Lib.hid (((b2.out.alloc (by rw [sz2.out, ← hl.out]; omega) (.cells #[.bool false] 4))).setCell (p := ⟨lB + 1 + 1, 0, none⟩) (by rw [← hl.out]; show lB ≤ lB + 1 + 1; omega) (.bool false))
  have hLW := Lib.hid (h.out.below hbel.out hlt)
  clear b2 l2 v2 sz2 fA h
  generalize (W2.alloc (.cells #[.bool false] 4)).setCell ⟨lB + 1 + 1, 0, none⟩ (.bool false) = W0 at hF lW vW fW hbel hLW
  clear W2
  (refine opsX_nil ?_; simp only [Exit.thenX])
  generalize hfB : lB + 1 + 1 = fB at *
  generalize hvB : lB + 1 = vB at *
  have n2 : g ≠ fB := by omega
  have n1 : g ≠ lB := by omega
  have n3 : g ≠ vB := by omega
  have n4 : lB ≠ fB := by omega
  (refine codeX_seq ?_)
  (refine codeX_region ?_; simp only [List.size_toArray, List.length_cons, List.length_nil, Nat.reduceAdd, Nat.zero_add, List.range, List.range.loop])
  (have hc9 : W0.cell? ⟨lB, 0, none⟩ = _ := lW.out.cell 0; have hS9 := s2 lB (.inr (Nat.le_refl _)) 0; (refine opsX_cons rfl (by rfl) ?_; intro _ hR K hK; replace hF := atRel_trans _ _ _ hF hR; clear hR; have hl9 := (atRel_cell hF _).trans hc9; go_simp; refine hK _ _ ⟨?_, ?_⟩; (· intro e he; have hm := mem_listed he; simp [go_sem, hl9] at hm; rw [hm]; exact evP_cell _ hS9); clear hK K hl9 hc9 hS9; try walk_nrm))
  (refine opsX_cons rfl (by rfl) ?_; intro _ hR K hK; replace hF := atRel_trans _ _ _ hF hR; clear hR; have hs9 := atRel_size hF; go_simp; refine hK _ _ ⟨?_, ?_⟩; (· rw [listed_nil (by simp [go_sem, *])]; exact dp0_nil); clear hK K hs9; try walk_nrm)
  (refine opsX_cons rfl (by rfl) ?_; intro _ hR K hK; replace hF := atRel_trans _ _ _ hF hR; clear hR; have hs9 := atRel_size hF; go_simp; refine hK _ _ ⟨?_, ?_⟩; (· rw [listed_nil (by simp [go_sem, *])]; exact dp0_nil); clear hK K hs9; try walk_nrm)
  (refine opsX_cons rfl (by rfl) ?_; intro _ hR K hK; replace hF := atRel_trans _ _ _ hF hR; clear hR; have hs9 := atRel_size hF; go_simp; refine hK _ _ ⟨?_, ?_⟩; (· rw [listed_nil (by simp [go_sem, *])]; exact dp0_nil); clear hK K hs9; try walk_nrm)
  cases b
  · have hG : Blk W0 g 87 #[.int .u32 0, .int .i32 0, .int .u32 0, .int .u32 0, .int .i64 v] := hLW.out
    have C := setFI_X (Post := Post) (S := S) (n := n) g vB lB fB x v (W0.setCell ⟨g, 1, none⟩ (.int .i32 1)) (fun k i hk => s2 k (by omega) i) (vW.out.far (p := ⟨g, 1, none⟩) n3.symm _) (lW.out.far (p := ⟨g, 1, none⟩) n1.symm _) (fW.out.far (p := ⟨g, 1, none⟩) n2.symm _) (hG.set_ 1 (.int .i32 1))
    have hG2 : Blk ((((W0.setCell ⟨g, 1, none⟩ (.int .i32 1)).setCell ⟨g, 4, none⟩ (.int .i64 x)).setCell ⟨fB, 0, none⟩ (.bool true)).setCell ⟨g, 3, none⟩ (.int .u32 1)) g 87 #[.int .u32 0, .int .i32 1, .int .u32 0, .int .u32 1, .int .i64 x] :=
      (((hG.set_ 1 (.int .i32 1)).set_ 4 (.int .i64 x)).far (p := ⟨fB, 0, none⟩) n2 (.bool true)).set_ 3 (.int .u32 1)
    have hF2 : Blk ((((W0.setCell ⟨g, 1, none⟩ (.int .i32 1)).setCell ⟨g, 4, none⟩ (.int .i64 x)).setCell ⟨fB, 0, none⟩ (.bool true)).setCell ⟨g, 3, none⟩ (.int .u32 1)) fB 4 #[.bool true] :=
      (((fW.out.far (p := ⟨g, 1, none⟩) n2.symm (.int .i32 1)).far (p := ⟨g, 4, none⟩) n2.symm (.int .i64 x)).set_ 0 (.bool true)).far (p := ⟨g, 3, none⟩) n2.symm (.int .u32 1)
    have hC2 : Chg W0 ((((W0.setCell ⟨g, 1, none⟩ (.int .i32 1)).setCell ⟨g, 4, none⟩ (.int .i64 x)).setCell ⟨fB, 0, none⟩ (.bool true)).setCell ⟨g, 3, none⟩ (.int .u32 1)) (fun k => k = g ∨ k = fB) :=
      ⟨rfl, rfl, rfl, by simp [World.setCell], fun k hk hn => by
        have e1 : k ≠ g := fun e => hn (.inl e)
        have e2 : k ≠ fB := fun e => hn (.inr e)
        rw [Below.heap_setCell _ _ _ k e1, Below.heap_setCell _ _ _ k e2, Below.heap_setCell _ _ _ k e1, Below.heap_setCell _ _ _ k e1]⟩
    generalize (((W0.setCell ⟨g, 1, none⟩ (.int .i32 1)).setCell ⟨g, 4, none⟩ (.int .i64 x)).setCell ⟨fB, 0, none⟩ (.bool true)).setCell ⟨g, 3, none⟩ (.int .u32 1) = W4 at C hG2 hF2 hC2
    have D := doFirst_X g _ _ W0 W4 (s2 g (.inl rfl) 1) (hG.cell 0) (hG.cell 1) (hG.frozen 1) C (hG2.cell 1) (hG2.cell 0) (hG2.frozen 0) (hG2.frozen 1)
    have f1 := (hF2.far (p := ⟨g, 0, none⟩) n2.symm (.int .u32 1)).far (p := ⟨g, 1, none⟩) n2.symm (.int .i32 0)
    have g1 := (hG2.set_ 0 (.int .u32 1)).set_ 1 (.int .i32 0)
    have c1 : Chg W0 ((W4.setCell ⟨g, 0, none⟩ (.int .u32 1)).setCell ⟨g, 1, none⟩ (.int .i32 0)) (fun k => k = g ∨ k = fB) :=
      hC2.trans (T := fun k => k = g) ⟨rfl, rfl, rfl, by simp [World.setCell], fun k hk hn => by
        rw [Below.heap_setCell _ _ _ k hn, Below.heap_setCell _ _ _ k hn]⟩ (fun _ _ h => .inl h)
    refine opsX_call rfl (by rfl) rfl ?_ ?_ (Pos := fun v w' x' => x' = ⟨S, n, 0⟩ ∧ AtRel ((W4.setCell ⟨g, 0, none⟩ (.int .u32 1)).setCell ⟨g, 1, none⟩ (.int .i32 0)) w')
    · walk_nrm
      exact callX_rely hF D
    generalize (W4.setCell ⟨g, 0, none⟩ (.int .u32 1)).setCell ⟨g, 1, none⟩ (.int .i32 0) = W5 at f1 g1 c1
    rintro v' w' x' ⟨rfl, hF'⟩
    clear hF C D hG2 hF2 hC2 hG
    have hF := hF'
    clear hF'
    have hfin : LatI W5 g true x ∧ Chg w W5 (fun k => k = g) := ⟨g1, (Chg.of_below hbel.out _).trans c1 (fun k hk hs => by
      rcases hs with hs | hs
      · exact hs
      · rw [← hl.out] at hk; omega)⟩
    replace hfin := Lib.hid hfin
    have c2 : W5.cell? ⟨fB, 0, none⟩ = some (.bool true) := f1.cell 0
    clear f1 g1 c1
    walk_nrm
    (refine opsX_nil ?_; simp only [Exit.thenX])
    (refine codeX_seq ?_)
    (refine codeX_region ?_; simp only [List.size_toArray, List.length_cons, List.length_nil, Nat.reduceAdd, Nat.zero_add, List.range, List.range.loop])
    (have hc9 := c2; have hS9 := s2 fB (.inr (by omega)) 0; (refine opsX_cons rfl (by rfl) ?_; intro _ hR K hK; replace hF := atRel_trans _ _ _ hF hR; clear hR; have hl9 := (atRel_cell hF _).trans hc9; go_simp; refine hK _ _ ⟨?_, ?_⟩; (· intro e he; have hm := mem_listed he; simp [go_sem, hl9] at hm; rw [hm]; exact evP_cell _ hS9); clear hK K hl9 hc9 hS9; try walk_nrm))
    (refine opsX_cons rfl (by rfl) ?_; intro _ hR K hK; replace hF := atRel_trans _ _ _ hF hR; clear hR; have hs9 := atRel_size hF; go_simp; refine hK _ _ ⟨?_, ?_⟩; (· rw [listed_nil (by simp [go_sem, *])]; exact dp0_nil); clear hK K hs9; try walk_nrm)
    (refine opsX_nil ?_; simp only [Exit.thenX])
    (refine codeX_of ?_; refine codeW_ret (termsP _) ?_)
    exact ⟨rfl, _, resultsC_tmp rfl _, rfl, rfl, atRel_blk hF hfin.out.1, by obtain ⟨q, rfl⟩ := hF; exact ⟨hfin.out.2.os, hfin.out.2.tape, hfin.out.2.output, hfin.out.2.size, hfin.out.2.block⟩⟩
  · have hG : Blk W0 g 87 #[.int .u32 1, .int .i32 0, .int .u32 0, .int .u32 1, .int .i64 v] := hLW.out
    have D := doFast_X (Post := Post) (S := S) (n := n) g (.func (.func 40) #[] #[.pointer (some ⟨vB, 0, none⟩), .pointer (some ⟨lB, 0, none⟩), .pointer (some ⟨fB, 0, none⟩)]) W0 (hG.cell 0)
    have c2 : W0.cell? ⟨fB, 0, none⟩ = some (.bool false) := fW.out.cell 0
    refine opsX_call rfl (by rfl) rfl ?_ ?_ (Pos := fun v w' x' => x' = ⟨S, n, 0⟩ ∧ AtRel W0 w')
    · walk_nrm
      exact callX_rely hF D
    rintro v' w' x' ⟨rfl, hF'⟩
    clear hF D hG
    have hF := hF'
    clear hF'
    walk_nrm
    (refine opsX_nil ?_; simp only [Exit.thenX])
    (refine codeX_seq ?_)
    (refine codeX_region ?_; simp only [List.size_toArray, List.length_cons, List.length_nil, Nat.reduceAdd, Nat.zero_add, List.range, List.range.loop])
    (have hc9 := c2; have hS9 := s2 fB (.inr (by omega)) 0; (refine opsX_cons rfl (by rfl) ?_; intro _ hR K hK; replace hF := atRel_trans _ _ _ hF hR; clear hR; have hl9 := (atRel_cell hF _).trans hc9; go_simp; refine hK _ _ ⟨?_, ?_⟩; (· intro e he; have hm := mem_listed he; simp [go_sem, hl9] at hm; rw [hm]; exact evP_cell _ hS9); clear hK K hl9 hc9 hS9; try walk_nrm))
    (refine opsX_cons rfl (by rfl) ?_; intro _ hR K hK; replace hF := atRel_trans _ _ _ hF hR; clear hR; have hs9 := atRel_size hF; go_simp; refine hK _ _ ⟨?_, ?_⟩; (· rw [listed_nil (by simp [go_sem, *])]; exact dp0_nil); clear hK K hs9; try walk_nrm)
    (refine opsX_nil ?_; simp only [Exit.thenX])
    (refine codeX_of ?_; refine codeW_ret (termsP _) ?_)
    exact ⟨rfl, _, resultsC_tmp rfl _, rfl, rfl, atRel_blk hF hLW.out, by obtain ⟨q, rfl⟩ := hF; have c := Chg.of_below hbel.out (fun k => k = g); exact ⟨c.os, c.tape, c.output, c.size, c.block⟩⟩
end
end Go.Proofs.Ytinghnaigpenkaa
