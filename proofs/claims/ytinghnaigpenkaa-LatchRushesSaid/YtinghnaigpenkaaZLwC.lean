/- Seat 05: sync.Once, a latch of int, the law's example: by goroutine 0 between phases. -/
import Derived.Test.YtinghnaigpenkaaZLwB
import Derived.Test.YtinghnaigpenkaaZMemC
import Derived.Test.YtinghnaigpenkaaZMem
namespace Go.Proofs.Ytinghnaigpenkaa
open Go.Conc Go.RowKit Go.ConcR.Gen
open Go.ConcR (WgAt stA)
set_option linter.unusedVariables false
set_option linter.unusedSimpArgs false
set_option maxRecDepth 100000
set_option maxHeartbeats 4000000










theorem callX_mono {P : Program} {Post : Value → World → Prop} {f : FuncId} {args : Array Value} {w : World} {x : XS} {Pos Pos' : Value → World → XS → Prop} (h : CallX P Post f args w x Pos) (hp : ∀ v w x, Pos v w x → Pos' v w x) : CallX P Post f args w x Pos' := by
  obtain ⟨fn, cd, h1, h2, h3, h4⟩ := h
  refine ⟨fn, cd, h1, h2, h3, codeX_mono h4 fun e a w x q => ?_⟩
  cases e <;> first | exact ⟨q.1, q.2.choose, q.2.choose_spec.1, hp _ _ _ q.2.choose_spec.2⟩ | exact q
theorem atRel_blk {W w : World} (h : AtRel W w) {g : Nat} {t : TypeId} {cs : Array Value} (hb : Blk W g t cs) : Blk w g t cs := by obtain ⟨d, rfl⟩ := h; exact hb
theorem atRel_below {W w w0 : World} {N : Nat} (h : AtRel W w) (hb : Below N w0 W) : Below N w0 w := by obtain ⟨d, rfl⟩ := h; exact ⟨hb.os, hb.tape, hb.output, hb.size, hb.block⟩
section
variable {Post : Value → World → Prop} {S : Loc → Prop} {n : Nat}
theorem doFast_X (g : Nat) (f : Value) (w : World) (hc : w.cell? ⟨g, 0, none⟩ = some (.int .u32 1)) :
    CallX Try.prog Post 23 #[.pointer (some ⟨g, 0, none⟩), f] w ⟨S, n, 0⟩ (fun v w' x' => x' = ⟨S, n, 0⟩ ∧ AtRel w w') := by
  refine ⟨_, _, Try.func23, by kernel_rfl, rfl, ?_⟩
  simp only [Try.ntmps23]
  walk_nrm
  have hF := atRel_refl w
  (refine codeX_seq ?_)
  (refine codeX_region ?_; simp only [List.size_toArray, List.length_cons, List.length_nil, Nat.reduceAdd, Nat.zero_add, List.range, List.range.loop])
  (refine opsX_cons rfl (by rfl) ?_; intro _ hR K hK; replace hF := atRel_trans _ _ _ hF hR; clear hR; have hs9 := atRel_size hF; go_simp; refine hK _ _ ⟨?_, ?_⟩; (· rw [listed_nil (by simp [go_sem, *])]; exact dp0_nil); clear hK K hs9; try walk_nrm)
  (refine opsX_cons rfl (by rfl) ?_; intro _ hR K hK; replace hF := atRel_trans _ _ _ hF hR; clear hR; have hs9 := atRel_size hF; go_simp; refine hK _ _ ⟨?_, ?_⟩; (· rw [listed_nil (by simp [go_sem, *])]; exact dp0_nil); clear hK K hs9; try walk_nrm)
  (refine opsX_cons rfl (by rfl) ?_; intro _ hR K hK; replace hF := atRel_trans _ _ _ hF hR; clear hR; have hs9 := atRel_size hF; go_simp; refine hK _ _ ⟨?_, ?_⟩; (· rw [listed_nil (by simp [go_sem, *])]; exact dp0_nil); clear hK K hs9; try walk_nrm)
  refine opsX_callW rfl (by rfl) rfl ?_ ?_ (Pos := fun r w' => r = .bool true ∧ AtRel w w')
  · walk_nrm
    exact CallsW.rely (termsP _) (bload_W g 0 1 w hc) hF
  rintro v w' ⟨rfl, hF'⟩
  clear hF
  have hF := hF'
  clear hF'
  walk_nrm
  (refine opsX_cons rfl (by rfl) ?_; intro _ hR K hK; replace hF := atRel_trans _ _ _ hF hR; clear hR; have hs9 := atRel_size hF; go_simp; refine hK _ _ ⟨?_, ?_⟩; (· rw [listed_nil (by simp [go_sem, *])]; exact dp0_nil); clear hK K hs9; try walk_nrm)
  (refine opsX_nil ?_; simp only [Exit.thenX])
  ((first | refine codeX_cond (t := true) rfl ?_ | refine codeX_cond (t := false) rfl ?_); simp only [if_true, if_false, Bool.false_eq_true, ↓reduceIte])
  refine codeX_of ?_
  refine codeW_skip (termsP _) ?_
  exact ⟨rfl, _, resultsC_none rfl _, rfl, hF⟩
theorem doSlow_X (g : Nat) (f : FuncId) (cap : Array Value) (w W2 : World) (hS : ¬ S (.cell ⟨g, 1, none⟩)) (hc0 : w.cell? ⟨g, 0, none⟩ = some (.int .u32 0)) (hc1 : w.cell? ⟨g, 1, none⟩ = some (.int .i32 0)) (hz : w.frozen? ⟨g, 1, none⟩ = false)
    (hf : CallX Try.prog Post f cap (w.setCell ⟨g, 1, none⟩ (.int .i32 1)) ⟨S, n, 0⟩ (fun v w' x' => x' = ⟨S, n, 0⟩ ∧ AtRel W2 w')) (h21 : W2.cell? ⟨g, 1, none⟩ = some (.int .i32 1)) (h20 : W2.cell? ⟨g, 0, none⟩ = some (.int .u32 0)) (hz0 : W2.frozen? ⟨g, 0, none⟩ = false) (hz1 : W2.frozen? ⟨g, 1, none⟩ = false) :
    CallE Try.prog Post 36 #[.pointer (some ⟨g, 0, none⟩), .func (.func f) #[] cap] w ⟨S, n, 0⟩ (fun v w' x' => x' = ⟨S, n, 0⟩ ∧ AtRel ((W2.setCell ⟨g, 0, none⟩ (.int .u32 1)).setCell ⟨g, 1, none⟩ (.int .i32 0)) w') := by
  have h31 : (W2.setCell ⟨g, 0, none⟩ (.int .u32 1)).cell? ⟨g, 1, none⟩ = some (.int .i32 1) := by rw [World.cell?_setCell_other]; exact h21; simp
  have hz3 : (W2.setCell ⟨g, 0, none⟩ (.int .u32 1)).frozen? ⟨g, 1, none⟩ = false := by rw [World.frozen?_setCell]; exact hz1
  have hc0' : (w.setCell ⟨g, 1, none⟩ (.int .i32 1)).cell? ⟨g, 0, none⟩ = some (.int .u32 0) := by rw [World.cell?_setCell_other]; exact hc0; simp
  refine ⟨_, _, Try.func36, by kernel_rfl, rfl, ?_⟩
  simp only [Try.ntmps36]
  walk_nrm
  have hF := atRel_refl w
  have L0 := lock_X (Post := Post) (S := S) (n := n) g 1 w hc1 hz
  clear hc0 hc1 hz
  (refine codeX_seq ?_)
  (refine codeX_region ?_; simp only [List.size_toArray, List.length_cons, List.length_nil, Nat.reduceAdd, Nat.zero_add, List.range, List.range.loop])
  (refine opsX_cons rfl (by rfl) ?_; intro _ hR K hK; replace hF := atRel_trans _ _ _ hF hR; clear hR; have hs9 := atRel_size hF; go_simp; refine hK _ _ ⟨?_, ?_⟩; (· rw [listed_nil (by simp [go_sem, *])]; exact dp0_nil); clear hK K hs9; try walk_nrm)
  (refine opsX_cons rfl (by rfl) ?_; intro _ hR K hK; replace hF := atRel_trans _ _ _ hF hR; clear hR; have hs9 := atRel_size hF; go_simp; refine hK _ _ ⟨?_, ?_⟩; (· rw [listed_nil (by simp [go_sem, *])]; exact dp0_nil); clear hK K hs9; try walk_nrm)
  (refine opsX_cons rfl (by rfl) ?_; intro _ hR K hK; replace hF := atRel_trans _ _ _ hF hR; clear hR; have hs9 := atRel_size hF; go_simp; refine hK _ _ ⟨?_, ?_⟩; (· rw [listed_nil (by simp [go_sem, *])]; exact dp0_nil); clear hK K hs9; try walk_nrm)
  refine opsX_call rfl (by rfl) rfl ?_ ?_ (Pos := fun v w' x' => x' = ⟨S, n, 0⟩ ∧ AtRel (w.setCell ⟨g, 1, none⟩ (.int .i32 1)) w')
  · walk_nrm
    exact callX_rely hF L0
  rintro v w' x' ⟨rfl, hF'⟩
  clear hF L0
  have hF := hF'
  clear hF'
  generalize w.setCell ⟨g, 1, none⟩ (.int .i32 1) = w1 at hF hf hc0'
  walk_nrm
  (refine opsX_nil ?_; simp only [Exit.thenX])
  (refine codeX_seq ?_)
  (refine codeX_region ?_; simp only [List.size_toArray, List.length_cons, List.length_nil, Nat.reduceAdd, Nat.zero_add, List.range, List.range.loop])
  (refine opsX_cons rfl (by rfl) ?_; intro _ hR K hK; replace hF := atRel_trans _ _ _ hF hR; clear hR; have hs9 := atRel_size hF; go_simp; refine hK _ _ ⟨?_, ?_⟩; (· rw [listed_nil (by simp [go_sem, *])]; exact dp0_nil); clear hK K hs9; try walk_nrm)
  (refine opsX_cons rfl (by rfl) ?_; intro _ hR K hK; replace hF := atRel_trans _ _ _ hF hR; clear hR; have hs9 := atRel_size hF; go_simp; refine hK _ _ ⟨?_, ?_⟩; (· rw [listed_nil (by simp [go_sem, *])]; exact dp0_nil); clear hK K hs9; try walk_nrm)
  (refine opsX_cons rfl (by rfl) ?_; intro _ hR K hK; replace hF := atRel_trans _ _ _ hF hR; clear hR; have hs9 := atRel_size hF; go_simp; refine hK _ _ ⟨?_, ?_⟩; (· rw [listed_nil (by simp [go_sem, *])]; exact dp0_nil); clear hK K hs9; try walk_nrm)
  (refine opsX_defer rfl (by rfl) rfl ?_; walk_nrm)
  (refine opsX_nil ?_; simp only [Exit.thenX])
  (refine codeX_seq ?_)
  (refine codeX_region ?_; simp only [List.size_toArray, List.length_cons, List.length_nil, Nat.reduceAdd, Nat.zero_add, List.range, List.range.loop])
  (refine opsX_cons rfl (by rfl) ?_; intro _ hR K hK; replace hF := atRel_trans _ _ _ hF hR; clear hR; have hs9 := atRel_size hF; go_simp; refine hK _ _ ⟨?_, ?_⟩; (· rw [listed_nil (by simp [go_sem, *])]; exact dp0_nil); clear hK K hs9; try walk_nrm)
  (refine opsX_cons rfl (by rfl) ?_; intro _ hR K hK; replace hF := atRel_trans _ _ _ hF hR; clear hR; have hs9 := atRel_size hF; go_simp; refine hK _ _ ⟨?_, ?_⟩; (· rw [listed_nil (by simp [go_sem, *])]; exact dp0_nil); clear hK K hs9; try walk_nrm)
  (refine opsX_cons rfl (by rfl) ?_; intro _ hR K hK; replace hF := atRel_trans _ _ _ hF hR; clear hR; have hs9 := atRel_size hF; go_simp; refine hK _ _ ⟨?_, ?_⟩; (· rw [listed_nil (by simp [go_sem, *])]; exact dp0_nil); clear hK K hs9; try walk_nrm)
  refine opsX_callW rfl (by rfl) rfl ?_ ?_ (Pos := fun r w' => r = .bool false ∧ AtRel w1 w')
  · walk_nrm
    exact CallsW.rely (termsP _) (bload_W g 0 0 w1 hc0') hF
  rintro v w' ⟨rfl, hF'⟩
  clear hF
  have hF := hF'
  clear hF'
  walk_nrm
  (refine opsX_cons rfl (by rfl) ?_; intro _ hR K hK; replace hF := atRel_trans _ _ _ hF hR; clear hR; have hs9 := atRel_size hF; go_simp; refine hK _ _ ⟨?_, ?_⟩; (· rw [listed_nil (by simp [go_sem, *])]; exact dp0_nil); clear hK K hs9; try walk_nrm)
  (refine opsX_nil ?_; simp only [Exit.thenX])
  ((first | refine codeX_cond (t := true) rfl ?_ | refine codeX_cond (t := false) rfl ?_); simp only [if_true, if_false, Bool.false_eq_true, ↓reduceIte])
  (refine codeX_seq ?_)
  (refine codeX_region ?_; simp only [List.size_toArray, List.length_cons, List.length_nil, Nat.reduceAdd, Nat.zero_add, List.range, List.range.loop])
  (refine opsX_cons rfl (by rfl) ?_; intro _ hR K hK; replace hF := atRel_trans _ _ _ hF hR; clear hR; have hs9 := atRel_size hF; go_simp; refine hK _ _ ⟨?_, ?_⟩; (· rw [listed_nil (by simp [go_sem, *])]; exact dp0_nil); clear hK K hs9; try walk_nrm)
  (refine opsX_cons rfl (by rfl) ?_; intro _ hR K hK; replace hF := atRel_trans _ _ _ hF hR; clear hR; have hs9 := atRel_size hF; go_simp; refine hK _ _ ⟨?_, ?_⟩; (· rw [listed_nil (by simp [go_sem, *])]; exact dp0_nil); clear hK K hs9; try walk_nrm)
  (refine opsX_cons rfl (by rfl) ?_; intro _ hR K hK; replace hF := atRel_trans _ _ _ hF hR; clear hR; have hs9 := atRel_size hF; go_simp; refine hK _ _ ⟨?_, ?_⟩; (· rw [listed_nil (by simp [go_sem, *])]; exact dp0_nil); clear hK K hs9; try walk_nrm)
  (refine opsX_defer rfl (by rfl) rfl ?_; walk_nrm)
  (refine opsX_nil ?_; simp only [Exit.thenX])
  (refine codeX_region ?_; simp only [List.size_toArray, List.length_cons, List.length_nil, Nat.reduceAdd, Nat.zero_add, List.range, List.range.loop])
  (refine opsX_cons rfl (by rfl) ?_; intro _ hR K hK; replace hF := atRel_trans _ _ _ hF hR; clear hR; have hs9 := atRel_size hF; go_simp; refine hK _ _ ⟨?_, ?_⟩; (· rw [listed_nil (by simp [go_sem, *])]; exact dp0_nil); clear hK K hs9; try walk_nrm)
  refine opsX_callV rfl (by rfl) rfl rfl ?_ ?_ (Pos := fun v w' x' => x' = ⟨S, n, 0⟩ ∧ AtRel W2 w')
  · have := callX_rely hF hf
    simpa using this
  rintro v w' x' ⟨rfl, hF'⟩
  clear hF
  have hF := hF'
  clear hF'
  walk_nrm
  refine opsX_nil ?_
  refine ⟨.inl rfl, [(25, #[.pointer (some ⟨g, 0, none⟩), .bool true]), (48, #[.pointer (some ⟨g, 1, none⟩)])], rfl, ?_⟩
  refine callX_mono (callX_of (CallsW.rely (termsP _) (bstore_W g 0 _ W2 h20 hz0) hF)) ?_
  rintro v w' x' ⟨rfl, _, hF'⟩
  refine callX_mono (callX_rely hF' (unlock_X g 1 hS _ h31 hz3)) ?_
  rintro v w' x' ⟨rfl, hF'⟩
  exact ⟨_, resultsC_none rfl _, rfl, hF'⟩
end
end Go.Proofs.Ytinghnaigpenkaa
