/- Seat 05: the law's example, by goroutine 0 between phases. -/
import Derived.Test.YtinghnaigpenkaaZLwD
namespace Go.Proofs.Ytinghnaigpenkaa
open Go.Conc Go.RowKit Go.ConcR.Gen
open Go.ConcR (WgAt stA)
set_option linter.unusedVariables false
set_option linter.unusedSimpArgs false
set_option maxRecDepth 100000
set_option maxHeartbeats 4000000











section
variable {Post : Value → World → Prop} {S : Loc → Prop} {n : Nat}
theorem awake5_X (w : World) (hS : ∀ k i, w.heap.size ≤ k → ¬ S (.cell ⟨k, i, none⟩)) : CallX Try.prog Post 14 #[] w ⟨S, n, 0⟩ (fun v' w' x' => x' = ⟨S, n, 0⟩ ∧ v' = .bool true ∧ Below w.heap.size w w') := by
  refine ⟨_, _, Try.func14, by kernel_rfl, rfl, ?_⟩
  simp only [Try.ntmps14]
  walk_nrm
  have hF := atRel_refl w
  (refine codeX_seq ?_)
  (refine codeX_region ?_; simp only [List.size_toArray, List.length_cons, List.length_nil, Nat.reduceAdd, Nat.zero_add, List.range, List.range.loop])
  (refine opsX_cons rfl (by rfl) ?_; intro _ hR K hK; replace hF := atRel_trans _ _ _ hF hR; clear hR; have hs9 := atRel_size hF; go_simp; refine hK _ _ ⟨?_, ?_⟩; (· rw [listed_nil (by simp [go_sem, *])]; exact dp0_nil); clear hK K hs9; try walk_nrm)
  (refine opsX_nil ?_; simp only [Exit.thenX])
  (refine codeX_seq ?_)
  (refine codeX_region ?_; simp only [List.size_toArray, List.length_cons, List.length_nil, Nat.reduceAdd, Nat.zero_add, List.range, List.range.loop])
  refine opsX_call rfl (by rfl) rfl ?_ ?_ (Pos := fun v' w' x' => x' = ⟨S, n, 0⟩ ∧ v' = .pointer (some ⟨w.heap.size, 0, none⟩) ∧ LatI w' w.heap.size false 0 ∧ Below w.heap.size w w')
  · walk_nrm
    exact callX_rely hF (newI_X w)
  rintro v' w1 x' ⟨rfl, rfl, hL, hB⟩
  clear hF
  generalize hg : w.heap.size = g at hL hB hS ⊢
  have hlt1 := hL.lt
  have hF := atRel_refl w1
  walk_nrm
  (refine opsX_cons rfl (by rfl) ?_; intro _ hR K hK; replace hF := atRel_trans _ _ _ hF hR; clear hR; have hs9 := atRel_size hF; go_simp; refine hK _ _ ⟨?_, ?_⟩; (· rw [listed_nil (by simp [go_sem, *])]; exact dp0_nil); clear hK K hs9; try walk_nrm)
  (refine opsX_nil ?_; simp only [Exit.thenX])
  (refine codeX_seq ?_)
  (refine codeX_region ?_; simp only [List.size_toArray, List.length_cons, List.length_nil, Nat.reduceAdd, Nat.zero_add, List.range, List.range.loop])
  (refine opsX_cons rfl (by rfl) ?_; intro _ hR K hK; replace hF := atRel_trans _ _ _ hF hR; clear hR; have hs9 := atRel_size hF; go_simp; refine hK _ _ ⟨?_, ?_⟩; (· rw [listed_nil (by simp [go_sem, *])]; exact dp0_nil); clear hK K hs9; try walk_nrm)
  refine opsX_call rfl (by rfl) rfl ?_ ?_ (Pos := fun v' w' x' => x' = ⟨S, n, 0⟩ ∧ v' = .bool true ∧ LatI w' g true 3 ∧ Chg w1 w' (fun k => k = g))
  · walk_nrm
    exact callX_rely hF (setI_X g false 0 3 w1 (fun k i hk => hS k i (by omega)) hL)
  rintro v' w2 x' ⟨rfl, rfl, hL2, hC2⟩
  clear hF
  have hF := atRel_refl w2
  have hsz2 := hC2.size
  walk_nrm
  (refine opsX_cons rfl (by rfl) ?_; intro _ hR K hK; replace hF := atRel_trans _ _ _ hF hR; clear hR; have hs9 := atRel_size hF; go_simp; refine hK _ _ ⟨?_, ?_⟩; (· rw [listed_nil (by simp [go_sem, *])]; exact dp0_nil); clear hK K hs9; try walk_nrm)
  refine opsX_call rfl (by rfl) rfl ?_ ?_ (Pos := fun v' w' x' => x' = ⟨S, n, 0⟩ ∧ v' = .bool false ∧ LatI w' g true 3 ∧ Chg w2 w' (fun k => k = g))
  · walk_nrm
    exact callX_rely hF (setI_X g true 3 4 w2 (fun k i hk => hS k i (by omega)) hL2)
  rintro v' w3 x' ⟨rfl, rfl, hL3, hC3⟩
  have hsz3 := hC3.size
  have hBB : Below g w w3 := ⟨hC3.os.trans (hC2.os.trans hB.os), hC3.tape.trans (hC2.tape.trans hB.tape), hC3.output.trans (hC2.output.trans hB.output), by have := hB.size; omega, fun k hk => (hC3.block k (by omega) (by omega)).trans ((hC2.block k (by omega) (by omega)).trans (hB.block k hk))⟩
  clear hF hL hL2 hC2 hC3 hB hsz2 hsz3 hlt1
  have hF := atRel_refl w3
  replace hBB := Lib.hid hBB
  replace hg := Lib.hid hg
  walk_nrm
  (refine opsX_cons rfl (by rfl) ?_; intro _ hR K hK; replace hF := atRel_trans _ _ _ hF hR; clear hR; have hs9 := atRel_size hF; go_simp; refine hK _ _ ⟨?_, ?_⟩; (· rw [listed_nil (by simp [go_sem, *])]; exact dp0_nil); clear hK K hs9; try walk_nrm)
  (refine opsX_cons rfl (by rfl) ?_; intro _ hR K hK; replace hF := atRel_trans _ _ _ hF hR; clear hR; have hs9 := atRel_size hF; go_simp; refine hK _ _ ⟨?_, ?_⟩; (· rw [listed_nil (by simp [go_sem, *])]; exact dp0_nil); clear hK K hs9; try walk_nrm)
  (refine opsX_nil ?_; simp only [Exit.thenX])
  (refine codeX_seq ?_)
  (refine codeX_region ?_; simp only [List.size_toArray, List.length_cons, List.length_nil, Nat.reduceAdd, Nat.zero_add, List.range, List.range.loop])
  (refine opsX_cons rfl (by rfl) ?_; intro _ hR K hK; replace hF := atRel_trans _ _ _ hF hR; clear hR; have hs9 := atRel_size hF; go_simp; refine hK _ _ ⟨?_, ?_⟩; (· rw [listed_nil (by simp [go_sem, *])]; exact dp0_nil); clear hK K hs9; try walk_nrm)
  refine opsX_call rfl (by rfl) rfl ?_ ?_ (Pos := fun v' w' x' => x' = ⟨S, n, 0⟩ ∧ v' = .tuple #[.int .i64 3, .bool true] ∧ AtRel w3 w')
  · walk_nrm
    exact callX_rely hF (getI_X g true 3 w3 (hS g 4 (Nat.le_refl _)) hL3)
  rintro v' w4 x' ⟨rfl, rfl, hF'⟩
  clear hF
  have hF := hF'
  clear hF'
  walk_nrm
  (repeat (refine opsX_cons rfl (by rfl) ?_; intro _ hR K hK; replace hF := atRel_trans _ _ _ hF hR; clear hR; have hs9 := atRel_size hF; go_simp; refine hK _ _ ⟨?_, ?_⟩; (· rw [listed_nil (by simp [go_sem, *])]; exact dp0_nil); clear hK K hs9; try walk_nrm))
  (refine opsX_nil ?_; simp only [Exit.thenX])
  (refine codeX_seq ?_)
  (refine codeX_region ?_; simp only [List.size_toArray, List.length_cons, List.length_nil, Nat.reduceAdd, Nat.zero_add, List.range, List.range.loop])
  (repeat (first | (refine opsX_unwanted rfl (by rfl) ?_; try walk_nrm) | (refine opsX_cons rfl (by rfl) ?_; intro _ hR K hK; replace hF := atRel_trans _ _ _ hF hR; clear hR; have hs9 := atRel_size hF; go_simp; refine hK _ _ ⟨?_, ?_⟩; (· rw [listed_nil (by simp [go_sem, *])]; exact dp0_nil); clear hK K hs9; try walk_nrm)))
  (refine opsX_nil ?_; simp only [Exit.thenX])
  (refine codeX_of ?_; refine codeW_ret (termsP _) ?_)
  exact ⟨rfl, _, resultsC_tmp rfl _, rfl, rfl, atRel_below hF hBB.out⟩
end
end Go.Proofs.Ytinghnaigpenkaa
