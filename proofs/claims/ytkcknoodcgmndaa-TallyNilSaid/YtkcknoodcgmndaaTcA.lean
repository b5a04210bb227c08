/- Atomic cells and a clock, by goroutine 0 between phases. -/
import Derived.Test.YtkcknoodcgmndaaSgA
import Derived.Test.YtkcknoodcgmndaaWgK
import Derived.ProofKit
import Derived.Conc.CompanyMem
import Derived.Conc.AtomicLaws2
namespace Go.Proofs.Ytkcknoodcgmndaa
open Go.Conc Go.RowKit
open Go.ConcR (WgAt stA)
set_option linter.unusedVariables false
set_option linter.unusedSimpArgs false
set_option maxRecDepth 100000
set_option maxHeartbeats 4000000
abbrev CW (Shun : Loc → Prop) (f : FuncId) (args : Array Value) (w : World) (Post : Value → World → Prop) : Prop := CallsW Try.prog true AtRel (DP0 Shun) f args w Post
theorem atRel_cell {W w : World} (h : AtRel W w) (p : Addr) : w.cell? p = W.cell? p := by obtain ⟨d, rfl⟩ := h; rfl
theorem atRel_frozen {W w : World} (h : AtRel W w) (p : Addr) : w.frozen? p = W.frozen? p := by obtain ⟨d, rfl⟩ := h; rfl
theorem atRel_size {W w : World} (h : AtRel W w) : w.heap.size = W.heap.size := by obtain ⟨d, rfl⟩ := h; rfl
theorem atRel_heap {W w : World} (h : AtRel W w) : w.heap = W.heap := by obtain ⟨d, rfl⟩ := h; rfl
theorem atRel_set {W w : World} (h : AtRel W w) (p : Addr) (v : Value) : AtRel (W.setCell p v) (w.setCell p v) := by obtain ⟨d, rfl⟩ := h; exact ⟨d, rfl⟩
theorem atRel_alloc {W w : World} (h : AtRel W w) (o : Obj) : AtRel (W.alloc o) (w.alloc o) := by obtain ⟨d, rfl⟩ := h; exact ⟨d, rfl⟩
theorem evP_sync (Shun : Loc → Prop) (a : Addr) (wr : Bool) : EvP Shun ⟨.cell a, wr, true⟩ := by
  refine ⟨fun x hx _ => ?_, by simp, by simp⟩
  simp only [ofEvent_cell0, MemAct.touch?, Option.some.injEq] at hx
  subst hx
  simp
theorem evP_cell {Shun : Loc → Prop} {a : Addr} (wr : Bool) (h : ¬ Shun (.cell a)) : EvP Shun ⟨.cell a, wr, false⟩ := by
  refine ⟨fun x hx hs => ?_, by simp, by simp⟩
  simp only [ofEvent_cell0, MemAct.touch?, Option.some.injEq] at hx
  subst hx
  exact absurd hs h
theorem dp0_nil {Shun : Loc → Prop} {w w' : World} : DP0 Shun w w' #[] := fun e he => by simp at he







section
variable {Shun : Loc → Prop}
theorem load42_W (g o : Nat) (v : Int) (w : World) (hc : w.cell? ⟨g, o, none⟩ = some (.int .u64 v)) : CW Shun 42 #[.pointer (some ⟨g, o, none⟩)] w (fun r w' => r = .int .u64 v ∧ AtRel w w') := by
  have T9 := termsP Shun
  refine callsW_enter Try.func42 (by kernel_rfl) rfl ?_
  simp only [Try.ntmps42]
  walk_nrm
  have hF := atRel_refl w
  ((refine codeW_seq T9 ?_); (refine codeW_region T9 ?_; simp only [List.size_toArray, List.length_cons, List.length_nil, Nat.reduceAdd, Nat.zero_add, List.range, List.range.loop]); (repeat (refine opsW_cons rfl (by rfl) ?_; intro _ hR K hK; replace hF := atRel_trans _ _ _ hF hR; clear hR; have hs9 := atRel_size hF; go_simp; refine hK _ _ ⟨?_, ?_⟩; (· rw [listed_nil (by simp [go_sem, *])]; exact dp0_nil); clear hK K hs9; try walk_nrm)); (refine opsW_nil T9 ?_; simp only [Exit.then]))
  (refine codeW_seq T9 ?_)
  (refine codeW_region T9 ?_; simp only [List.size_toArray, List.length_cons, List.length_nil, Nat.reduceAdd, Nat.zero_add, List.range, List.range.loop])
  repeat (refine opsW_cons rfl (by rfl) ?_; intro _ hR K hK; replace hF := atRel_trans _ _ _ hF hR; clear hR; have hs9 := atRel_size hF; go_simp; refine hK _ _ ⟨?_, ?_⟩; (· rw [listed_nil (by simp [go_sem, *])]; exact dp0_nil); clear hK K hs9; try walk_nrm)
  refine opsW_step rfl (fun w₁ h₁ => ?_)
  replace hF := atRel_trans _ _ _ hF h₁
  clear h₁
  refine ⟨_, _, _, fun b k cs hb hk => stepG_load_atomic rfl rfl hk rfl wgLib.f_loadU64 (Go.ConcR.Gen.x_loadU64_n lnk) (Go.ConcR.Gen.x_loadU64_b lnk) (Go.ConcR.Gen.x_loadU64_x lnk) .u64 (Go.ConcR.Gen.x_loadU64_f lnk) rfl ((atRel_cell hF _).trans hc), ?_, ?_⟩
  · intro e he
    simp at he
    subst he
    exact evP_sync _ _ _
  walk_nrm
  (refine opsW_cons rfl (by rfl) ?_; intro _ hR K hK; replace hF := atRel_trans _ _ _ hF hR; clear hR; have hs9 := atRel_size hF; go_simp; refine hK _ _ ⟨?_, ?_⟩; (· rw [listed_nil (by simp [go_sem, *])]; exact dp0_nil); clear hK K hs9; try walk_nrm)
  (refine opsW_nil T9 ?_; simp only [Exit.then])
  (refine codeW_ret T9 ?_)
  exact ⟨rfl, _, resultsC_tmp rfl _, rfl, hF⟩
theorem store40_W (g o : Nat) (v : Int) (u : Value) (w : World) (hc : w.cell? ⟨g, o, none⟩ = some u) (hz : w.frozen? ⟨g, o, none⟩ = false) : CW Shun 40 #[.pointer (some ⟨g, o, none⟩), .int .u64 v] w (fun r w' => r = .tuple #[] ∧ AtRel (w.setCell ⟨g, o, none⟩ (.int .u64 v)) w') := by
  have T9 := termsP Shun
  refine callsW_enter Try.func40 (by kernel_rfl) rfl ?_
  simp only [Try.ntmps40]
  walk_nrm
  have hF := atRel_refl w
  (refine codeW_region T9 ?_; simp only [List.size_toArray, List.length_cons, List.length_nil, Nat.reduceAdd, Nat.zero_add, List.range, List.range.loop])
  repeat (refine opsW_cons rfl (by rfl) ?_; intro _ hR K hK; replace hF := atRel_trans _ _ _ hF hR; clear hR; have hs9 := atRel_size hF; go_simp; refine hK _ _ ⟨?_, ?_⟩; (· rw [listed_nil (by simp [go_sem, *])]; exact dp0_nil); clear hK K hs9; try walk_nrm)
  refine opsW_step rfl (fun w₁ h₁ => ?_)
  replace hF := atRel_trans _ _ _ hF h₁
  clear h₁
  refine ⟨_, _, _, fun b k cs hb hk => stepG_store_atomic rfl rfl hk rfl wgLib.f_storeU64 (Go.ConcR.Gen.x_storeU64_n lnk) (Go.ConcR.Gen.x_storeU64_b lnk) (Go.ConcR.Gen.x_storeU64_x lnk) (Go.ConcR.Gen.x_storeU64_f lnk) rfl rfl ((atRel_cell hF _).trans hc) ((atRel_frozen hF _).trans hz), ?_, ?_⟩
  · intro e he
    simp at he
    subst he
    exact evP_sync _ _ _
  replace hF := atRel_set hF ⟨g, o, none⟩ (.int .u64 v)
  refine opsW_nil T9 ?_
  exact ⟨rfl, _, resultsC_none rfl _, rfl, hF⟩
theorem add41_W (g o : Nat) (v d : Int) (w : World) (hc : w.cell? ⟨g, o, none⟩ = some (.int .u64 v)) (hz : w.frozen? ⟨g, o, none⟩ = false) : CW Shun 41 #[.pointer (some ⟨g, o, none⟩), .int .u64 d] w (fun r w' => r = .int .u64 (IntKind.u64.wrap (v + d)) ∧ AtRel (w.setCell ⟨g, o, none⟩ (.int .u64 (IntKind.u64.wrap (v + d)))) w') := by
  have T9 := termsP Shun
  refine callsW_enter Try.func41 (by kernel_rfl) rfl ?_
  simp only [Try.ntmps41]
  walk_nrm
  have hF := atRel_refl w
  ((refine codeW_seq T9 ?_); (refine codeW_region T9 ?_; simp only [List.size_toArray, List.length_cons, List.length_nil, Nat.reduceAdd, Nat.zero_add, List.range, List.range.loop]); (repeat (refine opsW_cons rfl (by rfl) ?_; intro _ hR K hK; replace hF := atRel_trans _ _ _ hF hR; clear hR; have hs9 := atRel_size hF; go_simp; refine hK _ _ ⟨?_, ?_⟩; (· rw [listed_nil (by simp [go_sem, *])]; exact dp0_nil); clear hK K hs9; try walk_nrm)); (refine opsW_nil T9 ?_; simp only [Exit.then]))
  (refine codeW_seq T9 ?_)
  (refine codeW_region T9 ?_; simp only [List.size_toArray, List.length_cons, List.length_nil, Nat.reduceAdd, Nat.zero_add, List.range, List.range.loop])
  repeat (refine opsW_cons rfl (by rfl) ?_; intro _ hR K hK; replace hF := atRel_trans _ _ _ hF hR; clear hR; have hs9 := atRel_size hF; go_simp; refine hK _ _ ⟨?_, ?_⟩; (· rw [listed_nil (by simp [go_sem, *])]; exact dp0_nil); clear hK K hs9; try walk_nrm)
  refine opsW_step rfl (fun w₁ h₁ => ?_)
  replace hF := atRel_trans _ _ _ hF h₁
  clear h₁
  refine ⟨_, _, _, fun b k cs hb hk => stepG_add_atomic rfl rfl hk rfl wgLib.f_addU64 (Go.ConcR.Gen.x_addU64_n lnk) (Go.ConcR.Gen.x_addU64_b lnk) (Go.ConcR.Gen.x_addU64_x lnk) .u64 (Go.ConcR.Gen.x_addU64_f lnk) rfl rfl ((atRel_cell hF _).trans hc) ((atRel_frozen hF _).trans hz), ?_, ?_⟩
  · intro e he
    simp at he
    rcases he with rfl | rfl <;> exact evP_sync _ _ _
  replace hF := atRel_set hF ⟨g, o, none⟩ (.int .u64 (IntKind.u64.wrap (v + d)))
  walk_nrm
  (refine opsW_cons rfl (by rfl) ?_; intro _ hR K hK; replace hF := atRel_trans _ _ _ hF hR; clear hR; have hs9 := atRel_size hF; go_simp; refine hK _ _ ⟨?_, ?_⟩; (· rw [listed_nil (by simp [go_sem, *])]; exact dp0_nil); clear hK K hs9; try walk_nrm)
  (refine opsW_nil T9 ?_; simp only [Exit.then])
  (refine codeW_ret T9 ?_)
  exact ⟨rfl, _, resultsC_tmp rfl _, rfl, hF⟩
theorem cas43_W (g o : Nat) (v old n : Int) (w : World) (hc : w.cell? ⟨g, o, none⟩ = some (.int .u64 v)) (hz : w.frozen? ⟨g, o, none⟩ = false) : CW Shun 43 #[.pointer (some ⟨g, o, none⟩), .int .u64 old, .int .u64 n] w (fun r w' => (v = old ∧ r = .bool true ∧ AtRel (w.setCell ⟨g, o, none⟩ (.int .u64 n)) w') ∨ (v ≠ old ∧ r = .bool false ∧ AtRel w w')) := by
  have T9 := termsP Shun
  refine callsW_enter Try.func43 (by kernel_rfl) rfl ?_
  simp only [Try.ntmps43]
  walk_nrm
  have hF := atRel_refl w
  ((refine codeW_seq T9 ?_); (refine codeW_region T9 ?_; simp only [List.size_toArray, List.length_cons, List.length_nil, Nat.reduceAdd, Nat.zero_add, List.range, List.range.loop]); (repeat (refine opsW_cons rfl (by rfl) ?_; intro _ hR K hK; replace hF := atRel_trans _ _ _ hF hR; clear hR; have hs9 := atRel_size hF; go_simp; refine hK _ _ ⟨?_, ?_⟩; (· rw [listed_nil (by simp [go_sem, *])]; exact dp0_nil); clear hK K hs9; try walk_nrm)); (refine opsW_nil T9 ?_; simp only [Exit.then]))
  (refine codeW_seq T9 ?_)
  (refine codeW_region T9 ?_; simp only [List.size_toArray, List.length_cons, List.length_nil, Nat.reduceAdd, Nat.zero_add, List.range, List.range.loop])
  repeat (refine opsW_cons rfl (by rfl) ?_; intro _ hR K hK; replace hF := atRel_trans _ _ _ hF hR; clear hR; have hs9 := atRel_size hF; go_simp; refine hK _ _ ⟨?_, ?_⟩; (· rw [listed_nil (by simp [go_sem, *])]; exact dp0_nil); clear hK K hs9; try walk_nrm)
  by_cases he : v = old
  · subst he
    refine opsW_step rfl (fun w₁ h₁ => ?_)
    replace hF := atRel_trans _ _ _ hF h₁
    clear h₁
    refine ⟨_, _, _, fun b k cs hb hk => stepG_cas_hit rfl rfl hk rfl wgLib.f_casU64 (Go.ConcR.Gen.x_casU64_n lnk) (Go.ConcR.Gen.x_casU64_b lnk) (Go.ConcR.Gen.x_casU64_x lnk) .u64 (Go.ConcR.Gen.x_casU64_f lnk) rfl rfl rfl ((atRel_cell hF _).trans hc) ((atRel_frozen hF _).trans hz), ?_, ?_⟩
    · intro e he
      simp at he
      rcases he with rfl | rfl <;> exact evP_sync _ _ _
    replace hF := atRel_set hF ⟨g, o, none⟩ (.int .u64 n)
    walk_nrm
    (refine opsW_cons rfl (by rfl) ?_; intro _ hR K hK; replace hF := atRel_trans _ _ _ hF hR; clear hR; have hs9 := atRel_size hF; go_simp; refine hK _ _ ⟨?_, ?_⟩; (· rw [listed_nil (by simp [go_sem, *])]; exact dp0_nil); clear hK K hs9; try walk_nrm)
    (refine opsW_nil T9 ?_; simp only [Exit.then])
    (refine codeW_ret T9 ?_)
    exact ⟨rfl, _, resultsC_tmp rfl _, .inl ⟨by trivial, rfl, hF⟩⟩
  · refine opsW_step rfl (fun w₁ h₁ => ?_)
    replace hF := atRel_trans _ _ _ hF h₁
    clear h₁
    refine ⟨_, _, _, fun b k cs hb hk => stepG_cas_miss rfl rfl hk rfl wgLib.f_casU64 (Go.ConcR.Gen.x_casU64_n lnk) (Go.ConcR.Gen.x_casU64_b lnk) (Go.ConcR.Gen.x_casU64_x lnk) .u64 (Go.ConcR.Gen.x_casU64_f lnk) rfl rfl rfl ((atRel_cell hF _).trans hc) ((atRel_frozen hF _).trans hz) he, ?_, ?_⟩
    · intro e he
      simp at he
      subst he
      exact evP_sync _ _ _
    walk_nrm
    (refine opsW_cons rfl (by rfl) ?_; intro _ hR K hK; replace hF := atRel_trans _ _ _ hF hR; clear hR; have hs9 := atRel_size hF; go_simp; refine hK _ _ ⟨?_, ?_⟩; (· rw [listed_nil (by simp [go_sem, *])]; exact dp0_nil); clear hK K hs9; try walk_nrm)
    (refine opsW_nil T9 ?_; simp only [Exit.then])
    (refine codeW_ret T9 ?_)
    exact ⟨rfl, _, resultsC_tmp rfl _, .inr ⟨he, rfl, hF⟩⟩
end
end Go.Proofs.Ytkcknoodcgmndaa
