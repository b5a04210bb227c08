/- Seat 05: no latch, no lazy value: a worker's calls. -/
import Derived.Test.YtinghnaigpenkaaAnV
import Derived.Test.YtinghnaigpenkaaLwD
namespace Go.Proofs.Ytinghnaigpenkaa
open Go.Conc Go.RowKit
open Go.ConcR (WgAt stA Payload)
set_option linter.unusedVariables false
set_option linter.unusedSimpArgs false
set_option maxRecDepth 100000
set_option maxHeartbeats 4000000



theorem cell_same {w w₁ : World} {g : Nat} (h : w₁.heap[g]? = w.heap[g]?) (i : Nat) : w₁.cell? ⟨g, i, none⟩ = w.cell? ⟨g, i, none⟩ := by simp [World.cell?, h]
theorem cell_some {w : World} {g i : Nat} {v : Value} (h : w.cell? ⟨g, i, none⟩ = some v) : ∃ o, w.heap[g]? = some o := by
  cases e : w.heap[g]? with
  | none => simp [World.cell?, e] at h
  | some o => exact ⟨o, rfl⟩
theorem dw_alloc {c : Cfg} {C : Nat} {w : World} {cs : Array Value} {T : TypeId} (hT : T ≠ Payload.ety) : DW c C w (w.alloc (.cells cs T)) #[] := by
  refine ⟨⟨rfl, rfl, rfl⟩, by simp, fun b hb => Below.heap_alloc _ _ _ hb, fun b hb hs => ?_, by simp⟩
  have hlt := hs.lt
  obtain ⟨v, hv⟩ := hs
  have e : b = w.heap.size := by simp at hlt; omega
  subst e
  rw [alloc_new] at hv
  injection hv with hv
  injection hv with _ hv
  exact hT hv
/-- a block that is no box stands as it was -/
theorem hard_keep {c : Cfg} {C g : Nat} {w w₁ : World} {cs : Array Value} {T : TypeId} (hT : T ≠ Payload.ety) (hs : ¬ c.SB g) (hw : g ≠ c.Wg) (h : w.heap[g]? = some (.cells cs T)) (r : RW c C w w₁) : w₁.heap[g]? = some (.cells cs T) := by
  refine (r.same g (Array.getElem?_eq_some_iff.1 h).1 hs hw (.inr (.inl ?_))).trans h
  rintro ⟨v, hv⟩
  rw [h] at hv
  injection hv with hv
  injection hv with _ hv
  exact hT hv
theorem lzGetNil_C {c : Cfg} {C : Nat} {F : World → Prop} (hFR : ∀ w w₁, RW c C w w₁ → F w → F w₁) (w : World) (hF : F w) :
    CallsC Try.prog false (RW c C) (DW c C) 18 #[.pointer none] 60 w (fun v w' => F w' ∧ v = .int .u64 0) := by
  have rl9 : ∀ {w w₁ : World}, F w → RW c C w w₁ → F w₁ := fun h r => hFR _ _ r h
  have T9 := termsW c C
  have ev9 := fun (p : Option Addr) (w : World) => ev_eql_nil (P := Try.prog) Try.underlying39 p w
  refine callsC_of_wpC Try.func18 (by kernel_rfl) rfl ?_
  co_apply wpC_more
  · simp only [Try.ntmps18]
    walk_nrm
    co_apply wpC_seq T9
    (co_apply wpC_region T9; simp only [List.size_toArray, List.length_cons, List.length_nil, Nat.reduceAdd, Nat.zero_add, List.range, List.range.loop])
    (co_apply opsC_cons_k rfl (by rfl); intro _ hR K hK; replace hF := rl9 hF hR; clear hR; go_simp; refine hK _ _ ⟨?_, ?_⟩; (· rw [listed_nil (by simp [go_sem, *])]; exact DW.refl _ _ _); clear hK K; try walk_nrm)
    co_apply opsC_nil T9
    simp only [Exit.then]
    co_apply wpC_seq T9 (n₂ := 0)
    co_apply wpC_seq T9
    (co_apply wpC_region T9; simp only [List.size_toArray, List.length_cons, List.length_nil, Nat.reduceAdd, Nat.zero_add, List.range, List.range.loop])
    (co_apply opsC_cons_k rfl (by rfl); intro _ hR K hK; replace hF := rl9 hF hR; clear hR; go_simp; refine hK _ _ ⟨?_, ?_⟩; (· rw [listed_nil (by simp [go_sem, *])]; exact DW.refl _ _ _); clear hK K; try walk_nrm)
    (co_apply opsC_cons_k rfl (by rfl); intro _ hR K hK; replace hF := rl9 hF hR; clear hR; go_simp; refine hK _ _ ⟨?_, ?_⟩; (· rw [listed_nil (by simp [go_sem, *])]; exact DW.refl _ _ _); clear hK K; try walk_nrm)
    co_apply opsC_nil T9
    simp only [Exit.then]
    co_apply wpC_cond T9 (t := true)
    focus (exact rfl)
    simp only [if_true]
    co_apply wpC_seq T9
    (co_apply wpC_region T9; simp only [List.size_toArray, List.length_cons, List.length_nil, Nat.reduceAdd, Nat.zero_add, List.range, List.range.loop])
    (co_apply opsC_cons_k rfl (by rfl); intro _ hR K hK; replace hF := rl9 hF hR; clear hR; go_simp; refine hK _ _ ⟨?_, ?_⟩; (· rw [listed_nil (by simp [go_sem, *])]; exact DW.refl _ _ _); clear hK K; try walk_nrm)
    co_apply opsC_nil T9
    simp only [Exit.then]
    co_apply wpC_seq T9
    (co_apply wpC_region T9; simp only [List.size_toArray, List.length_cons, List.length_nil, Nat.reduceAdd, Nat.zero_add, List.range, List.range.loop])
    (co_apply opsC_cons_k rfl (by rfl); intro _ hR K hK; replace hF := rl9 hF hR; clear hR; go_simp; refine hK _ _ ⟨?_, ?_⟩; (· rw [listed_nil (by simp [go_sem, *])]; exact DW.refl _ _ _); clear hK K; try walk_nrm)
    (co_apply opsC_cons_k rfl (by rfl); intro _ hR K hK; replace hF := rl9 hF hR; clear hR; go_simp; refine hK _ _ ⟨?_, ?_⟩; (· rw [listed_nil (by simp [go_sem, *])]; exact DW.refl _ _ _); clear hK K; try walk_nrm)
    co_apply opsC_nil T9
    simp only [Exit.then]
    refine wpC_ret T9 ?_
    exact ⟨rfl, _, resultsC_tmp rfl _, hF, rfl⟩
  · decide
theorem setNil_C {c : Cfg} {H C : Nat} {wb : World} {fv : Value} {j : Nat} (A : AlO c H) (hC : c.H0 ≤ C) (x : Int) (w : World) (hF : WK c wb H fv j C w) :
    CallsC Try.prog false (RW c C) (DW c C) 10 #[.pointer none, .int .u64 x] 60 w (fun v w' => WK c wb H fv j C w' ∧ v = .bool false) := by
  have T9 := termsW c C
  have ev9 := fun (p : Option Addr) (w : World) => ev_eql_nil (P := Try.prog) Try.underlying23 p w
  have rl9 : ∀ {w w₁ : World}, WK c wb H fv j C w → RW c C w w₁ → WK c wb H fv j C w₁ := fun h r => h.rely A hC r
  refine callsC_of_wpC Try.func10 (by kernel_rfl) rfl ?_
  co_apply wpC_more
  · simp only [Try.ntmps10]
    walk_nrm
    co_apply wpC_seq T9
    (co_apply wpC_region T9; simp only [List.size_toArray, List.length_cons, List.length_nil, Nat.reduceAdd, Nat.zero_add, List.range, List.range.loop])
    (co_apply opsC_cons_k rfl (by rfl); intro xw hR K hK; replace hF := rl9 hF hR; clear hR; go_simp; refine hK _ _ ⟨?_, ?_⟩; (· rw [listed_nil (by simp [go_sem, *])]; exact dw_alloc (by decide)); clear hK K; try walk_nrm)
    have hb0 : xw.heap.size < (xw.alloc (.cells #[.pointer none] 23)).heap.size := by simp
    have hn0 := alloc_new xw (.cells #[.pointer none] 23)
    have hH0 : c.H0 ≤ xw.heap.size := Nat.le_trans hC (Nat.le_of_lt (Array.getElem?_eq_some_iff.1 hF.box).1)
    have hF1 := hF.alloc (.cells #[.pointer none] 23)
    clear hF hb0
    generalize hb : xw.heap.size = b0 at hn0 hH0 ⊢
    clear hb
    generalize xw.alloc (.cells #[.pointer none] 23) = w1 at hn0 hF1 ⊢
    have hF : WK c wb H fv j C w1 ∧ w1.heap[b0]? = some (.cells #[.pointer none] 23) := ⟨hF1, hn0⟩
    clear hF1 hn0
    have nS : ¬ c.SB b0 := fun hb => by have := A.lo _ hb; have := A.h0; omega
    have nW : b0 ≠ c.Wg := by have := A.wg; have := A.h0; omega
    have rl8 : ∀ {w w₁ : World}, (WK c wb H fv j C w ∧ w.heap[b0]? = some (.cells #[.pointer none] 23)) → RW c C w w₁ → (WK c wb H fv j C w₁ ∧ w₁.heap[b0]? = some (.cells #[.pointer none] 23)) := fun h r => ⟨h.1.rely A hC r, hard_keep (by decide) nS nW h.2 r⟩
    (co_apply opsC_cons_k rfl (by rfl); intro xw hR K hK; replace hF := rl8 hF hR; clear hR; go_simp; refine hK _ _ ⟨?_, ?_⟩; (· rw [listed_nil (by simp [go_sem, *])]; exact dw_alloc (by decide)); clear hK K; try walk_nrm)
    have hF1 : WK c wb H fv j C (xw.alloc (.cells #[.int .u64 x] 25)) ∧ (xw.alloc (.cells #[.int .u64 x] 25)).heap[b0]? = some (.cells #[.pointer none] 23) := ⟨hF.1.alloc _, (Below.heap_alloc _ _ _ (Array.getElem?_eq_some_iff.1 hF.2).1).trans hF.2⟩
    clear hF
    generalize xw.heap.size = b1
    generalize xw.alloc (.cells #[.int .u64 x] 25) = w2 at hF1 ⊢
    have hF := hF1
    clear hF1
    (co_apply opsC_cons_k rfl (by rfl); intro _ hR K hK; replace hF := rl8 hF hR; clear hR; go_simp; refine hK _ _ ⟨?_, ?_⟩; (· rw [listed_nil (by simp [go_sem, *])]; exact DW.refl _ _ _); clear hK K; try walk_nrm)
    co_apply opsC_nil T9
    simp only [Exit.then]
    co_apply wpC_seq T9 (n₂ := 0)
    co_apply wpC_seq T9
    (co_apply wpC_region T9; simp only [List.size_toArray, List.length_cons, List.length_nil, Nat.reduceAdd, Nat.zero_add, List.range, List.range.loop])
    (co_apply opsC_cons_k rfl (by rfl); intro xw hR K hK; replace hF := rl8 hF hR; clear hR; have hc9 : xw.cell? ⟨b0, 0, none⟩ = some (.pointer none) := box_cell hF.2; go_simp; refine hK _ _ ⟨?_, ?_⟩; (· refine dw_read (fun e he => ?_); have hm := mem_listed he; simp [go_sem, hc9] at hm; subst hm; exact evW_new hH0 hF.2 (by decide) (A.pl _ (.inr (by rw [← A.h0]; exact hH0)))); clear hK K hc9; try walk_nrm)
    (co_apply opsC_cons_k rfl (by rfl); intro _ hR K hK; replace hF := rl8 hF hR; clear hR; go_simp; refine hK _ _ ⟨?_, ?_⟩; (· rw [listed_nil (by simp [go_sem, *])]; exact DW.refl _ _ _); clear hK K; try walk_nrm)
    co_apply opsC_nil T9
    simp only [Exit.then]
    co_apply wpC_cond T9 (t := true)
    focus (exact rfl)
    simp only [if_true]
    co_apply wpC_seq T9
    (co_apply wpC_region T9; simp only [List.size_toArray, List.length_cons, List.length_nil, Nat.reduceAdd, Nat.zero_add, List.range, List.range.loop])
    (co_apply opsC_cons_k rfl (by rfl); intro _ hR K hK; replace hF := rl8 hF hR; clear hR; go_simp; refine hK _ _ ⟨?_, ?_⟩; (· rw [listed_nil (by simp [go_sem, *])]; exact DW.refl _ _ _); clear hK K; try walk_nrm)
    co_apply opsC_nil T9
    simp only [Exit.then]
    refine wpC_ret T9 ?_
    exact ⟨rfl, _, resultsC_tmp rfl _, hF.1, rfl⟩
  · decide
end Go.Proofs.Ytinghnaigpenkaa
