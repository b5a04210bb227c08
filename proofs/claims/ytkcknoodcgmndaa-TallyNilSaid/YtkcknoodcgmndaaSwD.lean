/- What a sweep's worker knows; whether a number is one. -/
import Derived.Test.YtkcknoodcgmndaaSwC
namespace Go.Proofs.Ytkcknoodcgmndaa
open Go.Conc Go.RowKit
open Go.ConcR (WgAt stA)
set_option linter.unusedVariables false
set_option linter.unusedSimpArgs false
set_option maxRecDepth 100000
set_option maxHeartbeats 4000000

/-- a block that a worker may read -/
def RdOk (s : SwP) (C g : Nat) : Prop := (g = C ∨ g < s.H0) ∧ g ≠ s.Wg ∧ ¬ s.SB g ∧ ¬ s.dead g
theorem RdOk.keep {s : SwP} {C g : Nat} {w w₁ : World} (h : RdOk s C g) (r : RW (swCfg s) C w w₁) {o : Obj} (e : w.heap[g]? = some o) : w₁.heap[g]? = some o :=
  (r.same g (Array.getElem?_eq_some_iff.1 e).1 h.2.2.1 h.2.1 (h.1.imp id .inr)).trans e
theorem RdOk.keepS {s : SwP} {C g : Nat} {w w₁ : World} (h : RdOk s C g) (r : OnlySB (swCfg s) w w₁) {o : Obj} (e : w.heap[g]? = some o) : w₁.heap[g]? = some o := (r.old g h.2.2.1).trans e
theorem evW_cell {s : SwP} {C : Nat} {w : World} {a : Addr} (h : RdOk s C a.block) : EvW (swCfg s) C w ⟨.cell a, false, false⟩ := by
  refine ⟨fun x hx _ => ?_, by simp, by simp, by simp⟩
  simp only [ofEvent_cell0, MemAct.touch?, Option.some.injEq] at hx
  subst hx
  refine ⟨a, rfl, rfl, by simp, ?_, fun _ h => h, h.1⟩
  rintro ⟨a', e, h'⟩
  injection e with e
  subst e
  rcases h' with h' | h' | h'
  · exact h.2.1 h'
  · exact h.2.2.1 h'
  · exact h.2.2.2 h'
theorem dw_read {c : Cfg} {C : Nat} {w : World} {es : Array Event} (h : ∀ e ∈ es, EvW c C w e) : DW c C w w es :=
  ⟨.refl w, Nat.le_refl _, fun _ _ => rfl, (DW.refl c C w).new, h⟩
theorem ev_neq_nil {P : Program} {t e : TypeId} (h : P.underlying t = some (.pointer e)) (p : Option Addr) (w : World) : Sem.events P (binOp .neq t (.pointer p) (.pointer none)) w #[] = #[] := by
  have key : Sem.events P (Op.equalIn (9999 + 1) t (.pointer p) (.pointer none)) w #[] = #[] := by
    unfold Op.equalIn
    cases p <;> simp [Sem.events_bind, run_underlying h, events_underlying, Sem.events_pure, Result.evThen]
  have key2 : ∃ b, Sem.run P (Op.equalIn (9999 + 1) t (.pointer p) (.pointer none)) w = .ok b w := by
    unfold Op.equalIn
    cases p <;> simp [Sem.run_bind, run_underlying h, Sem.run_pure]
  obtain ⟨b, hb⟩ := key2
  show Sem.events P (Op.equalIn (9999 + 1) t (.pointer p) (.pointer none) >>= fun b => pure (Value.bool (!b))) w #[] = #[]
  simp only [Sem.events_bind, hb, key, Sem.events_pure, Result.evThen_ok]
def mkV (s : SwP) (Mb : Nat) : Value := if s.has then .pointer (some ⟨Mb, 0, none⟩) else .pointer none





theorem one44_C {s : SwP} {C Mb cap : Nat} {x : Int} {F : World → Prop} (hFR : ∀ w w₁, RW (swCfg s) C w w₁ → F w → F w₁)
    (hM : ∀ w, F w → s.has = true → w.heap[Mb]? = some (.cells #[.int .i64 s.nn, .slice (some ⟨s.Wb, 0, none⟩) s.σ0.ws.length cap] 74)) (hMo : s.has = true → RdOk s C Mb) (w : World) (hF : F w) :
    CallsC Try.prog false (RW (swCfg s) C) (DW (swCfg s) C) 44 #[mkV s Mb, .int .i64 x] 100 w (fun v w' => F w' ∧ v = .bool (decide (s.has = true ∧ 0 ≤ x ∧ x < (s.nn : Int)))) := by
  have rl9 : ∀ {w w₁ : World}, F w → RW (swCfg s) C w w₁ → F w₁ := fun h r => hFR _ _ r h
  have T9 := termsW (swCfg s) C
  have ev9 := fun (p : Option Addr) (w : World) => ev_neq_nil (P := Try.prog) Try.underlying35 p w
  refine callsC_of_wpC Try.func44 (by kernel_rfl) rfl ?_
  unfold mkV
  by_cases hh : s.has = true
  · rw [if_pos hh]
    have hC0 : ∀ w, F w → w.cell? ⟨Mb, 0, none⟩ = some (.int .i64 s.nn) := fun w h => by simp [World.cell?, hM w h hh]
    by_cases h0 : 0 ≤ x
    · have e0 : decide (0 ≤ x) = true := decide_eq_true h0
      by_cases hn : x < (s.nn : Int)
      · have e1 : decide (x < (s.nn : Int)) = true := decide_eq_true hn
        rw [show decide (s.has = true ∧ 0 ≤ x ∧ x < (s.nn : Int)) = true from decide_eq_true ⟨hh, h0, hn⟩]
        co_apply wpC_more; (focus (simp only [Try.ntmps44]; walk_nrm; co_apply wpC_seq T9; (co_apply wpC_region T9; simp only [List.size_toArray, List.length_cons, List.length_nil, Nat.reduceAdd, Nat.zero_add, List.range, List.range.loop]); (co_apply opsC_cons_k rfl (by rfl); intro _ hR K hK; replace hF := rl9 hF hR; clear hR; go_simp; refine hK _ _ ⟨?_, ?_⟩; (· rw [listed_nil (by simp [go_sem, *])]; exact DW.refl _ _ _); clear hK K; try walk_nrm); co_apply opsC_nil T9; simp only [Exit.then]; co_apply wpC_seq T9; (co_apply wpC_region T9; simp only [List.size_toArray, List.length_cons, List.length_nil, Nat.reduceAdd, Nat.zero_add, List.range, List.range.loop]); (repeat (first | (co_apply opsC_cons_k rfl (by rfl); intro _ hR K hK; replace hF := rl9 hF hR; clear hR; go_simp; refine hK _ _ ⟨?_, ?_⟩; (· rw [listed_nil (by simp [go_sem, *])]; exact DW.refl _ _ _); clear hK K; try walk_nrm) | (co_apply opsC_unwanted T9 rfl (by rfl); try walk_nrm) | (co_apply opsC_cons_k rfl (by rfl); intro _ hR K hK; replace hF := rl9 hF hR; clear hR; have m0 := hC0 _ hF; go_simp; refine hK _ _ ⟨?_, ?_⟩; (· refine dw_read (fun e he => ?_); have hm := mem_listed he; simp [go_sem, *] at hm; subst hm; exact evW_cell (hMo hh)); clear hK K m0; try walk_nrm))); co_apply opsC_nil T9; simp only [Exit.then]; refine wpC_ret T9 ?_; exact ⟨rfl, _, resultsC_tmp rfl _, hF, rfl⟩)); decide
      · have e1 : decide (x < (s.nn : Int)) = false := decide_eq_false hn
        rw [show decide (s.has = true ∧ 0 ≤ x ∧ x < (s.nn : Int)) = false from decide_eq_false fun h => hn h.2.2]
        co_apply wpC_more; (focus (simp only [Try.ntmps44]; walk_nrm; co_apply wpC_seq T9; (co_apply wpC_region T9; simp only [List.size_toArray, List.length_cons, List.length_nil, Nat.reduceAdd, Nat.zero_add, List.range, List.range.loop]); (co_apply opsC_cons_k rfl (by rfl); intro _ hR K hK; replace hF := rl9 hF hR; clear hR; go_simp; refine hK _ _ ⟨?_, ?_⟩; (· rw [listed_nil (by simp [go_sem, *])]; exact DW.refl _ _ _); clear hK K; try walk_nrm); co_apply opsC_nil T9; simp only [Exit.then]; co_apply wpC_seq T9; (co_apply wpC_region T9; simp only [List.size_toArray, List.length_cons, List.length_nil, Nat.reduceAdd, Nat.zero_add, List.range, List.range.loop]); (repeat (first | (co_apply opsC_cons_k rfl (by rfl); intro _ hR K hK; replace hF := rl9 hF hR; clear hR; go_simp; refine hK _ _ ⟨?_, ?_⟩; (· rw [listed_nil (by simp [go_sem, *])]; exact DW.refl _ _ _); clear hK K; try walk_nrm) | (co_apply opsC_unwanted T9 rfl (by rfl); try walk_nrm) | (co_apply opsC_cons_k rfl (by rfl); intro _ hR K hK; replace hF := rl9 hF hR; clear hR; have m0 := hC0 _ hF; go_simp; refine hK _ _ ⟨?_, ?_⟩; (· refine dw_read (fun e he => ?_); have hm := mem_listed he; simp [go_sem, *] at hm; subst hm; exact evW_cell (hMo hh)); clear hK K m0; try walk_nrm))); co_apply opsC_nil T9; simp only [Exit.then]; refine wpC_ret T9 ?_; exact ⟨rfl, _, resultsC_tmp rfl _, hF, rfl⟩)); decide
    · have e0 : decide (0 ≤ x) = false := decide_eq_false h0
      rw [show decide (s.has = true ∧ 0 ≤ x ∧ x < (s.nn : Int)) = false from decide_eq_false fun h => h0 h.2.1]
      co_apply wpC_more; (focus (simp only [Try.ntmps44]; walk_nrm; co_apply wpC_seq T9; (co_apply wpC_region T9; simp only [List.size_toArray, List.length_cons, List.length_nil, Nat.reduceAdd, Nat.zero_add, List.range, List.range.loop]); (co_apply opsC_cons_k rfl (by rfl); intro _ hR K hK; replace hF := rl9 hF hR; clear hR; go_simp; refine hK _ _ ⟨?_, ?_⟩; (· rw [listed_nil (by simp [go_sem, *])]; exact DW.refl _ _ _); clear hK K; try walk_nrm); co_apply opsC_nil T9; simp only [Exit.then]; co_apply wpC_seq T9; (co_apply wpC_region T9; simp only [List.size_toArray, List.length_cons, List.length_nil, Nat.reduceAdd, Nat.zero_add, List.range, List.range.loop]); (repeat (first | (co_apply opsC_cons_k rfl (by rfl); intro _ hR K hK; replace hF := rl9 hF hR; clear hR; go_simp; refine hK _ _ ⟨?_, ?_⟩; (· rw [listed_nil (by simp [go_sem, *])]; exact DW.refl _ _ _); clear hK K; try walk_nrm) | (co_apply opsC_unwanted T9 rfl (by rfl); try walk_nrm) | (co_apply opsC_cons_k rfl (by rfl); intro _ hR K hK; replace hF := rl9 hF hR; clear hR; have m0 := hC0 _ hF; go_simp; refine hK _ _ ⟨?_, ?_⟩; (· refine dw_read (fun e he => ?_); have hm := mem_listed he; simp [go_sem, *] at hm; subst hm; exact evW_cell (hMo hh)); clear hK K m0; try walk_nrm))); co_apply opsC_nil T9; simp only [Exit.then]; refine wpC_ret T9 ?_; exact ⟨rfl, _, resultsC_tmp rfl _, hF, rfl⟩)); decide
  · rw [if_neg hh]
    have hC0 : True := trivial
    rw [show decide (s.has = true ∧ 0 ≤ x ∧ x < (s.nn : Int)) = false from decide_eq_false fun h => hh h.1]
    co_apply wpC_more; (focus (simp only [Try.ntmps44]; walk_nrm; co_apply wpC_seq T9; (co_apply wpC_region T9; simp only [List.size_toArray, List.length_cons, List.length_nil, Nat.reduceAdd, Nat.zero_add, List.range, List.range.loop]); (co_apply opsC_cons_k rfl (by rfl); intro _ hR K hK; replace hF := rl9 hF hR; clear hR; go_simp; refine hK _ _ ⟨?_, ?_⟩; (· rw [listed_nil (by simp [go_sem, *])]; exact DW.refl _ _ _); clear hK K; try walk_nrm); co_apply opsC_nil T9; simp only [Exit.then]; co_apply wpC_seq T9; (co_apply wpC_region T9; simp only [List.size_toArray, List.length_cons, List.length_nil, Nat.reduceAdd, Nat.zero_add, List.range, List.range.loop]); (repeat (first | (co_apply opsC_cons_k rfl (by rfl); intro _ hR K hK; replace hF := rl9 hF hR; clear hR; go_simp; refine hK _ _ ⟨?_, ?_⟩; (· rw [listed_nil (by simp [go_sem, *])]; exact DW.refl _ _ _); clear hK K; try walk_nrm) | (co_apply opsC_unwanted T9 rfl (by rfl); try walk_nrm) | (co_apply opsC_cons_k rfl (by rfl); intro _ hR K hK; replace hF := rl9 hF hR; clear hR; have m0 := hC0 _ hF; go_simp; refine hK _ _ ⟨?_, ?_⟩; (· refine dw_read (fun e he => ?_); have hm := mem_listed he; simp [go_sem, *] at hm; subst hm; exact evW_cell (hMo hh)); clear hK K m0; try walk_nrm))); co_apply opsC_nil T9; simp only [Exit.then]; refine wpC_ret T9 ?_; exact ⟨rfl, _, resultsC_tmp rfl _, hF, rfl⟩)); decide
end Go.Proofs.Ytkcknoodcgmndaa
