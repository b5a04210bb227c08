/- A sweep's worker claims a number, and counts it. -/
import Derived.Test.YtkcknoodcgmndaaSwE
namespace Go.Proofs.Ytkcknoodcgmndaa
open Go.Conc Go.RowKit
open Go.ConcR (WgAt stA)
set_option linter.unusedVariables false
set_option linter.unusedSimpArgs false
set_option maxRecDepth 100000
set_option maxHeartbeats 4000000





theorem claim14_V {s : SwP} {k C Mb cap N : Nat} {x : Int} {r : List Int} {F : World → Prop} (hFR : ∀ w w₁, RW (swCfg s) C w w₁ → F w → F w₁) (hFS : ∀ w w₁, OnlySB (swCfg s) w w₁ → F w → F w₁) (K : s.Ok) (hno : s.has = false → s.nn = 0)
    (hM : ∀ w, F w → s.has = true → w.heap[Mb]? = some (.cells #[.int .i64 s.nn, .slice (some ⟨s.Wb, 0, none⟩) s.σ0.ws.length cap] 74)) (hMo : s.has = true → RdOk s C Mb) (w : World) (hF : F w) :
    CallsV Try.prog (swCfg s) k C 14 #[mkV s Mb, .int .i64 x] (tnN N + 50) N (mkU s.nn (x :: r)) w (fun N' u' v w' => N' ≤ N ∧ F w' ∧ ∃ b, v = .bool b ∧ u' = ⟨x :: r, .done b⟩) := by
  have rl9 : ∀ {w w₁ : World}, F w → RW (swCfg s) C w w₁ → F w₁ := fun h r => hFR _ _ r h
  have T9 := termsW (swCfg s) C
  refine ⟨_, _, Try.func14, by kernel_rfl, rfl, ?_⟩
  co_apply codeV_more
  · simp only [Try.ntmps14]
    walk_nrm
    co_apply codeV_seq
    (co_apply codeV_region; simp only [List.size_toArray, List.length_cons, List.length_nil, Nat.reduceAdd, Nat.zero_add, List.range, List.range.loop])
    (co_apply opsV_cons_k rfl (by rfl); intro _ hR K hK; replace hF := rl9 hF hR; clear hR; go_simp; refine hK _ _ ⟨?_, ?_⟩; (· rw [listed_nil (by simp [go_sem, *])]; exact DW.refl _ _ _); clear hK K; try walk_nrm)
    co_apply opsV_nil
    simp only [ThenV]
    co_apply codeV_seq
    (co_apply codeV_region; simp only [List.size_toArray, List.length_cons, List.length_nil, Nat.reduceAdd, Nat.zero_add, List.range, List.range.loop])
    (co_apply opsV_cons_k rfl (by rfl); intro _ hR K hK; replace hF := rl9 hF hR; clear hR; go_simp; refine hK _ _ ⟨?_, ?_⟩; (· rw [listed_nil (by simp [go_sem, *])]; exact DW.refl _ _ _); clear hK K; try walk_nrm)
    (co_apply opsV_cons_k rfl (by rfl); intro _ hR K hK; replace hF := rl9 hF hR; clear hR; go_simp; refine hK _ _ ⟨?_, ?_⟩; (· rw [listed_nil (by simp [go_sem, *])]; exact DW.refl _ _ _); clear hK K; try walk_nrm)
    co_apply opsV_call rfl (by rfl) rfl
    · walk_nrm
      exact turn33_V hFR hFS K hno hM hMo _ hF
    rintro N2 u2 v w2 ⟨hN2, hF2, b, rfl, rfl⟩
    clear hF
    have hF := hF2
    clear hF2
    walk_nrm
    (co_apply opsV_cons_k rfl (by rfl); intro _ hR K hK; replace hF := rl9 hF hR; clear hR; go_simp; refine hK _ _ ⟨?_, ?_⟩; (· rw [listed_nil (by simp [go_sem, *])]; exact DW.refl _ _ _); clear hK K; try walk_nrm)
    co_apply opsV_nil
    simp only [ThenV]
    refine codeV_of (wpC_ret T9 ?_)
    exact ⟨rfl, _, resultsC_tmp rfl _, hN2, hF, b, rfl, rfl⟩
  · omega
theorem on30_C {s : SwP} {C : Nat} {b : Bool} {F : World → Prop} (hFR : ∀ w w₁, RW (swCfg s) C w w₁ → F w → F w₁) (w : World) (hF : F w) :
    CallsC Try.prog false (RW (swCfg s) C) (DW (swCfg s) C) 30 #[.pointer (some ⟨s.Bb, 0, none⟩), .int .i64 (if b then 0 else 1)] 100 w (fun v w' => F w' ∧ v = .bool true) := by
  have rl9 : ∀ {w w₁ : World}, F w → RW (swCfg s) C w w₁ → F w₁ := fun h r => hFR _ _ r h
  have T9 := termsW (swCfg s) C
  have ev9 := fun (p : Option Addr) (w : World) => ev_neq_nil (P := Try.prog) Try.underlying23 p w
  refine callsC_of_wpC Try.func30 (by kernel_rfl) rfl ?_
  cases b <;> simp only [Bool.false_eq_true, if_false, if_true] <;>
  · co_apply wpC_more
    · simp only [Try.ntmps30]
      walk_nrm
      co_apply wpC_seq T9
      (co_apply wpC_region T9; simp only [List.size_toArray, List.length_cons, List.length_nil, Nat.reduceAdd, Nat.zero_add, List.range, List.range.loop])
      (co_apply opsC_cons_k rfl (by rfl); intro _ hR K hK; replace hF := rl9 hF hR; clear hR; go_simp; refine hK _ _ ⟨?_, ?_⟩; (· rw [listed_nil (by simp [go_sem, *])]; exact DW.refl _ _ _); clear hK K; try walk_nrm)
      co_apply opsC_nil T9
      simp only [Exit.then]
      co_apply wpC_seq T9
      (co_apply wpC_region T9; simp only [List.size_toArray, List.length_cons, List.length_nil, Nat.reduceAdd, Nat.zero_add, List.range, List.range.loop])
      (repeat (first | (co_apply opsC_cons_k rfl (by rfl); intro _ hR K hK; replace hF := rl9 hF hR; clear hR; go_simp; refine hK _ _ ⟨?_, ?_⟩; (· rw [listed_nil (by simp [go_sem, *])]; exact DW.refl _ _ _); clear hK K; try walk_nrm) | (co_apply opsC_unwanted T9 rfl (by rfl); try walk_nrm)))
      co_apply opsC_nil T9
      simp only [Exit.then]
      refine wpC_ret T9 ?_
      exact ⟨rfl, _, resultsC_tmp rfl _, hF, rfl⟩
    · decide
theorem add9_V {s : SwP} {k C N : Nat} {x : Int} {r : List Int} {b : Bool} {F : World → Prop} (hFR : ∀ w w₁, RW (swCfg s) C w w₁ → F w → F w₁) (hFS : ∀ w w₁, OnlySB (swCfg s) w w₁ → F w → F w₁)
    (K : s.Ok) (w : World) (hF : F w) :
    CallsV Try.prog (swCfg s) k C 9 #[.pointer (some ⟨s.Bb, 0, none⟩), .int .i64 (if b then 0 else 1), .int .i64 1] 400 N (⟨x :: r, .done b⟩ : SU) w
      (fun N' u' v w' => N' < N ∧ F w' ∧ u' = mkU s.nn r ∧ ∃ z, v = .bool z) := by
  have rl9 : ∀ {w w₁ : World}, F w → RW (swCfg s) C w w₁ → F w₁ := fun h r => hFR _ _ r h
  have T9 := termsW (swCfg s) C
  refine ⟨_, _, Try.func9, by kernel_rfl, rfl, ?_⟩
  have evi0 := fun (w : World) => events_indexAt_array (P := Try.prog) (w := w) (es := #[]) 68 _ 16 ⟨s.Bb, 0, none⟩ .i64 0 Try.underlying68 (by decide)
  have evi1 := fun (w : World) => events_indexAt_array (P := Try.prog) (w := w) (es := #[]) 68 _ 16 ⟨s.Bb, 0, none⟩ .i64 1 Try.underlying68 (by decide)
  have HO := fun w h => on30_C (b := b) (s := s) (C := C) hFR w h
  have HA := fun w h N => add31_V (k := k) (N := N) (x := x) (r := r) (b := b) (s := s) (C := C) hFR hFS K w h
  cases b <;> simp only [Bool.false_eq_true, if_false, if_true] at HO HA ⊢ <;>
  · co_apply codeV_more
    · simp only [Try.ntmps9]
      walk_nrm
      co_apply codeV_seq
      (co_apply codeV_region; simp only [List.size_toArray, List.length_cons, List.length_nil, Nat.reduceAdd, Nat.zero_add, List.range, List.range.loop])
      (co_apply opsV_cons_k rfl (by rfl); intro _ hR K hK; replace hF := rl9 hF hR; clear hR; go_simp; refine hK _ _ ⟨?_, ?_⟩; (· rw [listed_nil (by simp [go_sem, *])]; exact DW.refl _ _ _); clear hK K; try walk_nrm)
      co_apply opsV_nil
      simp only [ThenV]
      co_apply codeV_seq
      co_apply codeV_seq
      (co_apply codeV_region; simp only [List.size_toArray, List.length_cons, List.length_nil, Nat.reduceAdd, Nat.zero_add, List.range, List.range.loop])
      (co_apply opsV_cons_k rfl (by rfl); intro _ hR K hK; replace hF := rl9 hF hR; clear hR; go_simp; refine hK _ _ ⟨?_, ?_⟩; (· rw [listed_nil (by simp [go_sem, *])]; exact DW.refl _ _ _); clear hK K; try walk_nrm)
      (co_apply opsV_cons_k rfl (by rfl); intro _ hR K hK; replace hF := rl9 hF hR; clear hR; go_simp; refine hK _ _ ⟨?_, ?_⟩; (· rw [listed_nil (by simp [go_sem, *])]; exact DW.refl _ _ _); clear hK K; try walk_nrm)
      co_apply opsV_call_silent rfl (by rfl) rfl
      · walk_nrm
        exact HO _ hF
      rintro v w' ⟨hF', rfl⟩
      clear hF
      have hF := hF'
      clear hF'
      walk_nrm
      (co_apply opsV_cons_k rfl (by rfl); intro _ hR K hK; replace hF := rl9 hF hR; clear hR; go_simp; refine hK _ _ ⟨?_, ?_⟩; (· rw [listed_nil (by simp [go_sem, *])]; exact DW.refl _ _ _); clear hK K; try walk_nrm)
      co_apply opsV_nil
      simp only [ThenV]
      co_apply codeV_cond (t := false)
      focus (exact rfl)
      (try simp only [Bool.false_eq_true, if_false])
      refine codeV_of (wpC_skip T9 ?_)
      simp only [ThenV]
      co_apply codeV_seq
      (co_apply codeV_region; simp only [List.size_toArray, List.length_cons, List.length_nil, Nat.reduceAdd, Nat.zero_add, List.range, List.range.loop])
      (repeat (co_apply opsV_cons_k rfl (by rfl); intro _ hR K hK; replace hF := rl9 hF hR; clear hR; go_simp; refine hK _ _ ⟨?_, ?_⟩; (· rw [listed_nil (by simp [go_sem, *])]; exact DW.refl _ _ _); clear hK K; try walk_nrm))
      co_apply opsV_call rfl (by rfl) rfl
      · walk_nrm
        exact HA _ hF _
      rintro N2 u2 v w2 ⟨hN2, hF2, rfl, z, rfl⟩
      clear hF
      have hF := hF2
      clear hF2
      walk_nrm
      co_apply opsV_nil
      simp only [ThenV]
      co_apply codeV_seq
      (co_apply codeV_region; simp only [List.size_toArray, List.length_cons, List.length_nil, Nat.reduceAdd, Nat.zero_add, List.range, List.range.loop])
      (co_apply opsV_cons_k rfl (by rfl); intro _ hR K hK; replace hF := rl9 hF hR; clear hR; go_simp; refine hK _ _ ⟨?_, ?_⟩; (· rw [listed_nil (by simp [go_sem, *])]; exact DW.refl _ _ _); clear hK K; try walk_nrm)
      co_apply opsV_nil
      simp only [ThenV]
      refine codeV_of (wpC_ret T9 ?_)
      exact ⟨rfl, _, resultsC_tmp rfl _, hN2, hF, rfl, _, rfl⟩
    · decide
end Go.Proofs.Ytkcknoodcgmndaa
