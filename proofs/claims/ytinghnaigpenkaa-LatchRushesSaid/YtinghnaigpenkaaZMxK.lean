/- Seat 05: unlockSlow, called by a worker. -/
import Derived.Test.YtinghnaigpenkaaZMxJ
namespace Go.Proofs.Ytinghnaigpenkaa
open Go.Conc Go.RowKit Go.ConcR.Gen
open Go.ConcR (Payload rd wr mk)
set_option linter.unusedVariables false
set_option linter.unusedSimpArgs false
set_option linter.unusedSectionVars false
set_option maxRecDepth 100000
set_option maxHeartbeats 1000000




/-- unlockSlow's slots: the mutex, what it saw -/
structure Fu (T : Array Value) (p v4 : Value) : Prop where
  size : T.size = 43
  h0 : T[0]? = some p
  h4 : T[4]? = some v4
theorem slot43 {T : Array Value} {i : Nat} {v : Value} (hs : T.size = 43) (hi : i < 43) (h : T[i]? = some v) : T[i]'(by rw [hs]; omega) = v := by rwa [Array.getElem?_eq_getElem (by rw [hs]; omega), Option.some.injEq] at h
theorem Fu.put {T : Array Value} {p v4 : Value} (h : Fu T p v4) (i : Nat) (v : Value) (hi : i = 1 ∨ 5 ≤ i) : Fu (T.setIfInBounds i v) p v4 := by
  obtain ⟨hs, h0, h4⟩ := h
  exact ⟨by simp [hs], by rw [Array.getElem?_setIfInBounds_ne (by omega)]; exact h0, by rw [Array.getElem?_setIfInBounds_ne (by omega)]; exact h4⟩
theorem Fu.set4 {T : Array Value} {p v4 : Value} (h : Fu T p v4) (v : Value) : Fu (T.setIfInBounds 4 v) p v := by
  obtain ⟨hs, h0, h4⟩ := h
  exact ⟨by simp [hs], by rw [Array.getElem?_setIfInBounds_ne (by omega)]; exact h0, by rw [Array.getElem?_setIfInBounds, if_pos rfl, if_pos (by omega)]⟩
section
variable {c : Cfg} {X : MxI c} {k C N : Nat} {u₀ : c.U} {F : World → Prop} {Q : Nat → c.U → Exit → Act → World → Prop} {T : Array Value} {m : MW} {w : World} {u : c.U}
abbrev FUx (X : MxI c) (T : Array Value) (m : MW) : Prop := Fu T (.pointer (some X.st)) (.int .i32 m.enc)
/-- it was locked -/
theorem g76_0 (K : c.Ok) (hX : X.Ok) (hl : X.Lk u₀) (hS : Stays c C F) (hm : m.wn < 80) (hL : m.L = false) (hF : F w) (h : T.size = 43 ∧ T[0]? = some (.pointer (some X.st)) ∧ T[1]? = some (.int .i32 m.enc))
    (hq : ∀ T' w', F w' → (T'.size = 43 ∧ T'[0]? = some (.pointer (some X.st)) ∧ T'[1]? = some (.int .i32 m.enc)) → T'[8]? = some (.bool false) → Q N u .normal ⟨T', []⟩ w') : CodeV Try.prog c k C 76 (.region 0 o76_0 false) 40 N u Q ⟨T, []⟩ w := by
  have rl9 : ∀ {w w₁ : World}, F w → RW c C w w₁ → F w₁ := fun h r => hS.rely _ _ r h
  obtain ⟨hs, h0, h1⟩ := h
  have e0 := slot43 hs (by omega) h0
  have e1 := slot43 hs (by omega) h1
  have w1 : IntKind.i32.wrap (m.enc + 1) = ({ m with L := true } : MW).enc := by
    rw [IntKind.wrap_i32]
    have := enc_lt m hm
    simp only [MW.enc, hL] at this ⊢
    simp at this ⊢
    omega
  have a1 := and1 ({ m with L := true } : MW) hm
  rw [if_pos rfl] at a1
  rw [show o76_0 = _ from (by unfold o76_0; simp only [Cd.a, Cd.b, Cd.t, Cd.e, Cd.k, Cd.l, Cd.o, Try.f76, Option.getD_some]; try rfl)]
  co_apply codeV_more
  · (co_apply codeV_region; simp only [List.size_toArray, List.length_cons, List.length_nil, Nat.reduceAdd, Nat.zero_add, List.range, List.range.loop])
    (co_apply opsV_cons_k rfl (by rfl); intro _ hR K hK; replace hF := rl9 hF hR; clear hR; go_simp; refine hK _ _ ⟨?_, ?_⟩; (· rw [listed_nil (by simp [go_sem, *])]; exact DW.refl _ _ _); clear hK K; try simp only [Act.put])
    (co_apply opsV_cons_k rfl (by rfl); intro _ hR K hK; replace hF := rl9 hF hR; clear hR; go_simp; refine hK _ _ ⟨?_, ?_⟩; (· rw [listed_nil (by simp [go_sem, *])]; exact DW.refl _ _ _); clear hK K; try simp only [Act.put])
    (co_apply opsV_cons_k rfl (by rfl); intro _ hR K hK; replace hF := rl9 hF hR; clear hR; go_simp; refine hK _ _ ⟨?_, ?_⟩; (· rw [listed_nil (by simp [go_sem, *])]; exact DW.refl _ _ _); clear hK K; try simp only [Act.put])
    (co_apply opsV_cons_k rfl (by rfl); intro _ hR K hK; replace hF := rl9 hF hR; clear hR; go_simp; refine hK _ _ ⟨?_, ?_⟩; (· rw [listed_nil (by simp [go_sem, *])]; exact DW.refl _ _ _); clear hK K; try simp only [Act.put])
    co_apply opsV_nil
    exact hq _ _ hF ⟨by simp [hs], by simp [*], by simp [*]⟩ (by simp [*])
  · decide
/-- starving? -/
theorem g76_2 (K : c.Ok) (hX : X.Ok) (hl : X.Lk u₀) (hS : Stays c C F) (hm : m.wn < 80) (hF : F w) (h : T.size = 43 ∧ T[0]? = some (.pointer (some X.st)) ∧ T[1]? = some (.int .i32 m.enc))
    (hq : ∀ T' w', F w' → (T'.size = 43 ∧ T'[0]? = some (.pointer (some X.st)) ∧ T'[1]? = some (.int .i32 m.enc)) → T'[12]? = some (.bool !m.V) → Q N u .normal ⟨T', []⟩ w') : CodeV Try.prog c k C 76 (.region 2 o76_2 false) 40 N u Q ⟨T, []⟩ w := by
  have rl9 : ∀ {w w₁ : World}, F w → RW c C w w₁ → F w₁ := fun h r => hS.rely _ _ r h
  obtain ⟨hs, h0, h1⟩ := h
  have e0 := slot43 hs (by omega) h0
  have e1 := slot43 hs (by omega) h1
  have a4 := and4 m hm
  rw [show o76_2 = _ from (by unfold o76_2; simp only [Cd.a, Cd.b, Cd.t, Cd.e, Cd.k, Cd.l, Cd.o, Try.f76, Option.getD_some]; try rfl)]
  cases hV : m.V <;> simp only [hV, if_true, if_false, Bool.false_eq_true] at a4
  · co_apply codeV_more
    · (co_apply codeV_region; simp only [List.size_toArray, List.length_cons, List.length_nil, Nat.reduceAdd, Nat.zero_add, List.range, List.range.loop])
      (co_apply opsV_cons_k rfl (by rfl); intro _ hR K hK; replace hF := rl9 hF hR; clear hR; go_simp; refine hK _ _ ⟨?_, ?_⟩; (· rw [listed_nil (by simp [go_sem, *])]; exact DW.refl _ _ _); clear hK K; try simp only [Act.put])
      (co_apply opsV_cons_k rfl (by rfl); intro _ hR K hK; replace hF := rl9 hF hR; clear hR; go_simp; refine hK _ _ ⟨?_, ?_⟩; (· rw [listed_nil (by simp [go_sem, *])]; exact DW.refl _ _ _); clear hK K; try simp only [Act.put])
      (co_apply opsV_cons_k rfl (by rfl); intro _ hR K hK; replace hF := rl9 hF hR; clear hR; go_simp; refine hK _ _ ⟨?_, ?_⟩; (· rw [listed_nil (by simp [go_sem, *])]; exact DW.refl _ _ _); clear hK K; try simp only [Act.put])
      co_apply opsV_nil
      exact hq _ _ hF ⟨by simp [hs], by simp [*], by simp [*]⟩ (by simp [*])
    · decide
  · co_apply codeV_more
    · (co_apply codeV_region; simp only [List.size_toArray, List.length_cons, List.length_nil, Nat.reduceAdd, Nat.zero_add, List.range, List.range.loop])
      (co_apply opsV_cons_k rfl (by rfl); intro _ hR K hK; replace hF := rl9 hF hR; clear hR; go_simp; refine hK _ _ ⟨?_, ?_⟩; (· rw [listed_nil (by simp [go_sem, *])]; exact DW.refl _ _ _); clear hK K; try simp only [Act.put])
      (co_apply opsV_cons_k rfl (by rfl); intro _ hR K hK; replace hF := rl9 hF hR; clear hR; go_simp; refine hK _ _ ⟨?_, ?_⟩; (· rw [listed_nil (by simp [go_sem, *])]; exact DW.refl _ _ _); clear hK K; try simp only [Act.put])
      (co_apply opsV_cons_k rfl (by rfl); intro _ hR K hK; replace hF := rl9 hF hR; clear hR; go_simp; refine hK _ _ ⟨?_, ?_⟩; (· rw [listed_nil (by simp [go_sem, *])]; exact DW.refl _ _ _); clear hK K; try simp only [Act.put])
      co_apply opsV_nil
      exact hq _ _ hF ⟨by simp [hs], by simp [*], by simp [*]⟩ (by simp [*])
    · decide
/-- what it saw -/
theorem g76_3 (K : c.Ok) (hX : X.Ok) (hl : X.Lk u₀) (hS : Stays c C F)  (hF : F w) (h : T.size = 43 ∧ T[0]? = some (.pointer (some X.st)) ∧ T[1]? = some (.int .i32 m.enc))
    (hq : ∀ T' w', F w' → FUx X T' m → Q N u .normal ⟨T', []⟩ w') : CodeV Try.prog c k C 76 (.region 3 o76_3 false) 40 N u Q ⟨T, []⟩ w := by
  have rl9 : ∀ {w w₁ : World}, F w → RW c C w w₁ → F w₁ := fun h r => hS.rely _ _ r h
  obtain ⟨hs, h0, h1⟩ := h
  have e0 := slot43 hs (by omega) h0
  have e1 := slot43 hs (by omega) h1
  rw [show o76_3 = _ from (by unfold o76_3; simp only [Cd.a, Cd.b, Cd.t, Cd.e, Cd.k, Cd.l, Cd.o, Try.f76, Option.getD_some]; try rfl)]
  co_apply codeV_more
  · (co_apply codeV_region; simp only [List.size_toArray, List.length_cons, List.length_nil, Nat.reduceAdd, Nat.zero_add, List.range, List.range.loop])
    (co_apply opsV_cons_k rfl (by rfl); intro _ hR K hK; replace hF := rl9 hF hR; clear hR; go_simp; refine hK _ _ ⟨?_, ?_⟩; (· rw [listed_nil (by simp [go_sem, *])]; exact DW.refl _ _ _); clear hK K; try simp only [Act.put])
    (co_apply opsV_cons_k rfl (by rfl); intro _ hR K hK; replace hF := rl9 hF hR; clear hR; go_simp; refine hK _ _ ⟨?_, ?_⟩; (· rw [listed_nil (by simp [go_sem, *])]; exact DW.refl _ _ _); clear hK K; try simp only [Act.put])
    co_apply opsV_nil
    exact hq _ _ hF ⟨by simp [hs], by simp [*], by simp [*]⟩
  · decide
/-- nobody to wake? -/
theorem g76_4 (K : c.Ok) (hX : X.Ok) (hl : X.Lk u₀) (hS : Stays c C F) (hm : m.wn < 80) (hF : F w) (h : FUx X T m)
    (hq : ∀ T' w', F w' → FUx X T' m → T'[21]? = some (.bool (decide (m.wn = 0) || (m.L || m.K || m.V))) → Q N u .normal ⟨T', []⟩ w') : CodeV Try.prog c k C 76 (.region 4 o76_4 false) 40 N u Q ⟨T, []⟩ w := by
  have rl9 : ∀ {w w₁ : World}, F w → RW c C w w₁ → F w₁ := fun h r => hS.rely _ _ r h
  have hs := h.size
  have e0 := slot43 hs (by omega) h.h0
  have e4 := slot43 hs (by omega) h.h4
  have s3 := shr3 m hm
  have a7 := and7 m hm
  rw [show o76_4 = _ from (by unfold o76_4; simp only [Cd.a, Cd.b, Cd.t, Cd.e, Cd.k, Cd.l, Cd.o, Try.f76, Option.getD_some]; try rfl)]
  by_cases hw : m.wn = 0
  · rw [hw] at s3
    co_apply codeV_more
    · (co_apply codeV_region; simp only [List.size_toArray, List.length_cons, List.length_nil, Nat.reduceAdd, Nat.zero_add, List.range, List.range.loop])
      (co_apply opsV_cons_k rfl (by rfl); intro _ hR K hK; replace hF := rl9 hF hR; clear hR; go_simp; refine hK _ _ ⟨?_, ?_⟩; (· rw [listed_nil (by simp [go_sem, *])]; exact DW.refl _ _ _); clear hK K; try simp only [Act.put])
      (co_apply opsV_cons_k rfl (by rfl); intro _ hR K hK; replace hF := rl9 hF hR; clear hR; go_simp; refine hK _ _ ⟨?_, ?_⟩; (· rw [listed_nil (by simp [go_sem, *])]; exact DW.refl _ _ _); clear hK K; try simp only [Act.put])
      (co_apply opsV_cons_k rfl (by rfl); intro _ hR K hK; replace hF := rl9 hF hR; clear hR; go_simp; refine hK _ _ ⟨?_, ?_⟩; (· rw [listed_nil (by simp [go_sem, *])]; exact DW.refl _ _ _); clear hK K; try simp only [Act.put])
      (co_apply opsV_cons_k rfl (by rfl); intro _ hR K hK; replace hF := rl9 hF hR; clear hR; go_simp; refine hK _ _ ⟨?_, ?_⟩; (· rw [listed_nil (by simp [go_sem, *])]; exact DW.refl _ _ _); clear hK K; try simp only [Act.put])
      (co_apply opsV_unwanted rfl (by simp [Region.wanted, yielded, *]); try simp only [Act.put])
      (co_apply opsV_unwanted rfl (by simp [Region.wanted, yielded, *]); try simp only [Act.put])
      (co_apply opsV_unwanted rfl (by simp [Region.wanted, yielded, *]); try simp only [Act.put])
      (co_apply opsV_cons_k rfl (by rfl); intro _ hR K hK; replace hF := rl9 hF hR; clear hR; go_simp; refine hK _ _ ⟨?_, ?_⟩; (· rw [listed_nil (by simp [go_sem, *])]; exact DW.refl _ _ _); clear hK K; try simp only [Act.put])
      co_apply opsV_nil
      exact hq _ _ hF (((((((((h).put 14 _ (by omega)).put 15 _ (by omega)).put 16 _ (by omega)).put 17 _ (by omega)).put 18 _ (by omega)).put 19 _ (by omega)).put 20 _ (by omega)).put 21 _ (by omega)) (by simp [*])
    · decide
  · have w3 : ¬ (m.wn : Int) = 0 := by omega
    cases hL : m.L <;> cases hK : m.K <;> cases hV : m.V <;> simp only [hL, hK, hV, if_true, if_false, Bool.false_eq_true, Int.add_zero, Int.zero_add, Int.reduceAdd] at a7
    · co_apply codeV_more
      · (co_apply codeV_region; simp only [List.size_toArray, List.length_cons, List.length_nil, Nat.reduceAdd, Nat.zero_add, List.range, List.range.loop])
        (co_apply opsV_cons_k rfl (by rfl); intro _ hR K hK; replace hF := rl9 hF hR; clear hR; go_simp; refine hK _ _ ⟨?_, ?_⟩; (· rw [listed_nil (by simp [go_sem, *])]; exact DW.refl _ _ _); clear hK K; try simp only [Act.put])
        (co_apply opsV_cons_k rfl (by rfl); intro _ hR K hK; replace hF := rl9 hF hR; clear hR; go_simp; refine hK _ _ ⟨?_, ?_⟩; (· rw [listed_nil (by simp [go_sem, *])]; exact DW.refl _ _ _); clear hK K; try simp only [Act.put])
        (co_apply opsV_cons_k rfl (by rfl); intro _ hR K hK; replace hF := rl9 hF hR; clear hR; go_simp; refine hK _ _ ⟨?_, ?_⟩; (· rw [listed_nil (by simp [go_sem, *])]; exact DW.refl _ _ _); clear hK K; try simp only [Act.put])
        (co_apply opsV_cons_k rfl (by rfl); intro _ hR K hK; replace hF := rl9 hF hR; clear hR; go_simp; refine hK _ _ ⟨?_, ?_⟩; (· rw [listed_nil (by simp [go_sem, *])]; exact DW.refl _ _ _); clear hK K; try simp only [Act.put])
        (co_apply opsV_cons_k rfl (by simp [Region.wanted, yielded, *]); intro _ hR K hK; replace hF := rl9 hF hR; clear hR; go_simp; refine hK _ _ ⟨?_, ?_⟩; (· rw [listed_nil (by simp [go_sem, *])]; exact DW.refl _ _ _); clear hK K; try simp only [Act.put])
        (co_apply opsV_cons_k rfl (by simp [Region.wanted, yielded, *]); intro _ hR K hK; replace hF := rl9 hF hR; clear hR; go_simp; refine hK _ _ ⟨?_, ?_⟩; (· rw [listed_nil (by simp [go_sem, *])]; exact DW.refl _ _ _); clear hK K; try simp only [Act.put])
        (co_apply opsV_cons_k rfl (by simp [Region.wanted, yielded, *]); intro _ hR K hK; replace hF := rl9 hF hR; clear hR; go_simp; refine hK _ _ ⟨?_, ?_⟩; (· rw [listed_nil (by simp [go_sem, *])]; exact DW.refl _ _ _); clear hK K; try simp only [Act.put])
        (co_apply opsV_cons_k rfl (by rfl); intro _ hR K hK; replace hF := rl9 hF hR; clear hR; go_simp; refine hK _ _ ⟨?_, ?_⟩; (· rw [listed_nil (by simp [go_sem, *])]; exact DW.refl _ _ _); clear hK K; try simp only [Act.put])
        co_apply opsV_nil
        exact hq _ _ hF (((((((((h).put 14 _ (by omega)).put 15 _ (by omega)).put 16 _ (by omega)).put 17 _ (by omega)).put 18 _ (by omega)).put 19 _ (by omega)).put 20 _ (by omega)).put 21 _ (by omega)) (by simp [*])
      · decide
    · co_apply codeV_more
      · (co_apply codeV_region; simp only [List.size_toArray, List.length_cons, List.length_nil, Nat.reduceAdd, Nat.zero_add, List.range, List.range.loop])
        (co_apply opsV_cons_k rfl (by rfl); intro _ hR K hK; replace hF := rl9 hF hR; clear hR; go_simp; refine hK _ _ ⟨?_, ?_⟩; (· rw [listed_nil (by simp [go_sem, *])]; exact DW.refl _ _ _); clear hK K; try simp only [Act.put])
        (co_apply opsV_cons_k rfl (by rfl); intro _ hR K hK; replace hF := rl9 hF hR; clear hR; go_simp; refine hK _ _ ⟨?_, ?_⟩; (· rw [listed_nil (by simp [go_sem, *])]; exact DW.refl _ _ _); clear hK K; try simp only [Act.put])
        (co_apply opsV_cons_k rfl (by rfl); intro _ hR K hK; replace hF := rl9 hF hR; clear hR; go_simp; refine hK _ _ ⟨?_, ?_⟩; (· rw [listed_nil (by simp [go_sem, *])]; exact DW.refl _ _ _); clear hK K; try simp only [Act.put])
        (co_apply opsV_cons_k rfl (by rfl); intro _ hR K hK; replace hF := rl9 hF hR; clear hR; go_simp; refine hK _ _ ⟨?_, ?_⟩; (· rw [listed_nil (by simp [go_sem, *])]; exact DW.refl _ _ _); clear hK K; try simp only [Act.put])
        (co_apply opsV_cons_k rfl (by simp [Region.wanted, yielded, *]); intro _ hR K hK; replace hF := rl9 hF hR; clear hR; go_simp; refine hK _ _ ⟨?_, ?_⟩; (· rw [listed_nil (by simp [go_sem, *])]; exact DW.refl _ _ _); clear hK K; try simp only [Act.put])
        (co_apply opsV_cons_k rfl (by simp [Region.wanted, yielded, *]); intro _ hR K hK; replace hF := rl9 hF hR; clear hR; go_simp; refine hK _ _ ⟨?_, ?_⟩; (· rw [listed_nil (by simp [go_sem, *])]; exact DW.refl _ _ _); clear hK K; try simp only [Act.put])
        (co_apply opsV_cons_k rfl (by simp [Region.wanted, yielded, *]); intro _ hR K hK; replace hF := rl9 hF hR; clear hR; go_simp; refine hK _ _ ⟨?_, ?_⟩; (· rw [listed_nil (by simp [go_sem, *])]; exact DW.refl _ _ _); clear hK K; try simp only [Act.put])
        (co_apply opsV_cons_k rfl (by rfl); intro _ hR K hK; replace hF := rl9 hF hR; clear hR; go_simp; refine hK _ _ ⟨?_, ?_⟩; (· rw [listed_nil (by simp [go_sem, *])]; exact DW.refl _ _ _); clear hK K; try simp only [Act.put])
        co_apply opsV_nil
        exact hq _ _ hF (((((((((h).put 14 _ (by omega)).put 15 _ (by omega)).put 16 _ (by omega)).put 17 _ (by omega)).put 18 _ (by omega)).put 19 _ (by omega)).put 20 _ (by omega)).put 21 _ (by omega)) (by simp [*])
      · decide
    · co_apply codeV_more
      · (co_apply codeV_region; simp only [List.size_toArray, List.length_cons, List.length_nil, Nat.reduceAdd, Nat.zero_add, List.range, List.range.loop])
        (co_apply opsV_cons_k rfl (by rfl); intro _ hR K hK; replace hF := rl9 hF hR; clear hR; go_simp; refine hK _ _ ⟨?_, ?_⟩; (· rw [listed_nil (by simp [go_sem, *])]; exact DW.refl _ _ _); clear hK K; try simp only [Act.put])
        (co_apply opsV_cons_k rfl (by rfl); intro _ hR K hK; replace hF := rl9 hF hR; clear hR; go_simp; refine hK _ _ ⟨?_, ?_⟩; (· rw [listed_nil (by simp [go_sem, *])]; exact DW.refl _ _ _); clear hK K; try simp only [Act.put])
        (co_apply opsV_cons_k rfl (by rfl); intro _ hR K hK; replace hF := rl9 hF hR; clear hR; go_simp; refine hK _ _ ⟨?_, ?_⟩; (· rw [listed_nil (by simp [go_sem, *])]; exact DW.refl _ _ _); clear hK K; try simp only [Act.put])
        (co_apply opsV_cons_k rfl (by rfl); intro _ hR K hK; replace hF := rl9 hF hR; clear hR; go_simp; refine hK _ _ ⟨?_, ?_⟩; (· rw [listed_nil (by simp [go_sem, *])]; exact DW.refl _ _ _); clear hK K; try simp only [Act.put])
        (co_apply opsV_cons_k rfl (by simp [Region.wanted, yielded, *]); intro _ hR K hK; replace hF := rl9 hF hR; clear hR; go_simp; refine hK _ _ ⟨?_, ?_⟩; (· rw [listed_nil (by simp [go_sem, *])]; exact DW.refl _ _ _); clear hK K; try simp only [Act.put])
        (co_apply opsV_cons_k rfl (by simp [Region.wanted, yielded, *]); intro _ hR K hK; replace hF := rl9 hF hR; clear hR; go_simp; refine hK _ _ ⟨?_, ?_⟩; (· rw [listed_nil (by simp [go_sem, *])]; exact DW.refl _ _ _); clear hK K; try simp only [Act.put])
        (co_apply opsV_cons_k rfl (by simp [Region.wanted, yielded, *]); intro _ hR K hK; replace hF := rl9 hF hR; clear hR; go_simp; refine hK _ _ ⟨?_, ?_⟩; (· rw [listed_nil (by simp [go_sem, *])]; exact DW.refl _ _ _); clear hK K; try simp only [Act.put])
        (co_apply opsV_cons_k rfl (by rfl); intro _ hR K hK; replace hF := rl9 hF hR; clear hR; go_simp; refine hK _ _ ⟨?_, ?_⟩; (· rw [listed_nil (by simp [go_sem, *])]; exact DW.refl _ _ _); clear hK K; try simp only [Act.put])
        co_apply opsV_nil
        exact hq _ _ hF (((((((((h).put 14 _ (by omega)).put 15 _ (by omega)).put 16 _ (by omega)).put 17 _ (by omega)).put 18 _ (by omega)).put 19 _ (by omega)).put 20 _ (by omega)).put 21 _ (by omega)) (by simp [*])
      · decide
    · co_apply codeV_more
      · (co_apply codeV_region; simp only [List.size_toArray, List.length_cons, List.length_nil, Nat.reduceAdd, Nat.zero_add, List.range, List.range.loop])
        (co_apply opsV_cons_k rfl (by rfl); intro _ hR K hK; replace hF := rl9 hF hR; clear hR; go_simp; refine hK _ _ ⟨?_, ?_⟩; (· rw [listed_nil (by simp [go_sem, *])]; exact DW.refl _ _ _); clear hK K; try simp only [Act.put])
        (co_apply opsV_cons_k rfl (by rfl); intro _ hR K hK; replace hF := rl9 hF hR; clear hR; go_simp; refine hK _ _ ⟨?_, ?_⟩; (· rw [listed_nil (by simp [go_sem, *])]; exact DW.refl _ _ _); clear hK K; try simp only [Act.put])
        (co_apply opsV_cons_k rfl (by rfl); intro _ hR K hK; replace hF := rl9 hF hR; clear hR; go_simp; refine hK _ _ ⟨?_, ?_⟩; (· rw [listed_nil (by simp [go_sem, *])]; exact DW.refl _ _ _); clear hK K; try simp only [Act.put])
        (co_apply opsV_cons_k rfl (by rfl); intro _ hR K hK; replace hF := rl9 hF hR; clear hR; go_simp; refine hK _ _ ⟨?_, ?_⟩; (· rw [listed_nil (by simp [go_sem, *])]; exact DW.refl _ _ _); clear hK K; try simp only [Act.put])
        (co_apply opsV_cons_k rfl (by simp [Region.wanted, yielded, *]); intro _ hR K hK; replace hF := rl9 hF hR; clear hR; go_simp; refine hK _ _ ⟨?_, ?_⟩; (· rw [listed_nil (by simp [go_sem, *])]; exact DW.refl _ _ _); clear hK K; try simp only [Act.put])
        (co_apply opsV_cons_k rfl (by simp [Region.wanted, yielded, *]); intro _ hR K hK; replace hF := rl9 hF hR; clear hR; go_simp; refine hK _ _ ⟨?_, ?_⟩; (· rw [listed_nil (by simp [go_sem, *])]; exact DW.refl _ _ _); clear hK K; try simp only [Act.put])
        (co_apply opsV_cons_k rfl (by simp [Region.wanted, yielded, *]); intro _ hR K hK; replace hF := rl9 hF hR; clear hR; go_simp; refine hK _ _ ⟨?_, ?_⟩; (· rw [listed_nil (by simp [go_sem, *])]; exact DW.refl _ _ _); clear hK K; try simp only [Act.put])
        (co_apply opsV_cons_k rfl (by rfl); intro _ hR K hK; replace hF := rl9 hF hR; clear hR; go_simp; refine hK _ _ ⟨?_, ?_⟩; (· rw [listed_nil (by simp [go_sem, *])]; exact DW.refl _ _ _); clear hK K; try simp only [Act.put])
        co_apply opsV_nil
        exact hq _ _ hF (((((((((h).put 14 _ (by omega)).put 15 _ (by omega)).put 16 _ (by omega)).put 17 _ (by omega)).put 18 _ (by omega)).put 19 _ (by omega)).put 20 _ (by omega)).put 21 _ (by omega)) (by simp [*])
      · decide
    · co_apply codeV_more
      · (co_apply codeV_region; simp only [List.size_toArray, List.length_cons, List.length_nil, Nat.reduceAdd, Nat.zero_add, List.range, List.range.loop])
        (co_apply opsV_cons_k rfl (by rfl); intro _ hR K hK; replace hF := rl9 hF hR; clear hR; go_simp; refine hK _ _ ⟨?_, ?_⟩; (· rw [listed_nil (by simp [go_sem, *])]; exact DW.refl _ _ _); clear hK K; try simp only [Act.put])
        (co_apply opsV_cons_k rfl (by rfl); intro _ hR K hK; replace hF := rl9 hF hR; clear hR; go_simp; refine hK _ _ ⟨?_, ?_⟩; (· rw [listed_nil (by simp [go_sem, *])]; exact DW.refl _ _ _); clear hK K; try simp only [Act.put])
        (co_apply opsV_cons_k rfl (by rfl); intro _ hR K hK; replace hF := rl9 hF hR; clear hR; go_simp; refine hK _ _ ⟨?_, ?_⟩; (· rw [listed_nil (by simp [go_sem, *])]; exact DW.refl _ _ _); clear hK K; try simp only [Act.put])
        (co_apply opsV_cons_k rfl (by rfl); intro _ hR K hK; replace hF := rl9 hF hR; clear hR; go_simp; refine hK _ _ ⟨?_, ?_⟩; (· rw [listed_nil (by simp [go_sem, *])]; exact DW.refl _ _ _); clear hK K; try simp only [Act.put])
        (co_apply opsV_cons_k rfl (by simp [Region.wanted, yielded, *]); intro _ hR K hK; replace hF := rl9 hF hR; clear hR; go_simp; refine hK _ _ ⟨?_, ?_⟩; (· rw [listed_nil (by simp [go_sem, *])]; exact DW.refl _ _ _); clear hK K; try simp only [Act.put])
        (co_apply opsV_cons_k rfl (by simp [Region.wanted, yielded, *]); intro _ hR K hK; replace hF := rl9 hF hR; clear hR; go_simp; refine hK _ _ ⟨?_, ?_⟩; (· rw [listed_nil (by simp [go_sem, *])]; exact DW.refl _ _ _); clear hK K; try simp only [Act.put])
        (co_apply opsV_cons_k rfl (by simp [Region.wanted, yielded, *]); intro _ hR K hK; replace hF := rl9 hF hR; clear hR; go_simp; refine hK _ _ ⟨?_, ?_⟩; (· rw [listed_nil (by simp [go_sem, *])]; exact DW.refl _ _ _); clear hK K; try simp only [Act.put])
        (co_apply opsV_cons_k rfl (by rfl); intro _ hR K hK; replace hF := rl9 hF hR; clear hR; go_simp; refine hK _ _ ⟨?_, ?_⟩; (· rw [listed_nil (by simp [go_sem, *])]; exact DW.refl _ _ _); clear hK K; try simp only [Act.put])
        co_apply opsV_nil
        exact hq _ _ hF (((((((((h).put 14 _ (by omega)).put 15 _ (by omega)).put 16 _ (by omega)).put 17 _ (by omega)).put 18 _ (by omega)).put 19 _ (by omega)).put 20 _ (by omega)).put 21 _ (by omega)) (by simp [*])
      · decide
    · co_apply codeV_more
      · (co_apply codeV_region; simp only [List.size_toArray, List.length_cons, List.length_nil, Nat.reduceAdd, Nat.zero_add, List.range, List.range.loop])
        (co_apply opsV_cons_k rfl (by rfl); intro _ hR K hK; replace hF := rl9 hF hR; clear hR; go_simp; refine hK _ _ ⟨?_, ?_⟩; (· rw [listed_nil (by simp [go_sem, *])]; exact DW.refl _ _ _); clear hK K; try simp only [Act.put])
        (co_apply opsV_cons_k rfl (by rfl); intro _ hR K hK; replace hF := rl9 hF hR; clear hR; go_simp; refine hK _ _ ⟨?_, ?_⟩; (· rw [listed_nil (by simp [go_sem, *])]; exact DW.refl _ _ _); clear hK K; try simp only [Act.put])
        (co_apply opsV_cons_k rfl (by rfl); intro _ hR K hK; replace hF := rl9 hF hR; clear hR; go_simp; refine hK _ _ ⟨?_, ?_⟩; (· rw [listed_nil (by simp [go_sem, *])]; exact DW.refl _ _ _); clear hK K; try simp only [Act.put])
        (co_apply opsV_cons_k rfl (by rfl); intro _ hR K hK; replace hF := rl9 hF hR; clear hR; go_simp; refine hK _ _ ⟨?_, ?_⟩; (· rw [listed_nil (by simp [go_sem, *])]; exact DW.refl _ _ _); clear hK K; try simp only [Act.put])
        (co_apply opsV_cons_k rfl (by simp [Region.wanted, yielded, *]); intro _ hR K hK; replace hF := rl9 hF hR; clear hR; go_simp; refine hK _ _ ⟨?_, ?_⟩; (· rw [listed_nil (by simp [go_sem, *])]; exact DW.refl _ _ _); clear hK K; try simp only [Act.put])
        (co_apply opsV_cons_k rfl (by simp [Region.wanted, yielded, *]); intro _ hR K hK; replace hF := rl9 hF hR; clear hR; go_simp; refine hK _ _ ⟨?_, ?_⟩; (· rw [listed_nil (by simp [go_sem, *])]; exact DW.refl _ _ _); clear hK K; try simp only [Act.put])
        (co_apply opsV_cons_k rfl (by simp [Region.wanted, yielded, *]); intro _ hR K hK; replace hF := rl9 hF hR; clear hR; go_simp; refine hK _ _ ⟨?_, ?_⟩; (· rw [listed_nil (by simp [go_sem, *])]; exact DW.refl _ _ _); clear hK K; try simp only [Act.put])
        (co_apply opsV_cons_k rfl (by rfl); intro _ hR K hK; replace hF := rl9 hF hR; clear hR; go_simp; refine hK _ _ ⟨?_, ?_⟩; (· rw [listed_nil (by simp [go_sem, *])]; exact DW.refl _ _ _); clear hK K; try simp only [Act.put])
        co_apply opsV_nil
        exact hq _ _ hF (((((((((h).put 14 _ (by omega)).put 15 _ (by omega)).put 16 _ (by omega)).put 17 _ (by omega)).put 18 _ (by omega)).put 19 _ (by omega)).put 20 _ (by omega)).put 21 _ (by omega)) (by simp [*])
      · decide
    · co_apply codeV_more
      · (co_apply codeV_region; simp only [List.size_toArray, List.length_cons, List.length_nil, Nat.reduceAdd, Nat.zero_add, List.range, List.range.loop])
        (co_apply opsV_cons_k rfl (by rfl); intro _ hR K hK; replace hF := rl9 hF hR; clear hR; go_simp; refine hK _ _ ⟨?_, ?_⟩; (· rw [listed_nil (by simp [go_sem, *])]; exact DW.refl _ _ _); clear hK K; try simp only [Act.put])
        (co_apply opsV_cons_k rfl (by rfl); intro _ hR K hK; replace hF := rl9 hF hR; clear hR; go_simp; refine hK _ _ ⟨?_, ?_⟩; (· rw [listed_nil (by simp [go_sem, *])]; exact DW.refl _ _ _); clear hK K; try simp only [Act.put])
        (co_apply opsV_cons_k rfl (by rfl); intro _ hR K hK; replace hF := rl9 hF hR; clear hR; go_simp; refine hK _ _ ⟨?_, ?_⟩; (· rw [listed_nil (by simp [go_sem, *])]; exact DW.refl _ _ _); clear hK K; try simp only [Act.put])
        (co_apply opsV_cons_k rfl (by rfl); intro _ hR K hK; replace hF := rl9 hF hR; clear hR; go_simp; refine hK _ _ ⟨?_, ?_⟩; (· rw [listed_nil (by simp [go_sem, *])]; exact DW.refl _ _ _); clear hK K; try simp only [Act.put])
        (co_apply opsV_cons_k rfl (by simp [Region.wanted, yielded, *]); intro _ hR K hK; replace hF := rl9 hF hR; clear hR; go_simp; refine hK _ _ ⟨?_, ?_⟩; (· rw [listed_nil (by simp [go_sem, *])]; exact DW.refl _ _ _); clear hK K; try simp only [Act.put])
        (co_apply opsV_cons_k rfl (by simp [Region.wanted, yielded, *]); intro _ hR K hK; replace hF := rl9 hF hR; clear hR; go_simp; refine hK _ _ ⟨?_, ?_⟩; (· rw [listed_nil (by simp [go_sem, *])]; exact DW.refl _ _ _); clear hK K; try simp only [Act.put])
        (co_apply opsV_cons_k rfl (by simp [Region.wanted, yielded, *]); intro _ hR K hK; replace hF := rl9 hF hR; clear hR; go_simp; refine hK _ _ ⟨?_, ?_⟩; (· rw [listed_nil (by simp [go_sem, *])]; exact DW.refl _ _ _); clear hK K; try simp only [Act.put])
        (co_apply opsV_cons_k rfl (by rfl); intro _ hR K hK; replace hF := rl9 hF hR; clear hR; go_simp; refine hK _ _ ⟨?_, ?_⟩; (· rw [listed_nil (by simp [go_sem, *])]; exact DW.refl _ _ _); clear hK K; try simp only [Act.put])
        co_apply opsV_nil
        exact hq _ _ hF (((((((((h).put 14 _ (by omega)).put 15 _ (by omega)).put 16 _ (by omega)).put 17 _ (by omega)).put 18 _ (by omega)).put 19 _ (by omega)).put 20 _ (by omega)).put 21 _ (by omega)) (by simp [*])
      · decide
    · co_apply codeV_more
      · (co_apply codeV_region; simp only [List.size_toArray, List.length_cons, List.length_nil, Nat.reduceAdd, Nat.zero_add, List.range, List.range.loop])
        (co_apply opsV_cons_k rfl (by rfl); intro _ hR K hK; replace hF := rl9 hF hR; clear hR; go_simp; refine hK _ _ ⟨?_, ?_⟩; (· rw [listed_nil (by simp [go_sem, *])]; exact DW.refl _ _ _); clear hK K; try simp only [Act.put])
        (co_apply opsV_cons_k rfl (by rfl); intro _ hR K hK; replace hF := rl9 hF hR; clear hR; go_simp; refine hK _ _ ⟨?_, ?_⟩; (· rw [listed_nil (by simp [go_sem, *])]; exact DW.refl _ _ _); clear hK K; try simp only [Act.put])
        (co_apply opsV_cons_k rfl (by rfl); intro _ hR K hK; replace hF := rl9 hF hR; clear hR; go_simp; refine hK _ _ ⟨?_, ?_⟩; (· rw [listed_nil (by simp [go_sem, *])]; exact DW.refl _ _ _); clear hK K; try simp only [Act.put])
        (co_apply opsV_cons_k rfl (by rfl); intro _ hR K hK; replace hF := rl9 hF hR; clear hR; go_simp; refine hK _ _ ⟨?_, ?_⟩; (· rw [listed_nil (by simp [go_sem, *])]; exact DW.refl _ _ _); clear hK K; try simp only [Act.put])
        (co_apply opsV_cons_k rfl (by simp [Region.wanted, yielded, *]); intro _ hR K hK; replace hF := rl9 hF hR; clear hR; go_simp; refine hK _ _ ⟨?_, ?_⟩; (· rw [listed_nil (by simp [go_sem, *])]; exact DW.refl _ _ _); clear hK K; try simp only [Act.put])
        (co_apply opsV_cons_k rfl (by simp [Region.wanted, yielded, *]); intro _ hR K hK; replace hF := rl9 hF hR; clear hR; go_simp; refine hK _ _ ⟨?_, ?_⟩; (· rw [listed_nil (by simp [go_sem, *])]; exact DW.refl _ _ _); clear hK K; try simp only [Act.put])
        (co_apply opsV_cons_k rfl (by simp [Region.wanted, yielded, *]); intro _ hR K hK; replace hF := rl9 hF hR; clear hR; go_simp; refine hK _ _ ⟨?_, ?_⟩; (· rw [listed_nil (by simp [go_sem, *])]; exact DW.refl _ _ _); clear hK K; try simp only [Act.put])
        (co_apply opsV_cons_k rfl (by rfl); intro _ hR K hK; replace hF := rl9 hF hR; clear hR; go_simp; refine hK _ _ ⟨?_, ?_⟩; (· rw [listed_nil (by simp [go_sem, *])]; exact DW.refl _ _ _); clear hK K; try simp only [Act.put])
        co_apply opsV_nil
        exact hq _ _ hF (((((((((h).put 14 _ (by omega)).put 15 _ (by omega)).put 16 _ (by omega)).put 17 _ (by omega)).put 18 _ (by omega)).put 19 _ (by omega)).put 20 _ (by omega)).put 21 _ (by omega)) (by simp [*])
      · decide
/-- the right to wake -/
theorem g76_5 (K : c.Ok) (hX : X.Ok) (hl : X.Lk u₀) (hS : Stays c C F) (hm : m.wn < 80) (hL : m.L = false) (hK : m.K = false) (hV : m.V = false) (hw : m.wn ≠ 0) (hF : F w) (h : FUx X T m)
    (hq : ∀ T' w', F w' → FUx X T' m → T'[1]? = some (.int .i32 ({ m with wn := m.wn - 1, K := true } : MW).enc) → Q N u .normal ⟨T', []⟩ w') : CodeV Try.prog c k C 76 (.region 5 o76_5 false) 40 N u Q ⟨T, []⟩ w := by
  have rl9 : ∀ {w w₁ : World}, F w → RW c C w w₁ → F w₁ := fun h r => hS.rely _ _ r h
  obtain ⟨L, K', V, wn⟩ := m
  simp only at hL hK hV hw hm
  subst hL hK hV
  have hs := h.size
  have e0 := slot43 hs (by omega) h.h0
  have e4 := slot43 hs (by omega) h.h4
  have w8 : IntKind.i32.wrap ((⟨false, false, false, wn⟩ : MW).enc - 8) = (⟨false, false, false, wn - 1⟩ : MW).enc := by
    rw [IntKind.wrap_i32]
    simp only [MW.enc]
    simp
    omega
  have r2 : bits .or .i32 (⟨false, false, false, wn - 1⟩ : MW).enc 2 = (⟨false, true, false, wn - 1⟩ : MW).enc := or2 ⟨false, false, false, wn - 1⟩ (by simp; omega)
  rw [show o76_5 = _ from (by unfold o76_5; simp only [Cd.a, Cd.b, Cd.t, Cd.e, Cd.k, Cd.l, Cd.o, Try.f76, Option.getD_some]; try rfl)]
  co_apply codeV_more
  · (co_apply codeV_region; simp only [List.size_toArray, List.length_cons, List.length_nil, Nat.reduceAdd, Nat.zero_add, List.range, List.range.loop])
    (co_apply opsV_cons_k rfl (by rfl); intro _ hR K hK; replace hF := rl9 hF hR; clear hR; go_simp; refine hK _ _ ⟨?_, ?_⟩; (· rw [listed_nil (by simp [go_sem, *])]; exact DW.refl _ _ _); clear hK K; try simp only [Act.put])
    (co_apply opsV_cons_k rfl (by rfl); intro _ hR K hK; replace hF := rl9 hF hR; clear hR; go_simp; refine hK _ _ ⟨?_, ?_⟩; (· rw [listed_nil (by simp [go_sem, *])]; exact DW.refl _ _ _); clear hK K; try simp only [Act.put])
    (co_apply opsV_cons_k rfl (by rfl); intro _ hR K hK; replace hF := rl9 hF hR; clear hR; go_simp; refine hK _ _ ⟨?_, ?_⟩; (· rw [listed_nil (by simp [go_sem, *])]; exact DW.refl _ _ _); clear hK K; try simp only [Act.put])
    (co_apply opsV_cons_k rfl (by rfl); intro _ hR K hK; replace hF := rl9 hF hR; clear hR; go_simp; refine hK _ _ ⟨?_, ?_⟩; (· rw [listed_nil (by simp [go_sem, *])]; exact DW.refl _ _ _); clear hK K; try simp only [Act.put])
    co_apply opsV_nil
    exact hq _ _ hF (((((h).put 22 _ (by omega)).put 23 _ (by omega)).put 24 _ (by omega)).put 1 _ (by omega)) (by simp [*])
  · decide
/-- CompareAndSwap -/
theorem g76_6 (K : c.Ok) (hX : X.Ok) (hl : X.Lk u₀) (hS : Stays c C F) (h1 : T[1]? = some (.int .i32 ({ m with wn := m.wn - 1, K := true } : MW).enc)) (hF : F w) (h : FUx X T m)
    (hq : ∀ N1 b mu' T' w', N = N1 + 1 → F w' → FUx X T' m → T'[30]? = some (.bool b) → ((b = true ∧ mu' = .us) ∨ (b = false ∧ mu' = .ux)) → Q N1 (X.put u₀ mu') .normal ⟨T', []⟩ w') : CodeV Try.prog c k C 76 (.region 6 o76_6 false) 40 N (X.put u₀ (.uc m)) Q ⟨T, []⟩ w := by
  have rl9 : ∀ {w w₁ : World}, F w → RW c C w w₁ → F w₁ := fun h r => hS.rely _ _ r h
  have hs := h.size
  have e0 := slot43 hs (by omega) h.h0
  have e4 := slot43 hs (by omega) h.h4
  have e1 := slot43 hs (by omega) h1
  rw [show o76_6 = _ from (by unfold o76_6; simp only [Cd.a, Cd.b, Cd.t, Cd.e, Cd.k, Cd.l, Cd.o, Try.f76, Option.getD_some]; try rfl)]
  co_apply codeV_more
  · (co_apply codeV_region; simp only [List.size_toArray, List.length_cons, List.length_nil, Nat.reduceAdd, Nat.zero_add, List.range, List.range.loop])
    (co_apply opsV_cons_k rfl (by rfl); intro _ hR K hK; replace hF := rl9 hF hR; clear hR; go_simp; refine hK _ _ ⟨?_, ?_⟩; (· rw [listed_nil (by simp [go_sem, *])]; exact DW.refl _ _ _); clear hK K; try simp only [Act.put])
    (co_apply opsV_cons_k rfl (by rfl); intro _ hR K hK; replace hF := rl9 hF hR; clear hR; go_simp; refine hK _ _ ⟨?_, ?_⟩; (· rw [listed_nil (by simp [go_sem, *])]; exact DW.refl _ _ _); clear hK K; try simp only [Act.put])
    (co_apply opsV_cons_k rfl (by rfl); intro _ hR K hK; replace hF := rl9 hF hR; clear hR; go_simp; refine hK _ _ ⟨?_, ?_⟩; (· rw [listed_nil (by simp [go_sem, *])]; exact DW.refl _ _ _); clear hK K; try simp only [Act.put])
    (co_apply opsV_cons_k rfl (by rfl); intro _ hR K hK; replace hF := rl9 hF hR; clear hR; go_simp; refine hK _ _ ⟨?_, ?_⟩; (· rw [listed_nil (by simp [go_sem, *])]; exact DW.refl _ _ _); clear hK K; try simp only [Act.put])
    (co_apply opsV_cons_k rfl (by rfl); intro _ hR K hK; replace hF := rl9 hF hR; clear hR; go_simp; refine hK _ _ ⟨?_, ?_⟩; (· rw [listed_nil (by simp [go_sem, *])]; exact DW.refl _ _ _); clear hK K; try simp only [Act.put])
    refine opsV_casM K hX hl hS rfl (by rfl) rfl (old := m) (new := { m with wn := m.wn - 1, K := true }) (by simp [Act.eval, *]) (by simp [Act.eval, *]) (by simp [Act.eval, *]) hF (by simp) (fun b mu' => (b = true ∧ mu' = .us) ∨ (b = false ∧ mu' = .ux)) (fun ms _ _ e => ?_) (fun ms _ _ e => ⟨_, .late e, rfl, .inr ⟨rfl, rfl⟩⟩) ?_
    · have hM := MStep.grab (m := ms) (old := m) e
      rw [e] at hM
      exact ⟨_, hM, rfl, .inl ⟨rfl, rfl⟩⟩
    rintro w' b mu' hF' hR N1 rfl
    co_apply Exists.intro
    simp only [Act.put]
    co_apply opsV_nil
    exact hq N1 b mu' _ _ rfl hF' (((((((h).put 25 _ (by omega)).put 26 _ (by omega)).put 27 _ (by omega)).put 28 _ (by omega)).put 29 _ (by omega)).put 30 _ (by omega)) (by simp [*]) hR
  · decide
/-- it wakes one -/
theorem g76_7 (K : c.Ok) (hX : X.Ok) (hl : X.Lk u₀) (hS : Stays c C F)  (hF : F w) (h : FUx X T m)
    (hq : ∀ N1 T' w', N = N1 + 1 → F w' → Q N1 (X.put u₀ .ue) .normal ⟨T', []⟩ w') : CodeV Try.prog c k C 76 (.region 7 o76_7 false) 40 N (X.put u₀ .us) Q ⟨T, []⟩ w := by
  have rl9 : ∀ {w w₁ : World}, F w → RW c C w w₁ → F w₁ := fun h r => hS.rely _ _ r h
  have hs := h.size
  have e0 := slot43 hs (by omega) h.h0
  have e4 := slot43 hs (by omega) h.h4
  rw [show o76_7 = _ from (by unfold o76_7; simp only [Cd.a, Cd.b, Cd.t, Cd.e, Cd.k, Cd.l, Cd.o, Try.f76, Option.getD_some]; try rfl)]
  co_apply codeV_more
  · (co_apply codeV_region; simp only [List.size_toArray, List.length_cons, List.length_nil, Nat.reduceAdd, Nat.zero_add, List.range, List.range.loop])
    (co_apply opsV_cons_k rfl (by rfl); intro _ hR K hK; replace hF := rl9 hF hR; clear hR; go_simp; refine hK _ _ ⟨?_, ?_⟩; (· rw [listed_nil (by simp [go_sem, *])]; exact DW.refl _ _ _); clear hK K; try simp only [Act.put])
    (co_apply opsV_cons_k rfl (by rfl); intro _ hR K hK; replace hF := rl9 hF hR; clear hR; go_simp; refine hK _ _ ⟨?_, ?_⟩; (· rw [listed_nil (by simp [go_sem, *])]; exact DW.refl _ _ _); clear hK K; try simp only [Act.put])
    (co_apply opsV_cons_k rfl (by rfl); intro _ hR K hK; replace hF := rl9 hF hR; clear hR; go_simp; refine hK _ _ ⟨?_, ?_⟩; (· rw [listed_nil (by simp [go_sem, *])]; exact DW.refl _ _ _); clear hK K; try simp only [Act.put])
    refine opsV_upM K hX hl hS rfl rfl rfl (by simp [Act.eval, *]; rfl) hF ?_
    rintro w' hF' N1 rfl
    co_apply Exists.intro
    simp only [Act.put]
    co_apply opsV_nil
    exact hq N1 _ _ rfl hF'
  · decide
/-- it hands it over -/
theorem g76_9 (K : c.Ok) (hX : X.Ok) (hl : X.Lk u₀) (hS : Stays c C F)  (hF : F w) (h : T.size = 43 ∧ T[0]? = some (.pointer (some X.st)) ∧ T[1]? = some (.int .i32 m.enc))
    (hq : ∀ N1 T' w', N = N1 + 1 → F w' → Q N1 (X.put u₀ .ue) .normal ⟨T', []⟩ w') : CodeV Try.prog c k C 76 (.region 9 o76_9 false) 40 N (X.put u₀ .us) Q ⟨T, []⟩ w := by
  have rl9 : ∀ {w w₁ : World}, F w → RW c C w w₁ → F w₁ := fun h r => hS.rely _ _ r h
  obtain ⟨hs, h0, h1⟩ := h
  have e0 := slot43 hs (by omega) h0
  have e1 := slot43 hs (by omega) h1
  rw [show o76_9 = _ from (by unfold o76_9; simp only [Cd.a, Cd.b, Cd.t, Cd.e, Cd.k, Cd.l, Cd.o, Try.f76, Option.getD_some]; try rfl)]
  co_apply codeV_more
  · (co_apply codeV_region; simp only [List.size_toArray, List.length_cons, List.length_nil, Nat.reduceAdd, Nat.zero_add, List.range, List.range.loop])
    (co_apply opsV_cons_k rfl (by rfl); intro _ hR K hK; replace hF := rl9 hF hR; clear hR; go_simp; refine hK _ _ ⟨?_, ?_⟩; (· rw [listed_nil (by simp [go_sem, *])]; exact DW.refl _ _ _); clear hK K; try simp only [Act.put])
    (co_apply opsV_cons_k rfl (by rfl); intro _ hR K hK; replace hF := rl9 hF hR; clear hR; go_simp; refine hK _ _ ⟨?_, ?_⟩; (· rw [listed_nil (by simp [go_sem, *])]; exact DW.refl _ _ _); clear hK K; try simp only [Act.put])
    (co_apply opsV_cons_k rfl (by rfl); intro _ hR K hK; replace hF := rl9 hF hR; clear hR; go_simp; refine hK _ _ ⟨?_, ?_⟩; (· rw [listed_nil (by simp [go_sem, *])]; exact DW.refl _ _ _); clear hK K; try simp only [Act.put])
    refine opsV_upM K hX hl hS rfl rfl rfl (by simp [Act.eval, *]; rfl) hF ?_
    rintro w' hF' N1 rfl
    co_apply Exists.intro
    simp only [Act.put]
    co_apply opsV_nil
    exact hq N1 _ _ rfl hF'
  · decide
/-- a look -/
theorem g76_8 (K : c.Ok) (hX : X.Ok) (hl : X.Lk u₀) (hS : Stays c C F)  (hF : F w) (h : FUx X T m)
    (hq : ∀ N1 T' w' m' mu', N = N1 + 1 → F w' → m'.wn ≤ 70 → FUx X T' m' → ((mu' = .ue ∧ (m'.wn = 0 ∨ m'.L = true ∨ m'.K = true ∨ m'.V = true)) ∨ (mu' = .uc m' ∧ m'.wn ≠ 0 ∧ m'.L = false ∧ m'.K = false ∧ m'.V = false)) → Q N1 (X.put u₀ mu') .normal ⟨T', []⟩ w') : CodeV Try.prog c k C 76 (.region 8 o76_8 false) 40 N (X.put u₀ .ux) Q ⟨T, []⟩ w := by
  have rl9 : ∀ {w w₁ : World}, F w → RW c C w w₁ → F w₁ := fun h r => hS.rely _ _ r h
  have hs := h.size
  have e0 := slot43 hs (by omega) h.h0
  have e4 := slot43 hs (by omega) h.h4
  rw [show o76_8 = _ from (by unfold o76_8; simp only [Cd.a, Cd.b, Cd.t, Cd.e, Cd.k, Cd.l, Cd.o, Try.f76, Option.getD_some]; try rfl)]
  co_apply codeV_more
  · (co_apply codeV_region; simp only [List.size_toArray, List.length_cons, List.length_nil, Nat.reduceAdd, Nat.zero_add, List.range, List.range.loop])
    (co_apply opsV_cons_k rfl (by rfl); intro _ hR K hK; replace hF := rl9 hF hR; clear hR; go_simp; refine hK _ _ ⟨?_, ?_⟩; (· rw [listed_nil (by simp [go_sem, *])]; exact DW.refl _ _ _); clear hK K; try simp only [Act.put])
    (co_apply opsV_cons_k rfl (by rfl); intro _ hR K hK; replace hF := rl9 hF hR; clear hR; go_simp; refine hK _ _ ⟨?_, ?_⟩; (· rw [listed_nil (by simp [go_sem, *])]; exact DW.refl _ _ _); clear hK K; try simp only [Act.put])
    (co_apply opsV_cons_k rfl (by rfl); intro _ hR K hK; replace hF := rl9 hF hR; clear hR; go_simp; refine hK _ _ ⟨?_, ?_⟩; (· rw [listed_nil (by simp [go_sem, *])]; exact DW.refl _ _ _); clear hK K; try simp only [Act.put])
    refine opsV_look K hX hl hS (by rfl) rfl (by simp [Act.eval, *]) hF (by simp) (fun m' mu' => (mu' = .ue ∧ (m'.wn = 0 ∨ m'.L = true ∨ m'.K = true ∨ m'.V = true)) ∨ (mu' = .uc m' ∧ m'.wn ≠ 0 ∧ m'.L = false ∧ m'.K = false ∧ m'.V = false)) (fun ms hp hw => ?_) ?_
    · by_cases hd : ms.w.wn = 0 ∨ ms.w.L = true ∨ ms.w.K = true ∨ ms.w.V = true
      · exact ⟨_, .done hd, rfl, .inl ⟨rfl, hd⟩⟩
      · have hd' : ms.w.wn ≠ 0 ∧ ms.w.L = false ∧ ms.w.K = false ∧ ms.w.V = false := by
          cases h1 : ms.w.L <;> cases h2 : ms.w.K <;> cases h3 : ms.w.V <;> simp_all
        exact ⟨_, .more hd'.1 hd'.2.1 hd'.2.2.1 hd'.2.2.2, rfl, .inr ⟨rfl, hd'⟩⟩
    rintro w' m' mu' hF' hw' hR N1 rfl
    clear hF
    have hF := hF'
    clear hF'
    co_apply Exists.intro
    simp only [Act.put]
    (co_apply opsV_cons_k rfl (by rfl); intro _ hR K hK; replace hF := rl9 hF hR; clear hR; go_simp; refine hK _ _ ⟨?_, ?_⟩; (· rw [listed_nil (by simp [go_sem, *])]; exact DW.refl _ _ _); clear hK K; try simp only [Act.put])
    co_apply opsV_nil
    exact hq N1 _ _ m' mu' rfl hF hw' ((((((h).put 35 _ (by omega)).put 36 _ (by omega)).put 37 _ (by omega)).put 38 _ (by omega)).set4 _) hR
  · decide
/-- what holds at the loop's head -/
def LU (X : MxI c) (u₀ : c.U) (F : World → Prop) (N : Nat) (u : c.U) (a : Act) (w : World) : Prop :=
  ∃ T m, a = ⟨T, []⟩ ∧ FUx X T m ∧ m.wn ≤ 70 ∧ F w ∧ ((u = X.put u₀ .ue ∧ (m.wn = 0 ∨ m.L = true ∨ m.K = true ∨ m.V = true)) ∨ (u = X.put u₀ (.uc m) ∧ m.wn ≠ 0 ∧ m.L = false ∧ m.K = false ∧ m.V = false))
/-- where the fast road leaves it -/
def Lft (X : MxI c) (u₀ : c.U) (u : c.U) (m : MW) : Prop :=
  m.L = false ∧ ((m.V = true ∧ u = X.put u₀ .us) ∨ (m.V = false ∧ (m.wn = 0 ∨ m.K = true) ∧ u = X.put u₀ .ue) ∨ (m.V = false ∧ m.wn ≠ 0 ∧ m.K = false ∧ u = X.put u₀ (.uc m)))
theorem unlockSlow_V (K : c.Ok) (hX : X.Ok) (hl : X.Lk u₀) (hS : Stays c C F) (hm : m.wn ≤ 70) (hu : Lft X u₀ u m) (hF : F w) :
    CallsV Try.prog c k C 76 #[.pointer (some X.st), .int .i32 m.enc] ((N + 1) * 2001 + 3000) N u w (fun N' u' v w' => N' ≤ N ∧ u' = X.put u₀ .ue ∧ F w') := by
  obtain ⟨hL, hu⟩ := hu
  refine ⟨_, _, Try.func76, by kernel_rfl, (show Try.f76.body = some (Try.f76.body.getD .skip) from rfl), ?_⟩
  rw [tr76]
  simp only [Try.ntmps76]
  obtain ⟨T0, hT0⟩ : ∃ T0, T0 = #[Value.pointer (some X.st), .int .i32 m.enc] ++ Array.replicate (43 - (#[Value.pointer (some X.st), .int .i32 m.enc] : Array Value).size) undef := ⟨_, rfl⟩
  have s0 : T0.size = 43 := by rw [hT0]; simp
  have p0 : T0[0]? = some (.pointer (some X.st)) := by rw [hT0]; simp
  have p1 : T0[1]? = some (.int .i32 m.enc) := by rw [hT0]; simp
  rw [← hT0]
  clear hT0
  have fin : ∀ N' a' w', N' ≤ N → F w' → a'.defers = [] → bodyPostV Try.prog c Try.f76 (fun N' u' v w' => N' ≤ N ∧ u' = X.put u₀ .ue ∧ F w') N' (X.put u₀ .ue) .normal a' w' ∧ bodyPostV Try.prog c Try.f76 (fun N' u' v w' => N' ≤ N ∧ u' = X.put u₀ .ue ∧ F w') N' (X.put u₀ .ue) .ret a' w' :=
    fun N' a' w' hN hF' hd => ⟨⟨hd, _, resultsC_none rfl _, hN, rfl, hF'⟩, ⟨hd, _, resultsC_none rfl _, hN, rfl, hF'⟩⟩
  refine cv_seq (n₁ := 90) (n₂ := (N + 1) * 2001 + 2900) (by omega) ?_
  refine cv_seq (n₁ := 40) (n₂ := 41) (by decide) (g76_0 K hX hl hS (by omega) hL hF ⟨s0, p0, p1⟩ fun T1 w1 hF1 h1 hc => ?_)
  refine cv_cond hc (cv_skip (n := 39) ?_)
  refine cv_seq (n₁ := 40) (n₂ := (N + 1) * 2001 + 2801) (by omega) (g76_2 K hX hl hS (by omega) hF1 h1 fun T2 w2 hF2 h2 hc2 => ?_)
  refine cv_cond hc2 ?_
  by_cases hV : m.V = true
  · have hu' : u = X.put u₀ .us := by
      rcases hu with h | h | h
      · exact h.2
      · rw [hV] at h; exact absurd h.1 (by simp)
      · rw [hV] at h; exact absurd h.1 (by simp)
    subst hu'
    rw [hV]
    exact codeV_more (g76_9 K hX hl hS hF2 h2 fun N1 T3 w3 hN1 hF3 => (fin N1 _ _ (by omega) hF3 rfl).1) (by omega)
  have hV' : m.V = false := by simpa using hV
  rw [hV']
  refine cv_seq (n₁ := 40) (n₂ := (N + 1) * 2001 + 2700) (by omega) (g76_3 K hX hl hS hF2 h2 fun T3 w3 hF3 h3 => ?_)
  refine codeV_more (n := (N + 1) * 2001 + 1 + 2) (codeV_block ?_) (by omega)
  refine codeV_loop (r := 2000) (M := N) (fun N' u a w => N' ≤ N ∧ LU X u₀ F N' u a w) (fun N _ _ _ => N) ⟨Nat.le_refl _, T3, m, rfl, h3, hm, hF3, ?_⟩ (Nat.le_refl _) ?_
  · rcases hu with h | h | h
    · exact absurd h.1 hV
    · exact .inl ⟨h.2.2, h.2.1.imp id (fun x => .inr (.inl x))⟩
    · exact .inr ⟨h.2.2.2, h.2.1, hL, h.2.2.1, hV'⟩
  rintro N2 u2 a2 w2 ⟨hN2, T2, m, rfl, hf, hw, hF2, hu⟩
  refine codeV_more (codeV_block (n := 1000) ?_) (by decide)
  refine cv_seq (n₁ := 90) (n₂ := 900) (by decide) ?_
  refine cv_seq (n₁ := 40) (n₂ := 41) (by decide) (g76_4 K hX hl hS (by omega) hF2 hf fun T4 w4 hF4 h4 hc4 => ?_)
  refine cv_cond hc4 ?_
  rcases hu with ⟨rfl, hd⟩ | ⟨rfl, hw0, hL2, hK2, hV2⟩
  · have : (decide (m.wn = 0) || (m.L || m.K || m.V)) = true := by
      rcases hd with e | e | e | e <;> simp [e]
    rw [this]
    refine codeV_more (codeV_of (wpC_ret (termsW c C) ?_)) (by decide : 1 ≤ 40)
    exact (fin N2 _ _ hN2 hF4 rfl).2
  · have : (decide (m.wn = 0) || (m.L || m.K || m.V)) = false := by simp [hw0, hL2, hK2, hV2]
    rw [this]
    refine cv_skip (n := 39) ?_
    refine cv_seq (n₁ := 40) (n₂ := 800) (by decide) (g76_5 K hX hl hS (by omega) hL2 hK2 hV2 hw0 hF4 h4 fun T5 w5 hF5 h5 h51 => ?_)
    refine cv_seq (n₁ := 300) (n₂ := 400) (by decide) ?_
    refine cv_seq (n₁ := 40) (n₂ := 201) (by decide) (g76_6 K hX hl hS h51 hF5 h5 fun N6 b mu6 T6 w6 hN6 hF6 h6 hc6 hR6 => ?_)
    refine cv_cond hc6 ?_
    rcases hR6 with ⟨rfl, rfl⟩ | ⟨rfl, rfl⟩
    · refine cv_seq (n₁ := 40) (n₂ := 100) (by decide) (g76_7 K hX hl hS hF6 h6 fun N7 T7 w7 hN7 hF7 => ?_)
      refine codeV_more (codeV_of (wpC_ret (termsW c C) ?_)) (by decide : 1 ≤ 100)
      exact (fin N7 _ _ (by omega) hF7 rfl).2
    · refine cv_skip (n := 199) ?_
      refine codeV_more (g76_8 K hX hl hS hF6 h6 fun N8 T8 w8 m8 mu8 hN8 hF8 hw8 h8 hR8 => ?_) (by decide)
      refine ⟨⟨by omega, T8, m8, rfl, h8, hw8, hF8, ?_⟩, by omega⟩
      rcases hR8 with ⟨rfl, hd⟩ | ⟨rfl, hx⟩
      · exact .inl ⟨rfl, hd⟩
      · exact .inr ⟨rfl, hx⟩
end
end Go.Proofs.Ytinghnaigpenkaa
