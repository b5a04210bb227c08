/- Seat 05: lockSlow's regions, one by one: those that act on nothing shared. -/
import Derived.Test.YtinghnaigpenkaaZMxD
namespace Go.Proofs.Ytinghnaigpenkaa
open Go.Conc Go.RowKit Go.ConcR.Gen
open Go.ConcR (Payload rd wr mk)
set_option linter.unusedVariables false
set_option linter.unusedSimpArgs false
set_option linter.unusedSectionVars false
set_option maxRecDepth 100000
set_option maxHeartbeats 1000000




section
variable [Payload] {P : Program} {c : Cfg} {k C : Nat} {fn : FuncId} {N : Nat} {u : c.U} {Q : Nat → c.U → Exit → Act → World → Prop} {a : Act} {w : World}
/-- an idle step, told by its law -/
theorem opsV_idle {ops : Array Oper} {i : Nat} {rest : List Nat} {o : Oper} {n : Nat}
    (h : ∀ w₁, RW c C w w₁ → ∃ v w' es, (∀ (b : Frame) (kk : List Item) (cs : List Frame), b.fn = fn → b.kind ≠ .early → stepG P false (G (b.at a (.inRegion ops (i :: rest) :: kk)) cs) w₁ = .go (G (b.at (a.put o.dst v) (.inRegion ops rest :: kk)) cs) w' es) ∧
      DW c C w₁ w' es ∧ OpsV P c k C fn ops rest n N u Q (a.put o.dst v) w') : OpsV P c k C fn ops (i :: rest) (n + 1) N u Q a w := by
  intro b kk cs m hb hk hc
  refine Goes.step rfl fun w₁ h₁ => ?_
  obtain ⟨v, w', es, h1, h2, h3⟩ := h w₁ h₁
  rw [h1 b kk cs hb hk]
  exact ⟨h2, h3 b kk cs m hb hk hc⟩
end
section
variable {c : Cfg} {C : Nat} {w : World}
theorem rw_os (K : c.Ok) {w' : World} (he : Env w w') (hh : w'.heap = w.heap) : RW c C w w' := by
  refine ⟨he, Nat.le_of_eq (by rw [hh]), fun b _ _ _ _ _ => by rw [hh], fun b hb hn hs => hn (hs.of_same (by rw [hh])), fun b hb hn hs => hn (hs.of_same (by rw [hh])), fun ⟨σ, h⟩ => ⟨σ, K.rep_same σ w _ h (Nat.le_of_eq (by rw [hh])) (fun b _ _ => by rw [hh])⟩, fun hl => hl.of_same (by rw [hh])⟩
theorem dw_os {w' : World} (he : Env w w') (hh : w'.heap = w.heap) : DW c C w w' #[] :=
  ⟨he, Nat.le_of_eq (by rw [hh]), fun b _ => by rw [hh], fun b hb hs => by have := hs.lt; rw [hh] at this; omega, by simp⟩
theorem env_later (w : World) : Env w w.later := ⟨rfl, ⟨w.tick, rfl⟩, rfl⟩
theorem env_asked (w : World) : Env w w.asked := ⟨rfl, .refl _, rfl⟩
theorem dw_mark {m : Mark} (h : (MemAct.ofEvent ⟨.mark m, false, true⟩).touch? = none) (h1 : m ≠ .disable) (h2 : m ≠ .enable) (h3 : m ≠ .release (Go.ConcR.stA c.Wg)) : DW c C w w #[⟨.mark m, false, true⟩] := by
  refine ⟨.refl w, Nat.le_refl _, fun _ _ => rfl, (DW.refl c C w).new, fun e he => ?_⟩
  simp at he
  subst he
  exact ⟨fun x hx => (by rw [h] at hx; cases hx), by simpa using h1, by simpa using h2, by simpa using h3⟩
end
abbrev FRm (T : Array Value) (p : Value) (ws : Int) (sv aw : Bool) (it : Nat) (m : MW) : Prop := Fr T p (.int .i64 ws) (.bool sv) (.bool aw) (.int .i64 it) (.int .i32 m.enc)
section
variable {c : Cfg} {k C N : Nat} {u : c.U} {F : World → Prop} {Q : Nat → c.U → Exit → Act → World → Prop} {T : Array Value} {p v2 v3 v4 v5 v6 : Value} {ws : Int} {sv aw : Bool} {it : Nat} {m : MW} {w : World}
theorem Fr.set2 (h : Fr T p v2 v3 v4 v5 v6) (v : Value) : Fr (T.setIfInBounds 2 v) p v v3 v4 v5 v6 := by
  obtain ⟨hs, h0, h2, h3, h4, h5, h6⟩ := h
  have hlt : 2 < T.size := by omega
  refine ⟨by simp [hs], ?_, ?_, ?_, ?_, ?_, ?_⟩ <;> (first | (rw [Array.getElem?_setIfInBounds_ne (by decide)]; assumption) | (rw [Array.getElem?_setIfInBounds, if_pos rfl, if_pos hlt]))
theorem Fr.set3 (h : Fr T p v2 v3 v4 v5 v6) (v : Value) : Fr (T.setIfInBounds 3 v) p v2 v v4 v5 v6 := by
  obtain ⟨hs, h0, h2, h3, h4, h5, h6⟩ := h
  have hlt : 3 < T.size := by omega
  refine ⟨by simp [hs], ?_, ?_, ?_, ?_, ?_, ?_⟩ <;> (first | (rw [Array.getElem?_setIfInBounds_ne (by decide)]; assumption) | (rw [Array.getElem?_setIfInBounds, if_pos rfl, if_pos hlt]))
theorem Fr.set4 (h : Fr T p v2 v3 v4 v5 v6) (v : Value) : Fr (T.setIfInBounds 4 v) p v2 v3 v v5 v6 := by
  obtain ⟨hs, h0, h2, h3, h4, h5, h6⟩ := h
  have hlt : 4 < T.size := by omega
  refine ⟨by simp [hs], ?_, ?_, ?_, ?_, ?_, ?_⟩ <;> (first | (rw [Array.getElem?_setIfInBounds_ne (by decide)]; assumption) | (rw [Array.getElem?_setIfInBounds, if_pos rfl, if_pos hlt]))
theorem Fr.set5 (h : Fr T p v2 v3 v4 v5 v6) (v : Value) : Fr (T.setIfInBounds 5 v) p v2 v3 v4 v v6 := by
  obtain ⟨hs, h0, h2, h3, h4, h5, h6⟩ := h
  have hlt : 5 < T.size := by omega
  refine ⟨by simp [hs], ?_, ?_, ?_, ?_, ?_, ?_⟩ <;> (first | (rw [Array.getElem?_setIfInBounds_ne (by decide)]; assumption) | (rw [Array.getElem?_setIfInBounds, if_pos rfl, if_pos hlt]))
theorem Fr.set6 (h : Fr T p v2 v3 v4 v5 v6) (v : Value) : Fr (T.setIfInBounds 6 v) p v2 v3 v4 v5 v := by
  obtain ⟨hs, h0, h2, h3, h4, h5, h6⟩ := h
  have hlt : 6 < T.size := by omega
  refine ⟨by simp [hs], ?_, ?_, ?_, ?_, ?_, ?_⟩ <;> (first | (rw [Array.getElem?_setIfInBounds_ne (by decide)]; assumption) | (rw [Array.getElem?_setIfInBounds, if_pos rfl, if_pos hlt]))
theorem Fr.put (h : Fr T p v2 v3 v4 v5 v6) (i : Nat) (v : Value) (hi : 7 ≤ i) : Fr (T.setIfInBounds i v) p v2 v3 v4 v5 v6 := by
  obtain ⟨hs, h0, h2, h3, h4, h5, h6⟩ := h
  refine ⟨by simp [hs], ?_, ?_, ?_, ?_, ?_, ?_⟩ <;> rw [Array.getElem?_setIfInBounds_ne (by omega)] <;> assumption
theorem Fr.g0 (h : Fr T p v2 v3 v4 v5 v6) : T[0]'(by rw [h.size]; omega) = p := by have := h.h0; rwa [Array.getElem?_eq_getElem (by rw [h.size]; omega), Option.some.injEq] at this
theorem Fr.g2 (h : Fr T p v2 v3 v4 v5 v6) : T[2]'(by rw [h.size]; omega) = v2 := by have := h.h2; rwa [Array.getElem?_eq_getElem (by rw [h.size]; omega), Option.some.injEq] at this
theorem Fr.g3 (h : Fr T p v2 v3 v4 v5 v6) : T[3]'(by rw [h.size]; omega) = v3 := by have := h.h3; rwa [Array.getElem?_eq_getElem (by rw [h.size]; omega), Option.some.injEq] at this
theorem Fr.g4 (h : Fr T p v2 v3 v4 v5 v6) : T[4]'(by rw [h.size]; omega) = v4 := by have := h.h4; rwa [Array.getElem?_eq_getElem (by rw [h.size]; omega), Option.some.injEq] at this
theorem Fr.g5 (h : Fr T p v2 v3 v4 v5 v6) : T[5]'(by rw [h.size]; omega) = v5 := by have := h.h5; rwa [Array.getElem?_eq_getElem (by rw [h.size]; omega), Option.some.injEq] at this
theorem Fr.g6 (h : Fr T p v2 v3 v4 v5 v6) : T[6]'(by rw [h.size]; omega) = v6 := by have := h.h6; rwa [Array.getElem?_eq_getElem (by rw [h.size]; omega), Option.some.injEq] at this
theorem slot {T : Array Value} {i : Nat} {v : Value} (hs : T.size = 139) (hi : i < 139) (h : T[i]? = some v) : T[i]'(by rw [hs]; omega) = v := by rwa [Array.getElem?_eq_getElem (by rw [hs]; omega), Option.some.injEq] at h
/-- does spinning make sense? -/
theorem g75_5 (K : c.Ok) (hFR : ∀ w w₁, RW c C w w₁ → F w → F w₁) (hm : m.wn < 80) (hF : F w) (h : FRm T p ws sv aw it m)
    (hq : ∀ T' w' (b : Bool), F w' → FRm T' p ws sv aw it m → T'[20]? = some (.bool b) → (b = true → m.L = true ∧ m.V = false ∧ it < 4) → Q N u .normal ⟨T', []⟩ w') : CodeV Try.prog c k C 75 (.region 5 o75_5 false) 40 N u Q ⟨T, []⟩ w := by
  have rl9 : ∀ {w w₁ : World}, F w → RW c C w w₁ → F w₁ := fun h r => hFR _ _ r h
  have hs := h.size
  have e5 := h.g5
  have e6 := h.g6
  have a5 := and5 m hm
  rw [show o75_5 = _ from (by unfold o75_5; simp only [Cd.a, Cd.b, Cd.t, Cd.e, Cd.k, Cd.l, Cd.o, Try.f75, Option.getD_some]; try rfl)]
  by_cases hb : m.L = true ∧ m.V = false
  · simp only [hb.1, hb.2, if_true, if_false, Bool.false_eq_true, Int.add_zero] at a5
    by_cases h4 : (4 : Int) ≤ (it : Int)
    · co_apply codeV_more
      · (co_apply codeV_region; simp only [List.size_toArray, List.length_cons, List.length_nil, Nat.reduceAdd, Nat.zero_add, List.range, List.range.loop])
        (co_apply opsV_cons_k rfl (by rfl); intro _ hR K hK; replace hF := rl9 hF hR; clear hR; go_simp; refine hK _ _ ⟨?_, ?_⟩; (· rw [listed_nil (by simp [go_sem, *])]; exact DW.refl _ _ _); clear hK K; try simp only [Act.put])
        (co_apply opsV_cons_k rfl (by rfl); intro _ hR K hK; replace hF := rl9 hF hR; clear hR; go_simp; refine hK _ _ ⟨?_, ?_⟩; (· rw [listed_nil (by simp [go_sem, *])]; exact DW.refl _ _ _); clear hK K; try simp only [Act.put])
        (co_apply opsV_cons_k rfl (by rfl); intro _ hR K hK; replace hF := rl9 hF hR; clear hR; go_simp; refine hK _ _ ⟨?_, ?_⟩; (· rw [listed_nil (by simp [go_sem, *])]; exact DW.refl _ _ _); clear hK K; try simp only [Act.put])
        (co_apply opsV_cons_k rfl (by rfl); intro _ hR K hK; replace hF := rl9 hF hR; clear hR; go_simp; refine hK _ _ ⟨?_, ?_⟩; (· rw [listed_nil (by simp [go_sem, *])]; exact DW.refl _ _ _); clear hK K; try simp only [Act.put])
        (co_apply opsV_cons_k rfl (by simp [Region.wanted, yielded, *]); intro _ hR K hK; replace hF := rl9 hF hR; clear hR; go_simp; refine hK _ _ ⟨?_, ?_⟩; (· rw [listed_nil (by simp [go_sem, *])]; exact DW.refl _ _ _); clear hK K; try simp only [Act.put])
        co_apply opsV_idle
        intro w₁ hR
        refine ⟨_, _, _, fun b kk cs hb hk => stepG_canSpin_no rfl (by simp [Region.wanted, yielded, *]) hk rfl Try.func77 (by kernel_rfl) (by kernel_rfl) (by kernel_rfl) (by rfl) (k := .i64) (n := it) (by simp [Act.eval, *]) h4, DW.refl _ _ _, ?_⟩
        replace hF := rl9 hF hR
        clear hR
        try simp only [Act.put]
        (co_apply opsV_cons_k rfl (by rfl); intro _ hR K hK; replace hF := rl9 hF hR; clear hR; go_simp; refine hK _ _ ⟨?_, ?_⟩; (· rw [listed_nil (by simp [go_sem, *])]; exact DW.refl _ _ _); clear hK K; try simp only [Act.put])
        co_apply opsV_nil
        exact hq _ _ false hF ((((((((h).put 14 _ (by omega)).put 15 _ (by omega)).put 16 _ (by omega)).put 17 _ (by omega)).put 18 _ (by omega)).put 19 _ (by omega)).put 20 _ (by omega)) (by simp [*]) (fun e => by cases e)
      · decide
    · co_apply codeV_more
      · (co_apply codeV_region; simp only [List.size_toArray, List.length_cons, List.length_nil, Nat.reduceAdd, Nat.zero_add, List.range, List.range.loop])
        (co_apply opsV_cons_k rfl (by rfl); intro _ hR K hK; replace hF := rl9 hF hR; clear hR; go_simp; refine hK _ _ ⟨?_, ?_⟩; (· rw [listed_nil (by simp [go_sem, *])]; exact DW.refl _ _ _); clear hK K; try simp only [Act.put])
        (co_apply opsV_cons_k rfl (by rfl); intro _ hR K hK; replace hF := rl9 hF hR; clear hR; go_simp; refine hK _ _ ⟨?_, ?_⟩; (· rw [listed_nil (by simp [go_sem, *])]; exact DW.refl _ _ _); clear hK K; try simp only [Act.put])
        (co_apply opsV_cons_k rfl (by rfl); intro _ hR K hK; replace hF := rl9 hF hR; clear hR; go_simp; refine hK _ _ ⟨?_, ?_⟩; (· rw [listed_nil (by simp [go_sem, *])]; exact DW.refl _ _ _); clear hK K; try simp only [Act.put])
        (co_apply opsV_cons_k rfl (by rfl); intro _ hR K hK; replace hF := rl9 hF hR; clear hR; go_simp; refine hK _ _ ⟨?_, ?_⟩; (· rw [listed_nil (by simp [go_sem, *])]; exact DW.refl _ _ _); clear hK K; try simp only [Act.put])
        (co_apply opsV_cons_k rfl (by simp [Region.wanted, yielded, *]); intro _ hR K hK; replace hF := rl9 hF hR; clear hR; go_simp; refine hK _ _ ⟨?_, ?_⟩; (· rw [listed_nil (by simp [go_sem, *])]; exact DW.refl _ _ _); clear hK K; try simp only [Act.put])
        co_apply opsV_idle
        intro w₁ hR
        refine ⟨_, _, _, fun b kk cs hb hk => stepG_canSpin_ask rfl (by simp [Region.wanted, yielded, *]) hk rfl Try.func77 (by kernel_rfl) (by kernel_rfl) (by kernel_rfl) (by rfl) (k := .i64) (n := it) (by simp [Act.eval, *]) (by omega), dw_os (env_asked _) rfl, ?_⟩
        replace hF := rl9 hF (hR.trans (rw_os K (env_asked _) rfl))
        clear hR
        generalize w₁.spins = sp
        generalize w₁.asked = w₂ at hF ⊢
        clear w₁
        try simp only [Act.put]
        cases sp
        · (co_apply opsV_cons_k rfl (by rfl); intro _ hR K hK; replace hF := rl9 hF hR; clear hR; go_simp; refine hK _ _ ⟨?_, ?_⟩; (· rw [listed_nil (by simp [go_sem, *])]; exact DW.refl _ _ _); clear hK K; try simp only [Act.put])
          co_apply opsV_nil
          exact hq _ _ false hF ((((((((h).put 14 _ (by omega)).put 15 _ (by omega)).put 16 _ (by omega)).put 17 _ (by omega)).put 18 _ (by omega)).put 19 _ (by omega)).put 20 _ (by omega)) (by simp [*]) (fun e => by cases e)
        · (co_apply opsV_cons_k rfl (by rfl); intro _ hR K hK; replace hF := rl9 hF hR; clear hR; go_simp; refine hK _ _ ⟨?_, ?_⟩; (· rw [listed_nil (by simp [go_sem, *])]; exact DW.refl _ _ _); clear hK K; try simp only [Act.put])
          co_apply opsV_nil
          exact hq _ _ true hF ((((((((h).put 14 _ (by omega)).put 15 _ (by omega)).put 16 _ (by omega)).put 17 _ (by omega)).put 18 _ (by omega)).put 19 _ (by omega)).put 20 _ (by omega)) (by simp [*]) (fun _ => ⟨hb.1, hb.2, by omega⟩)
      · decide
  · have n5 : (bits .and .i32 m.enc 5 == 1) = false := by
      rw [a5]
      cases hL : m.L <;> cases hV : m.V <;> simp_all
    have n5' : ¬ bits .and .i32 m.enc 5 = 1 := by simpa using n5
    clear a5
    co_apply codeV_more
    · (co_apply codeV_region; simp only [List.size_toArray, List.length_cons, List.length_nil, Nat.reduceAdd, Nat.zero_add, List.range, List.range.loop])
      (co_apply opsV_cons_k rfl (by rfl); intro _ hR K hK; replace hF := rl9 hF hR; clear hR; go_simp; refine hK _ _ ⟨?_, ?_⟩; (· rw [listed_nil (by simp [go_sem, *])]; exact DW.refl _ _ _); clear hK K; try simp only [Act.put])
      (co_apply opsV_cons_k rfl (by rfl); intro _ hR K hK; replace hF := rl9 hF hR; clear hR; go_simp; refine hK _ _ ⟨?_, ?_⟩; (· rw [listed_nil (by simp [go_sem, *])]; exact DW.refl _ _ _); clear hK K; try simp only [Act.put])
      (co_apply opsV_cons_k rfl (by rfl); intro _ hR K hK; replace hF := rl9 hF hR; clear hR; go_simp; refine hK _ _ ⟨?_, ?_⟩; (· rw [listed_nil (by simp [go_sem, *])]; exact DW.refl _ _ _); clear hK K; try simp only [Act.put])
      (co_apply opsV_cons_k rfl (by rfl); intro _ hR K hK; replace hF := rl9 hF hR; clear hR; go_simp; refine hK _ _ ⟨?_, ?_⟩; (· rw [listed_nil (by simp [go_sem, *])]; exact DW.refl _ _ _); clear hK K; try simp only [Act.put])
      (co_apply opsV_unwanted rfl (by simp [Region.wanted, yielded, *]); try simp only [Act.put])
      (co_apply opsV_unwanted rfl (by simp [Region.wanted, yielded, *]); try simp only [Act.put])
      (co_apply opsV_cons_k rfl (by rfl); intro _ hR K hK; replace hF := rl9 hF hR; clear hR; go_simp; refine hK _ _ ⟨?_, ?_⟩; (· rw [listed_nil (by simp [go_sem, *])]; exact DW.refl _ _ _); clear hK K; try simp only [Act.put])
      co_apply opsV_nil
      exact hq _ _ false hF ((((((((h).put 14 _ (by omega)).put 15 _ (by omega)).put 16 _ (by omega)).put 17 _ (by omega)).put 18 _ (by omega)).put 19 _ (by omega)).put 20 _ (by omega)) (by simp [*]) (fun e => by cases e)
    · decide
/-- awoke -/
theorem g75_7 (hFR : ∀ w w₁, RW c C w w₁ → F w → F w₁)  (hF : F w) (h : FRm T p ws sv aw it m)
    (hq : ∀ T' w', F w' → FRm T' p ws sv true it m → Q N u .normal ⟨T', []⟩ w') : CodeV Try.prog c k C 75 (.region 7 o75_7 false) 40 N u Q ⟨T, []⟩ w := by
  have rl9 : ∀ {w w₁ : World}, F w → RW c C w w₁ → F w₁ := fun h r => hFR _ _ r h
  have hs := h.size
  rw [show o75_7 = _ from (by unfold o75_7; simp only [Cd.a, Cd.b, Cd.t, Cd.e, Cd.k, Cd.l, Cd.o, Try.f75, Option.getD_some]; try rfl)]
  co_apply codeV_more
  · (co_apply codeV_region; simp only [List.size_toArray, List.length_cons, List.length_nil, Nat.reduceAdd, Nat.zero_add, List.range, List.range.loop])
    (co_apply opsV_cons_k rfl (by rfl); intro _ hR K hK; replace hF := rl9 hF hR; clear hR; go_simp; refine hK _ _ ⟨?_, ?_⟩; (· rw [listed_nil (by simp [go_sem, *])]; exact DW.refl _ _ _); clear hK K; try simp only [Act.put])
    co_apply opsV_nil
    exact hq _ _ hF ((h).set4 _)
  · decide
/-- one more turn -/
theorem g75_9 (hFR : ∀ w w₁, RW c C w w₁ → F w → F w₁) (hit : it < 10) (hF : F w) (h : FRm T p ws sv aw it m)
    (hq : ∀ T' w', F w' → FRm T' p ws sv aw (it + 1) m → Q N u .normal ⟨T', []⟩ w') : CodeV Try.prog c k C 75 (.region 9 o75_9 false) 40 N u Q ⟨T, []⟩ w := by
  have rl9 : ∀ {w w₁ : World}, F w → RW c C w w₁ → F w₁ := fun h r => hFR _ _ r h
  have hs := h.size
  have e5 := h.g5
  have w5 : IntKind.i64.wrap ((it : Int) + 1) = ((it + 1 : Nat) : Int) := by rw [IntKind.wrap_i64]; omega
  rw [show o75_9 = _ from (by unfold o75_9; simp only [Cd.a, Cd.b, Cd.t, Cd.e, Cd.k, Cd.l, Cd.o, Try.f75, Option.getD_some]; try rfl)]
  co_apply codeV_more
  · (co_apply codeV_region; simp only [List.size_toArray, List.length_cons, List.length_nil, Nat.reduceAdd, Nat.zero_add, List.range, List.range.loop])
    (co_apply opsV_cons_k rfl (by rfl); intro _ hR K hK; replace hF := rl9 hF hR; clear hR; go_simp; refine hK _ _ ⟨?_, ?_⟩; (· rw [listed_nil (by simp [go_sem, *])]; exact DW.refl _ _ _); clear hK K; try simp only [Act.put])
    (co_apply opsV_cons_k rfl (by rfl); intro _ hR K hK; replace hF := rl9 hF hR; clear hR; go_simp; refine hK _ _ ⟨?_, ?_⟩; (· rw [listed_nil (by simp [go_sem, *])]; exact DW.refl _ _ _); clear hK K; try simp only [Act.put])
    (co_apply opsV_cons_k rfl (by rfl); intro _ hR K hK; replace hF := rl9 hF hR; clear hR; go_simp; refine hK _ _ ⟨?_, ?_⟩; (· rw [listed_nil (by simp [go_sem, *])]; exact DW.refl _ _ _); clear hK K; try simp only [Act.put])
    co_apply opsV_nil
    exact hq _ _ hF ((((h).put 43 _ (by omega)).put 44 _ (by omega)).set5 _)
  · decide
/-- new := old -/
theorem g75_11 (hFR : ∀ w w₁, RW c C w w₁ → F w → F w₁)  (hF : F w) (h : FRm T p ws sv aw it m)
    (hq : ∀ T' w', F w' → FRm T' p ws sv aw it m → (T'[7]? = some (.int .i32 m.enc)) → Q N u .normal ⟨T', []⟩ w') : CodeV Try.prog c k C 75 (.region 11 o75_11 false) 40 N u Q ⟨T, []⟩ w := by
  have rl9 : ∀ {w w₁ : World}, F w → RW c C w w₁ → F w₁ := fun h r => hFR _ _ r h
  have hs := h.size
  have e6 := h.g6
  rw [show o75_11 = _ from (by unfold o75_11; simp only [Cd.a, Cd.b, Cd.t, Cd.e, Cd.k, Cd.l, Cd.o, Try.f75, Option.getD_some]; try rfl)]
  co_apply codeV_more
  · (co_apply codeV_region; simp only [List.size_toArray, List.length_cons, List.length_nil, Nat.reduceAdd, Nat.zero_add, List.range, List.range.loop])
    (co_apply opsV_cons_k rfl (by rfl); intro _ hR K hK; replace hF := rl9 hF hR; clear hR; go_simp; refine hK _ _ ⟨?_, ?_⟩; (· rw [listed_nil (by simp [go_sem, *])]; exact DW.refl _ _ _); clear hK K; try simp only [Act.put])
    (co_apply opsV_cons_k rfl (by rfl); intro _ hR K hK; replace hF := rl9 hF hR; clear hR; go_simp; refine hK _ _ ⟨?_, ?_⟩; (· rw [listed_nil (by simp [go_sem, *])]; exact DW.refl _ _ _); clear hK K; try simp only [Act.put])
    co_apply opsV_nil
    exact hq _ _ hF (((h).put 49 _ (by omega)).put 7 _ (by omega)) (by simp [*])
  · decide
/-- not starving? -/
theorem g75_12 (hFR : ∀ w w₁, RW c C w w₁ → F w → F w₁) (hm : m.wn < 80) {y : Int} (h7 : T[7]? = some (.int .i32 y)) (hF : F w) (h : FRm T p ws sv aw it m)
    (hq : ∀ T' w', F w' → FRm T' p ws sv aw it m → (T'[7]? = some (.int .i32 y)) → (T'[52]? = some (.bool !m.V)) → Q N u .normal ⟨T', []⟩ w') : CodeV Try.prog c k C 75 (.region 12 o75_12 false) 40 N u Q ⟨T, []⟩ w := by
  have rl9 : ∀ {w w₁ : World}, F w → RW c C w w₁ → F w₁ := fun h r => hFR _ _ r h
  have hs := h.size
  have e6 := h.g6
  have e7 := slot h.size (by omega) h7
  have a4 := and4 m hm
  rw [show o75_12 = _ from (by unfold o75_12; simp only [Cd.a, Cd.b, Cd.t, Cd.e, Cd.k, Cd.l, Cd.o, Try.f75, Option.getD_some]; try rfl)]
  cases hV : m.V <;> simp only [hV, if_true, if_false, Bool.false_eq_true] at a4
  · skip
    co_apply codeV_more
    · (co_apply codeV_region; simp only [List.size_toArray, List.length_cons, List.length_nil, Nat.reduceAdd, Nat.zero_add, List.range, List.range.loop])
      (co_apply opsV_cons_k rfl (by rfl); intro _ hR K hK; replace hF := rl9 hF hR; clear hR; go_simp; refine hK _ _ ⟨?_, ?_⟩; (· rw [listed_nil (by simp [go_sem, *])]; exact DW.refl _ _ _); clear hK K; try simp only [Act.put])
      (co_apply opsV_cons_k rfl (by rfl); intro _ hR K hK; replace hF := rl9 hF hR; clear hR; go_simp; refine hK _ _ ⟨?_, ?_⟩; (· rw [listed_nil (by simp [go_sem, *])]; exact DW.refl _ _ _); clear hK K; try simp only [Act.put])
      (co_apply opsV_cons_k rfl (by rfl); intro _ hR K hK; replace hF := rl9 hF hR; clear hR; go_simp; refine hK _ _ ⟨?_, ?_⟩; (· rw [listed_nil (by simp [go_sem, *])]; exact DW.refl _ _ _); clear hK K; try simp only [Act.put])
      co_apply opsV_nil
      exact hq _ _ hF ((((h).put 50 _ (by omega)).put 51 _ (by omega)).put 52 _ (by omega)) (by simp [*]) (by simp [*])
    · decide
  · skip
    co_apply codeV_more
    · (co_apply codeV_region; simp only [List.size_toArray, List.length_cons, List.length_nil, Nat.reduceAdd, Nat.zero_add, List.range, List.range.loop])
      (co_apply opsV_cons_k rfl (by rfl); intro _ hR K hK; replace hF := rl9 hF hR; clear hR; go_simp; refine hK _ _ ⟨?_, ?_⟩; (· rw [listed_nil (by simp [go_sem, *])]; exact DW.refl _ _ _); clear hK K; try simp only [Act.put])
      (co_apply opsV_cons_k rfl (by rfl); intro _ hR K hK; replace hF := rl9 hF hR; clear hR; go_simp; refine hK _ _ ⟨?_, ?_⟩; (· rw [listed_nil (by simp [go_sem, *])]; exact DW.refl _ _ _); clear hK K; try simp only [Act.put])
      (co_apply opsV_cons_k rfl (by rfl); intro _ hR K hK; replace hF := rl9 hF hR; clear hR; go_simp; refine hK _ _ ⟨?_, ?_⟩; (· rw [listed_nil (by simp [go_sem, *])]; exact DW.refl _ _ _); clear hK K; try simp only [Act.put])
      co_apply opsV_nil
      exact hq _ _ hF ((((h).put 50 _ (by omega)).put 51 _ (by omega)).put 52 _ (by omega)) (by simp [*]) (by simp [*])
    · decide
/-- lock -/
theorem g75_13 (hFR : ∀ w w₁, RW c C w w₁ → F w → F w₁) {y : Int} {z : Int} (h7 : T[7]? = some (.int .i32 y)) (hz : bits .or .i32 y 1 = z) (hF : F w) (h : FRm T p ws sv aw it m)
    (hq : ∀ T' w', F w' → FRm T' p ws sv aw it m → (T'[7]? = some (.int .i32 z)) → Q N u .normal ⟨T', []⟩ w') : CodeV Try.prog c k C 75 (.region 13 o75_13 false) 40 N u Q ⟨T, []⟩ w := by
  have rl9 : ∀ {w w₁ : World}, F w → RW c C w w₁ → F w₁ := fun h r => hFR _ _ r h
  have hs := h.size
  have e7 := slot h.size (by omega) h7
  rw [show o75_13 = _ from (by unfold o75_13; simp only [Cd.a, Cd.b, Cd.t, Cd.e, Cd.k, Cd.l, Cd.o, Try.f75, Option.getD_some]; try rfl)]
  co_apply codeV_more
  · (co_apply codeV_region; simp only [List.size_toArray, List.length_cons, List.length_nil, Nat.reduceAdd, Nat.zero_add, List.range, List.range.loop])
    (co_apply opsV_cons_k rfl (by rfl); intro _ hR K hK; replace hF := rl9 hF hR; clear hR; go_simp; refine hK _ _ ⟨?_, ?_⟩; (· rw [listed_nil (by simp [go_sem, *])]; exact DW.refl _ _ _); clear hK K; try simp only [Act.put])
    (co_apply opsV_cons_k rfl (by rfl); intro _ hR K hK; replace hF := rl9 hF hR; clear hR; go_simp; refine hK _ _ ⟨?_, ?_⟩; (· rw [listed_nil (by simp [go_sem, *])]; exact DW.refl _ _ _); clear hK K; try simp only [Act.put])
    (co_apply opsV_cons_k rfl (by rfl); intro _ hR K hK; replace hF := rl9 hF hR; clear hR; go_simp; refine hK _ _ ⟨?_, ?_⟩; (· rw [listed_nil (by simp [go_sem, *])]; exact DW.refl _ _ _); clear hK K; try simp only [Act.put])
    co_apply opsV_nil
    exact hq _ _ hF ((((h).put 53 _ (by omega)).put 54 _ (by omega)).put 7 _ (by omega)) (by simp [*])
  · decide
/-- held? -/
theorem g75_14 (hFR : ∀ w w₁, RW c C w w₁ → F w → F w₁) (hm : m.wn < 80) {y : Int} (h7 : T[7]? = some (.int .i32 y)) (hF : F w) (h : FRm T p ws sv aw it m)
    (hq : ∀ T' w', F w' → FRm T' p ws sv aw it m → (T'[7]? = some (.int .i32 y)) → (T'[57]? = some (.bool (m.L || m.V))) → Q N u .normal ⟨T', []⟩ w') : CodeV Try.prog c k C 75 (.region 14 o75_14 false) 40 N u Q ⟨T, []⟩ w := by
  have rl9 : ∀ {w w₁ : World}, F w → RW c C w w₁ → F w₁ := fun h r => hFR _ _ r h
  have hs := h.size
  have e6 := h.g6
  have e7 := slot h.size (by omega) h7
  have a5 := and5 m hm
  rw [show o75_14 = _ from (by unfold o75_14; simp only [Cd.a, Cd.b, Cd.t, Cd.e, Cd.k, Cd.l, Cd.o, Try.f75, Option.getD_some]; try rfl)]
  cases hL : m.L <;> cases hV : m.V <;> simp only [hL, hV, if_true, if_false, Bool.false_eq_true, Int.add_zero, Int.zero_add, Int.reduceAdd] at a5
  · skip
    co_apply codeV_more
    · (co_apply codeV_region; simp only [List.size_toArray, List.length_cons, List.length_nil, Nat.reduceAdd, Nat.zero_add, List.range, List.range.loop])
      (co_apply opsV_cons_k rfl (by rfl); intro _ hR K hK; replace hF := rl9 hF hR; clear hR; go_simp; refine hK _ _ ⟨?_, ?_⟩; (· rw [listed_nil (by simp [go_sem, *])]; exact DW.refl _ _ _); clear hK K; try simp only [Act.put])
      (co_apply opsV_cons_k rfl (by rfl); intro _ hR K hK; replace hF := rl9 hF hR; clear hR; go_simp; refine hK _ _ ⟨?_, ?_⟩; (· rw [listed_nil (by simp [go_sem, *])]; exact DW.refl _ _ _); clear hK K; try simp only [Act.put])
      (co_apply opsV_cons_k rfl (by rfl); intro _ hR K hK; replace hF := rl9 hF hR; clear hR; go_simp; refine hK _ _ ⟨?_, ?_⟩; (· rw [listed_nil (by simp [go_sem, *])]; exact DW.refl _ _ _); clear hK K; try simp only [Act.put])
      co_apply opsV_nil
      exact hq _ _ hF ((((h).put 55 _ (by omega)).put 56 _ (by omega)).put 57 _ (by omega)) (by simp [*]) (by simp [*])
    · decide
  · skip
    co_apply codeV_more
    · (co_apply codeV_region; simp only [List.size_toArray, List.length_cons, List.length_nil, Nat.reduceAdd, Nat.zero_add, List.range, List.range.loop])
      (co_apply opsV_cons_k rfl (by rfl); intro _ hR K hK; replace hF := rl9 hF hR; clear hR; go_simp; refine hK _ _ ⟨?_, ?_⟩; (· rw [listed_nil (by simp [go_sem, *])]; exact DW.refl _ _ _); clear hK K; try simp only [Act.put])
      (co_apply opsV_cons_k rfl (by rfl); intro _ hR K hK; replace hF := rl9 hF hR; clear hR; go_simp; refine hK _ _ ⟨?_, ?_⟩; (· rw [listed_nil (by simp [go_sem, *])]; exact DW.refl _ _ _); clear hK K; try simp only [Act.put])
      (co_apply opsV_cons_k rfl (by rfl); intro _ hR K hK; replace hF := rl9 hF hR; clear hR; go_simp; refine hK _ _ ⟨?_, ?_⟩; (· rw [listed_nil (by simp [go_sem, *])]; exact DW.refl _ _ _); clear hK K; try simp only [Act.put])
      co_apply opsV_nil
      exact hq _ _ hF ((((h).put 55 _ (by omega)).put 56 _ (by omega)).put 57 _ (by omega)) (by simp [*]) (by simp [*])
    · decide
  · skip
    co_apply codeV_more
    · (co_apply codeV_region; simp only [List.size_toArray, List.length_cons, List.length_nil, Nat.reduceAdd, Nat.zero_add, List.range, List.range.loop])
      (co_apply opsV_cons_k rfl (by rfl); intro _ hR K hK; replace hF := rl9 hF hR; clear hR; go_simp; refine hK _ _ ⟨?_, ?_⟩; (· rw [listed_nil (by simp [go_sem, *])]; exact DW.refl _ _ _); clear hK K; try simp only [Act.put])
      (co_apply opsV_cons_k rfl (by rfl); intro _ hR K hK; replace hF := rl9 hF hR; clear hR; go_simp; refine hK _ _ ⟨?_, ?_⟩; (· rw [listed_nil (by simp [go_sem, *])]; exact DW.refl _ _ _); clear hK K; try simp only [Act.put])
      (co_apply opsV_cons_k rfl (by rfl); intro _ hR K hK; replace hF := rl9 hF hR; clear hR; go_simp; refine hK _ _ ⟨?_, ?_⟩; (· rw [listed_nil (by simp [go_sem, *])]; exact DW.refl _ _ _); clear hK K; try simp only [Act.put])
      co_apply opsV_nil
      exact hq _ _ hF ((((h).put 55 _ (by omega)).put 56 _ (by omega)).put 57 _ (by omega)) (by simp [*]) (by simp [*])
    · decide
  · skip
    co_apply codeV_more
    · (co_apply codeV_region; simp only [List.size_toArray, List.length_cons, List.length_nil, Nat.reduceAdd, Nat.zero_add, List.range, List.range.loop])
      (co_apply opsV_cons_k rfl (by rfl); intro _ hR K hK; replace hF := rl9 hF hR; clear hR; go_simp; refine hK _ _ ⟨?_, ?_⟩; (· rw [listed_nil (by simp [go_sem, *])]; exact DW.refl _ _ _); clear hK K; try simp only [Act.put])
      (co_apply opsV_cons_k rfl (by rfl); intro _ hR K hK; replace hF := rl9 hF hR; clear hR; go_simp; refine hK _ _ ⟨?_, ?_⟩; (· rw [listed_nil (by simp [go_sem, *])]; exact DW.refl _ _ _); clear hK K; try simp only [Act.put])
      (co_apply opsV_cons_k rfl (by rfl); intro _ hR K hK; replace hF := rl9 hF hR; clear hR; go_simp; refine hK _ _ ⟨?_, ?_⟩; (· rw [listed_nil (by simp [go_sem, *])]; exact DW.refl _ _ _); clear hK K; try simp only [Act.put])
      co_apply opsV_nil
      exact hq _ _ hF ((((h).put 55 _ (by omega)).put 56 _ (by omega)).put 57 _ (by omega)) (by simp [*]) (by simp [*])
    · decide
/-- one more waits -/
theorem g75_15 (hFR : ∀ w w₁, RW c C w w₁ → F w → F w₁) {y : Int} {z : Int} (h7 : T[7]? = some (.int .i32 y)) (hz : IntKind.i32.wrap (y + 8) = z) (hF : F w) (h : FRm T p ws sv aw it m)
    (hq : ∀ T' w', F w' → FRm T' p ws sv aw it m → (T'[7]? = some (.int .i32 z)) → Q N u .normal ⟨T', []⟩ w') : CodeV Try.prog c k C 75 (.region 15 o75_15 false) 40 N u Q ⟨T, []⟩ w := by
  have rl9 : ∀ {w w₁ : World}, F w → RW c C w w₁ → F w₁ := fun h r => hFR _ _ r h
  have hs := h.size
  have e7 := slot h.size (by omega) h7
  rw [show o75_15 = _ from (by unfold o75_15; simp only [Cd.a, Cd.b, Cd.t, Cd.e, Cd.k, Cd.l, Cd.o, Try.f75, Option.getD_some]; try rfl)]
  co_apply codeV_more
  · (co_apply codeV_region; simp only [List.size_toArray, List.length_cons, List.length_nil, Nat.reduceAdd, Nat.zero_add, List.range, List.range.loop])
    (co_apply opsV_cons_k rfl (by rfl); intro _ hR K hK; replace hF := rl9 hF hR; clear hR; go_simp; refine hK _ _ ⟨?_, ?_⟩; (· rw [listed_nil (by simp [go_sem, *])]; exact DW.refl _ _ _); clear hK K; try simp only [Act.put])
    (co_apply opsV_cons_k rfl (by rfl); intro _ hR K hK; replace hF := rl9 hF hR; clear hR; go_simp; refine hK _ _ ⟨?_, ?_⟩; (· rw [listed_nil (by simp [go_sem, *])]; exact DW.refl _ _ _); clear hK K; try simp only [Act.put])
    (co_apply opsV_cons_k rfl (by rfl); intro _ hR K hK; replace hF := rl9 hF hR; clear hR; go_simp; refine hK _ _ ⟨?_, ?_⟩; (· rw [listed_nil (by simp [go_sem, *])]; exact DW.refl _ _ _); clear hK K; try simp only [Act.put])
    co_apply opsV_nil
    exact hq _ _ hF ((((h).put 58 _ (by omega)).put 59 _ (by omega)).put 7 _ (by omega)) (by simp [*])
  · decide
/-- to starve? -/
theorem g75_16 (hFR : ∀ w w₁, RW c C w w₁ → F w → F w₁) (hm : m.wn < 80) {y : Int} (h7 : T[7]? = some (.int .i32 y)) (hF : F w) (h : FRm T p ws sv aw it m)
    (hq : ∀ T' w', F w' → FRm T' p ws sv aw it m → (T'[7]? = some (.int .i32 y)) → (T'[65]? = some (.bool (sv && m.L))) → Q N u .normal ⟨T', []⟩ w') : CodeV Try.prog c k C 75 (.region 16 o75_16 false) 40 N u Q ⟨T, []⟩ w := by
  have rl9 : ∀ {w w₁ : World}, F w → RW c C w w₁ → F w₁ := fun h r => hFR _ _ r h
  have hs := h.size
  have e3 := h.g3
  have e6 := h.g6
  have e7 := slot h.size (by omega) h7
  have a1 := and1 m hm
  rw [show o75_16 = _ from (by unfold o75_16; simp only [Cd.a, Cd.b, Cd.t, Cd.e, Cd.k, Cd.l, Cd.o, Try.f75, Option.getD_some]; try rfl)]
  cases sv <;> cases hL : m.L <;> simp only [hL, if_true, if_false, Bool.false_eq_true] at a1
  · skip
    co_apply codeV_more
    · (co_apply codeV_region; simp only [List.size_toArray, List.length_cons, List.length_nil, Nat.reduceAdd, Nat.zero_add, List.range, List.range.loop])
      (co_apply opsV_cons_k rfl (by rfl); intro _ hR K hK; replace hF := rl9 hF hR; clear hR; go_simp; refine hK _ _ ⟨?_, ?_⟩; (· rw [listed_nil (by simp [go_sem, *])]; exact DW.refl _ _ _); clear hK K; try simp only [Act.put])
      (co_apply opsV_cons_k rfl (by rfl); intro _ hR K hK; replace hF := rl9 hF hR; clear hR; go_simp; refine hK _ _ ⟨?_, ?_⟩; (· rw [listed_nil (by simp [go_sem, *])]; exact DW.refl _ _ _); clear hK K; try simp only [Act.put])
      (co_apply opsV_unwanted rfl (by simp [Region.wanted, yielded, *]); try simp only [Act.put])
      (co_apply opsV_unwanted rfl (by simp [Region.wanted, yielded, *]); try simp only [Act.put])
      (co_apply opsV_unwanted rfl (by simp [Region.wanted, yielded, *]); try simp only [Act.put])
      (co_apply opsV_cons_k rfl (by rfl); intro _ hR K hK; replace hF := rl9 hF hR; clear hR; go_simp; refine hK _ _ ⟨?_, ?_⟩; (· rw [listed_nil (by simp [go_sem, *])]; exact DW.refl _ _ _); clear hK K; try simp only [Act.put])
      co_apply opsV_nil
      exact hq _ _ hF (((((((h).put 60 _ (by omega)).put 61 _ (by omega)).put 62 _ (by omega)).put 63 _ (by omega)).put 64 _ (by omega)).put 65 _ (by omega)) (by simp [*]) (by simp [*])
    · decide
  · skip
    co_apply codeV_more
    · (co_apply codeV_region; simp only [List.size_toArray, List.length_cons, List.length_nil, Nat.reduceAdd, Nat.zero_add, List.range, List.range.loop])
      (co_apply opsV_cons_k rfl (by rfl); intro _ hR K hK; replace hF := rl9 hF hR; clear hR; go_simp; refine hK _ _ ⟨?_, ?_⟩; (· rw [listed_nil (by simp [go_sem, *])]; exact DW.refl _ _ _); clear hK K; try simp only [Act.put])
      (co_apply opsV_cons_k rfl (by rfl); intro _ hR K hK; replace hF := rl9 hF hR; clear hR; go_simp; refine hK _ _ ⟨?_, ?_⟩; (· rw [listed_nil (by simp [go_sem, *])]; exact DW.refl _ _ _); clear hK K; try simp only [Act.put])
      (co_apply opsV_unwanted rfl (by simp [Region.wanted, yielded, *]); try simp only [Act.put])
      (co_apply opsV_unwanted rfl (by simp [Region.wanted, yielded, *]); try simp only [Act.put])
      (co_apply opsV_unwanted rfl (by simp [Region.wanted, yielded, *]); try simp only [Act.put])
      (co_apply opsV_cons_k rfl (by rfl); intro _ hR K hK; replace hF := rl9 hF hR; clear hR; go_simp; refine hK _ _ ⟨?_, ?_⟩; (· rw [listed_nil (by simp [go_sem, *])]; exact DW.refl _ _ _); clear hK K; try simp only [Act.put])
      co_apply opsV_nil
      exact hq _ _ hF (((((((h).put 60 _ (by omega)).put 61 _ (by omega)).put 62 _ (by omega)).put 63 _ (by omega)).put 64 _ (by omega)).put 65 _ (by omega)) (by simp [*]) (by simp [*])
    · decide
  · skip
    co_apply codeV_more
    · (co_apply codeV_region; simp only [List.size_toArray, List.length_cons, List.length_nil, Nat.reduceAdd, Nat.zero_add, List.range, List.range.loop])
      (co_apply opsV_cons_k rfl (by rfl); intro _ hR K hK; replace hF := rl9 hF hR; clear hR; go_simp; refine hK _ _ ⟨?_, ?_⟩; (· rw [listed_nil (by simp [go_sem, *])]; exact DW.refl _ _ _); clear hK K; try simp only [Act.put])
      (co_apply opsV_cons_k rfl (by rfl); intro _ hR K hK; replace hF := rl9 hF hR; clear hR; go_simp; refine hK _ _ ⟨?_, ?_⟩; (· rw [listed_nil (by simp [go_sem, *])]; exact DW.refl _ _ _); clear hK K; try simp only [Act.put])
      (co_apply opsV_cons_k rfl (by simp [Region.wanted, yielded, *]); intro _ hR K hK; replace hF := rl9 hF hR; clear hR; go_simp; refine hK _ _ ⟨?_, ?_⟩; (· rw [listed_nil (by simp [go_sem, *])]; exact DW.refl _ _ _); clear hK K; try simp only [Act.put])
      (co_apply opsV_cons_k rfl (by simp [Region.wanted, yielded, *]); intro _ hR K hK; replace hF := rl9 hF hR; clear hR; go_simp; refine hK _ _ ⟨?_, ?_⟩; (· rw [listed_nil (by simp [go_sem, *])]; exact DW.refl _ _ _); clear hK K; try simp only [Act.put])
      (co_apply opsV_cons_k rfl (by simp [Region.wanted, yielded, *]); intro _ hR K hK; replace hF := rl9 hF hR; clear hR; go_simp; refine hK _ _ ⟨?_, ?_⟩; (· rw [listed_nil (by simp [go_sem, *])]; exact DW.refl _ _ _); clear hK K; try simp only [Act.put])
      (co_apply opsV_cons_k rfl (by rfl); intro _ hR K hK; replace hF := rl9 hF hR; clear hR; go_simp; refine hK _ _ ⟨?_, ?_⟩; (· rw [listed_nil (by simp [go_sem, *])]; exact DW.refl _ _ _); clear hK K; try simp only [Act.put])
      co_apply opsV_nil
      exact hq _ _ hF (((((((h).put 60 _ (by omega)).put 61 _ (by omega)).put 62 _ (by omega)).put 63 _ (by omega)).put 64 _ (by omega)).put 65 _ (by omega)) (by simp [*]) (by simp [*])
    · decide
  · skip
    co_apply codeV_more
    · (co_apply codeV_region; simp only [List.size_toArray, List.length_cons, List.length_nil, Nat.reduceAdd, Nat.zero_add, List.range, List.range.loop])
      (co_apply opsV_cons_k rfl (by rfl); intro _ hR K hK; replace hF := rl9 hF hR; clear hR; go_simp; refine hK _ _ ⟨?_, ?_⟩; (· rw [listed_nil (by simp [go_sem, *])]; exact DW.refl _ _ _); clear hK K; try simp only [Act.put])
      (co_apply opsV_cons_k rfl (by rfl); intro _ hR K hK; replace hF := rl9 hF hR; clear hR; go_simp; refine hK _ _ ⟨?_, ?_⟩; (· rw [listed_nil (by simp [go_sem, *])]; exact DW.refl _ _ _); clear hK K; try simp only [Act.put])
      (co_apply opsV_cons_k rfl (by simp [Region.wanted, yielded, *]); intro _ hR K hK; replace hF := rl9 hF hR; clear hR; go_simp; refine hK _ _ ⟨?_, ?_⟩; (· rw [listed_nil (by simp [go_sem, *])]; exact DW.refl _ _ _); clear hK K; try simp only [Act.put])
      (co_apply opsV_cons_k rfl (by simp [Region.wanted, yielded, *]); intro _ hR K hK; replace hF := rl9 hF hR; clear hR; go_simp; refine hK _ _ ⟨?_, ?_⟩; (· rw [listed_nil (by simp [go_sem, *])]; exact DW.refl _ _ _); clear hK K; try simp only [Act.put])
      (co_apply opsV_cons_k rfl (by simp [Region.wanted, yielded, *]); intro _ hR K hK; replace hF := rl9 hF hR; clear hR; go_simp; refine hK _ _ ⟨?_, ?_⟩; (· rw [listed_nil (by simp [go_sem, *])]; exact DW.refl _ _ _); clear hK K; try simp only [Act.put])
      (co_apply opsV_cons_k rfl (by rfl); intro _ hR K hK; replace hF := rl9 hF hR; clear hR; go_simp; refine hK _ _ ⟨?_, ?_⟩; (· rw [listed_nil (by simp [go_sem, *])]; exact DW.refl _ _ _); clear hK K; try simp only [Act.put])
      co_apply opsV_nil
      exact hq _ _ hF (((((((h).put 60 _ (by omega)).put 61 _ (by omega)).put 62 _ (by omega)).put 63 _ (by omega)).put 64 _ (by omega)).put 65 _ (by omega)) (by simp [*]) (by simp [*])
    · decide
/-- starving -/
theorem g75_17 (hFR : ∀ w w₁, RW c C w w₁ → F w → F w₁) {y : Int} {z : Int} (h7 : T[7]? = some (.int .i32 y)) (hz : bits .or .i32 y 4 = z) (hF : F w) (h : FRm T p ws sv aw it m)
    (hq : ∀ T' w', F w' → FRm T' p ws sv aw it m → (T'[7]? = some (.int .i32 z)) → Q N u .normal ⟨T', []⟩ w') : CodeV Try.prog c k C 75 (.region 17 o75_17 false) 40 N u Q ⟨T, []⟩ w := by
  have rl9 : ∀ {w w₁ : World}, F w → RW c C w w₁ → F w₁ := fun h r => hFR _ _ r h
  have hs := h.size
  have e7 := slot h.size (by omega) h7
  rw [show o75_17 = _ from (by unfold o75_17; simp only [Cd.a, Cd.b, Cd.t, Cd.e, Cd.k, Cd.l, Cd.o, Try.f75, Option.getD_some]; try rfl)]
  co_apply codeV_more
  · (co_apply codeV_region; simp only [List.size_toArray, List.length_cons, List.length_nil, Nat.reduceAdd, Nat.zero_add, List.range, List.range.loop])
    (co_apply opsV_cons_k rfl (by rfl); intro _ hR K hK; replace hF := rl9 hF hR; clear hR; go_simp; refine hK _ _ ⟨?_, ?_⟩; (· rw [listed_nil (by simp [go_sem, *])]; exact DW.refl _ _ _); clear hK K; try simp only [Act.put])
    (co_apply opsV_cons_k rfl (by rfl); intro _ hR K hK; replace hF := rl9 hF hR; clear hR; go_simp; refine hK _ _ ⟨?_, ?_⟩; (· rw [listed_nil (by simp [go_sem, *])]; exact DW.refl _ _ _); clear hK K; try simp only [Act.put])
    (co_apply opsV_cons_k rfl (by rfl); intro _ hR K hK; replace hF := rl9 hF hR; clear hR; go_simp; refine hK _ _ ⟨?_, ?_⟩; (· rw [listed_nil (by simp [go_sem, *])]; exact DW.refl _ _ _); clear hK K; try simp only [Act.put])
    co_apply opsV_nil
    exact hq _ _ hF ((((h).put 66 _ (by omega)).put 67 _ (by omega)).put 7 _ (by omega)) (by simp [*])
  · decide
/-- awoke? -/
theorem g75_18 (hFR : ∀ w w₁, RW c C w w₁ → F w → F w₁) {y : Int} (h7 : T[7]? = some (.int .i32 y)) (hF : F w) (h : FRm T p ws sv aw it m)
    (hq : ∀ T' w', F w' → FRm T' p ws sv aw it m → (T'[7]? = some (.int .i32 y)) → (T'[68]? = some (.bool aw)) → Q N u .normal ⟨T', []⟩ w') : CodeV Try.prog c k C 75 (.region 18 o75_18 false) 40 N u Q ⟨T, []⟩ w := by
  have rl9 : ∀ {w w₁ : World}, F w → RW c C w w₁ → F w₁ := fun h r => hFR _ _ r h
  have hs := h.size
  have e4 := h.g4
  have e7 := slot h.size (by omega) h7
  rw [show o75_18 = _ from (by unfold o75_18; simp only [Cd.a, Cd.b, Cd.t, Cd.e, Cd.k, Cd.l, Cd.o, Try.f75, Option.getD_some]; try rfl)]
  co_apply codeV_more
  · (co_apply codeV_region; simp only [List.size_toArray, List.length_cons, List.length_nil, Nat.reduceAdd, Nat.zero_add, List.range, List.range.loop])
    (co_apply opsV_cons_k rfl (by rfl); intro _ hR K hK; replace hF := rl9 hF hR; clear hR; go_simp; refine hK _ _ ⟨?_, ?_⟩; (· rw [listed_nil (by simp [go_sem, *])]; exact DW.refl _ _ _); clear hK K; try simp only [Act.put])
    co_apply opsV_nil
    exact hq _ _ hF ((h).put 68 _ (by omega)) (by simp [*]) (by simp [*])
  · decide
/-- consistent -/
theorem g75_19 (hFR : ∀ w w₁, RW c C w w₁ → F w → F w₁) {y : Int} (h7 : T[7]? = some (.int .i32 y)) (hz : bits .and .i32 y 2 = 2) (hF : F w) (h : FRm T p ws sv aw it m)
    (hq : ∀ T' w', F w' → FRm T' p ws sv aw it m → (T'[7]? = some (.int .i32 y)) → (T'[71]? = some (.bool false)) → Q N u .normal ⟨T', []⟩ w') : CodeV Try.prog c k C 75 (.region 19 o75_19 false) 40 N u Q ⟨T, []⟩ w := by
  have rl9 : ∀ {w w₁ : World}, F w → RW c C w w₁ → F w₁ := fun h r => hFR _ _ r h
  have hs := h.size
  have e7 := slot h.size (by omega) h7
  rw [show o75_19 = _ from (by unfold o75_19; simp only [Cd.a, Cd.b, Cd.t, Cd.e, Cd.k, Cd.l, Cd.o, Try.f75, Option.getD_some]; try rfl)]
  co_apply codeV_more
  · (co_apply codeV_region; simp only [List.size_toArray, List.length_cons, List.length_nil, Nat.reduceAdd, Nat.zero_add, List.range, List.range.loop])
    (co_apply opsV_cons_k rfl (by rfl); intro _ hR K hK; replace hF := rl9 hF hR; clear hR; go_simp; refine hK _ _ ⟨?_, ?_⟩; (· rw [listed_nil (by simp [go_sem, *])]; exact DW.refl _ _ _); clear hK K; try simp only [Act.put])
    (co_apply opsV_cons_k rfl (by rfl); intro _ hR K hK; replace hF := rl9 hF hR; clear hR; go_simp; refine hK _ _ ⟨?_, ?_⟩; (· rw [listed_nil (by simp [go_sem, *])]; exact DW.refl _ _ _); clear hK K; try simp only [Act.put])
    (co_apply opsV_cons_k rfl (by rfl); intro _ hR K hK; replace hF := rl9 hF hR; clear hR; go_simp; refine hK _ _ ⟨?_, ?_⟩; (· rw [listed_nil (by simp [go_sem, *])]; exact DW.refl _ _ _); clear hK K; try simp only [Act.put])
    co_apply opsV_nil
    exact hq _ _ hF ((((h).put 69 _ (by omega)).put 70 _ (by omega)).put 71 _ (by omega)) (by simp [*]) (by simp [*])
  · decide
/-- woken no more -/
theorem g75_21 (hFR : ∀ w w₁, RW c C w w₁ → F w → F w₁) {y : Int} {z : Int} (h7 : T[7]? = some (.int .i32 y)) (hz : bits .andNot .i32 y 2 = z) (hF : F w) (h : FRm T p ws sv aw it m)
    (hq : ∀ T' w', F w' → FRm T' p ws sv aw it m → (T'[7]? = some (.int .i32 z)) → Q N u .normal ⟨T', []⟩ w') : CodeV Try.prog c k C 75 (.region 21 o75_21 false) 40 N u Q ⟨T, []⟩ w := by
  have rl9 : ∀ {w w₁ : World}, F w → RW c C w w₁ → F w₁ := fun h r => hFR _ _ r h
  have hs := h.size
  have e7 := slot h.size (by omega) h7
  rw [show o75_21 = _ from (by unfold o75_21; simp only [Cd.a, Cd.b, Cd.t, Cd.e, Cd.k, Cd.l, Cd.o, Try.f75, Option.getD_some]; try rfl)]
  co_apply codeV_more
  · (co_apply codeV_region; simp only [List.size_toArray, List.length_cons, List.length_nil, Nat.reduceAdd, Nat.zero_add, List.range, List.range.loop])
    (co_apply opsV_cons_k rfl (by rfl); intro _ hR K hK; replace hF := rl9 hF hR; clear hR; go_simp; refine hK _ _ ⟨?_, ?_⟩; (· rw [listed_nil (by simp [go_sem, *])]; exact DW.refl _ _ _); clear hK K; try simp only [Act.put])
    (co_apply opsV_cons_k rfl (by rfl); intro _ hR K hK; replace hF := rl9 hF hR; clear hR; go_simp; refine hK _ _ ⟨?_, ?_⟩; (· rw [listed_nil (by simp [go_sem, *])]; exact DW.refl _ _ _); clear hK K; try simp only [Act.put])
    (co_apply opsV_cons_k rfl (by rfl); intro _ hR K hK; replace hF := rl9 hF hR; clear hR; go_simp; refine hK _ _ ⟨?_, ?_⟩; (· rw [listed_nil (by simp [go_sem, *])]; exact DW.refl _ _ _); clear hK K; try simp only [Act.put])
    co_apply opsV_nil
    exact hq _ _ hF ((((h).put 73 _ (by omega)).put 74 _ (by omega)).put 7 _ (by omega)) (by simp [*])
  · decide
/-- free? -/
theorem g75_23 (hFR : ∀ w w₁, RW c C w w₁ → F w → F w₁) (hm : m.wn < 80) (hF : F w) (h : FRm T p ws sv aw it m)
    (hq : ∀ T' w', F w' → FRm T' p ws sv aw it m → (T'[83]? = some (.bool (!m.L && !m.V))) → Q N u .normal ⟨T', []⟩ w') : CodeV Try.prog c k C 75 (.region 23 o75_23 false) 40 N u Q ⟨T, []⟩ w := by
  have rl9 : ∀ {w w₁ : World}, F w → RW c C w w₁ → F w₁ := fun h r => hFR _ _ r h
  have hs := h.size
  have e6 := h.g6
  have a5 := and5 m hm
  rw [show o75_23 = _ from (by unfold o75_23; simp only [Cd.a, Cd.b, Cd.t, Cd.e, Cd.k, Cd.l, Cd.o, Try.f75, Option.getD_some]; try rfl)]
  cases hL : m.L <;> cases hV : m.V <;> simp only [hL, hV, if_true, if_false, Bool.false_eq_true, Int.add_zero, Int.zero_add, Int.reduceAdd] at a5
  · skip
    co_apply codeV_more
    · (co_apply codeV_region; simp only [List.size_toArray, List.length_cons, List.length_nil, Nat.reduceAdd, Nat.zero_add, List.range, List.range.loop])
      (co_apply opsV_cons_k rfl (by rfl); intro _ hR K hK; replace hF := rl9 hF hR; clear hR; go_simp; refine hK _ _ ⟨?_, ?_⟩; (· rw [listed_nil (by simp [go_sem, *])]; exact DW.refl _ _ _); clear hK K; try simp only [Act.put])
      (co_apply opsV_cons_k rfl (by rfl); intro _ hR K hK; replace hF := rl9 hF hR; clear hR; go_simp; refine hK _ _ ⟨?_, ?_⟩; (· rw [listed_nil (by simp [go_sem, *])]; exact DW.refl _ _ _); clear hK K; try simp only [Act.put])
      (co_apply opsV_cons_k rfl (by rfl); intro _ hR K hK; replace hF := rl9 hF hR; clear hR; go_simp; refine hK _ _ ⟨?_, ?_⟩; (· rw [listed_nil (by simp [go_sem, *])]; exact DW.refl _ _ _); clear hK K; try simp only [Act.put])
      co_apply opsV_nil
      exact hq _ _ hF ((((h).put 81 _ (by omega)).put 82 _ (by omega)).put 83 _ (by omega)) (by simp [*])
    · decide
  · skip
    co_apply codeV_more
    · (co_apply codeV_region; simp only [List.size_toArray, List.length_cons, List.length_nil, Nat.reduceAdd, Nat.zero_add, List.range, List.range.loop])
      (co_apply opsV_cons_k rfl (by rfl); intro _ hR K hK; replace hF := rl9 hF hR; clear hR; go_simp; refine hK _ _ ⟨?_, ?_⟩; (· rw [listed_nil (by simp [go_sem, *])]; exact DW.refl _ _ _); clear hK K; try simp only [Act.put])
      (co_apply opsV_cons_k rfl (by rfl); intro _ hR K hK; replace hF := rl9 hF hR; clear hR; go_simp; refine hK _ _ ⟨?_, ?_⟩; (· rw [listed_nil (by simp [go_sem, *])]; exact DW.refl _ _ _); clear hK K; try simp only [Act.put])
      (co_apply opsV_cons_k rfl (by rfl); intro _ hR K hK; replace hF := rl9 hF hR; clear hR; go_simp; refine hK _ _ ⟨?_, ?_⟩; (· rw [listed_nil (by simp [go_sem, *])]; exact DW.refl _ _ _); clear hK K; try simp only [Act.put])
      co_apply opsV_nil
      exact hq _ _ hF ((((h).put 81 _ (by omega)).put 82 _ (by omega)).put 83 _ (by omega)) (by simp [*])
    · decide
  · skip
    co_apply codeV_more
    · (co_apply codeV_region; simp only [List.size_toArray, List.length_cons, List.length_nil, Nat.reduceAdd, Nat.zero_add, List.range, List.range.loop])
      (co_apply opsV_cons_k rfl (by rfl); intro _ hR K hK; replace hF := rl9 hF hR; clear hR; go_simp; refine hK _ _ ⟨?_, ?_⟩; (· rw [listed_nil (by simp [go_sem, *])]; exact DW.refl _ _ _); clear hK K; try simp only [Act.put])
      (co_apply opsV_cons_k rfl (by rfl); intro _ hR K hK; replace hF := rl9 hF hR; clear hR; go_simp; refine hK _ _ ⟨?_, ?_⟩; (· rw [listed_nil (by simp [go_sem, *])]; exact DW.refl _ _ _); clear hK K; try simp only [Act.put])
      (co_apply opsV_cons_k rfl (by rfl); intro _ hR K hK; replace hF := rl9 hF hR; clear hR; go_simp; refine hK _ _ ⟨?_, ?_⟩; (· rw [listed_nil (by simp [go_sem, *])]; exact DW.refl _ _ _); clear hK K; try simp only [Act.put])
      co_apply opsV_nil
      exact hq _ _ hF ((((h).put 81 _ (by omega)).put 82 _ (by omega)).put 83 _ (by omega)) (by simp [*])
    · decide
  · skip
    co_apply codeV_more
    · (co_apply codeV_region; simp only [List.size_toArray, List.length_cons, List.length_nil, Nat.reduceAdd, Nat.zero_add, List.range, List.range.loop])
      (co_apply opsV_cons_k rfl (by rfl); intro _ hR K hK; replace hF := rl9 hF hR; clear hR; go_simp; refine hK _ _ ⟨?_, ?_⟩; (· rw [listed_nil (by simp [go_sem, *])]; exact DW.refl _ _ _); clear hK K; try simp only [Act.put])
      (co_apply opsV_cons_k rfl (by rfl); intro _ hR K hK; replace hF := rl9 hF hR; clear hR; go_simp; refine hK _ _ ⟨?_, ?_⟩; (· rw [listed_nil (by simp [go_sem, *])]; exact DW.refl _ _ _); clear hK K; try simp only [Act.put])
      (co_apply opsV_cons_k rfl (by rfl); intro _ hR K hK; replace hF := rl9 hF hR; clear hR; go_simp; refine hK _ _ ⟨?_, ?_⟩; (· rw [listed_nil (by simp [go_sem, *])]; exact DW.refl _ _ _); clear hK K; try simp only [Act.put])
      co_apply opsV_nil
      exact hq _ _ hF ((((h).put 81 _ (by omega)).put 82 _ (by omega)).put 83 _ (by omega)) (by simp [*])
    · decide
/-- in front? -/
theorem g75_24 (hFR : ∀ w w₁, RW c C w w₁ → F w → F w₁)  (hF : F w) (h : FRm T p ws sv aw it m)
    (hq : ∀ T' w', F w' → FRm T' p ws sv aw it m → (∃ b, T'[8]? = some (.bool b)) → Q N u .normal ⟨T', []⟩ w') : CodeV Try.prog c k C 75 (.region 24 o75_24 false) 40 N u Q ⟨T, []⟩ w := by
  have rl9 : ∀ {w w₁ : World}, F w → RW c C w w₁ → F w₁ := fun h r => hFR _ _ r h
  have hs := h.size
  have e2 := h.g2
  rw [show o75_24 = _ from (by unfold o75_24; simp only [Cd.a, Cd.b, Cd.t, Cd.e, Cd.k, Cd.l, Cd.o, Try.f75, Option.getD_some]; try rfl)]
  co_apply codeV_more
  · (co_apply codeV_region; simp only [List.size_toArray, List.length_cons, List.length_nil, Nat.reduceAdd, Nat.zero_add, List.range, List.range.loop])
    (co_apply opsV_cons_k rfl (by rfl); intro _ hR K hK; replace hF := rl9 hF hR; clear hR; go_simp; refine hK _ _ ⟨?_, ?_⟩; (· rw [listed_nil (by simp [go_sem, *])]; exact DW.refl _ _ _); clear hK K; try simp only [Act.put])
    (co_apply opsV_cons_k rfl (by rfl); intro _ hR K hK; replace hF := rl9 hF hR; clear hR; go_simp; refine hK _ _ ⟨?_, ?_⟩; (· rw [listed_nil (by simp [go_sem, *])]; exact DW.refl _ _ _); clear hK K; try simp only [Act.put])
    (co_apply opsV_cons_k rfl (by rfl); intro _ hR K hK; replace hF := rl9 hF hR; clear hR; go_simp; refine hK _ _ ⟨?_, ?_⟩; (· rw [listed_nil (by simp [go_sem, *])]; exact DW.refl _ _ _); clear hK K; try simp only [Act.put])
    co_apply opsV_nil
    exact hq _ _ hF ((((h).put 84 _ (by omega)).put 85 _ (by omega)).put 8 _ (by omega)) (⟨_, by simp [*]; rfl⟩)
  · decide
/-- the first time? -/
theorem g75_25 (hFR : ∀ w w₁, RW c C w w₁ → F w → F w₁) {q : Bool} (h8 : T[8]? = some (.bool q)) (hF : F w) (h : FRm T p ws sv aw it m)
    (hq : ∀ T' w', F w' → FRm T' p ws sv aw it m → (T'[8]? = some (.bool q)) → (∃ b, T'[87]? = some (.bool b)) → Q N u .normal ⟨T', []⟩ w') : CodeV Try.prog c k C 75 (.region 25 o75_25 false) 40 N u Q ⟨T, []⟩ w := by
  have rl9 : ∀ {w w₁ : World}, F w → RW c C w w₁ → F w₁ := fun h r => hFR _ _ r h
  have hs := h.size
  have e2 := h.g2
  have e8 := slot h.size (by omega) h8
  rw [show o75_25 = _ from (by unfold o75_25; simp only [Cd.a, Cd.b, Cd.t, Cd.e, Cd.k, Cd.l, Cd.o, Try.f75, Option.getD_some]; try rfl)]
  co_apply codeV_more
  · (co_apply codeV_region; simp only [List.size_toArray, List.length_cons, List.length_nil, Nat.reduceAdd, Nat.zero_add, List.range, List.range.loop])
    (co_apply opsV_cons_k rfl (by rfl); intro _ hR K hK; replace hF := rl9 hF hR; clear hR; go_simp; refine hK _ _ ⟨?_, ?_⟩; (· rw [listed_nil (by simp [go_sem, *])]; exact DW.refl _ _ _); clear hK K; try simp only [Act.put])
    (co_apply opsV_cons_k rfl (by rfl); intro _ hR K hK; replace hF := rl9 hF hR; clear hR; go_simp; refine hK _ _ ⟨?_, ?_⟩; (· rw [listed_nil (by simp [go_sem, *])]; exact DW.refl _ _ _); clear hK K; try simp only [Act.put])
    co_apply opsV_nil
    exact hq _ _ hF (((h).put 86 _ (by omega)).put 87 _ (by omega)) (by simp [*]) (⟨_, by simp [*]; rfl⟩)
  · decide
/-- starving? -/
theorem g75_30 (hFR : ∀ w w₁, RW c C w w₁ → F w → F w₁) (hm : m.wn < 80) (hF : F w) (h : FRm T p ws sv aw it m)
    (hq : ∀ T' w', F w' → FRm T' p ws sv aw it m → (T'[107]? = some (.bool m.V)) → Q N u .normal ⟨T', []⟩ w') : CodeV Try.prog c k C 75 (.region 30 o75_30 false) 40 N u Q ⟨T, []⟩ w := by
  have rl9 : ∀ {w w₁ : World}, F w → RW c C w w₁ → F w₁ := fun h r => hFR _ _ r h
  have hs := h.size
  have e6 := h.g6
  have a4 := and4 m hm
  rw [show o75_30 = _ from (by unfold o75_30; simp only [Cd.a, Cd.b, Cd.t, Cd.e, Cd.k, Cd.l, Cd.o, Try.f75, Option.getD_some]; try rfl)]
  cases hV : m.V <;> simp only [hV, if_true, if_false, Bool.false_eq_true] at a4
  · skip
    co_apply codeV_more
    · (co_apply codeV_region; simp only [List.size_toArray, List.length_cons, List.length_nil, Nat.reduceAdd, Nat.zero_add, List.range, List.range.loop])
      (co_apply opsV_cons_k rfl (by rfl); intro _ hR K hK; replace hF := rl9 hF hR; clear hR; go_simp; refine hK _ _ ⟨?_, ?_⟩; (· rw [listed_nil (by simp [go_sem, *])]; exact DW.refl _ _ _); clear hK K; try simp only [Act.put])
      (co_apply opsV_cons_k rfl (by rfl); intro _ hR K hK; replace hF := rl9 hF hR; clear hR; go_simp; refine hK _ _ ⟨?_, ?_⟩; (· rw [listed_nil (by simp [go_sem, *])]; exact DW.refl _ _ _); clear hK K; try simp only [Act.put])
      (co_apply opsV_cons_k rfl (by rfl); intro _ hR K hK; replace hF := rl9 hF hR; clear hR; go_simp; refine hK _ _ ⟨?_, ?_⟩; (· rw [listed_nil (by simp [go_sem, *])]; exact DW.refl _ _ _); clear hK K; try simp only [Act.put])
      co_apply opsV_nil
      exact hq _ _ hF ((((h).put 105 _ (by omega)).put 106 _ (by omega)).put 107 _ (by omega)) (by simp [*])
    · decide
  · skip
    co_apply codeV_more
    · (co_apply codeV_region; simp only [List.size_toArray, List.length_cons, List.length_nil, Nat.reduceAdd, Nat.zero_add, List.range, List.range.loop])
      (co_apply opsV_cons_k rfl (by rfl); intro _ hR K hK; replace hF := rl9 hF hR; clear hR; go_simp; refine hK _ _ ⟨?_, ?_⟩; (· rw [listed_nil (by simp [go_sem, *])]; exact DW.refl _ _ _); clear hK K; try simp only [Act.put])
      (co_apply opsV_cons_k rfl (by rfl); intro _ hR K hK; replace hF := rl9 hF hR; clear hR; go_simp; refine hK _ _ ⟨?_, ?_⟩; (· rw [listed_nil (by simp [go_sem, *])]; exact DW.refl _ _ _); clear hK K; try simp only [Act.put])
      (co_apply opsV_cons_k rfl (by rfl); intro _ hR K hK; replace hF := rl9 hF hR; clear hR; go_simp; refine hK _ _ ⟨?_, ?_⟩; (· rw [listed_nil (by simp [go_sem, *])]; exact DW.refl _ _ _); clear hK K; try simp only [Act.put])
      co_apply opsV_nil
      exact hq _ _ hF ((((h).put 105 _ (by omega)).put 106 _ (by omega)).put 107 _ (by omega)) (by simp [*])
    · decide
/-- inconsistent? -/
theorem g75_31 (hFR : ∀ w w₁, RW c C w w₁ → F w → F w₁) (hm : m.wn < 80) (hL : m.L = false) (hK : m.K = false) (hw : m.wn ≠ 0) (hF : F w) (h : FRm T p ws sv aw it m)
    (hq : ∀ T' w', F w' → FRm T' p ws sv aw it m → (T'[115]? = some (.bool false)) → Q N u .normal ⟨T', []⟩ w') : CodeV Try.prog c k C 75 (.region 31 o75_31 false) 40 N u Q ⟨T, []⟩ w := by
  have rl9 : ∀ {w w₁ : World}, F w → RW c C w w₁ → F w₁ := fun h r => hFR _ _ r h
  have hs := h.size
  have e6 := h.g6
  have a3 := and3 m hm
  have s3 := shr3 m hm
  have w3 : ¬ (m.wn : Int) = 0 := by omega
  rw [show o75_31 = _ from (by unfold o75_31; simp only [Cd.a, Cd.b, Cd.t, Cd.e, Cd.k, Cd.l, Cd.o, Try.f75, Option.getD_some]; try rfl)]
  simp only [hL, hK, if_false, Bool.false_eq_true, Int.add_zero] at a3
  co_apply codeV_more
  · (co_apply codeV_region; simp only [List.size_toArray, List.length_cons, List.length_nil, Nat.reduceAdd, Nat.zero_add, List.range, List.range.loop])
    (co_apply opsV_cons_k rfl (by rfl); intro _ hR K hK; replace hF := rl9 hF hR; clear hR; go_simp; refine hK _ _ ⟨?_, ?_⟩; (· rw [listed_nil (by simp [go_sem, *])]; exact DW.refl _ _ _); clear hK K; try simp only [Act.put])
    (co_apply opsV_cons_k rfl (by rfl); intro _ hR K hK; replace hF := rl9 hF hR; clear hR; go_simp; refine hK _ _ ⟨?_, ?_⟩; (· rw [listed_nil (by simp [go_sem, *])]; exact DW.refl _ _ _); clear hK K; try simp only [Act.put])
    (co_apply opsV_cons_k rfl (by rfl); intro _ hR K hK; replace hF := rl9 hF hR; clear hR; go_simp; refine hK _ _ ⟨?_, ?_⟩; (· rw [listed_nil (by simp [go_sem, *])]; exact DW.refl _ _ _); clear hK K; try simp only [Act.put])
    (co_apply opsV_cons_k rfl (by rfl); intro _ hR K hK; replace hF := rl9 hF hR; clear hR; go_simp; refine hK _ _ ⟨?_, ?_⟩; (· rw [listed_nil (by simp [go_sem, *])]; exact DW.refl _ _ _); clear hK K; try simp only [Act.put])
    (co_apply opsV_cons_k rfl (by simp [Region.wanted, yielded, *]); intro _ hR K hK; replace hF := rl9 hF hR; clear hR; go_simp; refine hK _ _ ⟨?_, ?_⟩; (· rw [listed_nil (by simp [go_sem, *])]; exact DW.refl _ _ _); clear hK K; try simp only [Act.put])
    (co_apply opsV_cons_k rfl (by simp [Region.wanted, yielded, *]); intro _ hR K hK; replace hF := rl9 hF hR; clear hR; go_simp; refine hK _ _ ⟨?_, ?_⟩; (· rw [listed_nil (by simp [go_sem, *])]; exact DW.refl _ _ _); clear hK K; try simp only [Act.put])
    (co_apply opsV_cons_k rfl (by simp [Region.wanted, yielded, *]); intro _ hR K hK; replace hF := rl9 hF hR; clear hR; go_simp; refine hK _ _ ⟨?_, ?_⟩; (· rw [listed_nil (by simp [go_sem, *])]; exact DW.refl _ _ _); clear hK K; try simp only [Act.put])
    (co_apply opsV_cons_k rfl (by rfl); intro _ hR K hK; replace hF := rl9 hF hR; clear hR; go_simp; refine hK _ _ ⟨?_, ?_⟩; (· rw [listed_nil (by simp [go_sem, *])]; exact DW.refl _ _ _); clear hK K; try simp only [Act.put])
    co_apply opsV_nil
    exact hq _ _ hF (((((((((h).put 108 _ (by omega)).put 109 _ (by omega)).put 110 _ (by omega)).put 111 _ (by omega)).put 112 _ (by omega)).put 113 _ (by omega)).put 114 _ (by omega)).put 115 _ (by omega)) (by simp [*])
  · decide
/-- delta -/
theorem g75_33 (hFR : ∀ w w₁, RW c C w w₁ → F w → F w₁)  (hF : F w) (h : FRm T p ws sv aw it m)
    (hq : ∀ T' w', F w' → FRm T' p ws sv aw it m → (T'[9]? = some (.int .i32 (-7))) → Q N u .normal ⟨T', []⟩ w') : CodeV Try.prog c k C 75 (.region 33 o75_33 false) 40 N u Q ⟨T, []⟩ w := by
  have rl9 : ∀ {w w₁ : World}, F w → RW c C w w₁ → F w₁ := fun h r => hFR _ _ r h
  have hs := h.size
  rw [show o75_33 = _ from (by unfold o75_33; simp only [Cd.a, Cd.b, Cd.t, Cd.e, Cd.k, Cd.l, Cd.o, Try.f75, Option.getD_some]; try rfl)]
  co_apply codeV_more
  · (co_apply codeV_region; simp only [List.size_toArray, List.length_cons, List.length_nil, Nat.reduceAdd, Nat.zero_add, List.range, List.range.loop])
    (co_apply opsV_cons_k rfl (by rfl); intro _ hR K hK; replace hF := rl9 hF hR; clear hR; go_simp; refine hK _ _ ⟨?_, ?_⟩; (· rw [listed_nil (by simp [go_sem, *])]; exact DW.refl _ _ _); clear hK K; try simp only [Act.put])
    co_apply opsV_nil
    exact hq _ _ hF ((h).put 9 _ (by omega)) (by simp [*])
  · decide
/-- the last? -/
theorem g75_34 (hFR : ∀ w w₁, RW c C w w₁ → F w → F w₁) (hm : m.wn < 80) {y : Int} (h9 : T[9]? = some (.int .i32 y)) (hF : F w) (h : FRm T p ws sv aw it m)
    (hq : ∀ T' w', F w' → FRm T' p ws sv aw it m → (T'[9]? = some (.int .i32 y)) → (T'[123]? = some (.bool (!sv || decide (m.wn = 1)))) → Q N u .normal ⟨T', []⟩ w') : CodeV Try.prog c k C 75 (.region 34 o75_34 false) 40 N u Q ⟨T, []⟩ w := by
  have rl9 : ∀ {w w₁ : World}, F w → RW c C w w₁ → F w₁ := fun h r => hFR _ _ r h
  have hs := h.size
  have e3 := h.g3
  have e6 := h.g6
  have e9 := slot h.size (by omega) h9
  have s3 := shr3 m hm
  rw [show o75_34 = _ from (by unfold o75_34; simp only [Cd.a, Cd.b, Cd.t, Cd.e, Cd.k, Cd.l, Cd.o, Try.f75, Option.getD_some]; try rfl)]
  cases sv <;> by_cases hw1 : m.wn = 1
  · skip
    co_apply codeV_more
    · (co_apply codeV_region; simp only [List.size_toArray, List.length_cons, List.length_nil, Nat.reduceAdd, Nat.zero_add, List.range, List.range.loop])
      (co_apply opsV_cons_k rfl (by rfl); intro _ hR K hK; replace hF := rl9 hF hR; clear hR; go_simp; refine hK _ _ ⟨?_, ?_⟩; (· rw [listed_nil (by simp [go_sem, *])]; exact DW.refl _ _ _); clear hK K; try simp only [Act.put])
      (co_apply opsV_cons_k rfl (by rfl); intro _ hR K hK; replace hF := rl9 hF hR; clear hR; go_simp; refine hK _ _ ⟨?_, ?_⟩; (· rw [listed_nil (by simp [go_sem, *])]; exact DW.refl _ _ _); clear hK K; try simp only [Act.put])
      (co_apply opsV_cons_k rfl (by rfl); intro _ hR K hK; replace hF := rl9 hF hR; clear hR; go_simp; refine hK _ _ ⟨?_, ?_⟩; (· rw [listed_nil (by simp [go_sem, *])]; exact DW.refl _ _ _); clear hK K; try simp only [Act.put])
      (co_apply opsV_unwanted rfl (by simp [Region.wanted, yielded, *]); try simp only [Act.put])
      (co_apply opsV_unwanted rfl (by simp [Region.wanted, yielded, *]); try simp only [Act.put])
      (co_apply opsV_unwanted rfl (by simp [Region.wanted, yielded, *]); try simp only [Act.put])
      (co_apply opsV_cons_k rfl (by rfl); intro _ hR K hK; replace hF := rl9 hF hR; clear hR; go_simp; refine hK _ _ ⟨?_, ?_⟩; (· rw [listed_nil (by simp [go_sem, *])]; exact DW.refl _ _ _); clear hK K; try simp only [Act.put])
      co_apply opsV_nil
      exact hq _ _ hF ((((((((h).put 117 _ (by omega)).put 118 _ (by omega)).put 119 _ (by omega)).put 120 _ (by omega)).put 121 _ (by omega)).put 122 _ (by omega)).put 123 _ (by omega)) (by simp [*]) (by simp [*])
    · decide
  · skip
    co_apply codeV_more
    · (co_apply codeV_region; simp only [List.size_toArray, List.length_cons, List.length_nil, Nat.reduceAdd, Nat.zero_add, List.range, List.range.loop])
      (co_apply opsV_cons_k rfl (by rfl); intro _ hR K hK; replace hF := rl9 hF hR; clear hR; go_simp; refine hK _ _ ⟨?_, ?_⟩; (· rw [listed_nil (by simp [go_sem, *])]; exact DW.refl _ _ _); clear hK K; try simp only [Act.put])
      (co_apply opsV_cons_k rfl (by rfl); intro _ hR K hK; replace hF := rl9 hF hR; clear hR; go_simp; refine hK _ _ ⟨?_, ?_⟩; (· rw [listed_nil (by simp [go_sem, *])]; exact DW.refl _ _ _); clear hK K; try simp only [Act.put])
      (co_apply opsV_cons_k rfl (by rfl); intro _ hR K hK; replace hF := rl9 hF hR; clear hR; go_simp; refine hK _ _ ⟨?_, ?_⟩; (· rw [listed_nil (by simp [go_sem, *])]; exact DW.refl _ _ _); clear hK K; try simp only [Act.put])
      (co_apply opsV_unwanted rfl (by simp [Region.wanted, yielded, *]); try simp only [Act.put])
      (co_apply opsV_unwanted rfl (by simp [Region.wanted, yielded, *]); try simp only [Act.put])
      (co_apply opsV_unwanted rfl (by simp [Region.wanted, yielded, *]); try simp only [Act.put])
      (co_apply opsV_cons_k rfl (by rfl); intro _ hR K hK; replace hF := rl9 hF hR; clear hR; go_simp; refine hK _ _ ⟨?_, ?_⟩; (· rw [listed_nil (by simp [go_sem, *])]; exact DW.refl _ _ _); clear hK K; try simp only [Act.put])
      co_apply opsV_nil
      exact hq _ _ hF ((((((((h).put 117 _ (by omega)).put 118 _ (by omega)).put 119 _ (by omega)).put 120 _ (by omega)).put 121 _ (by omega)).put 122 _ (by omega)).put 123 _ (by omega)) (by simp [*]) (by simp [*])
    · decide
  · rw [hw1] at s3
    co_apply codeV_more
    · (co_apply codeV_region; simp only [List.size_toArray, List.length_cons, List.length_nil, Nat.reduceAdd, Nat.zero_add, List.range, List.range.loop])
      (co_apply opsV_cons_k rfl (by rfl); intro _ hR K hK; replace hF := rl9 hF hR; clear hR; go_simp; refine hK _ _ ⟨?_, ?_⟩; (· rw [listed_nil (by simp [go_sem, *])]; exact DW.refl _ _ _); clear hK K; try simp only [Act.put])
      (co_apply opsV_cons_k rfl (by rfl); intro _ hR K hK; replace hF := rl9 hF hR; clear hR; go_simp; refine hK _ _ ⟨?_, ?_⟩; (· rw [listed_nil (by simp [go_sem, *])]; exact DW.refl _ _ _); clear hK K; try simp only [Act.put])
      (co_apply opsV_cons_k rfl (by rfl); intro _ hR K hK; replace hF := rl9 hF hR; clear hR; go_simp; refine hK _ _ ⟨?_, ?_⟩; (· rw [listed_nil (by simp [go_sem, *])]; exact DW.refl _ _ _); clear hK K; try simp only [Act.put])
      (co_apply opsV_cons_k rfl (by simp [Region.wanted, yielded, *]); intro _ hR K hK; replace hF := rl9 hF hR; clear hR; go_simp; refine hK _ _ ⟨?_, ?_⟩; (· rw [listed_nil (by simp [go_sem, *])]; exact DW.refl _ _ _); clear hK K; try simp only [Act.put])
      (co_apply opsV_cons_k rfl (by simp [Region.wanted, yielded, *]); intro _ hR K hK; replace hF := rl9 hF hR; clear hR; go_simp; refine hK _ _ ⟨?_, ?_⟩; (· rw [listed_nil (by simp [go_sem, *])]; exact DW.refl _ _ _); clear hK K; try simp only [Act.put])
      (co_apply opsV_cons_k rfl (by simp [Region.wanted, yielded, *]); intro _ hR K hK; replace hF := rl9 hF hR; clear hR; go_simp; refine hK _ _ ⟨?_, ?_⟩; (· rw [listed_nil (by simp [go_sem, *])]; exact DW.refl _ _ _); clear hK K; try simp only [Act.put])
      (co_apply opsV_cons_k rfl (by rfl); intro _ hR K hK; replace hF := rl9 hF hR; clear hR; go_simp; refine hK _ _ ⟨?_, ?_⟩; (· rw [listed_nil (by simp [go_sem, *])]; exact DW.refl _ _ _); clear hK K; try simp only [Act.put])
      co_apply opsV_nil
      exact hq _ _ hF ((((((((h).put 117 _ (by omega)).put 118 _ (by omega)).put 119 _ (by omega)).put 120 _ (by omega)).put 121 _ (by omega)).put 122 _ (by omega)).put 123 _ (by omega)) (by simp [*]) (by simp [*])
    · decide
  · have w3 : ¬ (m.wn : Int) = 1 := by omega
    co_apply codeV_more
    · (co_apply codeV_region; simp only [List.size_toArray, List.length_cons, List.length_nil, Nat.reduceAdd, Nat.zero_add, List.range, List.range.loop])
      (co_apply opsV_cons_k rfl (by rfl); intro _ hR K hK; replace hF := rl9 hF hR; clear hR; go_simp; refine hK _ _ ⟨?_, ?_⟩; (· rw [listed_nil (by simp [go_sem, *])]; exact DW.refl _ _ _); clear hK K; try simp only [Act.put])
      (co_apply opsV_cons_k rfl (by rfl); intro _ hR K hK; replace hF := rl9 hF hR; clear hR; go_simp; refine hK _ _ ⟨?_, ?_⟩; (· rw [listed_nil (by simp [go_sem, *])]; exact DW.refl _ _ _); clear hK K; try simp only [Act.put])
      (co_apply opsV_cons_k rfl (by rfl); intro _ hR K hK; replace hF := rl9 hF hR; clear hR; go_simp; refine hK _ _ ⟨?_, ?_⟩; (· rw [listed_nil (by simp [go_sem, *])]; exact DW.refl _ _ _); clear hK K; try simp only [Act.put])
      (co_apply opsV_cons_k rfl (by simp [Region.wanted, yielded, *]); intro _ hR K hK; replace hF := rl9 hF hR; clear hR; go_simp; refine hK _ _ ⟨?_, ?_⟩; (· rw [listed_nil (by simp [go_sem, *])]; exact DW.refl _ _ _); clear hK K; try simp only [Act.put])
      (co_apply opsV_cons_k rfl (by simp [Region.wanted, yielded, *]); intro _ hR K hK; replace hF := rl9 hF hR; clear hR; go_simp; refine hK _ _ ⟨?_, ?_⟩; (· rw [listed_nil (by simp [go_sem, *])]; exact DW.refl _ _ _); clear hK K; try simp only [Act.put])
      (co_apply opsV_cons_k rfl (by simp [Region.wanted, yielded, *]); intro _ hR K hK; replace hF := rl9 hF hR; clear hR; go_simp; refine hK _ _ ⟨?_, ?_⟩; (· rw [listed_nil (by simp [go_sem, *])]; exact DW.refl _ _ _); clear hK K; try simp only [Act.put])
      (co_apply opsV_cons_k rfl (by rfl); intro _ hR K hK; replace hF := rl9 hF hR; clear hR; go_simp; refine hK _ _ ⟨?_, ?_⟩; (· rw [listed_nil (by simp [go_sem, *])]; exact DW.refl _ _ _); clear hK K; try simp only [Act.put])
      co_apply opsV_nil
      exact hq _ _ hF ((((((((h).put 117 _ (by omega)).put 118 _ (by omega)).put 119 _ (by omega)).put 120 _ (by omega)).put 121 _ (by omega)).put 122 _ (by omega)).put 123 _ (by omega)) (by simp [*]) (by simp [*])
    · decide
/-- no more starving -/
theorem g75_35 (hFR : ∀ w w₁, RW c C w w₁ → F w → F w₁) (h9 : T[9]? = some (.int .i32 (-7))) (hF : F w) (h : FRm T p ws sv aw it m)
    (hq : ∀ T' w', F w' → FRm T' p ws sv aw it m → (T'[9]? = some (.int .i32 (-11))) → Q N u .normal ⟨T', []⟩ w') : CodeV Try.prog c k C 75 (.region 35 o75_35 false) 40 N u Q ⟨T, []⟩ w := by
  have rl9 : ∀ {w w₁ : World}, F w → RW c C w w₁ → F w₁ := fun h r => hFR _ _ r h
  have hs := h.size
  have e9 := slot h.size (by omega) h9
  have w9 : IntKind.i32.wrap (-7 - 4) = -11 := by decide
  have w8 : IntKind.i32.wrap (-11) = -11 := by decide
  rw [show o75_35 = _ from (by unfold o75_35; simp only [Cd.a, Cd.b, Cd.t, Cd.e, Cd.k, Cd.l, Cd.o, Try.f75, Option.getD_some]; try rfl)]
  co_apply codeV_more
  · (co_apply codeV_region; simp only [List.size_toArray, List.length_cons, List.length_nil, Nat.reduceAdd, Nat.zero_add, List.range, List.range.loop])
    (co_apply opsV_cons_k rfl (by rfl); intro _ hR K hK; replace hF := rl9 hF hR; clear hR; go_simp; refine hK _ _ ⟨?_, ?_⟩; (· rw [listed_nil (by simp [go_sem, *])]; exact DW.refl _ _ _); clear hK K; try simp only [Act.put])
    (co_apply opsV_cons_k rfl (by rfl); intro _ hR K hK; replace hF := rl9 hF hR; clear hR; go_simp; refine hK _ _ ⟨?_, ?_⟩; (· rw [listed_nil (by simp [go_sem, *])]; exact DW.refl _ _ _); clear hK K; try simp only [Act.put])
    (co_apply opsV_cons_k rfl (by rfl); intro _ hR K hK; replace hF := rl9 hF hR; clear hR; go_simp; refine hK _ _ ⟨?_, ?_⟩; (· rw [listed_nil (by simp [go_sem, *])]; exact DW.refl _ _ _); clear hK K; try simp only [Act.put])
    co_apply opsV_nil
    exact hq _ _ hF ((((h).put 124 _ (by omega)).put 125 _ (by omega)).put 9 _ (by omega)) (by simp [*])
  · decide
/-- awoke -/
theorem g75_37 (hFR : ∀ w w₁, RW c C w w₁ → F w → F w₁)  (hF : F w) (h : FRm T p ws sv aw it m)
    (hq : ∀ T' w', F w' → FRm T' p ws sv true it m → Q N u .normal ⟨T', []⟩ w') : CodeV Try.prog c k C 75 (.region 37 o75_37 false) 40 N u Q ⟨T, []⟩ w := by
  have rl9 : ∀ {w w₁ : World}, F w → RW c C w w₁ → F w₁ := fun h r => hFR _ _ r h
  have hs := h.size
  rw [show o75_37 = _ from (by unfold o75_37; simp only [Cd.a, Cd.b, Cd.t, Cd.e, Cd.k, Cd.l, Cd.o, Try.f75, Option.getD_some]; try rfl)]
  co_apply codeV_more
  · (co_apply codeV_region; simp only [List.size_toArray, List.length_cons, List.length_nil, Nat.reduceAdd, Nat.zero_add, List.range, List.range.loop])
    (co_apply opsV_cons_k rfl (by rfl); intro _ hR K hK; replace hF := rl9 hF hR; clear hR; go_simp; refine hK _ _ ⟨?_, ?_⟩; (· rw [listed_nil (by simp [go_sem, *])]; exact DW.refl _ _ _); clear hK K; try simp only [Act.put])
    co_apply opsV_nil
    exact hq _ _ hF ((h).set4 _)
  · decide
/-- anew -/
theorem g75_38 (hFR : ∀ w w₁, RW c C w w₁ → F w → F w₁)  (hF : F w) (h : FRm T p ws sv aw it m)
    (hq : ∀ T' w', F w' → FRm T' p ws sv aw 0 m → Q N u .normal ⟨T', []⟩ w') : CodeV Try.prog c k C 75 (.region 38 o75_38 false) 40 N u Q ⟨T, []⟩ w := by
  have rl9 : ∀ {w w₁ : World}, F w → RW c C w w₁ → F w₁ := fun h r => hFR _ _ r h
  have hs := h.size
  rw [show o75_38 = _ from (by unfold o75_38; simp only [Cd.a, Cd.b, Cd.t, Cd.e, Cd.k, Cd.l, Cd.o, Try.f75, Option.getD_some]; try rfl)]
  co_apply codeV_more
  · (co_apply codeV_region; simp only [List.size_toArray, List.length_cons, List.length_nil, Nat.reduceAdd, Nat.zero_add, List.range, List.range.loop])
    (co_apply opsV_cons_k rfl (by rfl); intro _ hR K hK; replace hF := rl9 hF hR; clear hR; go_simp; refine hK _ _ ⟨?_, ?_⟩; (· rw [listed_nil (by simp [go_sem, *])]; exact DW.refl _ _ _); clear hK K; try simp only [Act.put])
    co_apply opsV_nil
    exact hq _ _ hF ((h).set5 _)
  · decide
end
end Go.Proofs.Ytinghnaigpenkaa
