/- Seat 05: lockSlow's regions, one by one: those that act on the mutex, or ask the clock. -/
import Derived.Test.YtinghnaigpenkaaZMxF
namespace Go.Proofs.Ytinghnaigpenkaa
open Go.Conc Go.RowKit Go.ConcR.Gen
open Go.ConcR (Payload rd wr mk)
set_option linter.unusedVariables false
set_option linter.unusedSimpArgs false
set_option linter.unusedSectionVars false
set_option maxRecDepth 100000
set_option maxHeartbeats 1000000




section
variable {c : Cfg} {X : MxI c} {k C N : Nat} {u₀ : c.U} {F : World → Prop} {Q : Nat → c.U → Exit → Act → World → Prop} {T : Array Value} {ws : Int} {sv aw : Bool} {it : Nat} {m : MW} {w : World} {u : c.U}
/-- at first -/
theorem g75_0 (K : c.Ok) (hX : X.Ok) (hl : X.Lk u₀) (hS : Stays c C F)  (hF : F w) (h : T.size = 139)
    (hq : ∀ w', F w' → Q N u .normal ⟨T.setIfInBounds 2 (.int .i64 0), []⟩ w') : CodeV Try.prog c k C 75 (.region 0 o75_0 false) 40 N u Q ⟨T, []⟩ w := by
  have rl9 : ∀ {w w₁ : World}, F w → RW c C w w₁ → F w₁ := fun h r => hS.rely _ _ r h
  rw [show o75_0 = _ from (by unfold o75_0; simp only [Cd.a, Cd.b, Cd.t, Cd.e, Cd.k, Cd.l, Cd.o, Try.f75, Option.getD_some]; try rfl)]
  co_apply codeV_more
  · (co_apply codeV_region; simp only [List.size_toArray, List.length_cons, List.length_nil, Nat.reduceAdd, Nat.zero_add, List.range, List.range.loop])
    (co_apply opsV_cons_k rfl (by rfl); intro _ hR K hK; replace hF := rl9 hF hR; clear hR; go_simp; refine hK _ _ ⟨?_, ?_⟩; (· rw [listed_nil (by simp [go_sem, *])]; exact DW.refl _ _ _); clear hK K; try simp only [Act.put])
    co_apply opsV_nil
    exact hq _ hF
  · decide
/-- at first -/
theorem g75_1 (K : c.Ok) (hX : X.Ok) (hl : X.Lk u₀) (hS : Stays c C F)  (hF : F w) (h : T.size = 139)
    (hq : ∀ w', F w' → Q N u .normal ⟨T.setIfInBounds 3 (.bool false), []⟩ w') : CodeV Try.prog c k C 75 (.region 1 o75_1 false) 40 N u Q ⟨T, []⟩ w := by
  have rl9 : ∀ {w w₁ : World}, F w → RW c C w w₁ → F w₁ := fun h r => hS.rely _ _ r h
  rw [show o75_1 = _ from (by unfold o75_1; simp only [Cd.a, Cd.b, Cd.t, Cd.e, Cd.k, Cd.l, Cd.o, Try.f75, Option.getD_some]; try rfl)]
  co_apply codeV_more
  · (co_apply codeV_region; simp only [List.size_toArray, List.length_cons, List.length_nil, Nat.reduceAdd, Nat.zero_add, List.range, List.range.loop])
    (co_apply opsV_cons_k rfl (by rfl); intro _ hR K hK; replace hF := rl9 hF hR; clear hR; go_simp; refine hK _ _ ⟨?_, ?_⟩; (· rw [listed_nil (by simp [go_sem, *])]; exact DW.refl _ _ _); clear hK K; try simp only [Act.put])
    co_apply opsV_nil
    exact hq _ hF
  · decide
/-- at first -/
theorem g75_2 (K : c.Ok) (hX : X.Ok) (hl : X.Lk u₀) (hS : Stays c C F)  (hF : F w) (h : T.size = 139)
    (hq : ∀ w', F w' → Q N u .normal ⟨T.setIfInBounds 4 (.bool false), []⟩ w') : CodeV Try.prog c k C 75 (.region 2 o75_2 false) 40 N u Q ⟨T, []⟩ w := by
  have rl9 : ∀ {w w₁ : World}, F w → RW c C w w₁ → F w₁ := fun h r => hS.rely _ _ r h
  rw [show o75_2 = _ from (by unfold o75_2; simp only [Cd.a, Cd.b, Cd.t, Cd.e, Cd.k, Cd.l, Cd.o, Try.f75, Option.getD_some]; try rfl)]
  co_apply codeV_more
  · (co_apply codeV_region; simp only [List.size_toArray, List.length_cons, List.length_nil, Nat.reduceAdd, Nat.zero_add, List.range, List.range.loop])
    (co_apply opsV_cons_k rfl (by rfl); intro _ hR K hK; replace hF := rl9 hF hR; clear hR; go_simp; refine hK _ _ ⟨?_, ?_⟩; (· rw [listed_nil (by simp [go_sem, *])]; exact DW.refl _ _ _); clear hK K; try simp only [Act.put])
    co_apply opsV_nil
    exact hq _ hF
  · decide
/-- at first -/
theorem g75_3 (K : c.Ok) (hX : X.Ok) (hl : X.Lk u₀) (hS : Stays c C F)  (hF : F w) (h : T.size = 139)
    (hq : ∀ w', F w' → Q N u .normal ⟨T.setIfInBounds 5 (.int .i64 0), []⟩ w') : CodeV Try.prog c k C 75 (.region 3 o75_3 false) 40 N u Q ⟨T, []⟩ w := by
  have rl9 : ∀ {w w₁ : World}, F w → RW c C w w₁ → F w₁ := fun h r => hS.rely _ _ r h
  rw [show o75_3 = _ from (by unfold o75_3; simp only [Cd.a, Cd.b, Cd.t, Cd.e, Cd.k, Cd.l, Cd.o, Try.f75, Option.getD_some]; try rfl)]
  co_apply codeV_more
  · (co_apply codeV_region; simp only [List.size_toArray, List.length_cons, List.length_nil, Nat.reduceAdd, Nat.zero_add, List.range, List.range.loop])
    (co_apply opsV_cons_k rfl (by rfl); intro _ hR K hK; replace hF := rl9 hF hR; clear hR; go_simp; refine hK _ _ ⟨?_, ?_⟩; (· rw [listed_nil (by simp [go_sem, *])]; exact DW.refl _ _ _); clear hK K; try simp only [Act.put])
    co_apply opsV_nil
    exact hq _ hF
  · decide
/-- the first look -/
theorem g75_4 (K : c.Ok) (hX : X.Ok) (hl : X.Lk u₀) (hS : Stays c C F)  (hF : F w) (h : T.size = 139 ∧ T[0]? = some (.pointer (some X.st)) ∧ T[2]? = some (.int .i64 0) ∧ T[3]? = some (.bool false) ∧ T[4]? = some (.bool false) ∧ T[5]? = some (.int .i64 0))
    (hq : ∀ N1 T' w' m' mu', N = N1 + 1 → F w' → m'.wn ≤ 70 → FRm T' (.pointer (some X.st)) 0 false false 0 m' → (fun m mu => mu = .hd m false false 0) m' mu' → Q N1 (X.put u₀ mu') .normal ⟨T', []⟩ w') : CodeV Try.prog c k C 75 (.region 4 o75_4 false) 40 N (X.put u₀ .r0) Q ⟨T, []⟩ w := by
  have rl9 : ∀ {w w₁ : World}, F w → RW c C w w₁ → F w₁ := fun h r => hS.rely _ _ r h
  obtain ⟨hs, h0, h2, h3, h4, h5⟩ := h
  have e0 := slot hs (by omega) h0
  have e2 := slot hs (by omega) h2
  have e3 := slot hs (by omega) h3
  have e4 := slot hs (by omega) h4
  have e5 := slot hs (by omega) h5
  rw [show o75_4 = _ from (by unfold o75_4; simp only [Cd.a, Cd.b, Cd.t, Cd.e, Cd.k, Cd.l, Cd.o, Try.f75, Option.getD_some]; try rfl)]
  co_apply codeV_more
  · (co_apply codeV_region; simp only [List.size_toArray, List.length_cons, List.length_nil, Nat.reduceAdd, Nat.zero_add, List.range, List.range.loop])
    (co_apply opsV_cons_k rfl (by rfl); intro _ hR K hK; replace hF := rl9 hF hR; clear hR; go_simp; refine hK _ _ ⟨?_, ?_⟩; (· rw [listed_nil (by simp [go_sem, *])]; exact DW.refl _ _ _); clear hK K; try simp only [Act.put])
    (co_apply opsV_cons_k rfl (by rfl); intro _ hR K hK; replace hF := rl9 hF hR; clear hR; go_simp; refine hK _ _ ⟨?_, ?_⟩; (· rw [listed_nil (by simp [go_sem, *])]; exact DW.refl _ _ _); clear hK K; try simp only [Act.put])
    (co_apply opsV_cons_k rfl (by rfl); intro _ hR K hK; replace hF := rl9 hF hR; clear hR; go_simp; refine hK _ _ ⟨?_, ?_⟩; (· rw [listed_nil (by simp [go_sem, *])]; exact DW.refl _ _ _); clear hK K; try simp only [Act.put])
    refine opsV_look K hX hl hS (by rfl) rfl (by simp [Act.eval, *]) hF (by simp) (fun m mu => mu = .hd m false false 0) (fun ms hp hw => ?_) ?_
    · exact ⟨_, .read0, rfl, rfl⟩
    rintro w' m' mu' hF' hw' hR N1 rfl
    clear hF
    have hF := hF'
    clear hF'
    co_apply Exists.intro
    simp only [Act.put]
    (co_apply opsV_cons_k rfl (by rfl); intro _ hR K hK; replace hF := rl9 hF hR; clear hR; go_simp; refine hK _ _ ⟨?_, ?_⟩; (· rw [listed_nil (by simp [go_sem, *])]; exact DW.refl _ _ _); clear hK K; try simp only [Act.put])
    co_apply opsV_nil
    exact hq N1 _ _ m' mu' rfl hF hw' ⟨by simp [hs], by simp [*], by simp [*], by simp [*], by simp [*], by simp [*], by simp [*]⟩ hR
  · decide
/-- a look behind a turn -/
theorem g75_10 (K : c.Ok) (hX : X.Ok) (hl : X.Lk u₀) (hS : Stays c C F) {mu : MU} (hmu : mu = .hd m aw sv it ∨ mu = .sp aw sv it) (hit : it < 4) (hF : F w) (h : FRm T (.pointer (some X.st)) ws sv aw (it + 1) m)
    (hq : ∀ N1 T' w' m' mu', N = N1 + 1 → F w' → m'.wn ≤ 70 → FRm T' (.pointer (some X.st)) ws sv aw (it + 1) m' → (fun m mu => mu = .hd m aw sv (it + 1) ∧ (aw = true → m.K = true)) m' mu' → Q N1 (X.put u₀ mu') .normal ⟨T', []⟩ w') : CodeV Try.prog c k C 75 (.region 10 o75_10 false) 40 N (X.put u₀ mu) Q ⟨T, []⟩ w := by
  have rl9 : ∀ {w w₁ : World}, F w → RW c C w w₁ → F w₁ := fun h r => hS.rely _ _ r h
  have hs := h.size
  have e0 := h.g0
  rw [show o75_10 = _ from (by unfold o75_10; simp only [Cd.a, Cd.b, Cd.t, Cd.e, Cd.k, Cd.l, Cd.o, Try.f75, Option.getD_some]; try rfl)]
  co_apply codeV_more
  · (co_apply codeV_region; simp only [List.size_toArray, List.length_cons, List.length_nil, Nat.reduceAdd, Nat.zero_add, List.range, List.range.loop])
    (co_apply opsV_cons_k rfl (by rfl); intro _ hR K hK; replace hF := rl9 hF hR; clear hR; go_simp; refine hK _ _ ⟨?_, ?_⟩; (· rw [listed_nil (by simp [go_sem, *])]; exact DW.refl _ _ _); clear hK K; try simp only [Act.put])
    (co_apply opsV_cons_k rfl (by rfl); intro _ hR K hK; replace hF := rl9 hF hR; clear hR; go_simp; refine hK _ _ ⟨?_, ?_⟩; (· rw [listed_nil (by simp [go_sem, *])]; exact DW.refl _ _ _); clear hK K; try simp only [Act.put])
    (co_apply opsV_cons_k rfl (by rfl); intro _ hR K hK; replace hF := rl9 hF hR; clear hR; go_simp; refine hK _ _ ⟨?_, ?_⟩; (· rw [listed_nil (by simp [go_sem, *])]; exact DW.refl _ _ _); clear hK K; try simp only [Act.put])
    refine opsV_look K hX hl hS (by rfl) rfl (by simp [Act.eval, *]) hF (by rcases hmu with rfl | rfl <;> simp) (fun m mu => mu = .hd m aw sv (it + 1) ∧ (aw = true → m.K = true)) (fun ms hp hw => ?_) ?_
    · rcases hmu with rfl | rfl
      · exact ⟨_, .spin hit, rfl, rfl, fun e => by subst e; exact hp⟩
      · exact ⟨_, .spun hit, rfl, rfl, fun e => by subst e; exact hp⟩
    rintro w' m' mu' hF' hw' hR N1 rfl
    clear hF
    have hF := hF'
    clear hF'
    co_apply Exists.intro
    simp only [Act.put]
    (co_apply opsV_cons_k rfl (by rfl); intro _ hR K hK; replace hF := rl9 hF hR; clear hR; go_simp; refine hK _ _ ⟨?_, ?_⟩; (· rw [listed_nil (by simp [go_sem, *])]; exact DW.refl _ _ _); clear hK K; try simp only [Act.put])
    co_apply opsV_nil
    exact hq N1 _ _ m' mu' rfl hF hw' ((((((h).put 45 _ (by omega)).put 46 _ (by omega)).put 47 _ (by omega)).put 48 _ (by omega)).set6 _) hR
  · decide
/-- the look behind the wait -/
theorem g75_29 (K : c.Ok) (hX : X.Ok) (hl : X.Lk u₀) (hS : Stays c C F)  (hF : F w) (h : FRm T (.pointer (some X.st)) ws sv aw it m)
    (hq : ∀ N1 T' w' m' mu', N = N1 + 1 → F w' → m'.wn ≤ 70 → FRm T' (.pointer (some X.st)) ws sv aw it m' → (fun m mu => (m.V = true ∧ mu = .a1 (!sv || decide (m.wn = 1)) ∧ m.L = false ∧ m.K = false ∧ m.wn ≠ 0) ∨ (m.V = false ∧ mu = .hd m true sv 0 ∧ m.K = true)) m' mu' → Q N1 (X.put u₀ mu') .normal ⟨T', []⟩ w') : CodeV Try.prog c k C 75 (.region 29 o75_29 false) 40 N (X.put u₀ .r2) Q ⟨T, []⟩ w := by
  have rl9 : ∀ {w w₁ : World}, F w → RW c C w w₁ → F w₁ := fun h r => hS.rely _ _ r h
  have hs := h.size
  have e0 := h.g0
  rw [show o75_29 = _ from (by unfold o75_29; simp only [Cd.a, Cd.b, Cd.t, Cd.e, Cd.k, Cd.l, Cd.o, Try.f75, Option.getD_some]; try rfl)]
  co_apply codeV_more
  · (co_apply codeV_region; simp only [List.size_toArray, List.length_cons, List.length_nil, Nat.reduceAdd, Nat.zero_add, List.range, List.range.loop])
    (co_apply opsV_cons_k rfl (by rfl); intro _ hR K hK; replace hF := rl9 hF hR; clear hR; go_simp; refine hK _ _ ⟨?_, ?_⟩; (· rw [listed_nil (by simp [go_sem, *])]; exact DW.refl _ _ _); clear hK K; try simp only [Act.put])
    (co_apply opsV_cons_k rfl (by rfl); intro _ hR K hK; replace hF := rl9 hF hR; clear hR; go_simp; refine hK _ _ ⟨?_, ?_⟩; (· rw [listed_nil (by simp [go_sem, *])]; exact DW.refl _ _ _); clear hK K; try simp only [Act.put])
    (co_apply opsV_cons_k rfl (by rfl); intro _ hR K hK; replace hF := rl9 hF hR; clear hR; go_simp; refine hK _ _ ⟨?_, ?_⟩; (· rw [listed_nil (by simp [go_sem, *])]; exact DW.refl _ _ _); clear hK K; try simp only [Act.put])
    refine opsV_look K hX hl hS (by rfl) rfl (by simp [Act.eval, *]) hF (by simp) (fun m mu => (m.V = true ∧ mu = .a1 (!sv || decide (m.wn = 1)) ∧ m.L = false ∧ m.K = false ∧ m.wn ≠ 0) ∨ (m.V = false ∧ mu = .hd m true sv 0 ∧ m.K = true)) (fun ms hp hw => ?_) ?_
    · by_cases hv : ms.w.V = true
      · have h1 := hp.1 hv
        exact ⟨_, .handed (ex := !sv || decide (ms.w.wn = 1)) hv (fun e => by simp at e; omega), rfl, .inl ⟨hv, rfl, h1.1, h1.2.1, by omega⟩⟩
      · have hv' : ms.w.V = false := by simpa using hv
        exact ⟨_, .woke (sv := sv) hv', rfl, .inr ⟨hv', rfl, hp.2 hv'⟩⟩
    rintro w' m' mu' hF' hw' hR N1 rfl
    clear hF
    have hF := hF'
    clear hF'
    co_apply Exists.intro
    simp only [Act.put]
    (co_apply opsV_cons_k rfl (by rfl); intro _ hR K hK; replace hF := rl9 hF hR; clear hR; go_simp; refine hK _ _ ⟨?_, ?_⟩; (· rw [listed_nil (by simp [go_sem, *])]; exact DW.refl _ _ _); clear hK K; try simp only [Act.put])
    co_apply opsV_nil
    exact hq N1 _ _ m' mu' rfl hF hw' ((((((h).put 101 _ (by omega)).put 102 _ (by omega)).put 103 _ (by omega)).put 104 _ (by omega)).set6 _) hR
  · decide
/-- the look behind a miss -/
theorem g75_39 (K : c.Ok) (hX : X.Ok) (hl : X.Lk u₀) (hS : Stays c C F)  (hF : F w) (h : FRm T (.pointer (some X.st)) ws sv aw it m)
    (hq : ∀ N1 T' w' m' mu', N = N1 + 1 → F w' → m'.wn ≤ 70 → FRm T' (.pointer (some X.st)) ws sv aw it m' → (fun m mu => mu = .hd m aw sv it ∧ (aw = true → m.K = true)) m' mu' → Q N1 (X.put u₀ mu') .normal ⟨T', []⟩ w') : CodeV Try.prog c k C 75 (.region 39 o75_39 false) 40 N (X.put u₀ (.rd aw sv it)) Q ⟨T, []⟩ w := by
  have rl9 : ∀ {w w₁ : World}, F w → RW c C w w₁ → F w₁ := fun h r => hS.rely _ _ r h
  have hs := h.size
  have e0 := h.g0
  rw [show o75_39 = _ from (by unfold o75_39; simp only [Cd.a, Cd.b, Cd.t, Cd.e, Cd.k, Cd.l, Cd.o, Try.f75, Option.getD_some]; try rfl)]
  co_apply codeV_more
  · (co_apply codeV_region; simp only [List.size_toArray, List.length_cons, List.length_nil, Nat.reduceAdd, Nat.zero_add, List.range, List.range.loop])
    (co_apply opsV_cons_k rfl (by rfl); intro _ hR K hK; replace hF := rl9 hF hR; clear hR; go_simp; refine hK _ _ ⟨?_, ?_⟩; (· rw [listed_nil (by simp [go_sem, *])]; exact DW.refl _ _ _); clear hK K; try simp only [Act.put])
    (co_apply opsV_cons_k rfl (by rfl); intro _ hR K hK; replace hF := rl9 hF hR; clear hR; go_simp; refine hK _ _ ⟨?_, ?_⟩; (· rw [listed_nil (by simp [go_sem, *])]; exact DW.refl _ _ _); clear hK K; try simp only [Act.put])
    (co_apply opsV_cons_k rfl (by rfl); intro _ hR K hK; replace hF := rl9 hF hR; clear hR; go_simp; refine hK _ _ ⟨?_, ?_⟩; (· rw [listed_nil (by simp [go_sem, *])]; exact DW.refl _ _ _); clear hK K; try simp only [Act.put])
    refine opsV_look K hX hl hS (by rfl) rfl (by simp [Act.eval, *]) hF (by simp) (fun m mu => mu = .hd m aw sv it ∧ (aw = true → m.K = true)) (fun ms hp hw => ?_) ?_
    · exact ⟨_, .again, rfl, rfl, fun e => by subst e; exact hp⟩
    rintro w' m' mu' hF' hw' hR N1 rfl
    clear hF
    have hF := hF'
    clear hF'
    co_apply Exists.intro
    simp only [Act.put]
    (co_apply opsV_cons_k rfl (by rfl); intro _ hR K hK; replace hF := rl9 hF hR; clear hR; go_simp; refine hK _ _ ⟨?_, ?_⟩; (· rw [listed_nil (by simp [go_sem, *])]; exact DW.refl _ _ _); clear hK K; try simp only [Act.put])
    co_apply opsV_nil
    exact hq N1 _ _ m' mu' rfl hF hw' ((((((h).put 131 _ (by omega)).put 132 _ (by omega)).put 133 _ (by omega)).put 134 _ (by omega)).set6 _) hR
  · decide
/-- let nobody be woken meanwhile -/
theorem g75_6 (K : c.Ok) (hX : X.Ok) (hl : X.Lk u₀) (hS : Stays c C F) (hm : m.wn < 80) (hL : m.L = true) (hV : m.V = false) (hit : it < 4) (hF : F w) (h : FRm T (.pointer (some X.st)) ws sv aw it m)
    (hq : ∀ N' mu' T' w' b, ((N' = N ∧ b = false ∧ mu' = .hd m aw sv it) ∨ (N = N' + 1 ∧ aw = false ∧ mu' = .sp b sv it)) → F w' → FRm T' (.pointer (some X.st)) ws sv aw it m → T'[41]? = some (.bool b) → Q N' (X.put u₀ mu') .normal ⟨T', []⟩ w') : CodeV Try.prog c k C 75 (.region 6 o75_6 false) 40 N (X.put u₀ (.hd m aw sv it)) Q ⟨T, []⟩ w := by
  have rl9 : ∀ {w w₁ : World}, F w → RW c C w w₁ → F w₁ := fun h r => hS.rely _ _ r h
  have hs := h.size
  have e0 := h.g0
  have e4 := h.g4
  have e6 := h.g6
  have a2 := and2 m hm
  have s3 := shr3 m hm
  have r2 := or2 m hm
  rw [show o75_6 = _ from (by unfold o75_6; simp only [Cd.a, Cd.b, Cd.t, Cd.e, Cd.k, Cd.l, Cd.o, Try.f75, Option.getD_some]; try rfl)]
  cases aw
  · by_cases hK : m.K = true
    · rw [if_pos hK] at a2
      co_apply codeV_more
      · (co_apply codeV_region; simp only [List.size_toArray, List.length_cons, List.length_nil, Nat.reduceAdd, Nat.zero_add, List.range, List.range.loop])
        (co_apply opsV_cons_k rfl (by rfl); intro _ hR K hK; replace hF := rl9 hF hR; clear hR; go_simp; refine hK _ _ ⟨?_, ?_⟩; (· rw [listed_nil (by simp [go_sem, *])]; exact DW.refl _ _ _); clear hK K; try simp only [Act.put])
        (co_apply opsV_cons_k rfl (by rfl); intro _ hR K hK; replace hF := rl9 hF hR; clear hR; go_simp; refine hK _ _ ⟨?_, ?_⟩; (· rw [listed_nil (by simp [go_sem, *])]; exact DW.refl _ _ _); clear hK K; try simp only [Act.put])
        (co_apply opsV_cons_k rfl (by rfl); intro _ hR K hK; replace hF := rl9 hF hR; clear hR; go_simp; refine hK _ _ ⟨?_, ?_⟩; (· rw [listed_nil (by simp [go_sem, *])]; exact DW.refl _ _ _); clear hK K; try simp only [Act.put])
        (co_apply opsV_cons_k rfl (by simp [Region.wanted, yielded, *]); intro _ hR K hK; replace hF := rl9 hF hR; clear hR; go_simp; refine hK _ _ ⟨?_, ?_⟩; (· rw [listed_nil (by simp [go_sem, *])]; exact DW.refl _ _ _); clear hK K; try simp only [Act.put])
        (co_apply opsV_cons_k rfl (by simp [Region.wanted, yielded, *]); intro _ hR K hK; replace hF := rl9 hF hR; clear hR; go_simp; refine hK _ _ ⟨?_, ?_⟩; (· rw [listed_nil (by simp [go_sem, *])]; exact DW.refl _ _ _); clear hK K; try simp only [Act.put])
        (co_apply opsV_cons_k rfl (by simp [Region.wanted, yielded, *]); intro _ hR K hK; replace hF := rl9 hF hR; clear hR; go_simp; refine hK _ _ ⟨?_, ?_⟩; (· rw [listed_nil (by simp [go_sem, *])]; exact DW.refl _ _ _); clear hK K; try simp only [Act.put])
        (co_apply opsV_cons_k rfl (by rfl); intro _ hR K hK; replace hF := rl9 hF hR; clear hR; go_simp; refine hK _ _ ⟨?_, ?_⟩; (· rw [listed_nil (by simp [go_sem, *])]; exact DW.refl _ _ _); clear hK K; try simp only [Act.put])
        (co_apply opsV_cons_k rfl (by rfl); intro _ hR K hK; replace hF := rl9 hF hR; clear hR; go_simp; refine hK _ _ ⟨?_, ?_⟩; (· rw [listed_nil (by simp [go_sem, *])]; exact DW.refl _ _ _); clear hK K; try simp only [Act.put])
        (co_apply opsV_unwanted rfl (by simp [Region.wanted, yielded, *]); try simp only [Act.put])
        (co_apply opsV_unwanted rfl (by simp [Region.wanted, yielded, *]); try simp only [Act.put])
        (co_apply opsV_unwanted rfl (by simp [Region.wanted, yielded, *]); try simp only [Act.put])
        (co_apply opsV_cons_k rfl (by rfl); intro _ hR K hK; replace hF := rl9 hF hR; clear hR; go_simp; refine hK _ _ ⟨?_, ?_⟩; (· rw [listed_nil (by simp [go_sem, *])]; exact DW.refl _ _ _); clear hK K; try simp only [Act.put])
        (co_apply opsV_cons_k rfl (by rfl); intro _ hR K hK; replace hF := rl9 hF hR; clear hR; go_simp; refine hK _ _ ⟨?_, ?_⟩; (· rw [listed_nil (by simp [go_sem, *])]; exact DW.refl _ _ _); clear hK K; try simp only [Act.put])
        (co_apply opsV_unwanted rfl (by simp [Region.wanted, yielded, *]); try simp only [Act.put])
        (co_apply opsV_unwanted rfl (by simp [Region.wanted, yielded, *]); try simp only [Act.put])
        (co_apply opsV_unwanted rfl (by simp [Region.wanted, yielded, *]); try simp only [Act.put])
        (co_apply opsV_unwanted rfl (by simp [Region.wanted, yielded, *]); try simp only [Act.put])
        (co_apply opsV_unwanted rfl (by simp [Region.wanted, yielded, *]); try simp only [Act.put])
        (co_apply opsV_unwanted rfl (by simp [Region.wanted, yielded, *]); try simp only [Act.put])
        (co_apply opsV_unwanted rfl (by simp [Region.wanted, yielded, *]); try simp only [Act.put])
        (co_apply opsV_cons_k rfl (by rfl); intro _ hR K hK; replace hF := rl9 hF hR; clear hR; go_simp; refine hK _ _ ⟨?_, ?_⟩; (· rw [listed_nil (by simp [go_sem, *])]; exact DW.refl _ _ _); clear hK K; try simp only [Act.put])
        co_apply opsV_nil
        exact hq _ _ _ _ false (.inl ⟨rfl, rfl, rfl⟩) hF ((((((((((((((((((((((h).put 21 _ (by omega)).put 22 _ (by omega)).put 23 _ (by omega)).put 24 _ (by omega)).put 25 _ (by omega)).put 26 _ (by omega)).put 27 _ (by omega)).put 28 _ (by omega)).put 29 _ (by omega)).put 30 _ (by omega)).put 31 _ (by omega)).put 32 _ (by omega)).put 33 _ (by omega)).put 34 _ (by omega)).put 35 _ (by omega)).put 36 _ (by omega)).put 37 _ (by omega)).put 38 _ (by omega)).put 39 _ (by omega)).put 40 _ (by omega)).put 41 _ (by omega)) (by simp [*])
      · decide
    · rw [if_neg hK] at a2
      by_cases hw : m.wn = 0
      · rw [hw] at s3
        co_apply codeV_more
        · (co_apply codeV_region; simp only [List.size_toArray, List.length_cons, List.length_nil, Nat.reduceAdd, Nat.zero_add, List.range, List.range.loop])
          (co_apply opsV_cons_k rfl (by rfl); intro _ hR K hK; replace hF := rl9 hF hR; clear hR; go_simp; refine hK _ _ ⟨?_, ?_⟩; (· rw [listed_nil (by simp [go_sem, *])]; exact DW.refl _ _ _); clear hK K; try simp only [Act.put])
          (co_apply opsV_cons_k rfl (by rfl); intro _ hR K hK; replace hF := rl9 hF hR; clear hR; go_simp; refine hK _ _ ⟨?_, ?_⟩; (· rw [listed_nil (by simp [go_sem, *])]; exact DW.refl _ _ _); clear hK K; try simp only [Act.put])
          (co_apply opsV_cons_k rfl (by rfl); intro _ hR K hK; replace hF := rl9 hF hR; clear hR; go_simp; refine hK _ _ ⟨?_, ?_⟩; (· rw [listed_nil (by simp [go_sem, *])]; exact DW.refl _ _ _); clear hK K; try simp only [Act.put])
          (co_apply opsV_cons_k rfl (by simp [Region.wanted, yielded, *]); intro _ hR K hK; replace hF := rl9 hF hR; clear hR; go_simp; refine hK _ _ ⟨?_, ?_⟩; (· rw [listed_nil (by simp [go_sem, *])]; exact DW.refl _ _ _); clear hK K; try simp only [Act.put])
          (co_apply opsV_cons_k rfl (by simp [Region.wanted, yielded, *]); intro _ hR K hK; replace hF := rl9 hF hR; clear hR; go_simp; refine hK _ _ ⟨?_, ?_⟩; (· rw [listed_nil (by simp [go_sem, *])]; exact DW.refl _ _ _); clear hK K; try simp only [Act.put])
          (co_apply opsV_cons_k rfl (by simp [Region.wanted, yielded, *]); intro _ hR K hK; replace hF := rl9 hF hR; clear hR; go_simp; refine hK _ _ ⟨?_, ?_⟩; (· rw [listed_nil (by simp [go_sem, *])]; exact DW.refl _ _ _); clear hK K; try simp only [Act.put])
          (co_apply opsV_cons_k rfl (by rfl); intro _ hR K hK; replace hF := rl9 hF hR; clear hR; go_simp; refine hK _ _ ⟨?_, ?_⟩; (· rw [listed_nil (by simp [go_sem, *])]; exact DW.refl _ _ _); clear hK K; try simp only [Act.put])
          (co_apply opsV_cons_k rfl (by rfl); intro _ hR K hK; replace hF := rl9 hF hR; clear hR; go_simp; refine hK _ _ ⟨?_, ?_⟩; (· rw [listed_nil (by simp [go_sem, *])]; exact DW.refl _ _ _); clear hK K; try simp only [Act.put])
          (co_apply opsV_cons_k rfl (by simp [Region.wanted, yielded, *]); intro _ hR K hK; replace hF := rl9 hF hR; clear hR; go_simp; refine hK _ _ ⟨?_, ?_⟩; (· rw [listed_nil (by simp [go_sem, *])]; exact DW.refl _ _ _); clear hK K; try simp only [Act.put])
          (co_apply opsV_cons_k rfl (by simp [Region.wanted, yielded, *]); intro _ hR K hK; replace hF := rl9 hF hR; clear hR; go_simp; refine hK _ _ ⟨?_, ?_⟩; (· rw [listed_nil (by simp [go_sem, *])]; exact DW.refl _ _ _); clear hK K; try simp only [Act.put])
          (co_apply opsV_cons_k rfl (by simp [Region.wanted, yielded, *]); intro _ hR K hK; replace hF := rl9 hF hR; clear hR; go_simp; refine hK _ _ ⟨?_, ?_⟩; (· rw [listed_nil (by simp [go_sem, *])]; exact DW.refl _ _ _); clear hK K; try simp only [Act.put])
          (co_apply opsV_cons_k rfl (by rfl); intro _ hR K hK; replace hF := rl9 hF hR; clear hR; go_simp; refine hK _ _ ⟨?_, ?_⟩; (· rw [listed_nil (by simp [go_sem, *])]; exact DW.refl _ _ _); clear hK K; try simp only [Act.put])
          (co_apply opsV_cons_k rfl (by rfl); intro _ hR K hK; replace hF := rl9 hF hR; clear hR; go_simp; refine hK _ _ ⟨?_, ?_⟩; (· rw [listed_nil (by simp [go_sem, *])]; exact DW.refl _ _ _); clear hK K; try simp only [Act.put])
          (co_apply opsV_unwanted rfl (by simp [Region.wanted, yielded, *]); try simp only [Act.put])
          (co_apply opsV_unwanted rfl (by simp [Region.wanted, yielded, *]); try simp only [Act.put])
          (co_apply opsV_unwanted rfl (by simp [Region.wanted, yielded, *]); try simp only [Act.put])
          (co_apply opsV_unwanted rfl (by simp [Region.wanted, yielded, *]); try simp only [Act.put])
          (co_apply opsV_unwanted rfl (by simp [Region.wanted, yielded, *]); try simp only [Act.put])
          (co_apply opsV_unwanted rfl (by simp [Region.wanted, yielded, *]); try simp only [Act.put])
          (co_apply opsV_unwanted rfl (by simp [Region.wanted, yielded, *]); try simp only [Act.put])
          (co_apply opsV_cons_k rfl (by rfl); intro _ hR K hK; replace hF := rl9 hF hR; clear hR; go_simp; refine hK _ _ ⟨?_, ?_⟩; (· rw [listed_nil (by simp [go_sem, *])]; exact DW.refl _ _ _); clear hK K; try simp only [Act.put])
          co_apply opsV_nil
          exact hq _ _ _ _ false (.inl ⟨rfl, rfl, rfl⟩) hF ((((((((((((((((((((((h).put 21 _ (by omega)).put 22 _ (by omega)).put 23 _ (by omega)).put 24 _ (by omega)).put 25 _ (by omega)).put 26 _ (by omega)).put 27 _ (by omega)).put 28 _ (by omega)).put 29 _ (by omega)).put 30 _ (by omega)).put 31 _ (by omega)).put 32 _ (by omega)).put 33 _ (by omega)).put 34 _ (by omega)).put 35 _ (by omega)).put 36 _ (by omega)).put 37 _ (by omega)).put 38 _ (by omega)).put 39 _ (by omega)).put 40 _ (by omega)).put 41 _ (by omega)) (by simp [*])
        · decide
      · have w3 : ¬ (m.wn : Int) = 0 := by omega
        co_apply codeV_more
        · (co_apply codeV_region; simp only [List.size_toArray, List.length_cons, List.length_nil, Nat.reduceAdd, Nat.zero_add, List.range, List.range.loop])
          (co_apply opsV_cons_k rfl (by rfl); intro _ hR K hK; replace hF := rl9 hF hR; clear hR; go_simp; refine hK _ _ ⟨?_, ?_⟩; (· rw [listed_nil (by simp [go_sem, *])]; exact DW.refl _ _ _); clear hK K; try simp only [Act.put])
          (co_apply opsV_cons_k rfl (by rfl); intro _ hR K hK; replace hF := rl9 hF hR; clear hR; go_simp; refine hK _ _ ⟨?_, ?_⟩; (· rw [listed_nil (by simp [go_sem, *])]; exact DW.refl _ _ _); clear hK K; try simp only [Act.put])
          (co_apply opsV_cons_k rfl (by rfl); intro _ hR K hK; replace hF := rl9 hF hR; clear hR; go_simp; refine hK _ _ ⟨?_, ?_⟩; (· rw [listed_nil (by simp [go_sem, *])]; exact DW.refl _ _ _); clear hK K; try simp only [Act.put])
          (co_apply opsV_cons_k rfl (by simp [Region.wanted, yielded, *]); intro _ hR K hK; replace hF := rl9 hF hR; clear hR; go_simp; refine hK _ _ ⟨?_, ?_⟩; (· rw [listed_nil (by simp [go_sem, *])]; exact DW.refl _ _ _); clear hK K; try simp only [Act.put])
          (co_apply opsV_cons_k rfl (by simp [Region.wanted, yielded, *]); intro _ hR K hK; replace hF := rl9 hF hR; clear hR; go_simp; refine hK _ _ ⟨?_, ?_⟩; (· rw [listed_nil (by simp [go_sem, *])]; exact DW.refl _ _ _); clear hK K; try simp only [Act.put])
          (co_apply opsV_cons_k rfl (by simp [Region.wanted, yielded, *]); intro _ hR K hK; replace hF := rl9 hF hR; clear hR; go_simp; refine hK _ _ ⟨?_, ?_⟩; (· rw [listed_nil (by simp [go_sem, *])]; exact DW.refl _ _ _); clear hK K; try simp only [Act.put])
          (co_apply opsV_cons_k rfl (by rfl); intro _ hR K hK; replace hF := rl9 hF hR; clear hR; go_simp; refine hK _ _ ⟨?_, ?_⟩; (· rw [listed_nil (by simp [go_sem, *])]; exact DW.refl _ _ _); clear hK K; try simp only [Act.put])
          (co_apply opsV_cons_k rfl (by rfl); intro _ hR K hK; replace hF := rl9 hF hR; clear hR; go_simp; refine hK _ _ ⟨?_, ?_⟩; (· rw [listed_nil (by simp [go_sem, *])]; exact DW.refl _ _ _); clear hK K; try simp only [Act.put])
          (co_apply opsV_cons_k rfl (by simp [Region.wanted, yielded, *]); intro _ hR K hK; replace hF := rl9 hF hR; clear hR; go_simp; refine hK _ _ ⟨?_, ?_⟩; (· rw [listed_nil (by simp [go_sem, *])]; exact DW.refl _ _ _); clear hK K; try simp only [Act.put])
          (co_apply opsV_cons_k rfl (by simp [Region.wanted, yielded, *]); intro _ hR K hK; replace hF := rl9 hF hR; clear hR; go_simp; refine hK _ _ ⟨?_, ?_⟩; (· rw [listed_nil (by simp [go_sem, *])]; exact DW.refl _ _ _); clear hK K; try simp only [Act.put])
          (co_apply opsV_cons_k rfl (by simp [Region.wanted, yielded, *]); intro _ hR K hK; replace hF := rl9 hF hR; clear hR; go_simp; refine hK _ _ ⟨?_, ?_⟩; (· rw [listed_nil (by simp [go_sem, *])]; exact DW.refl _ _ _); clear hK K; try simp only [Act.put])
          (co_apply opsV_cons_k rfl (by rfl); intro _ hR K hK; replace hF := rl9 hF hR; clear hR; go_simp; refine hK _ _ ⟨?_, ?_⟩; (· rw [listed_nil (by simp [go_sem, *])]; exact DW.refl _ _ _); clear hK K; try simp only [Act.put])
          (co_apply opsV_cons_k rfl (by rfl); intro _ hR K hK; replace hF := rl9 hF hR; clear hR; go_simp; refine hK _ _ ⟨?_, ?_⟩; (· rw [listed_nil (by simp [go_sem, *])]; exact DW.refl _ _ _); clear hK K; try simp only [Act.put])
          (co_apply opsV_cons_k rfl (by simp [Region.wanted, yielded, *]); intro _ hR K hK; replace hF := rl9 hF hR; clear hR; go_simp; refine hK _ _ ⟨?_, ?_⟩; (· rw [listed_nil (by simp [go_sem, *])]; exact DW.refl _ _ _); clear hK K; try simp only [Act.put])
          (co_apply opsV_cons_k rfl (by simp [Region.wanted, yielded, *]); intro _ hR K hK; replace hF := rl9 hF hR; clear hR; go_simp; refine hK _ _ ⟨?_, ?_⟩; (· rw [listed_nil (by simp [go_sem, *])]; exact DW.refl _ _ _); clear hK K; try simp only [Act.put])
          (co_apply opsV_cons_k rfl (by simp [Region.wanted, yielded, *]); intro _ hR K hK; replace hF := rl9 hF hR; clear hR; go_simp; refine hK _ _ ⟨?_, ?_⟩; (· rw [listed_nil (by simp [go_sem, *])]; exact DW.refl _ _ _); clear hK K; try simp only [Act.put])
          (co_apply opsV_cons_k rfl (by simp [Region.wanted, yielded, *]); intro _ hR K hK; replace hF := rl9 hF hR; clear hR; go_simp; refine hK _ _ ⟨?_, ?_⟩; (· rw [listed_nil (by simp [go_sem, *])]; exact DW.refl _ _ _); clear hK K; try simp only [Act.put])
          (co_apply opsV_cons_k rfl (by simp [Region.wanted, yielded, *]); intro _ hR K hK; replace hF := rl9 hF hR; clear hR; go_simp; refine hK _ _ ⟨?_, ?_⟩; (· rw [listed_nil (by simp [go_sem, *])]; exact DW.refl _ _ _); clear hK K; try simp only [Act.put])
          (co_apply opsV_cons_k rfl (by simp [Region.wanted, yielded, *]); intro _ hR K hK; replace hF := rl9 hF hR; clear hR; go_simp; refine hK _ _ ⟨?_, ?_⟩; (· rw [listed_nil (by simp [go_sem, *])]; exact DW.refl _ _ _); clear hK K; try simp only [Act.put])
          refine opsV_casM K hX hl hS rfl (by simp [Region.wanted, yielded, *]) rfl (old := m) (new := { m with K := true }) (by simp [Act.eval, *]) (by simp [Act.eval, *]) (by simp [Act.eval, *]) hF (by simp) (fun b mu' => mu' = .sp b sv it) (fun ms _ _ e => ?_) (fun ms _ _ e => ⟨_, .unmark hit e, rfl, rfl⟩) ?_
          · have hM := MStep.mark (m := ms) (old := m) (sv := sv) (it := it) (by simpa using hK) hw hL hV hit e
            rw [e] at hM
            exact ⟨_, hM, rfl, rfl⟩
          rintro w' b mu' hF' rfl N1 rfl
          clear hF
          have hF := hF'
          clear hF'
          co_apply Exists.intro
          simp only [Act.put]
          (co_apply opsV_cons_k rfl (by rfl); intro _ hR K hK; replace hF := rl9 hF hR; clear hR; go_simp; refine hK _ _ ⟨?_, ?_⟩; (· rw [listed_nil (by simp [go_sem, *])]; exact DW.refl _ _ _); clear hK K; try simp only [Act.put])
          co_apply opsV_nil
          exact hq _ _ _ _ b (.inr ⟨rfl, rfl, rfl⟩) hF ((((((((((((((((((((((h).put 21 _ (by omega)).put 22 _ (by omega)).put 23 _ (by omega)).put 24 _ (by omega)).put 25 _ (by omega)).put 26 _ (by omega)).put 27 _ (by omega)).put 28 _ (by omega)).put 29 _ (by omega)).put 30 _ (by omega)).put 31 _ (by omega)).put 32 _ (by omega)).put 33 _ (by omega)).put 34 _ (by omega)).put 35 _ (by omega)).put 36 _ (by omega)).put 37 _ (by omega)).put 38 _ (by omega)).put 39 _ (by omega)).put 40 _ (by omega)).put 41 _ (by omega)) (by simp [*])
        · decide
  · co_apply codeV_more
    · (co_apply codeV_region; simp only [List.size_toArray, List.length_cons, List.length_nil, Nat.reduceAdd, Nat.zero_add, List.range, List.range.loop])
      (co_apply opsV_cons_k rfl (by rfl); intro _ hR K hK; replace hF := rl9 hF hR; clear hR; go_simp; refine hK _ _ ⟨?_, ?_⟩; (· rw [listed_nil (by simp [go_sem, *])]; exact DW.refl _ _ _); clear hK K; try simp only [Act.put])
      (co_apply opsV_cons_k rfl (by rfl); intro _ hR K hK; replace hF := rl9 hF hR; clear hR; go_simp; refine hK _ _ ⟨?_, ?_⟩; (· rw [listed_nil (by simp [go_sem, *])]; exact DW.refl _ _ _); clear hK K; try simp only [Act.put])
      (co_apply opsV_cons_k rfl (by rfl); intro _ hR K hK; replace hF := rl9 hF hR; clear hR; go_simp; refine hK _ _ ⟨?_, ?_⟩; (· rw [listed_nil (by simp [go_sem, *])]; exact DW.refl _ _ _); clear hK K; try simp only [Act.put])
      (co_apply opsV_unwanted rfl (by simp [Region.wanted, yielded, *]); try simp only [Act.put])
      (co_apply opsV_unwanted rfl (by simp [Region.wanted, yielded, *]); try simp only [Act.put])
      (co_apply opsV_unwanted rfl (by simp [Region.wanted, yielded, *]); try simp only [Act.put])
      (co_apply opsV_cons_k rfl (by rfl); intro _ hR K hK; replace hF := rl9 hF hR; clear hR; go_simp; refine hK _ _ ⟨?_, ?_⟩; (· rw [listed_nil (by simp [go_sem, *])]; exact DW.refl _ _ _); clear hK K; try simp only [Act.put])
      (co_apply opsV_cons_k rfl (by rfl); intro _ hR K hK; replace hF := rl9 hF hR; clear hR; go_simp; refine hK _ _ ⟨?_, ?_⟩; (· rw [listed_nil (by simp [go_sem, *])]; exact DW.refl _ _ _); clear hK K; try simp only [Act.put])
      (co_apply opsV_unwanted rfl (by simp [Region.wanted, yielded, *]); try simp only [Act.put])
      (co_apply opsV_unwanted rfl (by simp [Region.wanted, yielded, *]); try simp only [Act.put])
      (co_apply opsV_unwanted rfl (by simp [Region.wanted, yielded, *]); try simp only [Act.put])
      (co_apply opsV_cons_k rfl (by rfl); intro _ hR K hK; replace hF := rl9 hF hR; clear hR; go_simp; refine hK _ _ ⟨?_, ?_⟩; (· rw [listed_nil (by simp [go_sem, *])]; exact DW.refl _ _ _); clear hK K; try simp only [Act.put])
      (co_apply opsV_cons_k rfl (by rfl); intro _ hR K hK; replace hF := rl9 hF hR; clear hR; go_simp; refine hK _ _ ⟨?_, ?_⟩; (· rw [listed_nil (by simp [go_sem, *])]; exact DW.refl _ _ _); clear hK K; try simp only [Act.put])
      (co_apply opsV_unwanted rfl (by simp [Region.wanted, yielded, *]); try simp only [Act.put])
      (co_apply opsV_unwanted rfl (by simp [Region.wanted, yielded, *]); try simp only [Act.put])
      (co_apply opsV_unwanted rfl (by simp [Region.wanted, yielded, *]); try simp only [Act.put])
      (co_apply opsV_unwanted rfl (by simp [Region.wanted, yielded, *]); try simp only [Act.put])
      (co_apply opsV_unwanted rfl (by simp [Region.wanted, yielded, *]); try simp only [Act.put])
      (co_apply opsV_unwanted rfl (by simp [Region.wanted, yielded, *]); try simp only [Act.put])
      (co_apply opsV_unwanted rfl (by simp [Region.wanted, yielded, *]); try simp only [Act.put])
      (co_apply opsV_cons_k rfl (by rfl); intro _ hR K hK; replace hF := rl9 hF hR; clear hR; go_simp; refine hK _ _ ⟨?_, ?_⟩; (· rw [listed_nil (by simp [go_sem, *])]; exact DW.refl _ _ _); clear hK K; try simp only [Act.put])
      co_apply opsV_nil
      exact hq _ _ _ _ false (.inl ⟨rfl, rfl, rfl⟩) hF ((((((((((((((((((((((h).put 21 _ (by omega)).put 22 _ (by omega)).put 23 _ (by omega)).put 24 _ (by omega)).put 25 _ (by omega)).put 26 _ (by omega)).put 27 _ (by omega)).put 28 _ (by omega)).put 29 _ (by omega)).put 30 _ (by omega)).put 31 _ (by omega)).put 32 _ (by omega)).put 33 _ (by omega)).put 34 _ (by omega)).put 35 _ (by omega)).put 36 _ (by omega)).put 37 _ (by omega)).put 38 _ (by omega)).put 39 _ (by omega)).put 40 _ (by omega)).put 41 _ (by omega)) (by simp [*])
    · decide
/-- a turn -/
theorem g75_8 (K : c.Ok) (hX : X.Ok) (hl : X.Lk u₀) (hS : Stays c C F)  (hF : F w) (h : FRm T (.pointer (some X.st)) ws sv aw it m)
    (hq : ∀ T' w', F w' → FRm T' (.pointer (some X.st)) ws sv aw it m → Q N u .normal ⟨T', []⟩ w') : CodeV Try.prog c k C 75 (.region 8 o75_8 false) 40 N u Q ⟨T, []⟩ w := by
  have rl9 : ∀ {w w₁ : World}, F w → RW c C w w₁ → F w₁ := fun h r => hS.rely _ _ r h
  have hs := h.size
  rw [show o75_8 = _ from (by unfold o75_8; simp only [Cd.a, Cd.b, Cd.t, Cd.e, Cd.k, Cd.l, Cd.o, Try.f75, Option.getD_some]; try rfl)]
  co_apply codeV_more
  · (co_apply codeV_region; simp only [List.size_toArray, List.length_cons, List.length_nil, Nat.reduceAdd, Nat.zero_add, List.range, List.range.loop])
    co_apply opsV_idle
    intro w₁ hR
    refine ⟨_, _, _, fun b kk cs hb hk => stepG_entry_pure (.tuple #[]) rfl (by rfl) hk rfl Try.func78 (by kernel_rfl) (by kernel_rfl) (by kernel_rfl) (by rfl), DW.refl _ _ _, ?_⟩
    replace hF := rl9 hF hR
    clear hR
    simp only [Act.put]
    co_apply opsV_nil
    exact hq _ _ hF (h.put 42 _ (by omega))
  · decide
/-- what lockSlow would make of the word -/
def newW (m : MW) (sv aw : Bool) : MW := if m.L = false ∧ m.V = false then { m with L := true, K := m.K && !aw } else { m with wn := m.wn + 1, V := m.V || (sv && m.L), K := m.K && !aw }
/-- CompareAndSwap -/
theorem g75_22 (K : c.Ok) (hX : X.Ok) (hl : X.Lk u₀) (hS : Stays c C F) (h7 : T[7]? = some (.int .i32 (newW m sv aw).enc)) (hF : F w) (h : FRm T (.pointer (some X.st)) ws sv aw it m)
    (hq : ∀ N1 b mu' T' w', N = N1 + 1 → F w' → FRm T' (.pointer (some X.st)) ws sv aw it m → T'[80]? = some (.bool b) → ((b = true ∧ ((m.L = false ∧ m.V = false ∧ mu' = .le) ∨ ((m.L = true ∨ m.V = true) ∧ mu' = .q))) ∨ (b = false ∧ mu' = .rd aw sv it)) → Q N1 (X.put u₀ mu') .normal ⟨T', []⟩ w') : CodeV Try.prog c k C 75 (.region 22 o75_22 false) 40 N (X.put u₀ (.hd m aw sv it)) Q ⟨T, []⟩ w := by
  have rl9 : ∀ {w w₁ : World}, F w → RW c C w w₁ → F w₁ := fun h r => hS.rely _ _ r h
  have hs := h.size
  have e0 := h.g0
  have e6 := h.g6
  have e7 := slot h.size (by omega) h7
  rw [show o75_22 = _ from (by unfold o75_22; simp only [Cd.a, Cd.b, Cd.t, Cd.e, Cd.k, Cd.l, Cd.o, Try.f75, Option.getD_some]; try rfl)]
  co_apply codeV_more
  · (co_apply codeV_region; simp only [List.size_toArray, List.length_cons, List.length_nil, Nat.reduceAdd, Nat.zero_add, List.range, List.range.loop])
    (co_apply opsV_cons_k rfl (by rfl); intro _ hR K hK; replace hF := rl9 hF hR; clear hR; go_simp; refine hK _ _ ⟨?_, ?_⟩; (· rw [listed_nil (by simp [go_sem, *])]; exact DW.refl _ _ _); clear hK K; try simp only [Act.put])
    (co_apply opsV_cons_k rfl (by rfl); intro _ hR K hK; replace hF := rl9 hF hR; clear hR; go_simp; refine hK _ _ ⟨?_, ?_⟩; (· rw [listed_nil (by simp [go_sem, *])]; exact DW.refl _ _ _); clear hK K; try simp only [Act.put])
    (co_apply opsV_cons_k rfl (by rfl); intro _ hR K hK; replace hF := rl9 hF hR; clear hR; go_simp; refine hK _ _ ⟨?_, ?_⟩; (· rw [listed_nil (by simp [go_sem, *])]; exact DW.refl _ _ _); clear hK K; try simp only [Act.put])
    (co_apply opsV_cons_k rfl (by rfl); intro _ hR K hK; replace hF := rl9 hF hR; clear hR; go_simp; refine hK _ _ ⟨?_, ?_⟩; (· rw [listed_nil (by simp [go_sem, *])]; exact DW.refl _ _ _); clear hK K; try simp only [Act.put])
    (co_apply opsV_cons_k rfl (by rfl); intro _ hR K hK; replace hF := rl9 hF hR; clear hR; go_simp; refine hK _ _ ⟨?_, ?_⟩; (· rw [listed_nil (by simp [go_sem, *])]; exact DW.refl _ _ _); clear hK K; try simp only [Act.put])
    refine opsV_casM K hX hl hS rfl (by rfl) rfl (old := m) (new := newW m sv aw) (by simp [Act.eval, *]) (by simp [Act.eval, *]) (by simp [Act.eval, *]) hF (by simp) (fun b mu' => (b = true ∧ ((m.L = false ∧ m.V = false ∧ mu' = .le) ∨ ((m.L = true ∨ m.V = true) ∧ mu' = .q))) ∨ (b = false ∧ mu' = .rd aw sv it)) (fun ms _ _ e => ?_) (fun ms _ _ e => ⟨_, .fail e, rfl, .inr ⟨rfl, rfl⟩⟩) ?_
    · by_cases hf : m.L = false ∧ m.V = false
      · have hM := MStep.lock (m := ms) (old := m) (aw := aw) (sv := sv) (it := it) e hf.1 hf.2
        rw [e] at hM
        refine ⟨.le, ?_, rfl, .inl ⟨rfl, .inl ⟨hf.1, hf.2, rfl⟩⟩⟩
        unfold newW
        rw [if_pos hf]
        exact hM
      · have hf' : m.L = true ∨ m.V = true := by cases h1 : m.L <;> cases h2 : m.V <;> simp_all
        have hM := MStep.queue (m := ms) (old := m) (aw := aw) (sv := sv) (it := it) e hf'
        rw [e] at hM
        refine ⟨.q, ?_, rfl, .inl ⟨rfl, .inr ⟨hf', rfl⟩⟩⟩
        unfold newW
        rw [if_neg hf]
        exact hM
    rintro w' b mu' hF' hR N1 rfl
    co_apply Exists.intro
    simp only [Act.put]
    co_apply opsV_nil
    exact hq N1 b mu' _ _ rfl hF' (((((((h).put 75 _ (by omega)).put 76 _ (by omega)).put 77 _ (by omega)).put 78 _ (by omega)).put 79 _ (by omega)).put 80 _ (by omega)) (by simp [*]) hR
  · decide
/-- the clock -/
theorem g75_26 (K : c.Ok) (hX : X.Ok) (hl : X.Lk u₀) (hS : Stays c C F) {q : Bool} (h8 : T[8]? = some (.bool q)) (hF : F w) (h : FRm T (.pointer (some X.st)) ws sv aw it m)
    (hq : ∀ T' w' ws', F w' → FRm T' (.pointer (some X.st)) ws' sv aw it m → T'[8]? = some (.bool q) → Q N u .normal ⟨T', []⟩ w') : CodeV Try.prog c k C 75 (.region 26 o75_26 false) 40 N u Q ⟨T, []⟩ w := by
  have rl9 : ∀ {w w₁ : World}, F w → RW c C w w₁ → F w₁ := fun h r => hS.rely _ _ r h
  have hs := h.size
  have e8 := slot h.size (by omega) h8
  rw [show o75_26 = _ from (by unfold o75_26; simp only [Cd.a, Cd.b, Cd.t, Cd.e, Cd.k, Cd.l, Cd.o, Try.f75, Option.getD_some]; try rfl)]
  co_apply codeV_more
  · (co_apply codeV_region; simp only [List.size_toArray, List.length_cons, List.length_nil, Nat.reduceAdd, Nat.zero_add, List.range, List.range.loop])
    co_apply opsV_idle
    intro w₁ hR
    refine ⟨_, _, _, fun b kk cs hb hk => stepG_nanotime rfl (by rfl) hk rfl Try.func80 (by kernel_rfl) (by kernel_rfl) (by kernel_rfl) (by rfl) (by kernel_rfl), dw_os (env_later _) rfl, ?_⟩
    replace hF := rl9 hF (hR.trans (rw_os K (env_later _) rfl))
    generalize ((w₁.os.mono + w₁.tick : Nat) : Int) = nn
    generalize w₁.later = w₂ at hF ⊢
    clear hR
    clear w₁
    simp only [Act.put]
    (co_apply opsV_cons_k rfl (by rfl); intro _ hR K hK; replace hF := rl9 hF hR; clear hR; go_simp; refine hK _ _ ⟨?_, ?_⟩; (· rw [listed_nil (by simp [go_sem, *])]; exact DW.refl _ _ _); clear hK K; try simp only [Act.put])
    co_apply opsV_nil
    exact hq _ _ _ hF (((h).put 88 _ (by omega)).set2 _) (by simp [*])
  · decide
/-- the wait -/
theorem g75_27 (K : c.Ok) (hX : X.Ok) (hl : X.Lk u₀) (hS : Stays c C F) {q : Bool} (h8 : T[8]? = some (.bool q)) (hF : F w) (h : FRm T (.pointer (some X.st)) ws sv aw it m)
    (hq : ∀ N1 T' w', N = N1 + 1 → F w' → FRm T' (.pointer (some X.st)) ws sv aw it m → Q N1 (X.put u₀ .r2) .normal ⟨T', []⟩ w') : CodeV Try.prog c k C 75 (.region 27 o75_27 false) 40 N (X.put u₀ .q) Q ⟨T, []⟩ w := by
  have rl9 : ∀ {w w₁ : World}, F w → RW c C w w₁ → F w₁ := fun h r => hS.rely _ _ r h
  have hs := h.size
  have e0 := h.g0
  have e8 := slot h.size (by omega) h8
  rw [show o75_27 = _ from (by unfold o75_27; simp only [Cd.a, Cd.b, Cd.t, Cd.e, Cd.k, Cd.l, Cd.o, Try.f75, Option.getD_some]; try rfl)]
  co_apply codeV_more
  · (co_apply codeV_region; simp only [List.size_toArray, List.length_cons, List.length_nil, Nat.reduceAdd, Nat.zero_add, List.range, List.range.loop])
    (co_apply opsV_cons_k rfl (by rfl); intro _ hR K hK; replace hF := rl9 hF hR; clear hR; go_simp; refine hK _ _ ⟨?_, ?_⟩; (· rw [listed_nil (by simp [go_sem, *])]; exact DW.refl _ _ _); clear hK K; try simp only [Act.put])
    (co_apply opsV_cons_k rfl (by rfl); intro _ hR K hK; replace hF := rl9 hF hR; clear hR; go_simp; refine hK _ _ ⟨?_, ?_⟩; (· rw [listed_nil (by simp [go_sem, *])]; exact DW.refl _ _ _); clear hK K; try simp only [Act.put])
    (co_apply opsV_cons_k rfl (by rfl); intro _ hR K hK; replace hF := rl9 hF hR; clear hR; go_simp; refine hK _ _ ⟨?_, ?_⟩; (· rw [listed_nil (by simp [go_sem, *])]; exact DW.refl _ _ _); clear hK K; try simp only [Act.put])
    (co_apply opsV_cons_k rfl (by rfl); intro _ hR K hK; replace hF := rl9 hF hR; clear hR; go_simp; refine hK _ _ ⟨?_, ?_⟩; (· rw [listed_nil (by simp [go_sem, *])]; exact DW.refl _ _ _); clear hK K; try simp only [Act.put])
    refine opsV_downM K hX hl hS rfl (by rfl) rfl (by simp [Act.eval, *]; rfl) hF ?_
    rintro w' hF' N1 rfl
    co_apply Exists.intro
    simp only [Act.put]
    co_apply opsV_nil
    exact hq N1 _ _ rfl hF' ((((((h).put 89 _ (by omega)).put 90 _ (by omega)).put 91 _ (by omega)).put 92 _ (by omega)).put 93 _ (by omega))
  · decide
/-- waited too long? -/
theorem g75_28 (K : c.Ok) (hX : X.Ok) (hl : X.Lk u₀) (hS : Stays c C F)  (hF : F w) (h : FRm T (.pointer (some X.st)) ws sv aw it m)
    (hq : ∀ T' w' sv', F w' → FRm T' (.pointer (some X.st)) ws sv' aw it m → Q N u .normal ⟨T', []⟩ w') : CodeV Try.prog c k C 75 (.region 28 o75_28 false) 40 N u Q ⟨T, []⟩ w := by
  have rl9 : ∀ {w w₁ : World}, F w → RW c C w w₁ → F w₁ := fun h r => hS.rely _ _ r h
  have hs := h.size
  have e2 := h.g2
  have e3 := h.g3
  rw [show o75_28 = _ from (by unfold o75_28; simp only [Cd.a, Cd.b, Cd.t, Cd.e, Cd.k, Cd.l, Cd.o, Try.f75, Option.getD_some]; try rfl)]
  cases sv
  · co_apply codeV_more
    · (co_apply codeV_region; simp only [List.size_toArray, List.length_cons, List.length_nil, Nat.reduceAdd, Nat.zero_add, List.range, List.range.loop])
      (co_apply opsV_cons_k rfl (by rfl); intro _ hR K hK; replace hF := rl9 hF hR; clear hR; go_simp; refine hK _ _ ⟨?_, ?_⟩; (· rw [listed_nil (by simp [go_sem, *])]; exact DW.refl _ _ _); clear hK K; try simp only [Act.put])
      (co_apply opsV_cons_k rfl (by rfl); intro _ hR K hK; replace hF := rl9 hF hR; clear hR; go_simp; refine hK _ _ ⟨?_, ?_⟩; (· rw [listed_nil (by simp [go_sem, *])]; exact DW.refl _ _ _); clear hK K; try simp only [Act.put])
      co_apply opsV_idle
      intro w₁ hR
      refine ⟨_, _, _, fun b kk cs hb hk => stepG_nanotime rfl (by simp [Region.wanted, yielded, *]) hk rfl Try.func80 (by kernel_rfl) (by kernel_rfl) (by kernel_rfl) (by rfl) (by kernel_rfl), dw_os (env_later _) rfl, ?_⟩
      replace hF := rl9 hF (hR.trans (rw_os K (env_later _) rfl))
      generalize ((w₁.os.mono + w₁.tick : Nat) : Int) = nn
      generalize w₁.later = w₂ at hF ⊢
      clear hR
      clear w₁
      simp only [Act.put]
      (co_apply opsV_cons_k rfl (by simp [Region.wanted, yielded, *]); intro _ hR K hK; replace hF := rl9 hF hR; clear hR; go_simp; refine hK _ _ ⟨?_, ?_⟩; (· rw [listed_nil (by simp [go_sem, *])]; exact DW.refl _ _ _); clear hK K; try simp only [Act.put])
      (co_apply opsV_cons_k rfl (by simp [Region.wanted, yielded, *]); intro _ hR K hK; replace hF := rl9 hF hR; clear hR; go_simp; refine hK _ _ ⟨?_, ?_⟩; (· rw [listed_nil (by simp [go_sem, *])]; exact DW.refl _ _ _); clear hK K; try simp only [Act.put])
      (co_apply opsV_cons_k rfl (by simp [Region.wanted, yielded, *]); intro _ hR K hK; replace hF := rl9 hF hR; clear hR; go_simp; refine hK _ _ ⟨?_, ?_⟩; (· rw [listed_nil (by simp [go_sem, *])]; exact DW.refl _ _ _); clear hK K; try simp only [Act.put])
      (co_apply opsV_cons_k rfl (by rfl); intro _ hR K hK; replace hF := rl9 hF hR; clear hR; go_simp; refine hK _ _ ⟨?_, ?_⟩; (· rw [listed_nil (by simp [go_sem, *])]; exact DW.refl _ _ _); clear hK K; try simp only [Act.put])
      (co_apply opsV_cons_k rfl (by rfl); intro _ hR K hK; replace hF := rl9 hF hR; clear hR; go_simp; refine hK _ _ ⟨?_, ?_⟩; (· rw [listed_nil (by simp [go_sem, *])]; exact DW.refl _ _ _); clear hK K; try simp only [Act.put])
      co_apply opsV_nil
      exact hq _ _ _ hF (((((((((h).put 94 _ (by omega)).put 95 _ (by omega)).put 96 _ (by omega)).put 97 _ (by omega)).put 98 _ (by omega)).put 99 _ (by omega)).put 100 _ (by omega)).set3 _)
    · decide
  · co_apply codeV_more
    · (co_apply codeV_region; simp only [List.size_toArray, List.length_cons, List.length_nil, Nat.reduceAdd, Nat.zero_add, List.range, List.range.loop])
      (co_apply opsV_cons_k rfl (by rfl); intro _ hR K hK; replace hF := rl9 hF hR; clear hR; go_simp; refine hK _ _ ⟨?_, ?_⟩; (· rw [listed_nil (by simp [go_sem, *])]; exact DW.refl _ _ _); clear hK K; try simp only [Act.put])
      (co_apply opsV_cons_k rfl (by rfl); intro _ hR K hK; replace hF := rl9 hF hR; clear hR; go_simp; refine hK _ _ ⟨?_, ?_⟩; (· rw [listed_nil (by simp [go_sem, *])]; exact DW.refl _ _ _); clear hK K; try simp only [Act.put])
      (co_apply opsV_unwanted rfl (by simp [Region.wanted, yielded, *]); try simp only [Act.put])
      (co_apply opsV_unwanted rfl (by simp [Region.wanted, yielded, *]); try simp only [Act.put])
      (co_apply opsV_unwanted rfl (by simp [Region.wanted, yielded, *]); try simp only [Act.put])
      (co_apply opsV_unwanted rfl (by simp [Region.wanted, yielded, *]); try simp only [Act.put])
      (co_apply opsV_cons_k rfl (by rfl); intro _ hR K hK; replace hF := rl9 hF hR; clear hR; go_simp; refine hK _ _ ⟨?_, ?_⟩; (· rw [listed_nil (by simp [go_sem, *])]; exact DW.refl _ _ _); clear hK K; try simp only [Act.put])
      (co_apply opsV_cons_k rfl (by rfl); intro _ hR K hK; replace hF := rl9 hF hR; clear hR; go_simp; refine hK _ _ ⟨?_, ?_⟩; (· rw [listed_nil (by simp [go_sem, *])]; exact DW.refl _ _ _); clear hK K; try simp only [Act.put])
      co_apply opsV_nil
      exact hq _ _ _ hF (((((((((h).put 94 _ (by omega)).put 95 _ (by omega)).put 96 _ (by omega)).put 97 _ (by omega)).put 98 _ (by omega)).put 99 _ (by omega)).put 100 _ (by omega)).set3 _)
    · decide
/-- it is handed over -/
theorem g75_36 (K : c.Ok) (hX : X.Ok) (hl : X.Lk u₀) (hS : Stays c C F) {ex : Bool} (h9 : T[9]? = some (.int .i32 (if ex then -11 else -7))) (hF : F w) (h : FRm T (.pointer (some X.st)) ws sv aw it m)
    (hq : ∀ N1 T' w', N = N1 + 1 → F w' → FRm T' (.pointer (some X.st)) ws sv aw it m → Q N1 (X.put u₀ .le) .normal ⟨T', []⟩ w') : CodeV Try.prog c k C 75 (.region 36 o75_36 false) 40 N (X.put u₀ (.a1 ex)) Q ⟨T, []⟩ w := by
  have rl9 : ∀ {w w₁ : World}, F w → RW c C w w₁ → F w₁ := fun h r => hS.rely _ _ r h
  have hs := h.size
  have e0 := h.g0
  have e9 := slot h.size (by omega) h9
  rw [show o75_36 = _ from (by unfold o75_36; simp only [Cd.a, Cd.b, Cd.t, Cd.e, Cd.k, Cd.l, Cd.o, Try.f75, Option.getD_some]; try rfl)]
  co_apply codeV_more
  · (co_apply codeV_region; simp only [List.size_toArray, List.length_cons, List.length_nil, Nat.reduceAdd, Nat.zero_add, List.range, List.range.loop])
    (co_apply opsV_cons_k rfl (by rfl); intro _ hR K hK; replace hF := rl9 hF hR; clear hR; go_simp; refine hK _ _ ⟨?_, ?_⟩; (· rw [listed_nil (by simp [go_sem, *])]; exact DW.refl _ _ _); clear hK K; try simp only [Act.put])
    (co_apply opsV_cons_k rfl (by rfl); intro _ hR K hK; replace hF := rl9 hF hR; clear hR; go_simp; refine hK _ _ ⟨?_, ?_⟩; (· rw [listed_nil (by simp [go_sem, *])]; exact DW.refl _ _ _); clear hK K; try simp only [Act.put])
    (co_apply opsV_cons_k rfl (by rfl); intro _ hR K hK; replace hF := rl9 hF hR; clear hR; go_simp; refine hK _ _ ⟨?_, ?_⟩; (· rw [listed_nil (by simp [go_sem, *])]; exact DW.refl _ _ _); clear hK K; try simp only [Act.put])
    (co_apply opsV_cons_k rfl (by rfl); intro _ hR K hK; replace hF := rl9 hF hR; clear hR; go_simp; refine hK _ _ ⟨?_, ?_⟩; (· rw [listed_nil (by simp [go_sem, *])]; exact DW.refl _ _ _); clear hK K; try simp only [Act.put])
    refine opsV_addM K hX hl hS rfl (by rfl) rfl (d := if ex then -11 else -7) (by simp [Act.eval, *]) (by simp [Act.eval, *]) hF (by simp) (fun _ mu' => mu' = .le) (fun ms hp hw => ?_) ?_
    · refine ⟨_, _, ?_, .hand (m := ms), rfl, rfl⟩
      obtain ⟨h1, h2, h3, h4, h5⟩ := hp
      obtain ⟨⟨L, K, V, wn⟩, sm⟩ := ms
      simp only at h1 h2 h3 h4 h5 hw
      subst h1 h2 h3
      rw [IntKind.wrap_i32]
      cases ex <;> simp only [MW.enc] <;> simp <;> omega
    rintro w' m1 mu' hF' rfl N1 rfl
    co_apply Exists.intro
    simp only [Act.put]
    co_apply opsV_nil
    exact hq N1 _ _ rfl hF' ((((((h).put 126 _ (by omega)).put 127 _ (by omega)).put 128 _ (by omega)).put 129 _ (by omega)).put 130 _ (by omega))
  · decide
/-- 'enable' -/
theorem g75_40 (K : c.Ok) (hX : X.Ok) (hl : X.Lk u₀) (hS : Stays c C F)  (hF : F w) (h : FRm T (.pointer (some X.st)) ws sv aw it m)
    (hq : ∀ N1 T' w', N = N1 + 1 → F w' → FRm T' (.pointer (some X.st)) ws sv aw it m → Q N1 (X.put u₀ .own) .normal ⟨T', []⟩ w') : CodeV Try.prog c k C 75 (.region 40 o75_40 false) 40 N (X.put u₀ .le) Q ⟨T, []⟩ w := by
  have rl9 : ∀ {w w₁ : World}, F w → RW c C w w₁ → F w₁ := fun h r => hS.rely _ _ r h
  have hs := h.size
  rw [show o75_40 = _ from (by unfold o75_40; simp only [Cd.a, Cd.b, Cd.t, Cd.e, Cd.k, Cd.l, Cd.o, Try.f75, Option.getD_some]; try rfl)]
  co_apply codeV_more
  · (co_apply codeV_region; simp only [List.size_toArray, List.length_cons, List.length_nil, Nat.reduceAdd, Nat.zero_add, List.range, List.range.loop])
    refine opsV_enM K hX hl hS rfl (by rfl) rfl hF (by simp) (fun _ => .en) rfl rfl ?_
    rintro w' hF' N1 rfl
    co_apply Exists.intro
    simp only [Act.put]
    co_apply opsV_nil
    exact hq N1 _ _ rfl hF' ((h).put 135 _ (by omega))
  · decide
/-- 'acquire' -/
theorem g75_41 (K : c.Ok) (hX : X.Ok) (hl : X.Lk u₀) (hS : Stays c C F)  (hF : F w) (h : FRm T (.pointer (some X.st)) ws sv aw it m)
    (hq : ∀ T' w', F w' → T'.size = 139 → Q N u .normal ⟨T', []⟩ w') : CodeV Try.prog c k C 75 (.region 41 o75_41 false) 40 N u Q ⟨T, []⟩ w := by
  have rl9 : ∀ {w w₁ : World}, F w → RW c C w w₁ → F w₁ := fun h r => hS.rely _ _ r h
  have hs := h.size
  have e0 := h.g0
  rw [show o75_41 = _ from (by unfold o75_41; simp only [Cd.a, Cd.b, Cd.t, Cd.e, Cd.k, Cd.l, Cd.o, Try.f75, Option.getD_some]; try rfl)]
  co_apply codeV_more
  · (co_apply codeV_region; simp only [List.size_toArray, List.length_cons, List.length_nil, Nat.reduceAdd, Nat.zero_add, List.range, List.range.loop])
    (co_apply opsV_cons_k rfl (by rfl); intro _ hR K hK; replace hF := rl9 hF hR; clear hR; go_simp; refine hK _ _ ⟨?_, ?_⟩; (· rw [listed_nil (by simp [go_sem, *])]; exact DW.refl _ _ _); clear hK K; try simp only [Act.put])
    co_apply opsV_cons_k rfl (by rfl)
    intro w₁ hR Kx hKx
    replace hF := rl9 hF hR
    clear hR
    obtain ⟨σ, hrp⟩ := hS.rep _ hF
    have hc1 := (hX.rst σ _ hrp).1
    have hcv := run_convert_to_unsafe (P := Try.prog) Try.underlying117 Try.underlying99 (by kernel_rfl) hc1
    have hce := fun es => events_convert_to_unsafe (P := Try.prog) Try.underlying117 Try.underlying99 (by kernel_rfl) hc1 es
    go_simp
    refine hKx _ _ ⟨?_, ?_⟩
    · rw [listed_nil (by simp [go_sem, hce, *])]
      exact DW.refl _ _ _
    clear hKx Kx hcv hce hc1 hrp
    try simp only [Act.put]
    co_apply opsV_idle
    intro w₂ hR
    refine ⟨_, _, _, fun b kk cs hb hk => stepG_markAt .acquire (by simp) rfl (by rfl) hk rfl wgLib.f_acquire (x_acquire_n lnk) (x_acquire_b lnk) (x_acquire_x lnk) (x_acquire_f lnk) (ad := X.st) (by simp [Act.eval, *]), dw_mark rfl (by simp) (by simp) (by simp), ?_⟩
    replace hF := rl9 hF hR
    clear hR
    simp only [Act.put]
    co_apply opsV_nil
    exact hq _ _ hF (by simp [hs])
  · decide
end
end Go.Proofs.Ytinghnaigpenkaa
