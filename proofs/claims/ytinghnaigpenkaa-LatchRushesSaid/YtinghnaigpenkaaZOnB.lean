/- Seat 05: sync.Once, called by a worker. -/
import Derived.Test.YtinghnaigpenkaaZOnA
namespace Go.Proofs.Ytinghnaigpenkaa
open Go.Conc Go.RowKit Go.ConcR.Gen
open Go.ConcR (Payload rd wr mk)
set_option linter.unusedVariables false
set_option linter.unusedSimpArgs false
set_option linter.unusedSectionVars false
set_option maxRecDepth 100000
set_option maxHeartbeats 4000000



theorem callsV_args {P : Program} {c : Cfg} {k C n N : Nat} {f : FuncId} {args args' : Array Value} {u : c.U} {w : World} {Post : Nat → c.U → Value → World → Prop} (e : args = args') (h : CallsV P c k C f args' n N u w Post) : CallsV P c k C f args n N u w Post := e ▸ h
theorem callsV_mono {P : Program} {c : Cfg} {k C n N : Nat} {f : FuncId} {args : Array Value} {u : c.U} {w : World} {Post Post' : Nat → c.U → Value → World → Prop} (h : CallsV P c k C f args n N u w Post) (hp : ∀ N u v w, Post N u v w → Post' N u v w) : CallsV P c k C f args n N u w Post' := by
  obtain ⟨fn, cd, h1, h2, h3, h4⟩ := h
  refine ⟨fn, cd, h1, h2, h3, codeV_mono h4 fun N' u' e a' w' q => ?_⟩
  cases e <;> first | exact ⟨q.1, q.2.imp fun v hv => ⟨hv.1, hp _ _ _ _ hv.2⟩⟩ | exact q
section
variable {c : Cfg} {X : MxI c} {k C N L nfc : Nat} {u₀ uc ud : c.U} {F : World → Prop} {w : World} {g : FuncId} {fst cap : Array Value} {R : c.U → Prop}
theorem doSlow_V (K : c.Ok) (hX : X.Ok) (hS : Stays c C F) (hst : X.st = ⟨L, 1, none⟩) (hl0 : X.Lk u₀)
    (hld : ∀ N w, F w → CallsV Try.prog c k C 26 #[.pointer (some ⟨L, 0, none⟩)] 60 N (X.put u₀ .own) w (fun N' u' v w' => N' ≤ N ∧ F w' ∧ ∃ b, v = .bool b ∧ ((b = true ∧ ∃ u₁, X.Lk u₁ ∧ u' = X.put u₁ .own ∧ R u₁) ∨ (b = false ∧ u' = uc))))
    (hcl : ∀ N w, F w → CallsV Try.prog c k C g (fst ++ cap) nfc N uc w (fun N' u' v w' => N' ≤ N ∧ F w' ∧ u' = ud))
    (hsd : ∀ N w, F w → CallsV Try.prog c k C 25 #[.pointer (some ⟨L, 0, none⟩), .bool true] 1000 N ud w (fun N' u' v w' => N' ≤ N ∧ F w' ∧ ∃ u₁, X.Lk u₁ ∧ u' = X.put u₁ .own ∧ R u₁))
    (hF : F w) :
    CallsEV Try.prog c k C 36 #[.pointer (some ⟨L, 0, none⟩), .func (.func g) fst cap] ((N + 1) * 5001 + 6000 + nfc) ((N + 1) * 2001 + 8000) N (X.put u₀ .pre) w (fun N' u' v w' => N' ≤ N ∧ F w' ∧ ∃ u₁, R u₁ ∧ u' = X.put u₁ .out) := by
  have rl9 : ∀ {w w₁ : World}, F w → RW c C w w₁ → F w₁ := fun h r => hS.rely _ _ r h
  refine ⟨_, _, Try.func36, by kernel_rfl, rfl, ?_⟩
  simp only [Try.ntmps36]
  walk_nrm
  co_apply codeV_more
  · co_apply codeV_seq
    (co_apply codeV_region; simp only [List.size_toArray, List.length_cons, List.length_nil, Nat.reduceAdd, Nat.zero_add, List.range, List.range.loop])
    (co_apply opsV_cons_k rfl (by rfl); intro _ hR K9 hK9; replace hF := rl9 hF hR; clear hR; go_simp; refine hK9 _ _ ⟨?_, ?_⟩; (· rw [listed_nil (by simp [go_sem, *])]; exact DW.refl _ _ _); clear hK9 K9; try walk_nrm)
    (co_apply opsV_cons_k rfl (by rfl); intro _ hR K9 hK9; replace hF := rl9 hF hR; clear hR; go_simp; refine hK9 _ _ ⟨?_, ?_⟩; (· rw [listed_nil (by simp [go_sem, *])]; exact DW.refl _ _ _); clear hK9 K9; try walk_nrm)
    (co_apply opsV_cons_k rfl (by rfl); intro _ hR K9 hK9; replace hF := rl9 hF hR; clear hR; go_simp; refine hK9 _ _ ⟨?_, ?_⟩; (· rw [listed_nil (by simp [go_sem, *])]; exact DW.refl _ _ _); clear hK9 K9; try walk_nrm)
    co_apply opsV_call rfl (by rfl) rfl
    · have := lock_V (k := k) (N := N) K hX hl0 hS hF
      rw [hst] at this
      simpa [Act.eval] using this
    rintro N2 u2 v2 w2 ⟨hN2, rfl, hF2⟩
    clear hF
    have hF := hF2
    clear hF2
    walk_nrm
    (co_apply opsV_nil; simp only [ThenV])
    co_apply codeV_seq
    (co_apply codeV_region; simp only [List.size_toArray, List.length_cons, List.length_nil, Nat.reduceAdd, Nat.zero_add, List.range, List.range.loop])
    (co_apply opsV_cons_k rfl (by rfl); intro _ hR K9 hK9; replace hF := rl9 hF hR; clear hR; go_simp; refine hK9 _ _ ⟨?_, ?_⟩; (· rw [listed_nil (by simp [go_sem, *])]; exact DW.refl _ _ _); clear hK9 K9; try walk_nrm)
    (co_apply opsV_cons_k rfl (by rfl); intro _ hR K9 hK9; replace hF := rl9 hF hR; clear hR; go_simp; refine hK9 _ _ ⟨?_, ?_⟩; (· rw [listed_nil (by simp [go_sem, *])]; exact DW.refl _ _ _); clear hK9 K9; try walk_nrm)
    (co_apply opsV_cons_k rfl (by rfl); intro _ hR K9 hK9; replace hF := rl9 hF hR; clear hR; go_simp; refine hK9 _ _ ⟨?_, ?_⟩; (· rw [listed_nil (by simp [go_sem, *])]; exact DW.refl _ _ _); clear hK9 K9; try walk_nrm)
    co_apply opsV_defer rfl (by rfl) rfl
    walk_nrm
    (co_apply opsV_nil; simp only [ThenV])
    refine codeV_seq (n₁ := 200) (n₂ := nfc + 200) ?_
    co_apply codeV_more
    · (co_apply codeV_region; simp only [List.size_toArray, List.length_cons, List.length_nil, Nat.reduceAdd, Nat.zero_add, List.range, List.range.loop])
      (co_apply opsV_cons_k rfl (by rfl); intro _ hR K9 hK9; replace hF := rl9 hF hR; clear hR; go_simp; refine hK9 _ _ ⟨?_, ?_⟩; (· rw [listed_nil (by simp [go_sem, *])]; exact DW.refl _ _ _); clear hK9 K9; try walk_nrm)
      (co_apply opsV_cons_k rfl (by rfl); intro _ hR K9 hK9; replace hF := rl9 hF hR; clear hR; go_simp; refine hK9 _ _ ⟨?_, ?_⟩; (· rw [listed_nil (by simp [go_sem, *])]; exact DW.refl _ _ _); clear hK9 K9; try walk_nrm)
      (co_apply opsV_cons_k rfl (by rfl); intro _ hR K9 hK9; replace hF := rl9 hF hR; clear hR; go_simp; refine hK9 _ _ ⟨?_, ?_⟩; (· rw [listed_nil (by simp [go_sem, *])]; exact DW.refl _ _ _); clear hK9 K9; try walk_nrm)
      co_apply opsV_call rfl (by rfl) rfl
      · exact callsV_args (by simp [Act.eval]) (hld N2 _ hF)
      rintro N3 u3 v3 w3 ⟨hN3, hF3, b, rfl, hB⟩
      clear hF
      have hF := hF3
      clear hF3
      walk_nrm
      (co_apply opsV_cons_k rfl (by rfl); intro _ hR K9 hK9; replace hF := rl9 hF hR; clear hR; go_simp; refine hK9 _ _ ⟨?_, ?_⟩; (· rw [listed_nil (by simp [go_sem, *])]; exact DW.refl _ _ _); clear hK9 K9; try walk_nrm)
      (co_apply opsV_nil; simp only [ThenV])
      rcases hB with ⟨rfl, u₁, hl1, rfl, hR1⟩ | ⟨rfl, rfl⟩
      · refine codeV_more (n := 100 + 1) (codeV_cond (t := false) rfl ?_) (by omega)
        simp only [if_false, Bool.false_eq_true]
        refine cv_skip (n := 99) ?_
        refine ⟨.inl rfl, [(48, #[.pointer (some ⟨L, 1, none⟩)])], rfl, (N3 + 1) * 2001 + 5100, 0, by have : (N3 + 1) * 2001 ≤ (N + 1) * 2001 := Nat.mul_le_mul_right _ (by omega); omega, ?_⟩
        have := unlock_V (k := k) (N := N3) K hX hl1 hS hF
        rw [hst] at this
        refine callsV_mono this ?_
        rintro N4 u4 v4 w4 ⟨hN4, rfl, hF4⟩
        exact ⟨_, resultsC_none rfl _, by omega, hF4, u₁, hR1, rfl⟩
      · refine codeV_more (n := nfc + 100 + 1) (codeV_cond (t := true) rfl ?_) (by omega)
        simp only [if_true]
        co_apply codeV_more
        · co_apply codeV_seq
          (co_apply codeV_region; simp only [List.size_toArray, List.length_cons, List.length_nil, Nat.reduceAdd, Nat.zero_add, List.range, List.range.loop])
          (co_apply opsV_cons_k rfl (by rfl); intro _ hR K9 hK9; replace hF := rl9 hF hR; clear hR; go_simp; refine hK9 _ _ ⟨?_, ?_⟩; (· rw [listed_nil (by simp [go_sem, *])]; exact DW.refl _ _ _); clear hK9 K9; try walk_nrm)
          (co_apply opsV_cons_k rfl (by rfl); intro _ hR K9 hK9; replace hF := rl9 hF hR; clear hR; go_simp; refine hK9 _ _ ⟨?_, ?_⟩; (· rw [listed_nil (by simp [go_sem, *])]; exact DW.refl _ _ _); clear hK9 K9; try walk_nrm)
          (co_apply opsV_cons_k rfl (by rfl); intro _ hR K9 hK9; replace hF := rl9 hF hR; clear hR; go_simp; refine hK9 _ _ ⟨?_, ?_⟩; (· rw [listed_nil (by simp [go_sem, *])]; exact DW.refl _ _ _); clear hK9 K9; try walk_nrm)
          co_apply opsV_defer rfl (by rfl) rfl
          walk_nrm
          (co_apply opsV_nil; simp only [ThenV])
          (co_apply codeV_region; simp only [List.size_toArray, List.length_cons, List.length_nil, Nat.reduceAdd, Nat.zero_add, List.range, List.range.loop])
          (co_apply opsV_cons_k rfl (by rfl); intro _ hR K9 hK9; replace hF := rl9 hF hR; clear hR; go_simp; refine hK9 _ _ ⟨?_, ?_⟩; (· rw [listed_nil (by simp [go_sem, *])]; exact DW.refl _ _ _); clear hK9 K9; try walk_nrm)
          co_apply opsV_callV rfl (by rfl) rfl rfl
          · exact callsV_args (by simp) (hcl N3 _ hF)
          rintro N4 u4 v4 w4 ⟨hN4, hF4, rfl⟩
          walk_nrm
          co_apply opsV_nil
          refine ⟨.inl rfl, [(25, #[.pointer (some ⟨L, 0, none⟩), .bool true]), (48, #[.pointer (some ⟨L, 1, none⟩)])], rfl, 1000, (N + 1) * 2001 + 6000, by omega, ?_⟩
          refine callsV_mono (hsd N4 _ hF4) ?_
          rintro N5 u5 v5 w5 ⟨hN5, hF5, u₁, hl1, rfl, hR1⟩
          refine ⟨(N5 + 1) * 2001 + 5100, 0, by have : (N5 + 1) * 2001 ≤ (N + 1) * 2001 := Nat.mul_le_mul_right _ (by omega); omega, ?_⟩
          have := unlock_V (k := k) (N := N5) K hX hl1 hS hF5
          rw [hst] at this
          refine callsV_mono this ?_
          rintro N6 u6 v6 w6 ⟨hN6, rfl, hF6⟩
          exact ⟨_, resultsC_none rfl _, by omega, hF6, u₁, hR1, rfl⟩
        · omega
    · decide
  · omega
/-- Do -/
theorem do_V {ua ue : c.U} (K : c.Ok) (hX : X.Ok) (hS : Stays c C F) (hst : X.st = ⟨L, 1, none⟩) (hl0 : X.Lk u₀)
    (hl1 : ∀ N w, F w → CallsV Try.prog c k C 26 #[.pointer (some ⟨L, 0, none⟩)] 60 N ua w (fun N' u' v w' => N' ≤ N ∧ F w' ∧ ∃ b, v = .bool b ∧ ((b = true ∧ u' = ue) ∨ (b = false ∧ u' = X.put u₀ .pre))))
    (hld : ∀ N w, F w → CallsV Try.prog c k C 26 #[.pointer (some ⟨L, 0, none⟩)] 60 N (X.put u₀ .own) w (fun N' u' v w' => N' ≤ N ∧ F w' ∧ ∃ b, v = .bool b ∧ ((b = true ∧ ∃ u₁, X.Lk u₁ ∧ u' = X.put u₁ .own ∧ R u₁) ∨ (b = false ∧ u' = uc))))
    (hcl : ∀ N w, F w → CallsV Try.prog c k C g (fst ++ cap) nfc N uc w (fun N' u' v w' => N' ≤ N ∧ F w' ∧ u' = ud))
    (hsd : ∀ N w, F w → CallsV Try.prog c k C 25 #[.pointer (some ⟨L, 0, none⟩), .bool true] 1000 N ud w (fun N' u' v w' => N' ≤ N ∧ F w' ∧ ∃ u₁, X.Lk u₁ ∧ u' = X.put u₁ .own ∧ R u₁))
    (hF : F w) :
    CallsV Try.prog c k C 23 #[.pointer (some ⟨L, 0, none⟩), .func (.func g) fst cap] ((N + 1) * 7002 + 16000 + nfc) N ua w (fun N' u' v w' => N' ≤ N ∧ F w' ∧ (u' = ue ∨ ∃ u₁, R u₁ ∧ u' = X.put u₁ .out)) := by
  have rl9 : ∀ {w w₁ : World}, F w → RW c C w w₁ → F w₁ := fun h r => hS.rely _ _ r h
  refine ⟨_, _, Try.func23, by kernel_rfl, rfl, ?_⟩
  simp only [Try.ntmps23]
  walk_nrm
  refine cv_seq (n₁ := 200) (n₂ := (N + 1) * 7002 + 15500 + nfc) (by omega) ?_
  co_apply codeV_more
  · (co_apply codeV_region; simp only [List.size_toArray, List.length_cons, List.length_nil, Nat.reduceAdd, Nat.zero_add, List.range, List.range.loop])
    (co_apply opsV_cons_k rfl (by rfl); intro _ hR K9 hK9; replace hF := rl9 hF hR; clear hR; go_simp; refine hK9 _ _ ⟨?_, ?_⟩; (· rw [listed_nil (by simp [go_sem, *])]; exact DW.refl _ _ _); clear hK9 K9; try walk_nrm)
    (co_apply opsV_cons_k rfl (by rfl); intro _ hR K9 hK9; replace hF := rl9 hF hR; clear hR; go_simp; refine hK9 _ _ ⟨?_, ?_⟩; (· rw [listed_nil (by simp [go_sem, *])]; exact DW.refl _ _ _); clear hK9 K9; try walk_nrm)
    (co_apply opsV_cons_k rfl (by rfl); intro _ hR K9 hK9; replace hF := rl9 hF hR; clear hR; go_simp; refine hK9 _ _ ⟨?_, ?_⟩; (· rw [listed_nil (by simp [go_sem, *])]; exact DW.refl _ _ _); clear hK9 K9; try walk_nrm)
    co_apply opsV_call rfl (by rfl) rfl
    · exact callsV_args (by simp [Act.eval]) (hl1 N _ hF)
    rintro N3 u3 v3 w3 ⟨hN3, hF3, b, rfl, hB⟩
    clear hF
    have hF := hF3
    clear hF3
    walk_nrm
    (co_apply opsV_cons_k rfl (by rfl); intro _ hR K9 hK9; replace hF := rl9 hF hR; clear hR; go_simp; refine hK9 _ _ ⟨?_, ?_⟩; (· rw [listed_nil (by simp [go_sem, *])]; exact DW.refl _ _ _); clear hK9 K9; try walk_nrm)
    (co_apply opsV_nil; simp only [ThenV])
    rcases hB with ⟨rfl, rfl⟩ | ⟨rfl, rfl⟩
    · refine codeV_more (n := 100 + 1) (codeV_cond (t := false) rfl ?_) (by omega)
      simp only [if_false, Bool.false_eq_true]
      refine cv_skip (n := 99) ?_
      exact ⟨rfl, _, resultsC_none rfl _, hN3, hF, .inl rfl⟩
    · refine codeV_more (n := (N + 1) * 7002 + 15400 + nfc + 1) (codeV_cond (t := true) rfl ?_) (by omega)
      simp only [if_true]
      co_apply codeV_more
      · (co_apply codeV_region; simp only [List.size_toArray, List.length_cons, List.length_nil, Nat.reduceAdd, Nat.zero_add, List.range, List.range.loop])
        (co_apply opsV_cons_k rfl (by rfl); intro _ hR K9 hK9; replace hF := rl9 hF hR; clear hR; go_simp; refine hK9 _ _ ⟨?_, ?_⟩; (· rw [listed_nil (by simp [go_sem, *])]; exact DW.refl _ _ _); clear hK9 K9; try walk_nrm)
        (co_apply opsV_cons_k rfl (by rfl); intro _ hR K9 hK9; replace hF := rl9 hF hR; clear hR; go_simp; refine hK9 _ _ ⟨?_, ?_⟩; (· rw [listed_nil (by simp [go_sem, *])]; exact DW.refl _ _ _); clear hK9 K9; try walk_nrm)
        co_apply opsV_callE rfl (by rfl) rfl
        · have := doSlow_V (k := k) (N := N3) K hX hS hst hl0 hld hcl hsd hF
          have e : ((#[.tmp 9, .tmp 10] : Array Operand).map (⟨#[.pointer (some ⟨L, 0, none⟩), .func (.func g) fst cap, undef, undef, .pointer (some ⟨L, 0, none⟩), .pointer (some ⟨L, 0, none⟩), .pointer (some ⟨L, 0, none⟩), .bool false, .bool true, .pointer (some ⟨L, 0, none⟩), .func (.func g) fst cap, undef], []⟩ : Act).eval) = #[.pointer (some ⟨L, 0, none⟩), .func (.func g) fst cap] := by simp [Act.eval]
          rw [← e] at this
          exact this
        rintro N4 u4 v4 w4 ⟨hN4, hF4, hR4⟩
        walk_nrm
        co_apply opsV_nil
        exact ⟨rfl, _, resultsC_none rfl _, by omega, hF4, .inr hR4⟩
      · have : (N3 + 1) * 7002 ≤ (N + 1) * 7002 := Nat.mul_le_mul_right _ (by omega)
        omega
  · decide
end
end Go.Proofs.Ytinghnaigpenkaa
