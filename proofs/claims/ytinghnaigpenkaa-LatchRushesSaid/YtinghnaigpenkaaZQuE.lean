/- Seat 05: many get a value that is made once: a worker's Get. -/
import Derived.Test.YtinghnaigpenkaaZQuD
namespace Go.Proofs.Ytinghnaigpenkaa
open Go.Conc Go.RowKit Go.ConcR.Gen
open Go.ConcR (Payload rd wr mk WgAt)
set_option linter.unusedVariables false
set_option linter.unusedSimpArgs false
set_option linter.unusedSectionVars false
set_option maxRecDepth 100000
set_option maxHeartbeats 4000000



section
variable {p : QuP} {C k N : Nat} {w : World} {ix : Nat} {F : World → Prop}
theorem get_V (h : p.Ok) (hS : Stays (quC p) C F) (hM : Makes p k C F) (hF : F w) :
    CallsV Try.prog (quC p) k C 18 #[.pointer (some ⟨p.L, 0, none⟩)] ((N + 1) * 7002 + 25000) N (⟨.a0, .pre, ix⟩ : QU) w
      (fun N' u' v w' => N' ≤ N ∧ F w' ∧ v = .int .u64 p.x ∧ ∃ m, (m = .pre ∨ m = .out) ∧ u' = (⟨.w0, m, ix⟩ : QU)) := by
  have rl9 : ∀ {w w₁ : World}, F w → RW (quC p) C w w₁ → F w₁ := fun h r => hS.rely _ _ r h
  have ev9 := fun (p : Option Addr) (w : World) => ev_eql_nil (P := Try.prog) Try.underlying39 p w
  refine ⟨_, _, Try.func18, by kernel_rfl, rfl, ?_⟩
  simp only [Try.ntmps18]
  walk_nrm
  refine cv_seq (n₁ := 100) (n₂ := (N + 1) * 7002 + 24800) (by omega) ?_
  co_apply codeV_more
  · (co_apply codeV_region; simp only [List.size_toArray, List.length_cons, List.length_nil, Nat.reduceAdd, Nat.zero_add, List.range, List.range.loop])
    (co_apply opsV_cons_k rfl (by rfl); intro _ hR K9 hK9; replace hF := rl9 hF hR; clear hR; go_simp; refine hK9 _ _ ⟨?_, ?_⟩; (· rw [listed_nil (by simp [go_sem, *])]; exact DW.refl _ _ _); clear hK9 K9; try walk_nrm)
    (co_apply opsV_nil; simp only [ThenV])
    refine cv_seq (n₁ := 200) (n₂ := (N + 1) * 7002 + 24500) (by omega) ?_
    co_apply codeV_more
    · co_apply codeV_seq
      (co_apply codeV_region; simp only [List.size_toArray, List.length_cons, List.length_nil, Nat.reduceAdd, Nat.zero_add, List.range, List.range.loop])
      (co_apply opsV_cons_k rfl (by rfl); intro _ hR K9 hK9; replace hF := rl9 hF hR; clear hR; go_simp; refine hK9 _ _ ⟨?_, ?_⟩; (· rw [listed_nil (by simp [go_sem, *])]; exact DW.refl _ _ _); clear hK9 K9; try walk_nrm)
      (co_apply opsV_cons_k rfl (by rfl); intro _ hR K9 hK9; replace hF := rl9 hF hR; clear hR; go_simp; refine hK9 _ _ ⟨?_, ?_⟩; (· rw [listed_nil (by simp [go_sem, *])]; exact DW.refl _ _ _); clear hK9 K9; try walk_nrm)
      (co_apply opsV_nil; simp only [ThenV])
      co_apply codeV_cond (t := false)
      focus (exact rfl)
      simp only [if_false, Bool.false_eq_true]
      refine codeV_of (wpC_skip (termsW _ _) ?_)
      simp only [ThenV]
      refine cv_seq (n₁ := (N + 1) * 7002 + 18000 + 500) (n₂ := 2000) (by omega) ?_
      co_apply codeV_more
      · (co_apply codeV_region; simp only [List.size_toArray, List.length_cons, List.length_nil, Nat.reduceAdd, Nat.zero_add, List.range, List.range.loop])
        (co_apply opsV_cons_k rfl (by rfl); intro _ hR K9 hK9; replace hF := rl9 hF hR; clear hR; go_simp; refine hK9 _ _ ⟨?_, ?_⟩; (· rw [listed_nil (by simp [go_sem, *])]; exact DW.refl _ _ _); clear hK9 K9; try walk_nrm)
        (co_apply opsV_cons_k rfl (by rfl); intro _ hR K9 hK9; replace hF := rl9 hF hR; clear hR; go_simp; refine hK9 _ _ ⟨?_, ?_⟩; (· rw [listed_nil (by simp [go_sem, *])]; exact DW.refl _ _ _); clear hK9 K9; try walk_nrm)
        (co_apply opsV_cons_k rfl (by rfl); intro _ hR K9 hK9; replace hF := rl9 hF hR; clear hR; go_simp; refine hK9 _ _ ⟨?_, ?_⟩; (· rw [listed_nil (by simp [go_sem, *])]; exact DW.refl _ _ _); clear hK9 K9; try walk_nrm)
        (co_apply opsV_cons_k rfl (by rfl); intro _ hR K9 hK9; replace hF := rl9 hF hR; clear hR; go_simp; refine hK9 _ _ ⟨?_, ?_⟩; (· rw [listed_nil (by simp [go_sem, *])]; exact DW.refl _ _ _); clear hK9 K9; try walk_nrm)
        (co_apply opsV_cons_k rfl (by rfl); intro _ hR K9 hK9; replace hF := rl9 hF hR; clear hR; go_simp; refine hK9 _ _ ⟨?_, ?_⟩; (· rw [listed_nil (by simp [go_sem, *])]; exact DW.refl _ _ _); clear hK9 K9; try walk_nrm)
        co_apply opsV_call rfl (by rfl) rfl
        · exact callsV_args (by simp [Act.eval]) (do_V (k := k) (N := N) (X := quX p) (L := p.L) (g := 31) (fst := #[.pointer (some ⟨p.L, 0, none⟩)]) (cap := #[]) (nfc := 2000) (ua := (⟨.a0, .pre, ix⟩ : QU)) (ue := (⟨.e0, .pre, ix⟩ : QU)) (u₀ := (⟨.lk, .pre, ix⟩ : QU)) (uc := (⟨.c1, .own, ix⟩ : QU)) (ud := (⟨.c3, .own, ix⟩ : QU)) (R := fun u₁ => u₁ = (⟨.ul, .pre, ix⟩ : QU)) (quC_ok h) (quX_ok h) hS rfl rfl
            (fun N w hF => qlook1_V h hS hF) (fun N w hF => qlook2_V h hS hF) (fun N w hF => callsV_args (by simp) (fill_V h hS hM hF)) (fun N w hF => qsd_V h hS hF) hF)
        rintro N2 u2 v2 w2 ⟨hN2, hF2, hu2⟩
        clear hF
        have hF := hF2
        clear hF2
        walk_nrm
        (co_apply opsV_nil; simp only [ThenV])
        obtain ⟨ph, m, rfl, hph, hm⟩ : ∃ ph m, u2 = (⟨ph, m, ix⟩ : QU) ∧ (ph = .e0 ∨ (ph = .ul ∧ m = .out)) ∧ (m = .pre ∨ m = .out) := by
          rcases hu2 with rfl | ⟨u₁, rfl, rfl⟩
          · exact ⟨_, _, rfl, .inl rfl, .inl rfl⟩
          · exact ⟨_, _, rfl, .inr ⟨rfl, rfl⟩, .inr rfl⟩
        clear hu2
        co_apply codeV_more
        · co_apply codeV_seq
          (co_apply codeV_region; simp only [List.size_toArray, List.length_cons, List.length_nil, Nat.reduceAdd, Nat.zero_add, List.range, List.range.loop])
          (co_apply opsV_cons_k rfl (by rfl); intro _ hR K9 hK9; replace hF := rl9 hF hR; clear hR; go_simp; refine hK9 _ _ ⟨?_, ?_⟩; (· rw [listed_nil (by simp [go_sem, *])]; exact DW.refl _ _ _); clear hK9 K9; try walk_nrm)
          (co_apply opsV_cons_k rfl (by rfl); intro _ hR K9 hK9; replace hF := rl9 hF hR; clear hR; go_simp; refine hK9 _ _ ⟨?_, ?_⟩; (· rw [listed_nil (by simp [go_sem, *])]; exact DW.refl _ _ _); clear hK9 K9; try walk_nrm)
          (co_apply opsV_cons_k rfl (by rfl); intro _ hR K9 hK9; replace hF := rl9 hF hR; clear hR; go_simp; refine hK9 _ _ ⟨?_, ?_⟩; (· rw [listed_nil (by simp [go_sem, *])]; exact DW.refl _ _ _); clear hK9 K9; try walk_nrm)
          refine opsV_visop rfl (by rfl) (by rcases hph with rfl | ⟨rfl, _⟩ <;> (intro e; cases e)) fun w₁ h₁ σ hr hp => ?_
          replace hF := rl9 hF h₁
          clear h₁
          have hr0 : quRep p σ w₁ := hr
          have hlf : QLf p.x (⟨ph, m, ix⟩ : QU) σ := hp.2.2.2.1
          have hD := qrd hlf (by rcases hph with rfl | ⟨rfl, _⟩ <;> rfl)
          have hc5 : w₁.cell? ⟨p.L, 5, none⟩ = some (.int .u64 p.x) := by simp [World.cell?, hr0.1, lazO, hD.2.2.1]
          refine ⟨fun hb => ?_, .int .u64 p.x, w₁, (⟨.w0, m, ix⟩ : QU), σ, .inl (by go_simp), fun e he => ?_, QT.ld (u := (⟨ph, m, ix⟩ : QU)) hph, hr, OnlySB.refl _ _, ?_, fun es => ⟨fun l hl => hl, fun l hl => .inl hl, fun l hl => .inl ⟨by rcases hph with rfl | ⟨rfl, _⟩ <;> rfl, hl.2⟩⟩, fun l ho => .inl ?_, fun _ hb => hb, fun N5 hN5 => ?_⟩
          · have h1 : ph.lock = true := hb.1
            have h2 : m = MU.q := hb.2.1
            rcases hph with rfl | ⟨_, rfl⟩
            · cases h1
            · cases h2
          · simp [go_sem, hc5] at he
            subst he
            exact ev_prd ⟨by rcases hph with rfl | ⟨rfl, _⟩ <;> rfl, rfl⟩
          · rcases hph with rfl | ⟨rfl, rfl⟩ <;> rfl
          · rcases ho with ⟨h1, rfl⟩ | ⟨h1, rfl⟩
            · exact .inl ⟨by rcases hph with rfl | ⟨rfl, _⟩ <;> (show ¬ _ = QPh.a0; simp), rfl⟩
            · cases h1
          clear hr hp hr0 hlf hD hc5
          co_apply Exists.intro
          try walk_nrm
          (co_apply opsV_cons_k rfl (by rfl); intro _ hR K9 hK9; replace hF := rl9 hF hR; clear hR; go_simp; refine hK9 _ _ ⟨?_, ?_⟩; (· rw [listed_nil (by simp [go_sem, *])]; exact DW.refl _ _ _); clear hK9 K9; try walk_nrm)
          (co_apply opsV_nil; simp only [ThenV])
          refine codeV_more (codeV_of (wpC_ret (termsW _ _) ?_)) (by decide : 1 ≤ 100)
          exact ⟨rfl, _, resultsC_tmp rfl _, by omega, hF, rfl, m, hm, rfl⟩
        · decide
      · omega
    · decide
  · decide
end
end Go.Proofs.Ytinghnaigpenkaa
