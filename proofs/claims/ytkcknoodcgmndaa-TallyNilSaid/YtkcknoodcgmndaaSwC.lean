/- What a sweep's worker does to a word of marks: Load, CompareAndSwap; to a count: Add. -/
import Derived.Test.YtkcknoodcgmndaaSwB
import Derived.Test.YtkcknoodcgmndaaPhV
import Derived.ProofKit
namespace Go.Proofs.Ytkcknoodcgmndaa
open Go.Conc Go.RowKit
open Go.ConcR (WgAt stA)
set_option linter.unusedVariables false
set_option linter.unusedSimpArgs false
set_option maxRecDepth 100000
set_option maxHeartbeats 4000000



theorem OnlySB.refl (c : Cfg) (w : World) : OnlySB c w w := ⟨.refl w, rfl, fun _ _ => rfl⟩
theorem SwRep.word {s : SwP} {σ : SS} {w : World} (h : SwRep s σ w) (hh : s.has = true) {q : Nat} (hq : q < σ.ws.length) : w.cell? ⟨s.Wb, q, none⟩ = some (.int .u64 ((σ.ws.getD q 0 : Nat) : Int)) := by
  simp [World.cell?, h.m hh, List.getElem?_eq_getElem hq]
theorem SwRep.thawM {s : SwP} {σ : SS} {w : World} (h : SwRep s σ w) (hh : s.has = true) (q : Nat) : w.frozen? ⟨s.Wb, q, none⟩ = false := by
  simp [World.frozen?, h.m hh]
theorem evV_cell {s : SwP} {k : Nat} {a : Addr} (wr : Bool) (ha : s.SB a.block) : EvV (swCfg s) k ⟨.cell a, wr, true⟩ := by
  refine ⟨fun x hx _ => ?_, by simp, by simp, by simp⟩
  simp only [ofEvent_cell0, MemAct.touch?, Option.some.injEq] at hx
  subst hx
  exact .inl ⟨⟨a, rfl, .inr (.inl ha)⟩, rfl⟩
theorem SwRep.setW {s : SwP} {σ : SS} {w : World} (K : s.Ok) (h : SwRep s σ w) (hh : s.has = true) (q v : Nat) : SwRep s { σ with ws := σ.ws.set q v } (w.setCell ⟨s.Wb, q, none⟩ (.int .u64 (v : Int))) := by
  refine ⟨((aside_setCell w ⟨s.Wb, q, none⟩ _).block s.Bb (fun e => K.mb hh e.symm)).trans h.b, fun _ => ?_⟩
  rw [setCell_eq_setRow w s.Wb q _ _ (0, 0) _ (h.m hh), setRow_heap w s.Wb _ _ _ _ (h.m hh)]
  simp [List.map_set]
theorem SwRep.setB {s : SwP} {σ : SS} {w : World} (K : s.Ok) (h : SwRep s σ w) (b : Bool) : SwRep s (if b then { σ with won := σ.won + 1 } else { σ with lost := σ.lost + 1 }) (w.setCell ⟨s.Bb, if b then 0 else 1, none⟩ (.int .i64 (((if b then σ.won else σ.lost) + 1 : Nat) : Int))) := by
  refine ⟨?_, fun hh => ?_⟩
  · rw [setCell_eq_setRow w s.Bb _ _ _ (0, 0) _ h.b, setRow_heap w s.Bb _ _ _ _ h.b]
    cases b <;> simp [boardC]
  · refine ((aside_setCell w ⟨s.Bb, _, none⟩ _).block s.Wb (K.mb hh)).trans ?_
    cases b <;> exact h.m hh
theorem SwRep.count {s : SwP} {σ : SS} {w : World} (h : SwRep s σ w) (b : Bool) : w.cell? ⟨s.Bb, if b then 0 else 1, none⟩ = some (.int .i64 ((if b then σ.won else σ.lost : Nat) : Int)) := by
  cases b <;> simp [World.cell?, h.b, boardC]
theorem SwRep.thawB {s : SwP} {σ : SS} {w : World} (h : SwRep s σ w) (q : Nat) : w.frozen? ⟨s.Bb, q, none⟩ = false := by
  simp [World.frozen?, h.b]
theorem onlySB_set {s : SwP} (w : World) (a : Addr) (v : Value) (ha : s.SB a.block) : OnlySB (swCfg s) w (w.setCell a v) :=
  ⟨⟨(aside_setCell w a v).tape, (aside_setCell w a v).os, (aside_setCell w a v).output⟩, (aside_setCell w a v).size, fun b hb => (aside_setCell w a v).block b (fun e => hb (e ▸ ha))⟩
theorem load42_V {s : SwP} {k C N : Nat} {x : Int} {r : List Int} {F : World → Prop} (hFR : ∀ w w₁, RW (swCfg s) C w w₁ → F w → F w₁) (hFS : ∀ w w₁, OnlySB (swCfg s) w w₁ → F w → F w₁)
    (K : s.Ok) (hh : s.has = true) (w : World) (hF : F w) :
    CallsV Try.prog (swCfg s) k C 42 #[.pointer (some ⟨s.Wb, x.toNat / 64, none⟩)] 100 N (⟨x :: r, .idle⟩ : SU) w
      (fun N' u' v w' => N' < N ∧ F w' ∧ ∃ g : Nat, v = .int .u64 g ∧ g < 2 ^ 64 ∧ ((g.testBit (x.toNat % 64) = true ∧ u' = ⟨x :: r, .done false⟩) ∨ (g.testBit (x.toNat % 64) = false ∧ u' = ⟨x :: r, .got g⟩))) := by
  have rl9 : ∀ {w w₁ : World}, F w → RW (swCfg s) C w w₁ → F w₁ := fun h r => hFR _ _ r h
  refine ⟨_, _, Try.func42, by kernel_rfl, rfl, ?_⟩
  co_apply codeV_more
  · simp only [Try.ntmps42]
    walk_nrm
    co_apply codeV_seq
    (co_apply codeV_region; simp only [List.size_toArray, List.length_cons, List.length_nil, Nat.reduceAdd, Nat.zero_add, List.range, List.range.loop])
    (co_apply opsV_cons_k rfl (by rfl); intro _ hR K hK; replace hF := rl9 hF hR; clear hR; go_simp; refine hK _ _ ⟨?_, ?_⟩; (· rw [listed_nil (by simp [go_sem])]; exact DW.refl _ _ _); clear hK K; try walk_nrm)
    co_apply opsV_nil
    simp only [ThenV]
    co_apply codeV_seq
    (co_apply codeV_region; simp only [List.size_toArray, List.length_cons, List.length_nil, Nat.reduceAdd, Nat.zero_add, List.range, List.range.loop])
    (co_apply opsV_cons_k rfl (by rfl); intro _ hR K hK; replace hF := rl9 hF hR; clear hR; go_simp; refine hK _ _ ⟨?_, ?_⟩; (· rw [listed_nil (by simp [go_sem])]; exact DW.refl _ _ _); clear hK K; try walk_nrm)
    (co_apply opsV_cons_k rfl (by rfl); intro _ hR K hK; replace hF := rl9 hF hR; clear hR; go_simp; refine hK _ _ ⟨?_, ?_⟩; (· rw [listed_nil (by simp [go_sem])]; exact DW.refl _ _ _); clear hK K; try walk_nrm)
    (co_apply opsV_cons_k rfl (by rfl); intro _ hR K hK; replace hF := rl9 hF hR; clear hR; go_simp; refine hK _ _ ⟨?_, ?_⟩; (· rw [listed_nil (by simp [go_sem])]; exact DW.refl _ _ _); clear hK K; try walk_nrm)
    co_apply opsV_vis rfl
    · simp [swCfg]
    intro w₁ h₁ σ hr hp
    replace hF := rl9 hF h₁
    clear h₁
    obtain ⟨hp1, hp2, hp3, hp4⟩ := hp
    have hv : 0 ≤ x ∧ x < (s.nn : Int) := hp4
    have hq : x.toNat / 64 < σ.ws.length := by have := K.room; omega
    refine ⟨.int .u64 ((σ.ws.getD (x.toNat / 64) 0 : Nat) : Int), w₁, _, (nxt s.nn ⟨x :: r, .idle⟩ σ).1, (nxt s.nn ⟨x :: r, .idle⟩ σ).2, fun b kk cs hb hk => stepG_load_atomic rfl rfl hk rfl wgLib.f_loadU64 (Go.ConcR.Gen.x_loadU64_n lnk) (Go.ConcR.Gen.x_loadU64_b lnk) (Go.ConcR.Gen.x_loadU64_x lnk) .u64 (Go.ConcR.Gen.x_loadU64_f lnk) rfl (SwRep.word hr hh hq), rfl, ?_, OnlySB.refl _ _, ?_, ?_⟩
    · have : (nxt s.nn ⟨x :: r, .idle⟩ σ).2 = σ := by simp only [nxt]; split <;> rfl
      rw [this]; exact hr
    · intro e he
      simp at he
      subst he
      exact evV_cell _ (.inr ⟨hh, rfl⟩)
    · rintro N1 rfl
      have hlt : σ.ws.getD (x.toNat / 64) 0 < 2 ^ 64 := by
        rw [List.getD_eq_getElem?_getD, List.getElem?_eq_getElem hq, Option.getD_some]
        exact hp3 _ (List.getElem_mem hq)
      have hor : ((σ.ws.getD (x.toNat / 64) 0).testBit (x.toNat % 64) = true ∧ (nxt s.nn ⟨x :: r, .idle⟩ σ).1 = ⟨x :: r, .done false⟩) ∨ ((σ.ws.getD (x.toNat / 64) 0).testBit (x.toNat % 64) = false ∧ (nxt s.nn ⟨x :: r, .idle⟩ σ).1 = ⟨x :: r, .got (σ.ws.getD (x.toNat / 64) 0)⟩) := by
        simp only [nxt]
        split
        · rename_i h; exact .inl ⟨h, rfl⟩
        · rename_i h; exact .inr ⟨by simpa [bitW] using h, rfl⟩
      generalize (nxt s.nn ⟨x :: r, .idle⟩ σ).1 = u' at hor ⊢
      generalize σ.ws.getD (x.toNat / 64) 0 = g at hlt hor ⊢
      clear hr hp1 hp2 hp3 hp4 hq
      co_apply Exists.intro
      walk_nrm
      (co_apply opsV_cons_k rfl (by rfl); intro _ hR K hK; replace hF := rl9 hF hR; clear hR; go_simp; refine hK _ _ ⟨?_, ?_⟩; (· rw [listed_nil (by simp [go_sem])]; exact DW.refl _ _ _); clear hK K; try walk_nrm)
      co_apply opsV_nil
      simp only [ThenV]
      refine codeV_of (wpC_ret (termsW _ _) ?_)
      exact ⟨rfl, _, resultsC_tmp rfl _, Nat.lt_succ_self _, hF, g, rfl, hlt, hor⟩
  · decide

theorem cas43_V {s : SwP} {k C N : Nat} {x : Int} {r : List Int} {g : Nat} {F : World → Prop} (hFR : ∀ w w₁, RW (swCfg s) C w w₁ → F w → F w₁) (hFS : ∀ w w₁, OnlySB (swCfg s) w w₁ → F w → F w₁)
    (K : s.Ok) (hh : s.has = true) (w : World) (hF : F w) :
    CallsV Try.prog (swCfg s) k C 43 #[.pointer (some ⟨s.Wb, x.toNat / 64, none⟩), .int .u64 (g : Int), .int .u64 ((g ^^^ 2 ^ (x.toNat % 64) : Nat) : Int)] 100 N (⟨x :: r, .got g⟩ : SU) w
      (fun N' u' v w' => N' < N ∧ F w' ∧ ((v = .bool true ∧ u' = ⟨x :: r, .done true⟩) ∨ (v = .bool false ∧ u' = ⟨x :: r, .idle⟩))) := by
  have rl9 : ∀ {w w₁ : World}, F w → RW (swCfg s) C w w₁ → F w₁ := fun h r => hFR _ _ r h
  refine ⟨_, _, Try.func43, by kernel_rfl, rfl, ?_⟩
  co_apply codeV_more
  · simp only [Try.ntmps43]
    walk_nrm
    co_apply codeV_seq
    (co_apply codeV_region; simp only [List.size_toArray, List.length_cons, List.length_nil, Nat.reduceAdd, Nat.zero_add, List.range, List.range.loop])
    (co_apply opsV_cons_k rfl (by rfl); intro _ hR K hK; replace hF := rl9 hF hR; clear hR; go_simp; refine hK _ _ ⟨?_, ?_⟩; (· rw [listed_nil (by simp [go_sem])]; exact DW.refl _ _ _); clear hK K; try walk_nrm)
    co_apply opsV_nil
    simp only [ThenV]
    co_apply codeV_seq
    (co_apply codeV_region; simp only [List.size_toArray, List.length_cons, List.length_nil, Nat.reduceAdd, Nat.zero_add, List.range, List.range.loop])
    (co_apply opsV_cons_k rfl (by rfl); intro _ hR K hK; replace hF := rl9 hF hR; clear hR; go_simp; refine hK _ _ ⟨?_, ?_⟩; (· rw [listed_nil (by simp [go_sem])]; exact DW.refl _ _ _); clear hK K; try walk_nrm)
    (co_apply opsV_cons_k rfl (by rfl); intro _ hR K hK; replace hF := rl9 hF hR; clear hR; go_simp; refine hK _ _ ⟨?_, ?_⟩; (· rw [listed_nil (by simp [go_sem])]; exact DW.refl _ _ _); clear hK K; try walk_nrm)
    (co_apply opsV_cons_k rfl (by rfl); intro _ hR K hK; replace hF := rl9 hF hR; clear hR; go_simp; refine hK _ _ ⟨?_, ?_⟩; (· rw [listed_nil (by simp [go_sem])]; exact DW.refl _ _ _); clear hK K; try walk_nrm)
    (co_apply opsV_cons_k rfl (by rfl); intro _ hR K hK; replace hF := rl9 hF hR; clear hR; go_simp; refine hK _ _ ⟨?_, ?_⟩; (· rw [listed_nil (by simp [go_sem])]; exact DW.refl _ _ _); clear hK K; try walk_nrm)
    (co_apply opsV_cons_k rfl (by rfl); intro _ hR K hK; replace hF := rl9 hF hR; clear hR; go_simp; refine hK _ _ ⟨?_, ?_⟩; (· rw [listed_nil (by simp [go_sem])]; exact DW.refl _ _ _); clear hK K; try walk_nrm)
    co_apply opsV_vis rfl
    · simp [swCfg]
    intro w₁ h₁ σ hr hp
    replace hF := rl9 hF h₁
    clear h₁
    obtain ⟨hp1, hp2, hp3, hp4⟩ := hp
    have hv : 0 ≤ x ∧ x < (s.nn : Int) := hp4.1
    have hq : x.toNat / 64 < σ.ws.length := by have := K.room; omega
    clear hp1 hp2 hp3 hp4
    by_cases he : σ.ws.getD (x.toNat / 64) 0 = g
    · refine ⟨.bool true, w₁.setCell ⟨s.Wb, x.toNat / 64, none⟩ (.int .u64 ((g ^^^ 2 ^ (x.toNat % 64) : Nat) : Int)), _, ⟨x :: r, .done true⟩, { σ with ws := σ.ws.set (x.toNat / 64) (g ^^^ 2 ^ (x.toNat % 64)) }, fun b kk cs hb hk => stepG_cas_hit rfl rfl hk rfl wgLib.f_casU64 (Go.ConcR.Gen.x_casU64_n lnk) (Go.ConcR.Gen.x_casU64_b lnk) (Go.ConcR.Gen.x_casU64_x lnk) .u64 (Go.ConcR.Gen.x_casU64_f lnk) rfl rfl rfl (he ▸ SwRep.word hr hh hq) (SwRep.thawM hr hh _), ?_, SwRep.setW K hr hh _ _, onlySB_set _ _ _ (.inr ⟨hh, rfl⟩), ?_, ?_⟩
      · show nxt s.nn ⟨x :: r, .got g⟩ σ = _
        simp only [nxt, if_pos he]
      · intro e hee
        simp at hee
        rcases hee with rfl | rfl <;> exact evV_cell _ (.inr ⟨hh, rfl⟩)
      · rintro N1 rfl
        replace hF := hFS _ _ (onlySB_set w₁ ⟨s.Wb, x.toNat / 64, none⟩ (.int .u64 ((g ^^^ 2 ^ (x.toNat % 64) : Nat) : Int)) (.inr ⟨hh, rfl⟩)) hF
        clear hr hq he
        co_apply Exists.intro
        walk_nrm
        (co_apply opsV_cons_k rfl (by rfl); intro _ hR K hK; replace hF := rl9 hF hR; clear hR; go_simp; refine hK _ _ ⟨?_, ?_⟩; (· rw [listed_nil (by simp [go_sem])]; exact DW.refl _ _ _); clear hK K; try walk_nrm)
        co_apply opsV_nil
        simp only [ThenV]
        refine codeV_of (wpC_ret (termsW _ _) ?_)
        exact ⟨rfl, _, resultsC_tmp rfl _, Nat.lt_succ_self _, hF, .inl ⟨rfl, rfl⟩⟩
    · refine ⟨.bool false, w₁, _, ⟨x :: r, .idle⟩, σ, fun b kk cs hb hk => stepG_cas_miss rfl rfl hk rfl wgLib.f_casU64 (Go.ConcR.Gen.x_casU64_n lnk) (Go.ConcR.Gen.x_casU64_b lnk) (Go.ConcR.Gen.x_casU64_x lnk) .u64 (Go.ConcR.Gen.x_casU64_f lnk) rfl rfl rfl (SwRep.word hr hh hq) (SwRep.thawM hr hh _) (fun e => he (by exact_mod_cast e)), ?_, hr, OnlySB.refl _ _, ?_, ?_⟩
      · show nxt s.nn ⟨x :: r, .got g⟩ σ = _
        simp only [nxt, if_neg he]
      · intro e hee
        simp at hee
        subst hee
        exact evV_cell _ (.inr ⟨hh, rfl⟩)
      · rintro N1 rfl
        clear hr hq he
        co_apply Exists.intro
        walk_nrm
        (co_apply opsV_cons_k rfl (by rfl); intro _ hR K hK; replace hF := rl9 hF hR; clear hR; go_simp; refine hK _ _ ⟨?_, ?_⟩; (· rw [listed_nil (by simp [go_sem])]; exact DW.refl _ _ _); clear hK K; try walk_nrm)
        co_apply opsV_nil
        simp only [ThenV]
        refine codeV_of (wpC_ret (termsW _ _) ?_)
        exact ⟨rfl, _, resultsC_tmp rfl _, Nat.lt_succ_self _, hF, .inr ⟨rfl, rfl⟩⟩
  · decide
theorem add31_V {s : SwP} {k C N : Nat} {x : Int} {r : List Int} {b : Bool} {F : World → Prop} (hFR : ∀ w w₁, RW (swCfg s) C w w₁ → F w → F w₁) (hFS : ∀ w w₁, OnlySB (swCfg s) w w₁ → F w → F w₁)
    (K : s.Ok) (w : World) (hF : F w) :
    CallsV Try.prog (swCfg s) k C 31 #[.pointer (some ⟨s.Bb, if b then 0 else 1, none⟩), .int .i64 1] 100 N (⟨x :: r, .done b⟩ : SU) w
      (fun N' u' v w' => N' < N ∧ F w' ∧ u' = mkU s.nn r ∧ ∃ z, v = .int .i64 z) := by
  have rl9 : ∀ {w w₁ : World}, F w → RW (swCfg s) C w w₁ → F w₁ := fun h r => hFR _ _ r h
  refine ⟨_, _, Try.func31, by kernel_rfl, rfl, ?_⟩
  co_apply codeV_more
  · simp only [Try.ntmps31]
    walk_nrm
    co_apply codeV_seq
    (co_apply codeV_region; simp only [List.size_toArray, List.length_cons, List.length_nil, Nat.reduceAdd, Nat.zero_add, List.range, List.range.loop])
    (co_apply opsV_cons_k rfl (by rfl); intro _ hR K hK; replace hF := rl9 hF hR; clear hR; go_simp; refine hK _ _ ⟨?_, ?_⟩; (· rw [listed_nil (by simp [go_sem])]; exact DW.refl _ _ _); clear hK K; try walk_nrm)
    co_apply opsV_nil
    simp only [ThenV]
    co_apply codeV_seq
    (co_apply codeV_region; simp only [List.size_toArray, List.length_cons, List.length_nil, Nat.reduceAdd, Nat.zero_add, List.range, List.range.loop])
    (co_apply opsV_cons_k rfl (by rfl); intro _ hR K hK; replace hF := rl9 hF hR; clear hR; go_simp; refine hK _ _ ⟨?_, ?_⟩; (· rw [listed_nil (by simp [go_sem])]; exact DW.refl _ _ _); clear hK K; try walk_nrm)
    (co_apply opsV_cons_k rfl (by rfl); intro _ hR K hK; replace hF := rl9 hF hR; clear hR; go_simp; refine hK _ _ ⟨?_, ?_⟩; (· rw [listed_nil (by simp [go_sem])]; exact DW.refl _ _ _); clear hK K; try walk_nrm)
    (co_apply opsV_cons_k rfl (by rfl); intro _ hR K hK; replace hF := rl9 hF hR; clear hR; go_simp; refine hK _ _ ⟨?_, ?_⟩; (· rw [listed_nil (by simp [go_sem])]; exact DW.refl _ _ _); clear hK K; try walk_nrm)
    (co_apply opsV_cons_k rfl (by rfl); intro _ hR K hK; replace hF := rl9 hF hR; clear hR; go_simp; refine hK _ _ ⟨?_, ?_⟩; (· rw [listed_nil (by simp [go_sem])]; exact DW.refl _ _ _); clear hK K; try walk_nrm)
    co_apply opsV_vis rfl
    · simp [swCfg]
    intro w₁ h₁ σ hr hp
    replace hF := rl9 hF h₁
    clear h₁
    obtain ⟨hp1, hp2, hp3, hp4⟩ := hp
    have hwr : IntKind.i64.wrap (((if b then σ.won else σ.lost : Nat) : Int) + 1) = (((if b then σ.won else σ.lost) + 1 : Nat) : Int) := by
      rw [IntKind.wrap_i64]
      cases b <;> simp <;> omega
    clear hp1 hp2 hp3 hp4
    refine ⟨.int .i64 (((if b then σ.won else σ.lost) + 1 : Nat) : Int), w₁.setCell ⟨s.Bb, if b then 0 else 1, none⟩ (.int .i64 (((if b then σ.won else σ.lost) + 1 : Nat) : Int)), _, mkU s.nn r, if b then { σ with won := σ.won + 1 } else { σ with lost := σ.lost + 1 }, fun bf kk cs hb hk => (stepG_add_atomic rfl rfl hk rfl Try.func47 (by kernel_rfl) (by kernel_rfl) (by kernel_rfl) .i64 (by rfl) rfl rfl (SwRep.count hr b) (SwRep.thawB hr _)).trans (by rw [hwr]), rfl, SwRep.setB K hr b, onlySB_set _ _ _ (.inl rfl), ?_, ?_⟩
    · intro e hee
      simp at hee
      rcases hee with rfl | rfl <;> exact evV_cell _ (.inl rfl)
    · rintro N1 rfl
      replace hF := hFS _ _ (onlySB_set w₁ ⟨s.Bb, if b then 0 else 1, none⟩ (.int .i64 (((if b then σ.won else σ.lost) + 1 : Nat) : Int)) (.inl rfl)) hF
      clear hr hwr
      co_apply Exists.intro
      walk_nrm
      (co_apply opsV_cons_k rfl (by rfl); intro _ hR K hK; replace hF := rl9 hF hR; clear hR; go_simp; refine hK _ _ ⟨?_, ?_⟩; (· rw [listed_nil (by simp [go_sem])]; exact DW.refl _ _ _); clear hK K; try walk_nrm)
      co_apply opsV_nil
      simp only [ThenV]
      refine codeV_of (wpC_ret (termsW _ _) ?_)
      exact ⟨rfl, _, resultsC_tmp rfl _, Nat.lt_succ_self _, hF, rfl, _, rfl⟩
  · decide
end Go.Proofs.Ytkcknoodcgmndaa
