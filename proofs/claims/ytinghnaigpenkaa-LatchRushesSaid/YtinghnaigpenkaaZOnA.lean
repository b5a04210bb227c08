/- Seat 05: sync.Mutex's wrappers, atomic.Bool, atomic.Int32, sync.Once, called by a worker. -/
import Derived.Test.YtinghnaigpenkaaZMxL
import Derived.Test.YtinghnaigpenkaaZDvA
import Derived.Test.YtinghnaigpenkaaZAnV
namespace Go.Proofs.Ytinghnaigpenkaa
open Go.Conc Go.RowKit Go.ConcR.Gen
open Go.ConcR (Payload rd wr mk)
set_option linter.unusedVariables false
set_option linter.unusedSimpArgs false
set_option linter.unusedSectionVars false
set_option maxRecDepth 100000
set_option maxHeartbeats 4000000




section
variable {c : Cfg} {k C N : Nat} {u : c.U} {F : World → Prop} {w : World}
theorem Stays.draw (h : Stays c C F) (K : c.Ok) {w : World} (hF : F w) (n : Nat) : F { w with drawn := n } :=
  h.rely w _ (rw_os K (w' := { w with drawn := n }) ⟨rfl, .refl _, rfl⟩ rfl) hF
theorem bload_V (hS : Stays c C F) (g o : Nat) (hnf : ¬ c.fin u) (R : Bool → c.U → Prop)
    (hs : ∀ w₁ σ, F w₁ → c.Rep σ w₁ → c.Pre u σ → ¬ c.blk u σ ∧ ∃ (x : Int) (u' : c.U) (σ' : c.S), w₁.cell? ⟨g, o, none⟩ = some (.int .u32 x) ∧ ActV Try.prog c k u σ w₁ u' σ' w₁ #[⟨.cell ⟨g, o, none⟩, false, true⟩] ∧ (∀ v, c.blk v σ → c.blk v σ') ∧ R (x != 0) u') (hF : F w) :
    CallsV Try.prog c k C 26 #[.pointer (some ⟨g, o, none⟩)] 60 N u w (fun N' u' v w' => N = N' + 1 ∧ F w' ∧ ∃ b, v = .bool b ∧ R b u') := by
  have rl9 : ∀ {w w₁ : World}, F w → RW c C w w₁ → F w₁ := fun h r => hS.rely _ _ r h
  refine ⟨_, _, Try.func26, by kernel_rfl, rfl, ?_⟩
  simp only [Try.ntmps26]
  walk_nrm
  co_apply codeV_more
  · co_apply codeV_seq
    (co_apply codeV_region; simp only [List.size_toArray, List.length_cons, List.length_nil, Nat.reduceAdd, Nat.zero_add, List.range, List.range.loop])
    (co_apply opsV_cons_k rfl (by rfl); intro _ hR K9 hK9; replace hF := rl9 hF hR; clear hR; go_simp; refine hK9 _ _ ⟨?_, ?_⟩; (· rw [listed_nil (by simp [go_sem, *])]; exact DW.refl _ _ _); clear hK9 K9; try walk_nrm)
    (co_apply opsV_nil; simp only [ThenV])
    co_apply codeV_seq
    (co_apply codeV_region; simp only [List.size_toArray, List.length_cons, List.length_nil, Nat.reduceAdd, Nat.zero_add, List.range, List.range.loop])
    (co_apply opsV_cons_k rfl (by rfl); intro _ hR K9 hK9; replace hF := rl9 hF hR; clear hR; go_simp; refine hK9 _ _ ⟨?_, ?_⟩; (· rw [listed_nil (by simp [go_sem, *])]; exact DW.refl _ _ _); clear hK9 K9; try walk_nrm)
    (co_apply opsV_cons_k rfl (by rfl); intro _ hR K9 hK9; replace hF := rl9 hF hR; clear hR; go_simp; refine hK9 _ _ ⟨?_, ?_⟩; (· rw [listed_nil (by simp [go_sem, *])]; exact DW.refl _ _ _); clear hK9 K9; try walk_nrm)
    (co_apply opsV_cons_k rfl (by rfl); intro _ hR K9 hK9; replace hF := rl9 hF hR; clear hR; go_simp; refine hK9 _ _ ⟨?_, ?_⟩; (· rw [listed_nil (by simp [go_sem, *])]; exact DW.refl _ _ _); clear hK9 K9; try walk_nrm)
    refine opsV_vis rfl hnf fun w₁ h₁ σ hr hp => ?_
    have hF1 := rl9 hF h₁
    obtain ⟨hnb, x, u', σ', hc, hA, hbl, hR⟩ := hs w₁ σ hF1 hr hp
    refine ⟨fun hb => absurd hb hnb, fun _ => ⟨_, _, _, u', σ', fun b kk cs hb hk => stepG_load_atomic rfl rfl hk rfl Try.func39 (by kernel_rfl) (by kernel_rfl) (by kernel_rfl) .u32 (by rfl) rfl hc, hA, .inl hbl, fun N1 hN => ?_⟩⟩
    clear hF
    have hF := hF1
    clear h₁ hr hp hnb hc hA hbl
    co_apply Exists.intro
    walk_nrm
    (co_apply opsV_cons_k rfl (by rfl); intro _ hR K9 hK9; replace hF := rl9 hF hR; clear hR; go_simp; refine hK9 _ _ ⟨?_, ?_⟩; (· rw [listed_nil (by simp [go_sem, *])]; exact DW.refl _ _ _); clear hK9 K9; try walk_nrm)
    (co_apply opsV_cons_k rfl (by rfl); intro _ hR K9 hK9; replace hF := rl9 hF hR; clear hR; go_simp; refine hK9 _ _ ⟨?_, ?_⟩; (· rw [listed_nil (by simp [go_sem, *])]; exact DW.refl _ _ _); clear hK9 K9; try walk_nrm)
    (co_apply opsV_nil; simp only [ThenV])
    refine codeV_of (wpC_ret (termsW c C) ?_)
    exact ⟨rfl, _, resultsC_tmp rfl _, hN, hF, _, rfl, hR⟩
  · decide
theorem b32_V (hS : Stays c C F) (hF : F w) : CallsV Try.prog c k C 38 #[.bool true] 60 N u w (fun N' u' v w' => N' = N ∧ u' = u ∧ F w' ∧ v = .int .u32 1) := by
  have rl9 : ∀ {w w₁ : World}, F w → RW c C w w₁ → F w₁ := fun h r => hS.rely _ _ r h
  refine ⟨_, _, Try.func38, by kernel_rfl, rfl, ?_⟩
  simp only [Try.ntmps38]
  walk_nrm
  refine cv_seq (n₁ := 10) (n₂ := 48) (by decide) ?_
  co_apply codeV_more
  · (co_apply codeV_region; simp only [List.size_toArray, List.length_cons, List.length_nil, Nat.reduceAdd, Nat.zero_add, List.range, List.range.loop])
    (co_apply opsV_cons_k rfl (by rfl); intro _ hR K9 hK9; replace hF := rl9 hF hR; clear hR; go_simp; refine hK9 _ _ ⟨?_, ?_⟩; (· rw [listed_nil (by simp [go_sem, *])]; exact DW.refl _ _ _); clear hK9 K9; try walk_nrm)
    (co_apply opsV_nil; simp only [ThenV])
    refine cv_seq (n₁ := 37) (n₂ := 10) (by decide) ?_
    co_apply codeV_more
    · co_apply codeV_seq
      (co_apply codeV_region; simp only [List.size_toArray, List.length_cons, List.length_nil, Nat.reduceAdd, Nat.zero_add, List.range, List.range.loop])
      (co_apply opsV_cons_k rfl (by rfl); intro _ hR K9 hK9; replace hF := rl9 hF hR; clear hR; go_simp; refine hK9 _ _ ⟨?_, ?_⟩; (· rw [listed_nil (by simp [go_sem, *])]; exact DW.refl _ _ _); clear hK9 K9; try walk_nrm)
      (co_apply opsV_nil; simp only [ThenV])
      co_apply codeV_cond (t := true)
      focus (exact rfl)
      simp only [if_true]
      co_apply codeV_seq
      (co_apply codeV_region; simp only [List.size_toArray, List.length_cons, List.length_nil, Nat.reduceAdd, Nat.zero_add, List.range, List.range.loop])
      (co_apply opsV_cons_k rfl (by rfl); intro _ hR K9 hK9; replace hF := rl9 hF hR; clear hR; go_simp; refine hK9 _ _ ⟨?_, ?_⟩; (· rw [listed_nil (by simp [go_sem, *])]; exact DW.refl _ _ _); clear hK9 K9; try walk_nrm)
      (co_apply opsV_nil; simp only [ThenV])
      refine codeV_of (wpC_ret (termsW c C) ?_)
      exact ⟨rfl, _, resultsC_tmp rfl _, rfl, rfl, hF, rfl⟩
    · decide
  · decide
theorem bstore_V (K : c.Ok) (hS : Stays c C F) (g o : Nat) (hnf : ¬ c.fin u) (R : c.U → Prop)
    (hs : ∀ w₁ σ, F w₁ → c.Rep σ w₁ → c.Pre u σ → ¬ c.blk u σ ∧ ∃ (x : Value) (u' : c.U) (σ' : c.S), w₁.cell? ⟨g, o, none⟩ = some x ∧ w₁.frozen? ⟨g, o, none⟩ = false ∧ ActV Try.prog c k u σ w₁ u' σ' (w₁.setCell ⟨g, o, none⟩ (.int .u32 1)) #[⟨.cell ⟨g, o, none⟩, true, true⟩] ∧ (∀ v, c.blk v σ → c.blk v σ') ∧ R u') (hF : F w) :
    CallsV Try.prog c k C 25 #[.pointer (some ⟨g, o, none⟩), .bool true] 1000 N u w (fun N' u' v w' => N = N' + 1 ∧ F w' ∧ v = .tuple #[] ∧ R u') := by
  have rl9 : ∀ {w w₁ : World}, F w → RW c C w w₁ → F w₁ := fun h r => hS.rely _ _ r h
  refine ⟨_, _, Try.func25, by kernel_rfl, rfl, ?_⟩
  simp only [Try.ntmps25]
  walk_nrm
  co_apply codeV_more
  · refine codeV_region_any (B := 70) (by rfl) (fun w₁ h₁ => ?_)
    replace hF := hS.draw K (rl9 hF h₁) (w₁.drawn + 1)
    clear h₁
    generalize { w₁ with drawn := w₁.drawn + 1 } = w2 at hF ⊢
    simp only [List.size_toArray, List.length_cons, List.length_nil, Nat.reduceAdd, Nat.zero_add]
    refine anyV_all (rs := [0, 3]) (by kernel_rfl) (by simp) ?_
    intro i hi
    simp only [List.mem_cons, List.not_mem_nil, or_false] at hi
    rcases hi with rfl | rfl
    · skip
      (refine opV_cons (by decide) rfl (by rfl) ?_; intro _ hR K9 hK9; replace hF := rl9 hF hR; clear hR; go_simp; refine hK9 _ _ ⟨?_, ?_⟩; (· rw [listed_nil (by simp [go_sem, *])]; exact DW.refl _ _ _); clear hK9 K9; try walk_nrm)
      refine anyV_all (rs := [1, 3]) (by kernel_rfl) (by simp) ?_
      intro i hi
      simp only [List.mem_cons, List.not_mem_nil, or_false] at hi
      rcases hi with rfl | rfl
      · skip
        (refine opV_cons (by decide) rfl (by rfl) ?_; intro _ hR K9 hK9; replace hF := rl9 hF hR; clear hR; go_simp; refine hK9 _ _ ⟨?_, ?_⟩; (· rw [listed_nil (by simp [go_sem, *])]; exact DW.refl _ _ _); clear hK9 K9; try walk_nrm)
        refine anyV_all (rs := [2, 3]) (by kernel_rfl) (by simp) ?_
        intro i hi
        simp only [List.mem_cons, List.not_mem_nil, or_false] at hi
        rcases hi with rfl | rfl
        · skip
          (refine opV_cons (by decide) rfl (by rfl) ?_; intro _ hR K9 hK9; replace hF := rl9 hF hR; clear hR; go_simp; refine hK9 _ _ ⟨?_, ?_⟩; (· rw [listed_nil (by simp [go_sem, *])]; exact DW.refl _ _ _); clear hK9 K9; try walk_nrm)
          refine anyV_all (rs := [3]) (by kernel_rfl) (by simp) ?_
          intro i hi
          simp only [List.mem_cons, List.not_mem_nil, or_false] at hi
          subst hi
          (refine opV_cons (by decide) rfl (by rfl) ?_; intro _ hR K9 hK9; replace hF := rl9 hF hR; clear hR; go_simp; refine hK9 _ _ ⟨?_, ?_⟩; (· rw [listed_nil (by simp [go_sem, *])]; exact DW.refl _ _ _); clear hK9 K9; try walk_nrm)
          refine anyV_all (rs := [4]) (by kernel_rfl) (by simp) ?_
          intro i hi
          simp only [List.mem_cons, List.not_mem_nil, or_false] at hi
          subst hi
          refine opV_call (nf := 60) (Post := fun N' u' v w' => N' = N ∧ u' = u ∧ F w' ∧ v = .int .u32 1) (by decide) rfl (by rfl) rfl ?_ ?_
          · have := b32_V (k := k) (C := C) (N := N) (u := u) hS hF
            simpa [Act.eval] using this
          rintro N2 u2 v2 w2 ⟨rfl, rfl, hF2, rfl⟩
          clear hF
          have hF := hF2
          clear hF2
          walk_nrm
          refine anyV_all (rs := [5]) (by kernel_rfl) (by simp) ?_
          intro i hi
          simp only [List.mem_cons, List.not_mem_nil, or_false] at hi
          subst hi
          refine opV_vis rfl hnf fun w₁ h₁ σ hr hp rest => ?_
          have hF1 := rl9 hF h₁
          obtain ⟨hnb, x, u', σ', hc, hz, hA, hbl, hR⟩ := hs w₁ σ hF1 hr hp
          refine ⟨fun hb => absurd hb hnb, fun _ => ⟨_, _, _, u', σ', fun b kk cs hb hk => stepG_store_atomic rfl rfl hk rfl Try.func37 (by kernel_rfl) (by kernel_rfl) (by kernel_rfl) (by rfl) rfl rfl hc hz, hA, .inl hbl, fun N1 hN => ?_⟩⟩
          have hF2 := hS.act _ _ hA.only ⟨_, hA.rep⟩ hF1
          clear hF hF1 h₁ hr hp hnb hc hA hbl
          have hF := hF2
          clear hF2
          walk_nrm
          refine anyV_done ?_
          exact ⟨rfl, _, resultsC_none rfl _, hN, hF, rfl, hR⟩
        · skip
          (refine opV_cons (by decide) rfl (by rfl) ?_; intro _ hR K9 hK9; replace hF := rl9 hF hR; clear hR; go_simp; refine hK9 _ _ ⟨?_, ?_⟩; (· rw [listed_nil (by simp [go_sem, *])]; exact DW.refl _ _ _); clear hK9 K9; try walk_nrm)
          refine anyV_all (rs := [2, 4]) (by kernel_rfl) (by simp) ?_
          intro i hi
          simp only [List.mem_cons, List.not_mem_nil, or_false] at hi
          rcases hi with rfl | rfl
          · skip
            (refine opV_cons (by decide) rfl (by rfl) ?_; intro _ hR K9 hK9; replace hF := rl9 hF hR; clear hR; go_simp; refine hK9 _ _ ⟨?_, ?_⟩; (· rw [listed_nil (by simp [go_sem, *])]; exact DW.refl _ _ _); clear hK9 K9; try walk_nrm)
            refine anyV_all (rs := [4]) (by kernel_rfl) (by simp) ?_
            intro i hi
            simp only [List.mem_cons, List.not_mem_nil, or_false] at hi
            subst hi
            refine opV_call (nf := 60) (Post := fun N' u' v w' => N' = N ∧ u' = u ∧ F w' ∧ v = .int .u32 1) (by decide) rfl (by rfl) rfl ?_ ?_
            · have := b32_V (k := k) (C := C) (N := N) (u := u) hS hF
              simpa [Act.eval] using this
            rintro N2 u2 v2 w2 ⟨rfl, rfl, hF2, rfl⟩
            clear hF
            have hF := hF2
            clear hF2
            walk_nrm
            refine anyV_all (rs := [5]) (by kernel_rfl) (by simp) ?_
            intro i hi
            simp only [List.mem_cons, List.not_mem_nil, or_false] at hi
            subst hi
            refine opV_vis rfl hnf fun w₁ h₁ σ hr hp rest => ?_
            have hF1 := rl9 hF h₁
            obtain ⟨hnb, x, u', σ', hc, hz, hA, hbl, hR⟩ := hs w₁ σ hF1 hr hp
            refine ⟨fun hb => absurd hb hnb, fun _ => ⟨_, _, _, u', σ', fun b kk cs hb hk => stepG_store_atomic rfl rfl hk rfl Try.func37 (by kernel_rfl) (by kernel_rfl) (by kernel_rfl) (by rfl) rfl rfl hc hz, hA, .inl hbl, fun N1 hN => ?_⟩⟩
            have hF2 := hS.act _ _ hA.only ⟨_, hA.rep⟩ hF1
            clear hF hF1 h₁ hr hp hnb hc hA hbl
            have hF := hF2
            clear hF2
            walk_nrm
            refine anyV_done ?_
            exact ⟨rfl, _, resultsC_none rfl _, hN, hF, rfl, hR⟩
          · skip
            refine opV_call (nf := 60) (Post := fun N' u' v w' => N' = N ∧ u' = u ∧ F w' ∧ v = .int .u32 1) (by decide) rfl (by rfl) rfl ?_ ?_
            · have := b32_V (k := k) (C := C) (N := N) (u := u) hS hF
              simpa [Act.eval] using this
            rintro N2 u2 v2 w2 ⟨rfl, rfl, hF2, rfl⟩
            clear hF
            have hF := hF2
            clear hF2
            walk_nrm
            refine anyV_all (rs := [2]) (by kernel_rfl) (by simp) ?_
            intro i hi
            simp only [List.mem_cons, List.not_mem_nil, or_false] at hi
            subst hi
            (refine opV_cons (by decide) rfl (by rfl) ?_; intro _ hR K9 hK9; replace hF := rl9 hF hR; clear hR; go_simp; refine hK9 _ _ ⟨?_, ?_⟩; (· rw [listed_nil (by simp [go_sem, *])]; exact DW.refl _ _ _); clear hK9 K9; try walk_nrm)
            refine anyV_all (rs := [5]) (by kernel_rfl) (by simp) ?_
            intro i hi
            simp only [List.mem_cons, List.not_mem_nil, or_false] at hi
            subst hi
            refine opV_vis rfl hnf fun w₁ h₁ σ hr hp rest => ?_
            have hF1 := rl9 hF h₁
            obtain ⟨hnb, x, u', σ', hc, hz, hA, hbl, hR⟩ := hs w₁ σ hF1 hr hp
            refine ⟨fun hb => absurd hb hnb, fun _ => ⟨_, _, _, u', σ', fun b kk cs hb hk => stepG_store_atomic rfl rfl hk rfl Try.func37 (by kernel_rfl) (by kernel_rfl) (by kernel_rfl) (by rfl) rfl rfl hc hz, hA, .inl hbl, fun N1 hN => ?_⟩⟩
            have hF2 := hS.act _ _ hA.only ⟨_, hA.rep⟩ hF1
            clear hF hF1 h₁ hr hp hnb hc hA hbl
            have hF := hF2
            clear hF2
            walk_nrm
            refine anyV_done ?_
            exact ⟨rfl, _, resultsC_none rfl _, hN, hF, rfl, hR⟩
      · skip
        (refine opV_cons (by decide) rfl (by rfl) ?_; intro _ hR K9 hK9; replace hF := rl9 hF hR; clear hR; go_simp; refine hK9 _ _ ⟨?_, ?_⟩; (· rw [listed_nil (by simp [go_sem, *])]; exact DW.refl _ _ _); clear hK9 K9; try walk_nrm)
        refine anyV_all (rs := [1, 4]) (by kernel_rfl) (by simp) ?_
        intro i hi
        simp only [List.mem_cons, List.not_mem_nil, or_false] at hi
        rcases hi with rfl | rfl
        · skip
          (refine opV_cons (by decide) rfl (by rfl) ?_; intro _ hR K9 hK9; replace hF := rl9 hF hR; clear hR; go_simp; refine hK9 _ _ ⟨?_, ?_⟩; (· rw [listed_nil (by simp [go_sem, *])]; exact DW.refl _ _ _); clear hK9 K9; try walk_nrm)
          refine anyV_all (rs := [2, 4]) (by kernel_rfl) (by simp) ?_
          intro i hi
          simp only [List.mem_cons, List.not_mem_nil, or_false] at hi
          rcases hi with rfl | rfl
          · skip
            (refine opV_cons (by decide) rfl (by rfl) ?_; intro _ hR K9 hK9; replace hF := rl9 hF hR; clear hR; go_simp; refine hK9 _ _ ⟨?_, ?_⟩; (· rw [listed_nil (by simp [go_sem, *])]; exact DW.refl _ _ _); clear hK9 K9; try walk_nrm)
            refine anyV_all (rs := [4]) (by kernel_rfl) (by simp) ?_
            intro i hi
            simp only [List.mem_cons, List.not_mem_nil, or_false] at hi
            subst hi
            refine opV_call (nf := 60) (Post := fun N' u' v w' => N' = N ∧ u' = u ∧ F w' ∧ v = .int .u32 1) (by decide) rfl (by rfl) rfl ?_ ?_
            · have := b32_V (k := k) (C := C) (N := N) (u := u) hS hF
              simpa [Act.eval] using this
            rintro N2 u2 v2 w2 ⟨rfl, rfl, hF2, rfl⟩
            clear hF
            have hF := hF2
            clear hF2
            walk_nrm
            refine anyV_all (rs := [5]) (by kernel_rfl) (by simp) ?_
            intro i hi
            simp only [List.mem_cons, List.not_mem_nil, or_false] at hi
            subst hi
            refine opV_vis rfl hnf fun w₁ h₁ σ hr hp rest => ?_
            have hF1 := rl9 hF h₁
            obtain ⟨hnb, x, u', σ', hc, hz, hA, hbl, hR⟩ := hs w₁ σ hF1 hr hp
            refine ⟨fun hb => absurd hb hnb, fun _ => ⟨_, _, _, u', σ', fun b kk cs hb hk => stepG_store_atomic rfl rfl hk rfl Try.func37 (by kernel_rfl) (by kernel_rfl) (by kernel_rfl) (by rfl) rfl rfl hc hz, hA, .inl hbl, fun N1 hN => ?_⟩⟩
            have hF2 := hS.act _ _ hA.only ⟨_, hA.rep⟩ hF1
            clear hF hF1 h₁ hr hp hnb hc hA hbl
            have hF := hF2
            clear hF2
            walk_nrm
            refine anyV_done ?_
            exact ⟨rfl, _, resultsC_none rfl _, hN, hF, rfl, hR⟩
          · skip
            refine opV_call (nf := 60) (Post := fun N' u' v w' => N' = N ∧ u' = u ∧ F w' ∧ v = .int .u32 1) (by decide) rfl (by rfl) rfl ?_ ?_
            · have := b32_V (k := k) (C := C) (N := N) (u := u) hS hF
              simpa [Act.eval] using this
            rintro N2 u2 v2 w2 ⟨rfl, rfl, hF2, rfl⟩
            clear hF
            have hF := hF2
            clear hF2
            walk_nrm
            refine anyV_all (rs := [2]) (by kernel_rfl) (by simp) ?_
            intro i hi
            simp only [List.mem_cons, List.not_mem_nil, or_false] at hi
            subst hi
            (refine opV_cons (by decide) rfl (by rfl) ?_; intro _ hR K9 hK9; replace hF := rl9 hF hR; clear hR; go_simp; refine hK9 _ _ ⟨?_, ?_⟩; (· rw [listed_nil (by simp [go_sem, *])]; exact DW.refl _ _ _); clear hK9 K9; try walk_nrm)
            refine anyV_all (rs := [5]) (by kernel_rfl) (by simp) ?_
            intro i hi
            simp only [List.mem_cons, List.not_mem_nil, or_false] at hi
            subst hi
            refine opV_vis rfl hnf fun w₁ h₁ σ hr hp rest => ?_
            have hF1 := rl9 hF h₁
            obtain ⟨hnb, x, u', σ', hc, hz, hA, hbl, hR⟩ := hs w₁ σ hF1 hr hp
            refine ⟨fun hb => absurd hb hnb, fun _ => ⟨_, _, _, u', σ', fun b kk cs hb hk => stepG_store_atomic rfl rfl hk rfl Try.func37 (by kernel_rfl) (by kernel_rfl) (by kernel_rfl) (by rfl) rfl rfl hc hz, hA, .inl hbl, fun N1 hN => ?_⟩⟩
            have hF2 := hS.act _ _ hA.only ⟨_, hA.rep⟩ hF1
            clear hF hF1 h₁ hr hp hnb hc hA hbl
            have hF := hF2
            clear hF2
            walk_nrm
            refine anyV_done ?_
            exact ⟨rfl, _, resultsC_none rfl _, hN, hF, rfl, hR⟩
        · skip
          refine opV_call (nf := 60) (Post := fun N' u' v w' => N' = N ∧ u' = u ∧ F w' ∧ v = .int .u32 1) (by decide) rfl (by rfl) rfl ?_ ?_
          · have := b32_V (k := k) (C := C) (N := N) (u := u) hS hF
            simpa [Act.eval] using this
          rintro N2 u2 v2 w2 ⟨rfl, rfl, hF2, rfl⟩
          clear hF
          have hF := hF2
          clear hF2
          walk_nrm
          refine anyV_all (rs := [1]) (by kernel_rfl) (by simp) ?_
          intro i hi
          simp only [List.mem_cons, List.not_mem_nil, or_false] at hi
          subst hi
          (refine opV_cons (by decide) rfl (by rfl) ?_; intro _ hR K9 hK9; replace hF := rl9 hF hR; clear hR; go_simp; refine hK9 _ _ ⟨?_, ?_⟩; (· rw [listed_nil (by simp [go_sem, *])]; exact DW.refl _ _ _); clear hK9 K9; try walk_nrm)
          refine anyV_all (rs := [2]) (by kernel_rfl) (by simp) ?_
          intro i hi
          simp only [List.mem_cons, List.not_mem_nil, or_false] at hi
          subst hi
          (refine opV_cons (by decide) rfl (by rfl) ?_; intro _ hR K9 hK9; replace hF := rl9 hF hR; clear hR; go_simp; refine hK9 _ _ ⟨?_, ?_⟩; (· rw [listed_nil (by simp [go_sem, *])]; exact DW.refl _ _ _); clear hK9 K9; try walk_nrm)
          refine anyV_all (rs := [5]) (by kernel_rfl) (by simp) ?_
          intro i hi
          simp only [List.mem_cons, List.not_mem_nil, or_false] at hi
          subst hi
          refine opV_vis rfl hnf fun w₁ h₁ σ hr hp rest => ?_
          have hF1 := rl9 hF h₁
          obtain ⟨hnb, x, u', σ', hc, hz, hA, hbl, hR⟩ := hs w₁ σ hF1 hr hp
          refine ⟨fun hb => absurd hb hnb, fun _ => ⟨_, _, _, u', σ', fun b kk cs hb hk => stepG_store_atomic rfl rfl hk rfl Try.func37 (by kernel_rfl) (by kernel_rfl) (by kernel_rfl) (by rfl) rfl rfl hc hz, hA, .inl hbl, fun N1 hN => ?_⟩⟩
          have hF2 := hS.act _ _ hA.only ⟨_, hA.rep⟩ hF1
          clear hF hF1 h₁ hr hp hnb hc hA hbl
          have hF := hF2
          clear hF2
          walk_nrm
          refine anyV_done ?_
          exact ⟨rfl, _, resultsC_none rfl _, hN, hF, rfl, hR⟩
    · skip
      (refine opV_cons (by decide) rfl (by rfl) ?_; intro _ hR K9 hK9; replace hF := rl9 hF hR; clear hR; go_simp; refine hK9 _ _ ⟨?_, ?_⟩; (· rw [listed_nil (by simp [go_sem, *])]; exact DW.refl _ _ _); clear hK9 K9; try walk_nrm)
      refine anyV_all (rs := [0, 4]) (by kernel_rfl) (by simp) ?_
      intro i hi
      simp only [List.mem_cons, List.not_mem_nil, or_false] at hi
      rcases hi with rfl | rfl
      · skip
        (refine opV_cons (by decide) rfl (by rfl) ?_; intro _ hR K9 hK9; replace hF := rl9 hF hR; clear hR; go_simp; refine hK9 _ _ ⟨?_, ?_⟩; (· rw [listed_nil (by simp [go_sem, *])]; exact DW.refl _ _ _); clear hK9 K9; try walk_nrm)
        refine anyV_all (rs := [1, 4]) (by kernel_rfl) (by simp) ?_
        intro i hi
        simp only [List.mem_cons, List.not_mem_nil, or_false] at hi
        rcases hi with rfl | rfl
        · skip
          (refine opV_cons (by decide) rfl (by rfl) ?_; intro _ hR K9 hK9; replace hF := rl9 hF hR; clear hR; go_simp; refine hK9 _ _ ⟨?_, ?_⟩; (· rw [listed_nil (by simp [go_sem, *])]; exact DW.refl _ _ _); clear hK9 K9; try walk_nrm)
          refine anyV_all (rs := [2, 4]) (by kernel_rfl) (by simp) ?_
          intro i hi
          simp only [List.mem_cons, List.not_mem_nil, or_false] at hi
          rcases hi with rfl | rfl
          · skip
            (refine opV_cons (by decide) rfl (by rfl) ?_; intro _ hR K9 hK9; replace hF := rl9 hF hR; clear hR; go_simp; refine hK9 _ _ ⟨?_, ?_⟩; (· rw [listed_nil (by simp [go_sem, *])]; exact DW.refl _ _ _); clear hK9 K9; try walk_nrm)
            refine anyV_all (rs := [4]) (by kernel_rfl) (by simp) ?_
            intro i hi
            simp only [List.mem_cons, List.not_mem_nil, or_false] at hi
            subst hi
            refine opV_call (nf := 60) (Post := fun N' u' v w' => N' = N ∧ u' = u ∧ F w' ∧ v = .int .u32 1) (by decide) rfl (by rfl) rfl ?_ ?_
            · have := b32_V (k := k) (C := C) (N := N) (u := u) hS hF
              simpa [Act.eval] using this
            rintro N2 u2 v2 w2 ⟨rfl, rfl, hF2, rfl⟩
            clear hF
            have hF := hF2
            clear hF2
            walk_nrm
            refine anyV_all (rs := [5]) (by kernel_rfl) (by simp) ?_
            intro i hi
            simp only [List.mem_cons, List.not_mem_nil, or_false] at hi
            subst hi
            refine opV_vis rfl hnf fun w₁ h₁ σ hr hp rest => ?_
            have hF1 := rl9 hF h₁
            obtain ⟨hnb, x, u', σ', hc, hz, hA, hbl, hR⟩ := hs w₁ σ hF1 hr hp
            refine ⟨fun hb => absurd hb hnb, fun _ => ⟨_, _, _, u', σ', fun b kk cs hb hk => stepG_store_atomic rfl rfl hk rfl Try.func37 (by kernel_rfl) (by kernel_rfl) (by kernel_rfl) (by rfl) rfl rfl hc hz, hA, .inl hbl, fun N1 hN => ?_⟩⟩
            have hF2 := hS.act _ _ hA.only ⟨_, hA.rep⟩ hF1
            clear hF hF1 h₁ hr hp hnb hc hA hbl
            have hF := hF2
            clear hF2
            walk_nrm
            refine anyV_done ?_
            exact ⟨rfl, _, resultsC_none rfl _, hN, hF, rfl, hR⟩
          · skip
            refine opV_call (nf := 60) (Post := fun N' u' v w' => N' = N ∧ u' = u ∧ F w' ∧ v = .int .u32 1) (by decide) rfl (by rfl) rfl ?_ ?_
            · have := b32_V (k := k) (C := C) (N := N) (u := u) hS hF
              simpa [Act.eval] using this
            rintro N2 u2 v2 w2 ⟨rfl, rfl, hF2, rfl⟩
            clear hF
            have hF := hF2
            clear hF2
            walk_nrm
            refine anyV_all (rs := [2]) (by kernel_rfl) (by simp) ?_
            intro i hi
            simp only [List.mem_cons, List.not_mem_nil, or_false] at hi
            subst hi
            (refine opV_cons (by decide) rfl (by rfl) ?_; intro _ hR K9 hK9; replace hF := rl9 hF hR; clear hR; go_simp; refine hK9 _ _ ⟨?_, ?_⟩; (· rw [listed_nil (by simp [go_sem, *])]; exact DW.refl _ _ _); clear hK9 K9; try walk_nrm)
            refine anyV_all (rs := [5]) (by kernel_rfl) (by simp) ?_
            intro i hi
            simp only [List.mem_cons, List.not_mem_nil, or_false] at hi
            subst hi
            refine opV_vis rfl hnf fun w₁ h₁ σ hr hp rest => ?_
            have hF1 := rl9 hF h₁
            obtain ⟨hnb, x, u', σ', hc, hz, hA, hbl, hR⟩ := hs w₁ σ hF1 hr hp
            refine ⟨fun hb => absurd hb hnb, fun _ => ⟨_, _, _, u', σ', fun b kk cs hb hk => stepG_store_atomic rfl rfl hk rfl Try.func37 (by kernel_rfl) (by kernel_rfl) (by kernel_rfl) (by rfl) rfl rfl hc hz, hA, .inl hbl, fun N1 hN => ?_⟩⟩
            have hF2 := hS.act _ _ hA.only ⟨_, hA.rep⟩ hF1
            clear hF hF1 h₁ hr hp hnb hc hA hbl
            have hF := hF2
            clear hF2
            walk_nrm
            refine anyV_done ?_
            exact ⟨rfl, _, resultsC_none rfl _, hN, hF, rfl, hR⟩
        · skip
          refine opV_call (nf := 60) (Post := fun N' u' v w' => N' = N ∧ u' = u ∧ F w' ∧ v = .int .u32 1) (by decide) rfl (by rfl) rfl ?_ ?_
          · have := b32_V (k := k) (C := C) (N := N) (u := u) hS hF
            simpa [Act.eval] using this
          rintro N2 u2 v2 w2 ⟨rfl, rfl, hF2, rfl⟩
          clear hF
          have hF := hF2
          clear hF2
          walk_nrm
          refine anyV_all (rs := [1]) (by kernel_rfl) (by simp) ?_
          intro i hi
          simp only [List.mem_cons, List.not_mem_nil, or_false] at hi
          subst hi
          (refine opV_cons (by decide) rfl (by rfl) ?_; intro _ hR K9 hK9; replace hF := rl9 hF hR; clear hR; go_simp; refine hK9 _ _ ⟨?_, ?_⟩; (· rw [listed_nil (by simp [go_sem, *])]; exact DW.refl _ _ _); clear hK9 K9; try walk_nrm)
          refine anyV_all (rs := [2]) (by kernel_rfl) (by simp) ?_
          intro i hi
          simp only [List.mem_cons, List.not_mem_nil, or_false] at hi
          subst hi
          (refine opV_cons (by decide) rfl (by rfl) ?_; intro _ hR K9 hK9; replace hF := rl9 hF hR; clear hR; go_simp; refine hK9 _ _ ⟨?_, ?_⟩; (· rw [listed_nil (by simp [go_sem, *])]; exact DW.refl _ _ _); clear hK9 K9; try walk_nrm)
          refine anyV_all (rs := [5]) (by kernel_rfl) (by simp) ?_
          intro i hi
          simp only [List.mem_cons, List.not_mem_nil, or_false] at hi
          subst hi
          refine opV_vis rfl hnf fun w₁ h₁ σ hr hp rest => ?_
          have hF1 := rl9 hF h₁
          obtain ⟨hnb, x, u', σ', hc, hz, hA, hbl, hR⟩ := hs w₁ σ hF1 hr hp
          refine ⟨fun hb => absurd hb hnb, fun _ => ⟨_, _, _, u', σ', fun b kk cs hb hk => stepG_store_atomic rfl rfl hk rfl Try.func37 (by kernel_rfl) (by kernel_rfl) (by kernel_rfl) (by rfl) rfl rfl hc hz, hA, .inl hbl, fun N1 hN => ?_⟩⟩
          have hF2 := hS.act _ _ hA.only ⟨_, hA.rep⟩ hF1
          clear hF hF1 h₁ hr hp hnb hc hA hbl
          have hF := hF2
          clear hF2
          walk_nrm
          refine anyV_done ?_
          exact ⟨rfl, _, resultsC_none rfl _, hN, hF, rfl, hR⟩
      · skip
        refine opV_call (nf := 60) (Post := fun N' u' v w' => N' = N ∧ u' = u ∧ F w' ∧ v = .int .u32 1) (by decide) rfl (by rfl) rfl ?_ ?_
        · have := b32_V (k := k) (C := C) (N := N) (u := u) hS hF
          simpa [Act.eval] using this
        rintro N2 u2 v2 w2 ⟨rfl, rfl, hF2, rfl⟩
        clear hF
        have hF := hF2
        clear hF2
        walk_nrm
        refine anyV_all (rs := [0]) (by kernel_rfl) (by simp) ?_
        intro i hi
        simp only [List.mem_cons, List.not_mem_nil, or_false] at hi
        subst hi
        (refine opV_cons (by decide) rfl (by rfl) ?_; intro _ hR K9 hK9; replace hF := rl9 hF hR; clear hR; go_simp; refine hK9 _ _ ⟨?_, ?_⟩; (· rw [listed_nil (by simp [go_sem, *])]; exact DW.refl _ _ _); clear hK9 K9; try walk_nrm)
        refine anyV_all (rs := [1]) (by kernel_rfl) (by simp) ?_
        intro i hi
        simp only [List.mem_cons, List.not_mem_nil, or_false] at hi
        subst hi
        (refine opV_cons (by decide) rfl (by rfl) ?_; intro _ hR K9 hK9; replace hF := rl9 hF hR; clear hR; go_simp; refine hK9 _ _ ⟨?_, ?_⟩; (· rw [listed_nil (by simp [go_sem, *])]; exact DW.refl _ _ _); clear hK9 K9; try walk_nrm)
        refine anyV_all (rs := [2]) (by kernel_rfl) (by simp) ?_
        intro i hi
        simp only [List.mem_cons, List.not_mem_nil, or_false] at hi
        subst hi
        (refine opV_cons (by decide) rfl (by rfl) ?_; intro _ hR K9 hK9; replace hF := rl9 hF hR; clear hR; go_simp; refine hK9 _ _ ⟨?_, ?_⟩; (· rw [listed_nil (by simp [go_sem, *])]; exact DW.refl _ _ _); clear hK9 K9; try walk_nrm)
        refine anyV_all (rs := [5]) (by kernel_rfl) (by simp) ?_
        intro i hi
        simp only [List.mem_cons, List.not_mem_nil, or_false] at hi
        subst hi
        refine opV_vis rfl hnf fun w₁ h₁ σ hr hp rest => ?_
        have hF1 := rl9 hF h₁
        obtain ⟨hnb, x, u', σ', hc, hz, hA, hbl, hR⟩ := hs w₁ σ hF1 hr hp
        refine ⟨fun hb => absurd hb hnb, fun _ => ⟨_, _, _, u', σ', fun b kk cs hb hk => stepG_store_atomic rfl rfl hk rfl Try.func37 (by kernel_rfl) (by kernel_rfl) (by kernel_rfl) (by rfl) rfl rfl hc hz, hA, .inl hbl, fun N1 hN => ?_⟩⟩
        have hF2 := hS.act _ _ hA.only ⟨_, hA.rep⟩ hF1
        clear hF hF1 h₁ hr hp hnb hc hA hbl
        have hF := hF2
        clear hF2
        walk_nrm
        refine anyV_done ?_
        exact ⟨rfl, _, resultsC_none rfl _, hN, hF, rfl, hR⟩
  · decide
/-- atomic.Int32's Add of one -/
theorem iadd_V (hS : Stays c C F) (g o : Nat) (hnf : ¬ c.fin u) (R : c.U → Prop)
    (hs : ∀ w₁ σ, F w₁ → c.Rep σ w₁ → c.Pre u σ → ¬ c.blk u σ ∧ ∃ (x : Int) (u' : c.U) (σ' : c.S), w₁.cell? ⟨g, o, none⟩ = some (.int .i32 x) ∧ w₁.frozen? ⟨g, o, none⟩ = false ∧ ActV Try.prog c k u σ w₁ u' σ' (w₁.setCell ⟨g, o, none⟩ (.int .i32 (IntKind.i32.wrap (x + 1)))) #[⟨.cell ⟨g, o, none⟩, false, true⟩, ⟨.cell ⟨g, o, none⟩, true, true⟩] ∧ (∀ v, c.blk v σ → c.blk v σ') ∧ R u') (hF : F w) :
    CallsV Try.prog c k C 34 #[.pointer (some ⟨g, o, none⟩), .int .i32 1] 60 N u w (fun N' u' v w' => N = N' + 1 ∧ F w' ∧ R u') := by
  have rl9 : ∀ {w w₁ : World}, F w → RW c C w w₁ → F w₁ := fun h r => hS.rely _ _ r h
  refine ⟨_, _, Try.func34, by kernel_rfl, rfl, ?_⟩
  simp only [Try.ntmps34]
  walk_nrm
  co_apply codeV_more
  · co_apply codeV_seq
    (co_apply codeV_region; simp only [List.size_toArray, List.length_cons, List.length_nil, Nat.reduceAdd, Nat.zero_add, List.range, List.range.loop])
    (co_apply opsV_cons_k rfl (by rfl); intro _ hR K9 hK9; replace hF := rl9 hF hR; clear hR; go_simp; refine hK9 _ _ ⟨?_, ?_⟩; (· rw [listed_nil (by simp [go_sem, *])]; exact DW.refl _ _ _); clear hK9 K9; try walk_nrm)
    (co_apply opsV_nil; simp only [ThenV])
    co_apply codeV_seq
    (co_apply codeV_region; simp only [List.size_toArray, List.length_cons, List.length_nil, Nat.reduceAdd, Nat.zero_add, List.range, List.range.loop])
    (co_apply opsV_cons_k rfl (by rfl); intro _ hR K9 hK9; replace hF := rl9 hF hR; clear hR; go_simp; refine hK9 _ _ ⟨?_, ?_⟩; (· rw [listed_nil (by simp [go_sem, *])]; exact DW.refl _ _ _); clear hK9 K9; try walk_nrm)
    (co_apply opsV_cons_k rfl (by rfl); intro _ hR K9 hK9; replace hF := rl9 hF hR; clear hR; go_simp; refine hK9 _ _ ⟨?_, ?_⟩; (· rw [listed_nil (by simp [go_sem, *])]; exact DW.refl _ _ _); clear hK9 K9; try walk_nrm)
    (co_apply opsV_cons_k rfl (by rfl); intro _ hR K9 hK9; replace hF := rl9 hF hR; clear hR; go_simp; refine hK9 _ _ ⟨?_, ?_⟩; (· rw [listed_nil (by simp [go_sem, *])]; exact DW.refl _ _ _); clear hK9 K9; try walk_nrm)
    (co_apply opsV_cons_k rfl (by rfl); intro _ hR K9 hK9; replace hF := rl9 hF hR; clear hR; go_simp; refine hK9 _ _ ⟨?_, ?_⟩; (· rw [listed_nil (by simp [go_sem, *])]; exact DW.refl _ _ _); clear hK9 K9; try walk_nrm)
    refine opsV_vis rfl hnf fun w₁ h₁ σ hr hp => ?_
    have hF1 := rl9 hF h₁
    obtain ⟨hnb, x, u', σ', hc, hz, hA, hbl, hR⟩ := hs w₁ σ hF1 hr hp
    refine ⟨fun hb => absurd hb hnb, fun _ => ⟨_, _, _, u', σ', fun b kk cs hb hk => stepG_add_atomic rfl rfl hk rfl Try.func46 (by kernel_rfl) (by kernel_rfl) (by kernel_rfl) .i32 (by rfl) rfl rfl hc hz, hA, .inl hbl, fun N1 hN => ?_⟩⟩
    have hF2 := hS.act _ _ hA.only ⟨_, hA.rep⟩ hF1
    clear hF hF1 h₁ hr hp hnb hc hA hbl
    have hF := hF2
    clear hF2
    co_apply Exists.intro
    walk_nrm
    (co_apply opsV_cons_k rfl (by rfl); intro _ hR K9 hK9; replace hF := rl9 hF hR; clear hR; go_simp; refine hK9 _ _ ⟨?_, ?_⟩; (· rw [listed_nil (by simp [go_sem, *])]; exact DW.refl _ _ _); clear hK9 K9; try walk_nrm)
    (co_apply opsV_nil; simp only [ThenV])
    refine codeV_of (wpC_ret (termsW c C) ?_)
    exact ⟨rfl, _, resultsC_tmp rfl _, hN, hF, hR⟩
  · decide
end
section
variable {c : Cfg} {X : MxI c} {k C N : Nat} {u₀ : c.U} {F : World → Prop} {w : World}
/-- sync's Lock -/
theorem lock_V (K : c.Ok) (hX : X.Ok) (hl : X.Lk u₀) (hS : Stays c C F) (hF : F w) :
    CallsV Try.prog c k C 47 #[.pointer (some X.st)] ((N + 1) * 5001 + 4100) N (X.put u₀ .pre) w (fun N' u' v w' => N' ≤ N ∧ u' = X.put u₀ .own ∧ F w') := by
  have rl9 : ∀ {w w₁ : World}, F w → RW c C w w₁ → F w₁ := fun h r => hS.rely _ _ r h
  refine ⟨_, _, Try.func47, by kernel_rfl, rfl, ?_⟩
  simp only [Try.ntmps47]
  walk_nrm
  co_apply codeV_more
  · (co_apply codeV_region; simp only [List.size_toArray, List.length_cons, List.length_nil, Nat.reduceAdd, Nat.zero_add, List.range, List.range.loop])
    (co_apply opsV_cons_k rfl (by rfl); intro _ hR K9 hK9; replace hF := rl9 hF hR; clear hR; go_simp; refine hK9 _ _ ⟨?_, ?_⟩; (· rw [listed_nil (by simp [go_sem, *])]; exact DW.refl _ _ _); clear hK9 K9; try walk_nrm)
    (co_apply opsV_cons_k rfl (by rfl); intro _ hR K9 hK9; replace hF := rl9 hF hR; clear hR; go_simp; refine hK9 _ _ ⟨?_, ?_⟩; (· rw [listed_nil (by simp [go_sem, *])]; exact DW.refl _ _ _); clear hK9 K9; try walk_nrm)
    (co_apply opsV_cons_k rfl (by rfl); intro _ hR K9 hK9; replace hF := rl9 hF hR; clear hR; go_simp; refine hK9 _ _ ⟨?_, ?_⟩; (· rw [listed_nil (by simp [go_sem, *])]; exact DW.refl _ _ _); clear hK9 K9; try walk_nrm)
    co_apply opsV_call rfl (by rfl) rfl
    · have := lockI_V (k := k) (N := N) K hX hl hS hF
      simpa [Act.eval] using this
    rintro N2 u2 v2 w2 ⟨hN2, rfl, hF⟩
    walk_nrm
    co_apply opsV_nil
    exact ⟨rfl, _, resultsC_none rfl _, hN2, rfl, hF⟩
  · omega
/-- sync's Unlock -/
theorem unlock_V (K : c.Ok) (hX : X.Ok) (hl : X.Lk u₀) (hS : Stays c C F) (hF : F w) :
    CallsV Try.prog c k C 48 #[.pointer (some X.st)] ((N + 1) * 2001 + 5100) N (X.put u₀ .own) w (fun N' u' v w' => N' ≤ N ∧ u' = X.put u₀ .out ∧ F w') := by
  have rl9 : ∀ {w w₁ : World}, F w → RW c C w w₁ → F w₁ := fun h r => hS.rely _ _ r h
  refine ⟨_, _, Try.func48, by kernel_rfl, rfl, ?_⟩
  simp only [Try.ntmps48]
  walk_nrm
  co_apply codeV_more
  · (co_apply codeV_region; simp only [List.size_toArray, List.length_cons, List.length_nil, Nat.reduceAdd, Nat.zero_add, List.range, List.range.loop])
    (co_apply opsV_cons_k rfl (by rfl); intro _ hR K9 hK9; replace hF := rl9 hF hR; clear hR; go_simp; refine hK9 _ _ ⟨?_, ?_⟩; (· rw [listed_nil (by simp [go_sem, *])]; exact DW.refl _ _ _); clear hK9 K9; try walk_nrm)
    (co_apply opsV_cons_k rfl (by rfl); intro _ hR K9 hK9; replace hF := rl9 hF hR; clear hR; go_simp; refine hK9 _ _ ⟨?_, ?_⟩; (· rw [listed_nil (by simp [go_sem, *])]; exact DW.refl _ _ _); clear hK9 K9; try walk_nrm)
    (co_apply opsV_cons_k rfl (by rfl); intro _ hR K9 hK9; replace hF := rl9 hF hR; clear hR; go_simp; refine hK9 _ _ ⟨?_, ?_⟩; (· rw [listed_nil (by simp [go_sem, *])]; exact DW.refl _ _ _); clear hK9 K9; try walk_nrm)
    co_apply opsV_call rfl (by rfl) rfl
    · have := unlockI_V (k := k) (N := N) K hX hl hS hF
      simpa [Act.eval] using this
    rintro N2 u2 v2 w2 ⟨hN2, rfl, hF⟩
    walk_nrm
    co_apply opsV_nil
    exact ⟨rfl, _, resultsC_none rfl _, hN2, rfl, hF⟩
  · omega
end
end Go.Proofs.Ytinghnaigpenkaa
