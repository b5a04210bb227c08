/- Seat 05: many set a latch at once: a worker's Set, whole. -/
import Derived.Test.YtinghnaigpenkaaZRaD
import Derived.Test.YtinghnaigpenkaaZLwD
namespace Go.Proofs.Ytinghnaigpenkaa
open Go.Conc Go.RowKit Go.ConcR.Gen
open Go.ConcR (Payload rd wr mk WgAt)
set_option linter.unusedVariables false
set_option linter.unusedSimpArgs false
set_option linter.unusedSectionVars false
set_option maxRecDepth 100000
set_option maxHeartbeats 4000000





theorem rw_alloc {c : Cfg} (K : c.Ok) {C : Nat} (w : World) (ob : Obj) : RW c C w (w.alloc ob) := by
  have e : ∀ b, b < w.heap.size → (w.alloc ob).heap[b]? = w.heap[b]? := fun b hb => Below.heap_alloc _ _ _ hb
  exact ⟨⟨rfl, .refl _, rfl⟩, by simp, fun b hb _ _ _ _ => e b hb, fun b hb hn hs => hn (hs.of_same (e b hb).symm), fun b hb hn hs => hn (hs.of_same (e b hb).symm), fun ⟨σ, h⟩ => ⟨σ, K.rep_same σ w _ h (by simp) (fun b hb _ => e b hb)⟩, fun hl => hl.of_same (e _ hl.lt)⟩
section
variable {p : RaP} {C k N : Nat} {w : World} {fb bl bv : Nat} {x : Int} {F : World → Prop}
theorem set_V (h : p.Ok) (hS : Stays (raC p) C F) (hsz : ∀ w, F w → p.H + 2 ≤ w.heap.size) (hF : F w) :
    CallsV Try.prog (raC p) k C 10 #[.pointer (some ⟨p.L, 0, none⟩), .int .u64 x] ((N + 1) * 7002 + 25000) N (⟨.a0, .pre, 0, false, x⟩ : RU) w
      (fun N' u' v w' => N' ≤ N ∧ F w' ∧ ∃ b, v = .bool b ∧ ((b = true ∧ ∃ fb, u' = (⟨.w0, .out, fb, true, x⟩ : RU)) ∨ (b = false ∧ RU.ph u' = .fin))) := by
  have rl9 : ∀ {w w₁ : World}, F w → RW (raC p) C w w₁ → F w₁ := fun h r => hS.rely _ _ r h
  have plo := plo_ra h
  have e1 : (23 : TypeId) ≠ Payload.ety := by decide
  have e2 : (25 : TypeId) ≠ Payload.ety := by decide
  have f1 : (23 : TypeId) ≠ (raC p).fty := by show ¬ (23 : TypeId) = 4; decide
  have f2 : (25 : TypeId) ≠ (raC p).fty := by show ¬ (25 : TypeId) = 4; decide
  have ev9 := fun (p : Option Addr) (w : World) => ev_eql_nil (P := Try.prog) Try.underlying23 p w
  refine ⟨_, _, Try.func10, by kernel_rfl, rfl, ?_⟩
  simp only [Try.ntmps10]
  walk_nrm
  refine cv_seq (n₁ := 100) (n₂ := (N + 1) * 7002 + 24800) (by omega) ?_
  co_apply codeV_more
  · (co_apply codeV_region; simp only [List.size_toArray, List.length_cons, List.length_nil, Nat.reduceAdd, Nat.zero_add, List.range, List.range.loop])
    co_apply opsV_cons_k rfl (by rfl)
    intro xw hR K9 hK9
    replace hF := rl9 hF hR
    clear hR
    go_simp
    refine hK9 _ _ ⟨?_, ?_⟩
    · rw [listed_nil (by simp [go_sem, *])]
      exact dw_alloc e1
    clear hK9 K9
    try walk_nrm
    have hbl : p.H + 2 ≤ xw.heap.size := hsz _ hF
    have hF1 : F (xw.alloc (.cells #[.pointer (some ⟨p.L, 0, none⟩)] 23)) ∧ (xw.alloc (.cells #[.pointer (some ⟨p.L, 0, none⟩)] 23)).heap[xw.heap.size]? = some (.cells #[.pointer (some ⟨p.L, 0, none⟩)] 23) := ⟨rl9 hF (rw_alloc (raC_ok h) _ _), alloc_new _ _⟩
    have hl2 : xw.heap.size < (xw.alloc (.cells #[.pointer (some ⟨p.L, 0, none⟩)] 23)).heap.size := by simp
    clear hF
    generalize xw.heap.size = bl at hbl hF1 hl2 ⊢
    generalize xw.alloc (.cells #[.pointer (some ⟨p.L, 0, none⟩)] 23) = w2 at hF1 hl2 ⊢
    clear xw
    have := h.hL; have := h.hW
    have hS1 := hS.keep (cs := #[.pointer (some ⟨p.L, 0, none⟩)]) e1 f1 (b := bl) (by rintro (e | e) <;> omega) (by show bl ≠ p.H + 1; omega)
    co_apply opsV_cons_k rfl (by rfl)
    intro xw hR K9 hK9
    replace hF1 := hS1.rely _ _ hR hF1
    clear hR hl2
    go_simp
    refine hK9 _ _ ⟨?_, ?_⟩
    · rw [listed_nil (by simp [go_sem, *])]
      exact dw_alloc e2
    clear hK9 K9
    try walk_nrm
    have hbv : p.H + 2 ≤ xw.heap.size := hsz _ hF1.1
    have hF : FSet p F bl xw.heap.size x (xw.alloc (.cells #[.int .u64 x] 25)) := ⟨hS1.rely _ _ (rw_alloc (raC_ok h) _ _) hF1, alloc_new _ _⟩
    clear hF1 hS1
    generalize xw.heap.size = bv at hbv hF ⊢
    generalize xw.alloc (.cells #[.int .u64 x] 25) = w3 at hF ⊢
    clear xw
    have hS2 := stays_set (x := x) h hS hbl hbv
    have rl8 : ∀ {w w₁ : World}, FSet p F bl bv x w → RW (raC p) C w w₁ → FSet p F bl bv x w₁ := fun h r => hS2.rely _ _ r h
    (co_apply opsV_cons_k rfl (by rfl); intro _ hR K9 hK9; replace hF := rl8 hF hR; clear hR; go_simp; refine hK9 _ _ ⟨?_, ?_⟩; (· rw [listed_nil (by simp [go_sem, *])]; exact DW.refl _ _ _); clear hK9 K9; try walk_nrm)
    (co_apply opsV_nil; simp only [ThenV])
    refine cv_seq (n₁ := 200) (n₂ := (N + 1) * 7002 + 24500) (by omega) ?_
    co_apply codeV_more
    · co_apply codeV_seq
      (co_apply codeV_region; simp only [List.size_toArray, List.length_cons, List.length_nil, Nat.reduceAdd, Nat.zero_add, List.range, List.range.loop])
      (co_apply opsV_cons_k rfl (by rfl); intro _ hR K9 hK9; replace hF := rl8 hF hR; clear hR; have m1 := box_cell hF.1.2; have m2 := box_cell hF.2; go_simp; refine hK9 _ _ ⟨?_, ?_⟩; (· refine dw_read (fun e he => ?_); have hm := mem_listed he; simp [go_sem, m1, m2] at hm; subst hm; first | exact evW_new hbl hF.1.2 e1 f1 (plo _ hbl) | exact evW_new hbv hF.2 e2 f2 (plo _ hbv)); clear hK9 K9 m1 m2; try walk_nrm)
      (co_apply opsV_cons_k rfl (by rfl); intro _ hR K9 hK9; replace hF := rl8 hF hR; clear hR; go_simp; refine hK9 _ _ ⟨?_, ?_⟩; (· rw [listed_nil (by simp [go_sem, *])]; exact DW.refl _ _ _); clear hK9 K9; try walk_nrm)
      (co_apply opsV_nil; simp only [ThenV])
      co_apply codeV_cond (t := false)
      focus (exact rfl)
      simp only [if_false, Bool.false_eq_true]
      refine codeV_of (wpC_skip (termsW _ _) ?_)
      simp only [ThenV]
      refine cv_seq (n₁ := 300) (n₂ := (N + 1) * 7002 + 24000) (by omega) ?_
      co_apply codeV_more
      · (co_apply codeV_region; simp only [List.size_toArray, List.length_cons, List.length_nil, Nat.reduceAdd, Nat.zero_add, List.range, List.range.loop])
        -- 'first' is made
        refine opsV_visop rfl (by rfl) (by show ¬ RPh.a0 = RPh.fin; simp) fun w₁ h₁ σ hr hp => ?_
        replace hF := rl8 hF h₁
        clear h₁
        have hr0 : raRep p σ w₁ := hr
        obtain ⟨hL, hW, hfl, hsz1⟩ := hr0
        have hnone : RS.fl σ w₁.heap.size = none := by
          cases e : RS.fl σ w₁.heap.size with
          | none => rfl
          | some b => have := (Array.getElem?_eq_some_iff.1 (hfl _ _ e).2).1; omega
        have hra : raRep p ({ (σ : RS) with fl := fun y => if y = w₁.heap.size then some false else RS.fl σ y } : RS) (w₁.alloc (.cells #[.bool false] 4)) := by
          refine ⟨(Below.heap_alloc _ _ _ (Array.getElem?_eq_some_iff.1 hL).1).trans hL, (Below.heap_alloc _ _ _ (Array.getElem?_eq_some_iff.1 hW).1).trans hW, fun b v e => ?_, by simp; omega⟩
          simp only at e
          by_cases hb : b = w₁.heap.size
          · rw [if_pos hb] at e
            cases e
            subst hb
            exact ⟨hsz1, alloc_new _ _⟩
          · rw [if_neg hb] at e
            obtain ⟨e1, e2⟩ := hfl b v e
            exact ⟨e1, (Below.heap_alloc _ _ _ (Array.getElem?_eq_some_iff.1 e2).1).trans e2⟩
        have hoa : OnlySB (raC p) w₁ (w₁.alloc (.cells #[.bool false] 4)) := by
          have e9 : ∀ b, b < w₁.heap.size → (w₁.alloc (.cells #[.bool false] 4)).heap[b]? = w₁.heap[b]? := fun b hb => Below.heap_alloc _ _ _ hb
          refine ⟨⟨rfl, .refl _, rfl⟩, by simp, fun b hb _ _ => e9 b hb, fun b hf => hf.of_same (e9 b hf.lt), fun b hb hs => ?_⟩
          have hlt := hs.lt
          obtain ⟨v, hv⟩ := hs
          have e : b = w₁.heap.size := by simp at hlt; omega
          subst e
          rw [alloc_new] at hv
          injection hv with hv
          injection hv with _ hv
          exact absurd hv (by decide)
        refine ⟨fun hb => (by cases hb.1), .pointer (some ⟨w₁.heap.size, 0, none⟩), w₁.alloc (.cells #[.bool false] 4), (⟨.a1, .pre, w₁.heap.size, false, x⟩ : RU), ({ (σ : RS) with fl := fun y => if y = w₁.heap.size then some false else RS.fl σ y } : RS), .inl (by go_simp), fun e he => ?_, RT.alloc (u := (⟨.a0, .pre, 0, false, x⟩ : RU)) rfl hnone, hra, hoa, rfl, ?_, fun _ hb => hb, fun N1 hN1 => ?_⟩
        · simp [go_sem] at he
        · rintro l (⟨h1, rfl⟩ | ⟨h1, rfl⟩)
          · exact .inr (.inr ⟨_, rfl, Nat.le_refl _⟩)
          · cases h1
        have hF2 := hS2.act _ _ hoa ⟨_, hra⟩ hF
        clear hF hr hp hL hW hfl hsz1 hnone hra hoa
        have hF := hF2
        clear hF2
        generalize w₁.heap.size = fb
        generalize w₁.alloc (.cells #[.bool false] 4) = w4 at hF ⊢
        clear w₁
        co_apply Exists.intro
        try walk_nrm
        -- .. and cleared
        refine opsV_visop rfl (by rfl) (by show ¬ RPh.a1 = RPh.fin; simp) fun w₁ h₁ σ hr hp => ?_
        replace hF := rl8 hF h₁
        clear h₁
        have hfl : RS.fl σ fb = some false := hp.2.2.2.1 (by show RPh.a1 ≠ RPh.a0; simp)
        obtain ⟨hg1, hg2⟩ := (hr : raRep p σ w₁).2.2.1 fb false hfl
        have hc5 : w₁.cell? ⟨fb, 0, none⟩ = some (.bool false) := box_cell hg2
        have hz5 : w₁.frozen? ⟨fb, 0, none⟩ = false := box_thaw hg2
        obtain ⟨hr5, ho5⟩ := flag_set h hr hfl false
        have hsame : (fun y => if y = fb then some false else RS.fl σ y) = RS.fl σ := by
          funext y
          by_cases hy : y = fb
          · rw [if_pos hy, hy, hfl]
          · rw [if_neg hy]
        rw [hsame] at hr5
        refine ⟨fun hb => (by cases hb.1), undef, w₁.setCell ⟨fb, 0, none⟩ (.bool false), (⟨.d0, .pre, fb, false, x⟩ : RU), σ, .inr ⟨by go_simp, rfl⟩, fun e he => ?_, RT.clr (u := (⟨.a1, .pre, fb, false, x⟩ : RU)) rfl, hr5, ho5, rfl, fun l ho => .inl ?_, fun _ hb => hb, fun N2 hN2 => ?_⟩
        · simp [go_sem, events_store Try.prog w₁ #[] (⟨fb, 0, none⟩ : Addr) (.bool false) .plain rfl, hc5, hz5] at he
          subst he
          exact ev_own (.inl ⟨by show RPh.a1 ≠ RPh.a0; simp, rfl⟩)
        · rcases ho with ⟨h1, rfl⟩ | ⟨h1, rfl⟩
          · exact .inl ⟨by show RPh.a1 ≠ RPh.a0; simp, rfl⟩
          · cases h1
        have hF2 := hS2.act _ _ ho5 ⟨_, hr5⟩ hF
        clear hF hr hp hg1 hg2 hc5 hz5 ho5 hr5 hfl hsame
        have hF := hF2
        clear hF2
        generalize w₁.setCell ⟨fb, 0, none⟩ (.bool false) = w5 at hF ⊢
        clear w₁ σ
        co_apply Exists.intro
        try walk_nrm
        (co_apply opsV_nil; simp only [ThenV])
        refine cv_seq (n₁ := (N + 1) * 7002 + 23000) (n₂ := 500) (by omega) ?_
        co_apply codeV_more
        · (co_apply codeV_region; simp only [List.size_toArray, List.length_cons, List.length_nil, Nat.reduceAdd, Nat.zero_add, List.range, List.range.loop])
          (co_apply opsV_cons_k rfl (by rfl); intro _ hR K9 hK9; replace hF := rl8 hF hR; clear hR; have m1 := box_cell hF.1.2; have m2 := box_cell hF.2; go_simp; refine hK9 _ _ ⟨?_, ?_⟩; (· refine dw_read (fun e he => ?_); have hm := mem_listed he; simp [go_sem, m1, m2] at hm; subst hm; first | exact evW_new hbl hF.1.2 e1 f1 (plo _ hbl) | exact evW_new hbv hF.2 e2 f2 (plo _ hbv)); clear hK9 K9 m1 m2; try walk_nrm)
          (co_apply opsV_cons_k rfl (by rfl); intro _ hR K9 hK9; replace hF := rl8 hF hR; clear hR; go_simp; refine hK9 _ _ ⟨?_, ?_⟩; (· rw [listed_nil (by simp [go_sem, *])]; exact DW.refl _ _ _); clear hK9 K9; try walk_nrm)
          (co_apply opsV_cons_k rfl (by rfl); intro _ hR K9 hK9; replace hF := rl8 hF hR; clear hR; go_simp; refine hK9 _ _ ⟨?_, ?_⟩; (· rw [listed_nil (by simp [go_sem, *])]; exact DW.refl _ _ _); clear hK9 K9; try walk_nrm)
          (co_apply opsV_cons_k rfl (by rfl); intro _ hR K9 hK9; replace hF := rl8 hF hR; clear hR; go_simp; refine hK9 _ _ ⟨?_, ?_⟩; (· rw [listed_nil (by simp [go_sem, *])]; exact DW.refl _ _ _); clear hK9 K9; try walk_nrm)
          co_apply opsV_call rfl (by rfl) rfl
          · have := do_V (L := p.L) (k := k) (N := N2) (R := fun u₁ => ∃ b, u₁ = (⟨.ul, .pre, fb, b, x⟩ : RU)) (nfc := 2000) (raC_ok h) (raX_ok h) hS2 rfl (show (raX p).Lk (⟨.lk, .pre, fb, false, x⟩ : RU) from rfl) (fun N w hF => look1_V h hS2 hF) (fun N w hF => look2_V h hS2 hF) (fun N w hF => setDo_V h hS hbl hbv hF) (fun N w hF => sd_V h hS2 hF) hF
            exact callsV_args (by simp [Act.eval]) this
          rintro N4 u4 v4 w4 ⟨hN4, hF4, hu4⟩
          clear hF
          have hF := hF4
          clear hF4
          walk_nrm
          (co_apply opsV_nil; simp only [ThenV])
          obtain ⟨ph, mu, b, hph, rfl⟩ : ∃ ph mu b, ((ph = RPh.e0 ∧ mu = MU.pre ∧ b = false) ∨ (ph = RPh.ul ∧ mu = MU.out)) ∧ u4 = (⟨ph, mu, fb, b, x⟩ : RU) := by
            rcases hu4 with rfl | ⟨u₁, ⟨b, rfl⟩, rfl⟩
            · exact ⟨_, _, _, .inl ⟨rfl, rfl, rfl⟩, rfl⟩
            · exact ⟨_, _, b, .inr ⟨rfl, rfl⟩, rfl⟩
          have hpast : ph.past = true ∧ ph ≠ .fin ∧ ph ≠ .a0 := by rcases hph with ⟨rfl, _⟩ | ⟨rfl, _⟩ <;> simp [RPh.past]
          co_apply codeV_more
          · refine codeV_seq (n₁ := 200) (n₂ := 100) ?_
            co_apply codeV_more
            · (co_apply codeV_region; simp only [List.size_toArray, List.length_cons, List.length_nil, Nat.reduceAdd, Nat.zero_add, List.range, List.range.loop])
              refine opsV_visop rfl (by rfl) hpast.2.1 fun w₁ h₁ σ hr hp => ?_
              replace hF := rl8 hF h₁
              clear h₁
              have hfl : RS.fl σ fb = some b := by
                have := hp.2.2.2.1 hpast.2.2
                simp only [hpast.1, Bool.and_true] at this
                exact this
              obtain ⟨hg1, hg2⟩ := (hr : raRep p σ w₁).2.2.1 fb b hfl
              have hc5 : w₁.cell? ⟨fb, 0, none⟩ = some (.bool b) := box_cell hg2
              refine ⟨fun hb => ?_, .bool b, w₁, (⟨if b then .w0 else .fin, mu, fb, b, x⟩ : RU), σ, .inl (by go_simp), fun e he => ?_, RT.ld (u := (⟨ph, mu, fb, b, x⟩ : RU)) (hph.imp (fun x => x.1) (fun x => x)), hr, OnlySB.refl _ _, ?_, fun l ho => .inl ?_, fun _ hb => hb, fun N5 hN5 => ?_⟩
              · have h1 : ph.lock = true := hb.1
                have h2 : mu = MU.q := hb.2.1
                rcases hph with ⟨rfl, _⟩ | ⟨_, rfl⟩
                · cases h1
                · cases h2
              · simp [go_sem, hc5] at he
                subst he
                exact ev_own (.inl ⟨hpast.2.2, rfl⟩)
              · rcases hph with ⟨rfl, rfl, rfl⟩ | ⟨rfl, rfl⟩
                · rfl
                · cases b <;> rfl
              · rcases ho with ⟨h1, rfl⟩ | ⟨h1, rfl⟩
                · exact .inl ⟨hpast.2.2, rfl⟩
                · exact .inr ⟨h1, rfl⟩
              clear hr hp hg1 hg2 hc5 hfl
              co_apply Exists.intro
              try walk_nrm
              (co_apply opsV_cons_k rfl (by rfl); intro _ hR K9 hK9; replace hF := rl8 hF hR; clear hR; go_simp; refine hK9 _ _ ⟨?_, ?_⟩; (· rw [listed_nil (by simp [go_sem, *])]; exact DW.refl _ _ _); clear hK9 K9; try walk_nrm)
              (co_apply opsV_nil; simp only [ThenV])
              refine codeV_more (codeV_of (wpC_ret (termsW _ _) ?_)) (by decide : 1 ≤ 100)
              refine ⟨rfl, _, resultsC_tmp rfl _, by omega, hF.1.1, b, rfl, ?_⟩
              cases b
              · exact .inr ⟨rfl, rfl⟩
              · rcases hph with ⟨_, _, h3⟩ | ⟨_, rfl⟩
                · cases h3
                · exact .inl ⟨rfl, fb, rfl⟩
            · decide
          · decide
        · have : (N2 + 1) * 7002 ≤ (N + 1) * 7002 := Nat.mul_le_mul_right _ (by omega)
          omega
      · decide
    · decide
  · decide
end
end Go.Proofs.Ytinghnaigpenkaa
