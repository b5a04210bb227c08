/- Seat 05: many get a value that is made once: a worker of Rush. -/
import Derived.Test.YtinghnaigpenkaaZQuE
namespace Go.Proofs.Ytinghnaigpenkaa
open Go.Conc Go.RowKit Go.ConcR.Gen
open Go.ConcR (WgAt stA Payload)
set_option linter.unusedVariables false
set_option linter.unusedSimpArgs false
set_option maxRecDepth 100000
set_option maxHeartbeats 8000000


section
variable {c : Cfg} {k C N : Nat} {fn : FuncId} {md : Region.Mode} {ops : Array Oper} {B : Nat} {u : c.U} {a : Act} {w : World}
theorem opV_visop {i : Nat} {o : Oper} {M : Nat → c.U → Act → World → Prop} (ho : ops[i]? = some o) (hw : Region.wanted o (yielded ops a.tmps) = true) (hnf : ¬ c.fin u)
    (h : ∀ w₁, RW c C w w₁ → ∀ σ, c.Rep σ w₁ → c.Pre u σ → ¬ c.blk u σ ∧ ∃ v w' u' σ', ((execOp a.eval o).run Try.prog w₁ = .ok (.value v) w' ∨ ((execOp a.eval o).run Try.prog w₁ = .ok .skip w' ∧ v = undef)) ∧
      (∀ e ∈ (execOp a.eval o).events Try.prog w₁ #[], EvV c k u e ∧ e.loc ≠ .mark .disable ∧ e.loc ≠ .mark .enable) ∧ c.Tr u σ u' σ' ∧ c.Rep σ' w' ∧ OnlySB c w₁ w' ∧ c.dn u = c.dn u' ∧ (∀ es, PubV c k u σ u' σ' es) ∧
      (∀ l, c.own u' k l → c.own u k l ∨ c.sp l ∨ ∃ a : Addr, l = .cell a ∧ w₁.heap.size ≤ a.block) ∧ (∀ v, c.blk v σ → c.blk v σ') ∧ ∀ N1, N = N1 + 1 → M N1 u' (a.put o.dst v) w') : OpV Try.prog c k C fn ops B i M N u a w :=
  opV_vis ho hnf fun w₁ h₁ σ hr hp rest => by
    obtain ⟨hnb, v, w', u', σ', h1, h2, h3, h4, h5, h6, hpv, h7, h8, h9⟩ := h w₁ h₁ σ hr hp
    refine ⟨fun hb => absurd hb hnb, fun _ => ⟨v, w', listed Try.prog fn a o w₁, u', σ', fun b kk cs hb hk => ?_, ⟨h3, h4, h5, fun e he => (h2 e (mem_listed he)).1, ?_, hpv _, h7⟩, .inl h8, h9⟩⟩
    · rw [← hb]
      rcases h1 with h1 | ⟨h1, rfl⟩
      · exact stepG_value ho hw hk h1
      · exact stepG_none ho hw hk h1
    · rw [Go.ConcN.deafBehind_idle (fun e he => (h2 e (mem_listed he)).2)]
      exact h6
end
/-- the memory of Rush's closure -/
structure RuIn (p : QuP) (wb : World) (lb vb : Nat) : Prop where
  lbox : wb.heap[lb]? = some (.cells #[.pointer (some ⟨p.L, 0, none⟩)] 39)
  vbox : wb.heap[vb]? = some (.cells #[.slice (some ⟨p.Ob, 0, none⟩) p.n p.n] 44)
  low : ∀ g, g = lb ∨ g = vb → g < p.H ∧ g ≠ p.L ∧ g ≠ p.Ob
theorem qu_out {p : QuP} (h : p.Ok) {σ : QS} {w : World} {j : Nat} (hj : j < p.n) (hr : quRep p σ w) :
    quRep p { σ with o := fun i => if i = j then p.x else σ.o i } (w.setCell ⟨p.Ob, j, none⟩ (.int .u64 p.x)) := by
  obtain ⟨hL, hO, hsz⟩ := hr
  have hA := aside_setCell w (⟨p.Ob, j, none⟩ : Addr) (.int .u64 p.x)
  refine ⟨(hA.block _ h.ne).trans hL, ?_, by rw [hA.size]; exact hsz⟩
  unfold outO at hO ⊢
  rw [setCell_eq_setRow w p.Ob j _ _ (0, 0) _ hO, setRow_heap w p.Ob _ _ _ _ hO, outs_set p σ p.x hj]
theorem rush1_V {p : QuP} (h : p.Ok) {wb : World} {k C N j : Nat} {lb vb : Nat} {dv : Value} (hC : p.H + 2 ≤ C) (R : RuIn p wb lb vb) (hM : Makes p k C (FQu p wb dv j C)) (hj : j < p.n) (w : World) (hF : WK (quC p) wb p.H dv j C w) :
    CallsV Try.prog (quC p) k C 35 (#[.int .i64 j] ++ #[.pointer (some ⟨lb, 0, none⟩), .pointer (some ⟨vb, 0, none⟩)]) ((N + 1) * 42012 + 190000) N ((quC p).init j) w (fun N' u' v w' => (quC p).fin u' ∧ WK (quC p) wb p.H dv j C w') := by
  have A := alo_qu h
  replace hF : FQu p wb dv j C w := ⟨hF, hF.rep⟩
  have hS : Stays (quC p) C (FQu p wb dv j C) := stays_qu h hC
  have rl9 : ∀ {w w₁ : World}, FQu p wb dv j C w → RW (quC p) C w w₁ → FQu p wb dv j C w₁ := fun h r => hS.rely _ _ r h
  have hi9 : (quC p).init j = (⟨.a0, .pre, j⟩ : QU) := rfl
  have hB : 1 ≤ (N + 1) * 7002 + 25003 := by omega
  have hlow : ∀ a : Addr, (a = ⟨lb, 0, none⟩ ∨ a = ⟨vb, 0, none⟩) → a.block < (quC p).H0 ∧ ¬ (quC p).sh (.cell a) ∧ ¬ (quC p).sp (.cell a) := by
    have key : ∀ g, g < p.H ∧ g ≠ p.L ∧ g ≠ p.Ob → g < (quC p).H0 ∧ ¬ (quC p).sh (.cell ⟨g, 0, none⟩) ∧ ¬ (quC p).sp (.cell ⟨g, 0, none⟩) := by
      rintro g ⟨h1, h2, h3⟩
      refine ⟨by show g < p.H + 2; omega, ?_, ?_⟩
      · rintro ⟨a', e, h4⟩
        injection e with e
        subst e
        rcases h4 with h4 | h4
        · exact h2 h4.1
        · simp only at h4; omega
      · rintro (e | ⟨i, e⟩)
        · exact h2 (cell_inj e).1
        · exact h3 (cell_inj e).1
    rintro a (rfl | rfl)
    · exact key _ (R.low lb (.inl rfl))
    · exact key _ (R.low vb (.inr rfl))
  have nsb : ∀ g, g ≠ p.L ∧ g ≠ p.Ob → ¬ (quC p).SB g := fun g h e => e.elim h.1 h.2
  have hP1 : ∀ w, FQu p wb dv j C w → w.cell? ⟨lb, 0, none⟩ = some (.pointer (some ⟨p.L, 0, none⟩)) := fun w h => box_cell (h.1.old _ _ (R.low lb (.inl rfl)).1 (nsb _ (R.low lb (.inl rfl)).2) R.lbox)
  have hP2 : ∀ w, FQu p wb dv j C w → w.cell? ⟨vb, 0, none⟩ = some (.slice (some ⟨p.Ob, 0, none⟩) p.n p.n) := fun w h => box_cell (h.1.old _ _ (R.low vb (.inr rfl)).1 (nsb _ (R.low vb (.inr rfl)).2) R.vbox)
  have q1 : (j : Int) < (p.n : Int) := by omega
  have ad9 : (if j = 0 then (⟨p.Ob, 0, none⟩ : Addr) else ⟨p.Ob, 0 + j, none⟩) = ⟨p.Ob, j, none⟩ := by
    by_cases h : j = 0
    · subst h; rfl
    · rw [if_neg h, Nat.zero_add]
  have ad8 : (if j = 0 then (⟨p.Ob, 0, none⟩ : Addr) else ⟨p.Ob, j, none⟩) = ⟨p.Ob, j, none⟩ := by
    by_cases h : j = 0
    · subst h; rfl
    · rw [if_neg h]
  rw [hi9]
  clear hi9
  refine ⟨_, _, Try.func35, by kernel_rfl, rfl, ?_⟩
  simp only [Try.ntmps35]
  walk_nrm
  refine codeV_more (n := 6 * ((N + 1) * 7002 + 25003) + 2) ?_ (by omega)
  refine codeV_region_any (B := (N + 1) * 7002 + 25003) (by rfl) (fun w₁ h₁ => ?_)
  replace hF := hS.draw (quC_ok h) (rl9 hF h₁) (w₁.drawn + 1)
  clear h₁
  generalize { w₁ with drawn := w₁.drawn + 1 } = w2 at hF ⊢
  simp only [List.size_toArray, List.length_cons, List.length_nil, Nat.reduceAdd, Nat.zero_add]
  refine anyV_all (rs := [0, 1, 2]) (by kernel_rfl) (by simp) ?_
  intro i hi
  simp only [List.mem_cons, List.not_mem_nil, or_false] at hi
  rcases hi with rfl | rfl | rfl
  · skip
    (refine opV_cons (by omega) rfl (by rfl) ?_; intro _ hR K hK; replace hF := rl9 hF hR; clear hR; have m1 := hP1 _ hF; have m2 := hP2 _ hF; go_simp; refine hK _ _ ⟨?_, ?_⟩; (· refine dw_read (fun e he => ?_); have hm := mem_listed he; simp [go_sem, m1, m2] at hm; subst hm; exact evW_cell (.inr (hlow _ (by simp)).1) (hlow _ (by simp)).2); clear hK K m1 m2; try walk_nrm)
    refine anyV_all (rs := [1, 2]) (by kernel_rfl) (by simp) ?_
    intro i hi
    simp only [List.mem_cons, List.not_mem_nil, or_false] at hi
    rcases hi with rfl | rfl
    · skip
      (refine opV_cons (by omega) rfl (by rfl) ?_; intro _ hR K hK; replace hF := rl9 hF hR; clear hR; go_simp; refine hK _ _ ⟨?_, ?_⟩; (· rw [listed_nil (by simp [go_sem, *])]; exact DW.refl _ _ _); clear hK K; try walk_nrm)
      refine anyV_all (rs := [2]) (by kernel_rfl) (by simp) ?_
      intro i hi
      simp only [List.mem_cons, List.not_mem_nil, or_false] at hi
      subst hi
      (refine opV_cons (by omega) rfl (by rfl) ?_; intro _ hR K hK; replace hF := rl9 hF hR; clear hR; have m1 := hP1 _ hF; have m2 := hP2 _ hF; go_simp; refine hK _ _ ⟨?_, ?_⟩; (· refine dw_read (fun e he => ?_); have hm := mem_listed he; simp [go_sem, m1, m2] at hm; subst hm; exact evW_cell (.inr (hlow _ (by simp)).1) (hlow _ (by simp)).2); clear hK K m1 m2; try walk_nrm)
      refine anyV_all (rs := [3]) (by kernel_rfl) (by simp) ?_
      intro i hi
      simp only [List.mem_cons, List.not_mem_nil, or_false] at hi
      subst hi
      refine opV_call (nf := (N + 1) * 7002 + 25000) (by omega) rfl (by rfl) rfl (callsV_args (by simp [Act.eval]) (get_V (k := k) (N := N) h hS hM hF)) ?_
      rintro N4 u4 v4 w4 ⟨hN4, hF4, rfl, m4, hm4, rfl⟩
      clear hF
      have hF := hF4
      clear hF4
      walk_nrm
      refine anyV_all (rs := [4]) (by kernel_rfl) (by simp) ?_
      intro i hi
      simp only [List.mem_cons, List.not_mem_nil, or_false] at hi
      subst hi
      (refine opV_cons (by omega) rfl (by rfl) ?_; intro _ hR K hK; replace hF := rl9 hF hR; clear hR; go_simp; refine hK _ _ ⟨?_, ?_⟩; (· rw [listed_nil (by simp [go_sem, *])]; exact DW.refl _ _ _); clear hK K; try walk_nrm)
      refine anyV_all (rs := [5]) (by kernel_rfl) (by simp) ?_
      intro i hi
      simp only [List.mem_cons, List.not_mem_nil, or_false] at hi
      subst hi
      refine opV_visop rfl (by rfl) (by intro e; cases e) (fun w₁ h₁ σ hr hp => ?_)
      replace hF := rl9 hF h₁
      clear h₁
      have hr0 : quRep p σ w₁ := hr
      have hO := hr0.2.1
      have hc9 : w₁.cell? ⟨p.Ob, j, none⟩ = some (.int .u64 (QS.o σ j)) := by
        unfold outO at hO
        simp [World.cell?, hO, outs_get p σ hj]
      have hz9 : w₁.frozen? ⟨p.Ob, j, none⟩ = false := by simp [World.frozen?, hO, outO]
      have hr8 := qu_out h hj hr0
      have ho8 := onlySB_set (quC_ok h) hr (⟨p.Ob, j, none⟩ : Addr) (.int .u64 p.x) (.inr rfl)
      refine ⟨fun hb => (by cases hb.1), undef, w₁.setCell ⟨p.Ob, j, none⟩ (.int .u64 p.x), (⟨.fin, m4, j⟩ : QU), ({ (σ : QS) with o := fun i => if i = j then p.x else QS.o σ i } : QS), .inr ⟨by go_simp, rfl⟩, fun e he => ?_, QT.st (u := (⟨.w0, m4, j⟩ : QU)) rfl, hr8, ho8, rfl, fun es => ⟨fun l hl => hl, fun l hl => .inl hl, fun l hl => .inl ⟨rfl, hl.2⟩⟩, fun l ho => .inl ?_, fun _ hb => hb, fun N1 hN => ?_⟩
      · simp [go_sem, storedEv, hc9] at he
        rw [he.2]
        exact ev_own (.inl ⟨by show ¬ QPh.w0 = QPh.a0; simp, rfl⟩)
      · rcases ho with ⟨h1, rfl⟩ | ⟨h1, rfl⟩
        · exact .inl ⟨by show ¬ QPh.w0 = QPh.a0; simp, rfl⟩
        · cases h1
      have hF2 := hS.act _ _ ho8 ⟨_, hr8⟩ hF
      walk_nrm
      refine anyV_done ?_
      exact ⟨rfl, _, resultsC_none rfl _, rfl, hF2.1⟩
    · skip
      (refine opV_cons (by omega) rfl (by rfl) ?_; intro _ hR K hK; replace hF := rl9 hF hR; clear hR; have m1 := hP1 _ hF; have m2 := hP2 _ hF; go_simp; refine hK _ _ ⟨?_, ?_⟩; (· refine dw_read (fun e he => ?_); have hm := mem_listed he; simp [go_sem, m1, m2] at hm; subst hm; exact evW_cell (.inr (hlow _ (by simp)).1) (hlow _ (by simp)).2); clear hK K m1 m2; try walk_nrm)
      refine anyV_all (rs := [1, 3]) (by kernel_rfl) (by simp) ?_
      intro i hi
      simp only [List.mem_cons, List.not_mem_nil, or_false] at hi
      rcases hi with rfl | rfl
      · skip
        (refine opV_cons (by omega) rfl (by rfl) ?_; intro _ hR K hK; replace hF := rl9 hF hR; clear hR; go_simp; refine hK _ _ ⟨?_, ?_⟩; (· rw [listed_nil (by simp [go_sem, *])]; exact DW.refl _ _ _); clear hK K; try walk_nrm)
        refine anyV_all (rs := [3]) (by kernel_rfl) (by simp) ?_
        intro i hi
        simp only [List.mem_cons, List.not_mem_nil, or_false] at hi
        subst hi
        refine opV_call (nf := (N + 1) * 7002 + 25000) (by omega) rfl (by rfl) rfl (callsV_args (by simp [Act.eval]) (get_V (k := k) (N := N) h hS hM hF)) ?_
        rintro N4 u4 v4 w4 ⟨hN4, hF4, rfl, m4, hm4, rfl⟩
        clear hF
        have hF := hF4
        clear hF4
        walk_nrm
        refine anyV_all (rs := [4]) (by kernel_rfl) (by simp) ?_
        intro i hi
        simp only [List.mem_cons, List.not_mem_nil, or_false] at hi
        subst hi
        (refine opV_cons (by omega) rfl (by rfl) ?_; intro _ hR K hK; replace hF := rl9 hF hR; clear hR; go_simp; refine hK _ _ ⟨?_, ?_⟩; (· rw [listed_nil (by simp [go_sem, *])]; exact DW.refl _ _ _); clear hK K; try walk_nrm)
        refine anyV_all (rs := [5]) (by kernel_rfl) (by simp) ?_
        intro i hi
        simp only [List.mem_cons, List.not_mem_nil, or_false] at hi
        subst hi
        refine opV_visop rfl (by rfl) (by intro e; cases e) (fun w₁ h₁ σ hr hp => ?_)
        replace hF := rl9 hF h₁
        clear h₁
        have hr0 : quRep p σ w₁ := hr
        have hO := hr0.2.1
        have hc9 : w₁.cell? ⟨p.Ob, j, none⟩ = some (.int .u64 (QS.o σ j)) := by
          unfold outO at hO
          simp [World.cell?, hO, outs_get p σ hj]
        have hz9 : w₁.frozen? ⟨p.Ob, j, none⟩ = false := by simp [World.frozen?, hO, outO]
        have hr8 := qu_out h hj hr0
        have ho8 := onlySB_set (quC_ok h) hr (⟨p.Ob, j, none⟩ : Addr) (.int .u64 p.x) (.inr rfl)
        refine ⟨fun hb => (by cases hb.1), undef, w₁.setCell ⟨p.Ob, j, none⟩ (.int .u64 p.x), (⟨.fin, m4, j⟩ : QU), ({ (σ : QS) with o := fun i => if i = j then p.x else QS.o σ i } : QS), .inr ⟨by go_simp, rfl⟩, fun e he => ?_, QT.st (u := (⟨.w0, m4, j⟩ : QU)) rfl, hr8, ho8, rfl, fun es => ⟨fun l hl => hl, fun l hl => .inl hl, fun l hl => .inl ⟨rfl, hl.2⟩⟩, fun l ho => .inl ?_, fun _ hb => hb, fun N1 hN => ?_⟩
        · simp [go_sem, storedEv, hc9] at he
          rw [he.2]
          exact ev_own (.inl ⟨by show ¬ QPh.w0 = QPh.a0; simp, rfl⟩)
        · rcases ho with ⟨h1, rfl⟩ | ⟨h1, rfl⟩
          · exact .inl ⟨by show ¬ QPh.w0 = QPh.a0; simp, rfl⟩
          · cases h1
        have hF2 := hS.act _ _ ho8 ⟨_, hr8⟩ hF
        walk_nrm
        refine anyV_done ?_
        exact ⟨rfl, _, resultsC_none rfl _, rfl, hF2.1⟩
      · skip
        refine opV_call (nf := (N + 1) * 7002 + 25000) (by omega) rfl (by rfl) rfl (callsV_args (by simp [Act.eval]) (get_V (k := k) (N := N) h hS hM hF)) ?_
        rintro N4 u4 v4 w4 ⟨hN4, hF4, rfl, m4, hm4, rfl⟩
        clear hF
        have hF := hF4
        clear hF4
        walk_nrm
        refine anyV_all (rs := [1]) (by kernel_rfl) (by simp) ?_
        intro i hi
        simp only [List.mem_cons, List.not_mem_nil, or_false] at hi
        subst hi
        (refine opV_cons (by omega) rfl (by rfl) ?_; intro _ hR K hK; replace hF := rl9 hF hR; clear hR; go_simp; refine hK _ _ ⟨?_, ?_⟩; (· rw [listed_nil (by simp [go_sem, *])]; exact DW.refl _ _ _); clear hK K; try walk_nrm)
        refine anyV_all (rs := [4]) (by kernel_rfl) (by simp) ?_
        intro i hi
        simp only [List.mem_cons, List.not_mem_nil, or_false] at hi
        subst hi
        (refine opV_cons (by omega) rfl (by rfl) ?_; intro _ hR K hK; replace hF := rl9 hF hR; clear hR; go_simp; refine hK _ _ ⟨?_, ?_⟩; (· rw [listed_nil (by simp [go_sem, *])]; exact DW.refl _ _ _); clear hK K; try walk_nrm)
        refine anyV_all (rs := [5]) (by kernel_rfl) (by simp) ?_
        intro i hi
        simp only [List.mem_cons, List.not_mem_nil, or_false] at hi
        subst hi
        refine opV_visop rfl (by rfl) (by intro e; cases e) (fun w₁ h₁ σ hr hp => ?_)
        replace hF := rl9 hF h₁
        clear h₁
        have hr0 : quRep p σ w₁ := hr
        have hO := hr0.2.1
        have hc9 : w₁.cell? ⟨p.Ob, j, none⟩ = some (.int .u64 (QS.o σ j)) := by
          unfold outO at hO
          simp [World.cell?, hO, outs_get p σ hj]
        have hz9 : w₁.frozen? ⟨p.Ob, j, none⟩ = false := by simp [World.frozen?, hO, outO]
        have hr8 := qu_out h hj hr0
        have ho8 := onlySB_set (quC_ok h) hr (⟨p.Ob, j, none⟩ : Addr) (.int .u64 p.x) (.inr rfl)
        refine ⟨fun hb => (by cases hb.1), undef, w₁.setCell ⟨p.Ob, j, none⟩ (.int .u64 p.x), (⟨.fin, m4, j⟩ : QU), ({ (σ : QS) with o := fun i => if i = j then p.x else QS.o σ i } : QS), .inr ⟨by go_simp, rfl⟩, fun e he => ?_, QT.st (u := (⟨.w0, m4, j⟩ : QU)) rfl, hr8, ho8, rfl, fun es => ⟨fun l hl => hl, fun l hl => .inl hl, fun l hl => .inl ⟨rfl, hl.2⟩⟩, fun l ho => .inl ?_, fun _ hb => hb, fun N1 hN => ?_⟩
        · simp [go_sem, storedEv, hc9] at he
          rw [he.2]
          exact ev_own (.inl ⟨by show ¬ QPh.w0 = QPh.a0; simp, rfl⟩)
        · rcases ho with ⟨h1, rfl⟩ | ⟨h1, rfl⟩
          · exact .inl ⟨by show ¬ QPh.w0 = QPh.a0; simp, rfl⟩
          · cases h1
        have hF2 := hS.act _ _ ho8 ⟨_, hr8⟩ hF
        walk_nrm
        refine anyV_done ?_
        exact ⟨rfl, _, resultsC_none rfl _, rfl, hF2.1⟩
  · skip
    (refine opV_cons (by omega) rfl (by rfl) ?_; intro _ hR K hK; replace hF := rl9 hF hR; clear hR; go_simp; refine hK _ _ ⟨?_, ?_⟩; (· rw [listed_nil (by simp [go_sem, *])]; exact DW.refl _ _ _); clear hK K; try walk_nrm)
    refine anyV_all (rs := [0, 2]) (by kernel_rfl) (by simp) ?_
    intro i hi
    simp only [List.mem_cons, List.not_mem_nil, or_false] at hi
    rcases hi with rfl | rfl
    · skip
      (refine opV_cons (by omega) rfl (by rfl) ?_; intro _ hR K hK; replace hF := rl9 hF hR; clear hR; have m1 := hP1 _ hF; have m2 := hP2 _ hF; go_simp; refine hK _ _ ⟨?_, ?_⟩; (· refine dw_read (fun e he => ?_); have hm := mem_listed he; simp [go_sem, m1, m2] at hm; subst hm; exact evW_cell (.inr (hlow _ (by simp)).1) (hlow _ (by simp)).2); clear hK K m1 m2; try walk_nrm)
      refine anyV_all (rs := [2]) (by kernel_rfl) (by simp) ?_
      intro i hi
      simp only [List.mem_cons, List.not_mem_nil, or_false] at hi
      subst hi
      (refine opV_cons (by omega) rfl (by rfl) ?_; intro _ hR K hK; replace hF := rl9 hF hR; clear hR; have m1 := hP1 _ hF; have m2 := hP2 _ hF; go_simp; refine hK _ _ ⟨?_, ?_⟩; (· refine dw_read (fun e he => ?_); have hm := mem_listed he; simp [go_sem, m1, m2] at hm; subst hm; exact evW_cell (.inr (hlow _ (by simp)).1) (hlow _ (by simp)).2); clear hK K m1 m2; try walk_nrm)
      refine anyV_all (rs := [3]) (by kernel_rfl) (by simp) ?_
      intro i hi
      simp only [List.mem_cons, List.not_mem_nil, or_false] at hi
      subst hi
      refine opV_call (nf := (N + 1) * 7002 + 25000) (by omega) rfl (by rfl) rfl (callsV_args (by simp [Act.eval]) (get_V (k := k) (N := N) h hS hM hF)) ?_
      rintro N4 u4 v4 w4 ⟨hN4, hF4, rfl, m4, hm4, rfl⟩
      clear hF
      have hF := hF4
      clear hF4
      walk_nrm
      refine anyV_all (rs := [4]) (by kernel_rfl) (by simp) ?_
      intro i hi
      simp only [List.mem_cons, List.not_mem_nil, or_false] at hi
      subst hi
      (refine opV_cons (by omega) rfl (by rfl) ?_; intro _ hR K hK; replace hF := rl9 hF hR; clear hR; go_simp; refine hK _ _ ⟨?_, ?_⟩; (· rw [listed_nil (by simp [go_sem, *])]; exact DW.refl _ _ _); clear hK K; try walk_nrm)
      refine anyV_all (rs := [5]) (by kernel_rfl) (by simp) ?_
      intro i hi
      simp only [List.mem_cons, List.not_mem_nil, or_false] at hi
      subst hi
      refine opV_visop rfl (by rfl) (by intro e; cases e) (fun w₁ h₁ σ hr hp => ?_)
      replace hF := rl9 hF h₁
      clear h₁
      have hr0 : quRep p σ w₁ := hr
      have hO := hr0.2.1
      have hc9 : w₁.cell? ⟨p.Ob, j, none⟩ = some (.int .u64 (QS.o σ j)) := by
        unfold outO at hO
        simp [World.cell?, hO, outs_get p σ hj]
      have hz9 : w₁.frozen? ⟨p.Ob, j, none⟩ = false := by simp [World.frozen?, hO, outO]
      have hr8 := qu_out h hj hr0
      have ho8 := onlySB_set (quC_ok h) hr (⟨p.Ob, j, none⟩ : Addr) (.int .u64 p.x) (.inr rfl)
      refine ⟨fun hb => (by cases hb.1), undef, w₁.setCell ⟨p.Ob, j, none⟩ (.int .u64 p.x), (⟨.fin, m4, j⟩ : QU), ({ (σ : QS) with o := fun i => if i = j then p.x else QS.o σ i } : QS), .inr ⟨by go_simp, rfl⟩, fun e he => ?_, QT.st (u := (⟨.w0, m4, j⟩ : QU)) rfl, hr8, ho8, rfl, fun es => ⟨fun l hl => hl, fun l hl => .inl hl, fun l hl => .inl ⟨rfl, hl.2⟩⟩, fun l ho => .inl ?_, fun _ hb => hb, fun N1 hN => ?_⟩
      · simp [go_sem, storedEv, hc9] at he
        rw [he.2]
        exact ev_own (.inl ⟨by show ¬ QPh.w0 = QPh.a0; simp, rfl⟩)
      · rcases ho with ⟨h1, rfl⟩ | ⟨h1, rfl⟩
        · exact .inl ⟨by show ¬ QPh.w0 = QPh.a0; simp, rfl⟩
        · cases h1
      have hF2 := hS.act _ _ ho8 ⟨_, hr8⟩ hF
      walk_nrm
      refine anyV_done ?_
      exact ⟨rfl, _, resultsC_none rfl _, rfl, hF2.1⟩
    · skip
      (refine opV_cons (by omega) rfl (by rfl) ?_; intro _ hR K hK; replace hF := rl9 hF hR; clear hR; have m1 := hP1 _ hF; have m2 := hP2 _ hF; go_simp; refine hK _ _ ⟨?_, ?_⟩; (· refine dw_read (fun e he => ?_); have hm := mem_listed he; simp [go_sem, m1, m2] at hm; subst hm; exact evW_cell (.inr (hlow _ (by simp)).1) (hlow _ (by simp)).2); clear hK K m1 m2; try walk_nrm)
      refine anyV_all (rs := [0, 3]) (by kernel_rfl) (by simp) ?_
      intro i hi
      simp only [List.mem_cons, List.not_mem_nil, or_false] at hi
      rcases hi with rfl | rfl
      · skip
        (refine opV_cons (by omega) rfl (by rfl) ?_; intro _ hR K hK; replace hF := rl9 hF hR; clear hR; have m1 := hP1 _ hF; have m2 := hP2 _ hF; go_simp; refine hK _ _ ⟨?_, ?_⟩; (· refine dw_read (fun e he => ?_); have hm := mem_listed he; simp [go_sem, m1, m2] at hm; subst hm; exact evW_cell (.inr (hlow _ (by simp)).1) (hlow _ (by simp)).2); clear hK K m1 m2; try walk_nrm)
        refine anyV_all (rs := [3]) (by kernel_rfl) (by simp) ?_
        intro i hi
        simp only [List.mem_cons, List.not_mem_nil, or_false] at hi
        subst hi
        refine opV_call (nf := (N + 1) * 7002 + 25000) (by omega) rfl (by rfl) rfl (callsV_args (by simp [Act.eval]) (get_V (k := k) (N := N) h hS hM hF)) ?_
        rintro N4 u4 v4 w4 ⟨hN4, hF4, rfl, m4, hm4, rfl⟩
        clear hF
        have hF := hF4
        clear hF4
        walk_nrm
        refine anyV_all (rs := [4]) (by kernel_rfl) (by simp) ?_
        intro i hi
        simp only [List.mem_cons, List.not_mem_nil, or_false] at hi
        subst hi
        (refine opV_cons (by omega) rfl (by rfl) ?_; intro _ hR K hK; replace hF := rl9 hF hR; clear hR; go_simp; refine hK _ _ ⟨?_, ?_⟩; (· rw [listed_nil (by simp [go_sem, *])]; exact DW.refl _ _ _); clear hK K; try walk_nrm)
        refine anyV_all (rs := [5]) (by kernel_rfl) (by simp) ?_
        intro i hi
        simp only [List.mem_cons, List.not_mem_nil, or_false] at hi
        subst hi
        refine opV_visop rfl (by rfl) (by intro e; cases e) (fun w₁ h₁ σ hr hp => ?_)
        replace hF := rl9 hF h₁
        clear h₁
        have hr0 : quRep p σ w₁ := hr
        have hO := hr0.2.1
        have hc9 : w₁.cell? ⟨p.Ob, j, none⟩ = some (.int .u64 (QS.o σ j)) := by
          unfold outO at hO
          simp [World.cell?, hO, outs_get p σ hj]
        have hz9 : w₁.frozen? ⟨p.Ob, j, none⟩ = false := by simp [World.frozen?, hO, outO]
        have hr8 := qu_out h hj hr0
        have ho8 := onlySB_set (quC_ok h) hr (⟨p.Ob, j, none⟩ : Addr) (.int .u64 p.x) (.inr rfl)
        refine ⟨fun hb => (by cases hb.1), undef, w₁.setCell ⟨p.Ob, j, none⟩ (.int .u64 p.x), (⟨.fin, m4, j⟩ : QU), ({ (σ : QS) with o := fun i => if i = j then p.x else QS.o σ i } : QS), .inr ⟨by go_simp, rfl⟩, fun e he => ?_, QT.st (u := (⟨.w0, m4, j⟩ : QU)) rfl, hr8, ho8, rfl, fun es => ⟨fun l hl => hl, fun l hl => .inl hl, fun l hl => .inl ⟨rfl, hl.2⟩⟩, fun l ho => .inl ?_, fun _ hb => hb, fun N1 hN => ?_⟩
        · simp [go_sem, storedEv, hc9] at he
          rw [he.2]
          exact ev_own (.inl ⟨by show ¬ QPh.w0 = QPh.a0; simp, rfl⟩)
        · rcases ho with ⟨h1, rfl⟩ | ⟨h1, rfl⟩
          · exact .inl ⟨by show ¬ QPh.w0 = QPh.a0; simp, rfl⟩
          · cases h1
        have hF2 := hS.act _ _ ho8 ⟨_, hr8⟩ hF
        walk_nrm
        refine anyV_done ?_
        exact ⟨rfl, _, resultsC_none rfl _, rfl, hF2.1⟩
      · skip
        refine opV_call (nf := (N + 1) * 7002 + 25000) (by omega) rfl (by rfl) rfl (callsV_args (by simp [Act.eval]) (get_V (k := k) (N := N) h hS hM hF)) ?_
        rintro N4 u4 v4 w4 ⟨hN4, hF4, rfl, m4, hm4, rfl⟩
        clear hF
        have hF := hF4
        clear hF4
        walk_nrm
        refine anyV_all (rs := [0]) (by kernel_rfl) (by simp) ?_
        intro i hi
        simp only [List.mem_cons, List.not_mem_nil, or_false] at hi
        subst hi
        (refine opV_cons (by omega) rfl (by rfl) ?_; intro _ hR K hK; replace hF := rl9 hF hR; clear hR; have m1 := hP1 _ hF; have m2 := hP2 _ hF; go_simp; refine hK _ _ ⟨?_, ?_⟩; (· refine dw_read (fun e he => ?_); have hm := mem_listed he; simp [go_sem, m1, m2] at hm; subst hm; exact evW_cell (.inr (hlow _ (by simp)).1) (hlow _ (by simp)).2); clear hK K m1 m2; try walk_nrm)
        refine anyV_all (rs := [4]) (by kernel_rfl) (by simp) ?_
        intro i hi
        simp only [List.mem_cons, List.not_mem_nil, or_false] at hi
        subst hi
        (refine opV_cons (by omega) rfl (by rfl) ?_; intro _ hR K hK; replace hF := rl9 hF hR; clear hR; go_simp; refine hK _ _ ⟨?_, ?_⟩; (· rw [listed_nil (by simp [go_sem, *])]; exact DW.refl _ _ _); clear hK K; try walk_nrm)
        refine anyV_all (rs := [5]) (by kernel_rfl) (by simp) ?_
        intro i hi
        simp only [List.mem_cons, List.not_mem_nil, or_false] at hi
        subst hi
        refine opV_visop rfl (by rfl) (by intro e; cases e) (fun w₁ h₁ σ hr hp => ?_)
        replace hF := rl9 hF h₁
        clear h₁
        have hr0 : quRep p σ w₁ := hr
        have hO := hr0.2.1
        have hc9 : w₁.cell? ⟨p.Ob, j, none⟩ = some (.int .u64 (QS.o σ j)) := by
          unfold outO at hO
          simp [World.cell?, hO, outs_get p σ hj]
        have hz9 : w₁.frozen? ⟨p.Ob, j, none⟩ = false := by simp [World.frozen?, hO, outO]
        have hr8 := qu_out h hj hr0
        have ho8 := onlySB_set (quC_ok h) hr (⟨p.Ob, j, none⟩ : Addr) (.int .u64 p.x) (.inr rfl)
        refine ⟨fun hb => (by cases hb.1), undef, w₁.setCell ⟨p.Ob, j, none⟩ (.int .u64 p.x), (⟨.fin, m4, j⟩ : QU), ({ (σ : QS) with o := fun i => if i = j then p.x else QS.o σ i } : QS), .inr ⟨by go_simp, rfl⟩, fun e he => ?_, QT.st (u := (⟨.w0, m4, j⟩ : QU)) rfl, hr8, ho8, rfl, fun es => ⟨fun l hl => hl, fun l hl => .inl hl, fun l hl => .inl ⟨rfl, hl.2⟩⟩, fun l ho => .inl ?_, fun _ hb => hb, fun N1 hN => ?_⟩
        · simp [go_sem, storedEv, hc9] at he
          rw [he.2]
          exact ev_own (.inl ⟨by show ¬ QPh.w0 = QPh.a0; simp, rfl⟩)
        · rcases ho with ⟨h1, rfl⟩ | ⟨h1, rfl⟩
          · exact .inl ⟨by show ¬ QPh.w0 = QPh.a0; simp, rfl⟩
          · cases h1
        have hF2 := hS.act _ _ ho8 ⟨_, hr8⟩ hF
        walk_nrm
        refine anyV_done ?_
        exact ⟨rfl, _, resultsC_none rfl _, rfl, hF2.1⟩
  · skip
    (refine opV_cons (by omega) rfl (by rfl) ?_; intro _ hR K hK; replace hF := rl9 hF hR; clear hR; have m1 := hP1 _ hF; have m2 := hP2 _ hF; go_simp; refine hK _ _ ⟨?_, ?_⟩; (· refine dw_read (fun e he => ?_); have hm := mem_listed he; simp [go_sem, m1, m2] at hm; subst hm; exact evW_cell (.inr (hlow _ (by simp)).1) (hlow _ (by simp)).2); clear hK K m1 m2; try walk_nrm)
    refine anyV_all (rs := [0, 1, 3]) (by kernel_rfl) (by simp) ?_
    intro i hi
    simp only [List.mem_cons, List.not_mem_nil, or_false] at hi
    rcases hi with rfl | rfl | rfl
    · skip
      (refine opV_cons (by omega) rfl (by rfl) ?_; intro _ hR K hK; replace hF := rl9 hF hR; clear hR; have m1 := hP1 _ hF; have m2 := hP2 _ hF; go_simp; refine hK _ _ ⟨?_, ?_⟩; (· refine dw_read (fun e he => ?_); have hm := mem_listed he; simp [go_sem, m1, m2] at hm; subst hm; exact evW_cell (.inr (hlow _ (by simp)).1) (hlow _ (by simp)).2); clear hK K m1 m2; try walk_nrm)
      refine anyV_all (rs := [1, 3]) (by kernel_rfl) (by simp) ?_
      intro i hi
      simp only [List.mem_cons, List.not_mem_nil, or_false] at hi
      rcases hi with rfl | rfl
      · skip
        (refine opV_cons (by omega) rfl (by rfl) ?_; intro _ hR K hK; replace hF := rl9 hF hR; clear hR; go_simp; refine hK _ _ ⟨?_, ?_⟩; (· rw [listed_nil (by simp [go_sem, *])]; exact DW.refl _ _ _); clear hK K; try walk_nrm)
        refine anyV_all (rs := [3]) (by kernel_rfl) (by simp) ?_
        intro i hi
        simp only [List.mem_cons, List.not_mem_nil, or_false] at hi
        subst hi
        refine opV_call (nf := (N + 1) * 7002 + 25000) (by omega) rfl (by rfl) rfl (callsV_args (by simp [Act.eval]) (get_V (k := k) (N := N) h hS hM hF)) ?_
        rintro N4 u4 v4 w4 ⟨hN4, hF4, rfl, m4, hm4, rfl⟩
        clear hF
        have hF := hF4
        clear hF4
        walk_nrm
        refine anyV_all (rs := [4]) (by kernel_rfl) (by simp) ?_
        intro i hi
        simp only [List.mem_cons, List.not_mem_nil, or_false] at hi
        subst hi
        (refine opV_cons (by omega) rfl (by rfl) ?_; intro _ hR K hK; replace hF := rl9 hF hR; clear hR; go_simp; refine hK _ _ ⟨?_, ?_⟩; (· rw [listed_nil (by simp [go_sem, *])]; exact DW.refl _ _ _); clear hK K; try walk_nrm)
        refine anyV_all (rs := [5]) (by kernel_rfl) (by simp) ?_
        intro i hi
        simp only [List.mem_cons, List.not_mem_nil, or_false] at hi
        subst hi
        refine opV_visop rfl (by rfl) (by intro e; cases e) (fun w₁ h₁ σ hr hp => ?_)
        replace hF := rl9 hF h₁
        clear h₁
        have hr0 : quRep p σ w₁ := hr
        have hO := hr0.2.1
        have hc9 : w₁.cell? ⟨p.Ob, j, none⟩ = some (.int .u64 (QS.o σ j)) := by
          unfold outO at hO
          simp [World.cell?, hO, outs_get p σ hj]
        have hz9 : w₁.frozen? ⟨p.Ob, j, none⟩ = false := by simp [World.frozen?, hO, outO]
        have hr8 := qu_out h hj hr0
        have ho8 := onlySB_set (quC_ok h) hr (⟨p.Ob, j, none⟩ : Addr) (.int .u64 p.x) (.inr rfl)
        refine ⟨fun hb => (by cases hb.1), undef, w₁.setCell ⟨p.Ob, j, none⟩ (.int .u64 p.x), (⟨.fin, m4, j⟩ : QU), ({ (σ : QS) with o := fun i => if i = j then p.x else QS.o σ i } : QS), .inr ⟨by go_simp, rfl⟩, fun e he => ?_, QT.st (u := (⟨.w0, m4, j⟩ : QU)) rfl, hr8, ho8, rfl, fun es => ⟨fun l hl => hl, fun l hl => .inl hl, fun l hl => .inl ⟨rfl, hl.2⟩⟩, fun l ho => .inl ?_, fun _ hb => hb, fun N1 hN => ?_⟩
        · simp [go_sem, storedEv, hc9] at he
          rw [he.2]
          exact ev_own (.inl ⟨by show ¬ QPh.w0 = QPh.a0; simp, rfl⟩)
        · rcases ho with ⟨h1, rfl⟩ | ⟨h1, rfl⟩
          · exact .inl ⟨by show ¬ QPh.w0 = QPh.a0; simp, rfl⟩
          · cases h1
        have hF2 := hS.act _ _ ho8 ⟨_, hr8⟩ hF
        walk_nrm
        refine anyV_done ?_
        exact ⟨rfl, _, resultsC_none rfl _, rfl, hF2.1⟩
      · skip
        refine opV_call (nf := (N + 1) * 7002 + 25000) (by omega) rfl (by rfl) rfl (callsV_args (by simp [Act.eval]) (get_V (k := k) (N := N) h hS hM hF)) ?_
        rintro N4 u4 v4 w4 ⟨hN4, hF4, rfl, m4, hm4, rfl⟩
        clear hF
        have hF := hF4
        clear hF4
        walk_nrm
        refine anyV_all (rs := [1]) (by kernel_rfl) (by simp) ?_
        intro i hi
        simp only [List.mem_cons, List.not_mem_nil, or_false] at hi
        subst hi
        (refine opV_cons (by omega) rfl (by rfl) ?_; intro _ hR K hK; replace hF := rl9 hF hR; clear hR; go_simp; refine hK _ _ ⟨?_, ?_⟩; (· rw [listed_nil (by simp [go_sem, *])]; exact DW.refl _ _ _); clear hK K; try walk_nrm)
        refine anyV_all (rs := [4]) (by kernel_rfl) (by simp) ?_
        intro i hi
        simp only [List.mem_cons, List.not_mem_nil, or_false] at hi
        subst hi
        (refine opV_cons (by omega) rfl (by rfl) ?_; intro _ hR K hK; replace hF := rl9 hF hR; clear hR; go_simp; refine hK _ _ ⟨?_, ?_⟩; (· rw [listed_nil (by simp [go_sem, *])]; exact DW.refl _ _ _); clear hK K; try walk_nrm)
        refine anyV_all (rs := [5]) (by kernel_rfl) (by simp) ?_
        intro i hi
        simp only [List.mem_cons, List.not_mem_nil, or_false] at hi
        subst hi
        refine opV_visop rfl (by rfl) (by intro e; cases e) (fun w₁ h₁ σ hr hp => ?_)
        replace hF := rl9 hF h₁
        clear h₁
        have hr0 : quRep p σ w₁ := hr
        have hO := hr0.2.1
        have hc9 : w₁.cell? ⟨p.Ob, j, none⟩ = some (.int .u64 (QS.o σ j)) := by
          unfold outO at hO
          simp [World.cell?, hO, outs_get p σ hj]
        have hz9 : w₁.frozen? ⟨p.Ob, j, none⟩ = false := by simp [World.frozen?, hO, outO]
        have hr8 := qu_out h hj hr0
        have ho8 := onlySB_set (quC_ok h) hr (⟨p.Ob, j, none⟩ : Addr) (.int .u64 p.x) (.inr rfl)
        refine ⟨fun hb => (by cases hb.1), undef, w₁.setCell ⟨p.Ob, j, none⟩ (.int .u64 p.x), (⟨.fin, m4, j⟩ : QU), ({ (σ : QS) with o := fun i => if i = j then p.x else QS.o σ i } : QS), .inr ⟨by go_simp, rfl⟩, fun e he => ?_, QT.st (u := (⟨.w0, m4, j⟩ : QU)) rfl, hr8, ho8, rfl, fun es => ⟨fun l hl => hl, fun l hl => .inl hl, fun l hl => .inl ⟨rfl, hl.2⟩⟩, fun l ho => .inl ?_, fun _ hb => hb, fun N1 hN => ?_⟩
        · simp [go_sem, storedEv, hc9] at he
          rw [he.2]
          exact ev_own (.inl ⟨by show ¬ QPh.w0 = QPh.a0; simp, rfl⟩)
        · rcases ho with ⟨h1, rfl⟩ | ⟨h1, rfl⟩
          · exact .inl ⟨by show ¬ QPh.w0 = QPh.a0; simp, rfl⟩
          · cases h1
        have hF2 := hS.act _ _ ho8 ⟨_, hr8⟩ hF
        walk_nrm
        refine anyV_done ?_
        exact ⟨rfl, _, resultsC_none rfl _, rfl, hF2.1⟩
    · skip
      (refine opV_cons (by omega) rfl (by rfl) ?_; intro _ hR K hK; replace hF := rl9 hF hR; clear hR; go_simp; refine hK _ _ ⟨?_, ?_⟩; (· rw [listed_nil (by simp [go_sem, *])]; exact DW.refl _ _ _); clear hK K; try walk_nrm)
      refine anyV_all (rs := [0, 3]) (by kernel_rfl) (by simp) ?_
      intro i hi
      simp only [List.mem_cons, List.not_mem_nil, or_false] at hi
      rcases hi with rfl | rfl
      · skip
        (refine opV_cons (by omega) rfl (by rfl) ?_; intro _ hR K hK; replace hF := rl9 hF hR; clear hR; have m1 := hP1 _ hF; have m2 := hP2 _ hF; go_simp; refine hK _ _ ⟨?_, ?_⟩; (· refine dw_read (fun e he => ?_); have hm := mem_listed he; simp [go_sem, m1, m2] at hm; subst hm; exact evW_cell (.inr (hlow _ (by simp)).1) (hlow _ (by simp)).2); clear hK K m1 m2; try walk_nrm)
        refine anyV_all (rs := [3]) (by kernel_rfl) (by simp) ?_
        intro i hi
        simp only [List.mem_cons, List.not_mem_nil, or_false] at hi
        subst hi
        refine opV_call (nf := (N + 1) * 7002 + 25000) (by omega) rfl (by rfl) rfl (callsV_args (by simp [Act.eval]) (get_V (k := k) (N := N) h hS hM hF)) ?_
        rintro N4 u4 v4 w4 ⟨hN4, hF4, rfl, m4, hm4, rfl⟩
        clear hF
        have hF := hF4
        clear hF4
        walk_nrm
        refine anyV_all (rs := [4]) (by kernel_rfl) (by simp) ?_
        intro i hi
        simp only [List.mem_cons, List.not_mem_nil, or_false] at hi
        subst hi
        (refine opV_cons (by omega) rfl (by rfl) ?_; intro _ hR K hK; replace hF := rl9 hF hR; clear hR; go_simp; refine hK _ _ ⟨?_, ?_⟩; (· rw [listed_nil (by simp [go_sem, *])]; exact DW.refl _ _ _); clear hK K; try walk_nrm)
        refine anyV_all (rs := [5]) (by kernel_rfl) (by simp) ?_
        intro i hi
        simp only [List.mem_cons, List.not_mem_nil, or_false] at hi
        subst hi
        refine opV_visop rfl (by rfl) (by intro e; cases e) (fun w₁ h₁ σ hr hp => ?_)
        replace hF := rl9 hF h₁
        clear h₁
        have hr0 : quRep p σ w₁ := hr
        have hO := hr0.2.1
        have hc9 : w₁.cell? ⟨p.Ob, j, none⟩ = some (.int .u64 (QS.o σ j)) := by
          unfold outO at hO
          simp [World.cell?, hO, outs_get p σ hj]
        have hz9 : w₁.frozen? ⟨p.Ob, j, none⟩ = false := by simp [World.frozen?, hO, outO]
        have hr8 := qu_out h hj hr0
        have ho8 := onlySB_set (quC_ok h) hr (⟨p.Ob, j, none⟩ : Addr) (.int .u64 p.x) (.inr rfl)
        refine ⟨fun hb => (by cases hb.1), undef, w₁.setCell ⟨p.Ob, j, none⟩ (.int .u64 p.x), (⟨.fin, m4, j⟩ : QU), ({ (σ : QS) with o := fun i => if i = j then p.x else QS.o σ i } : QS), .inr ⟨by go_simp, rfl⟩, fun e he => ?_, QT.st (u := (⟨.w0, m4, j⟩ : QU)) rfl, hr8, ho8, rfl, fun es => ⟨fun l hl => hl, fun l hl => .inl hl, fun l hl => .inl ⟨rfl, hl.2⟩⟩, fun l ho => .inl ?_, fun _ hb => hb, fun N1 hN => ?_⟩
        · simp [go_sem, storedEv, hc9] at he
          rw [he.2]
          exact ev_own (.inl ⟨by show ¬ QPh.w0 = QPh.a0; simp, rfl⟩)
        · rcases ho with ⟨h1, rfl⟩ | ⟨h1, rfl⟩
          · exact .inl ⟨by show ¬ QPh.w0 = QPh.a0; simp, rfl⟩
          · cases h1
        have hF2 := hS.act _ _ ho8 ⟨_, hr8⟩ hF
        walk_nrm
        refine anyV_done ?_
        exact ⟨rfl, _, resultsC_none rfl _, rfl, hF2.1⟩
      · skip
        refine opV_call (nf := (N + 1) * 7002 + 25000) (by omega) rfl (by rfl) rfl (callsV_args (by simp [Act.eval]) (get_V (k := k) (N := N) h hS hM hF)) ?_
        rintro N4 u4 v4 w4 ⟨hN4, hF4, rfl, m4, hm4, rfl⟩
        clear hF
        have hF := hF4
        clear hF4
        walk_nrm
        refine anyV_all (rs := [0]) (by kernel_rfl) (by simp) ?_
        intro i hi
        simp only [List.mem_cons, List.not_mem_nil, or_false] at hi
        subst hi
        (refine opV_cons (by omega) rfl (by rfl) ?_; intro _ hR K hK; replace hF := rl9 hF hR; clear hR; have m1 := hP1 _ hF; have m2 := hP2 _ hF; go_simp; refine hK _ _ ⟨?_, ?_⟩; (· refine dw_read (fun e he => ?_); have hm := mem_listed he; simp [go_sem, m1, m2] at hm; subst hm; exact evW_cell (.inr (hlow _ (by simp)).1) (hlow _ (by simp)).2); clear hK K m1 m2; try walk_nrm)
        refine anyV_all (rs := [4]) (by kernel_rfl) (by simp) ?_
        intro i hi
        simp only [List.mem_cons, List.not_mem_nil, or_false] at hi
        subst hi
        (refine opV_cons (by omega) rfl (by rfl) ?_; intro _ hR K hK; replace hF := rl9 hF hR; clear hR; go_simp; refine hK _ _ ⟨?_, ?_⟩; (· rw [listed_nil (by simp [go_sem, *])]; exact DW.refl _ _ _); clear hK K; try walk_nrm)
        refine anyV_all (rs := [5]) (by kernel_rfl) (by simp) ?_
        intro i hi
        simp only [List.mem_cons, List.not_mem_nil, or_false] at hi
        subst hi
        refine opV_visop rfl (by rfl) (by intro e; cases e) (fun w₁ h₁ σ hr hp => ?_)
        replace hF := rl9 hF h₁
        clear h₁
        have hr0 : quRep p σ w₁ := hr
        have hO := hr0.2.1
        have hc9 : w₁.cell? ⟨p.Ob, j, none⟩ = some (.int .u64 (QS.o σ j)) := by
          unfold outO at hO
          simp [World.cell?, hO, outs_get p σ hj]
        have hz9 : w₁.frozen? ⟨p.Ob, j, none⟩ = false := by simp [World.frozen?, hO, outO]
        have hr8 := qu_out h hj hr0
        have ho8 := onlySB_set (quC_ok h) hr (⟨p.Ob, j, none⟩ : Addr) (.int .u64 p.x) (.inr rfl)
        refine ⟨fun hb => (by cases hb.1), undef, w₁.setCell ⟨p.Ob, j, none⟩ (.int .u64 p.x), (⟨.fin, m4, j⟩ : QU), ({ (σ : QS) with o := fun i => if i = j then p.x else QS.o σ i } : QS), .inr ⟨by go_simp, rfl⟩, fun e he => ?_, QT.st (u := (⟨.w0, m4, j⟩ : QU)) rfl, hr8, ho8, rfl, fun es => ⟨fun l hl => hl, fun l hl => .inl hl, fun l hl => .inl ⟨rfl, hl.2⟩⟩, fun l ho => .inl ?_, fun _ hb => hb, fun N1 hN => ?_⟩
        · simp [go_sem, storedEv, hc9] at he
          rw [he.2]
          exact ev_own (.inl ⟨by show ¬ QPh.w0 = QPh.a0; simp, rfl⟩)
        · rcases ho with ⟨h1, rfl⟩ | ⟨h1, rfl⟩
          · exact .inl ⟨by show ¬ QPh.w0 = QPh.a0; simp, rfl⟩
          · cases h1
        have hF2 := hS.act _ _ ho8 ⟨_, hr8⟩ hF
        walk_nrm
        refine anyV_done ?_
        exact ⟨rfl, _, resultsC_none rfl _, rfl, hF2.1⟩
    · skip
      refine opV_call (nf := (N + 1) * 7002 + 25000) (by omega) rfl (by rfl) rfl (callsV_args (by simp [Act.eval]) (get_V (k := k) (N := N) h hS hM hF)) ?_
      rintro N4 u4 v4 w4 ⟨hN4, hF4, rfl, m4, hm4, rfl⟩
      clear hF
      have hF := hF4
      clear hF4
      walk_nrm
      refine anyV_all (rs := [0, 1]) (by kernel_rfl) (by simp) ?_
      intro i hi
      simp only [List.mem_cons, List.not_mem_nil, or_false] at hi
      rcases hi with rfl | rfl
      · skip
        (refine opV_cons (by omega) rfl (by rfl) ?_; intro _ hR K hK; replace hF := rl9 hF hR; clear hR; have m1 := hP1 _ hF; have m2 := hP2 _ hF; go_simp; refine hK _ _ ⟨?_, ?_⟩; (· refine dw_read (fun e he => ?_); have hm := mem_listed he; simp [go_sem, m1, m2] at hm; subst hm; exact evW_cell (.inr (hlow _ (by simp)).1) (hlow _ (by simp)).2); clear hK K m1 m2; try walk_nrm)
        refine anyV_all (rs := [1]) (by kernel_rfl) (by simp) ?_
        intro i hi
        simp only [List.mem_cons, List.not_mem_nil, or_false] at hi
        subst hi
        (refine opV_cons (by omega) rfl (by rfl) ?_; intro _ hR K hK; replace hF := rl9 hF hR; clear hR; go_simp; refine hK _ _ ⟨?_, ?_⟩; (· rw [listed_nil (by simp [go_sem, *])]; exact DW.refl _ _ _); clear hK K; try walk_nrm)
        refine anyV_all (rs := [4]) (by kernel_rfl) (by simp) ?_
        intro i hi
        simp only [List.mem_cons, List.not_mem_nil, or_false] at hi
        subst hi
        (refine opV_cons (by omega) rfl (by rfl) ?_; intro _ hR K hK; replace hF := rl9 hF hR; clear hR; go_simp; refine hK _ _ ⟨?_, ?_⟩; (· rw [listed_nil (by simp [go_sem, *])]; exact DW.refl _ _ _); clear hK K; try walk_nrm)
        refine anyV_all (rs := [5]) (by kernel_rfl) (by simp) ?_
        intro i hi
        simp only [List.mem_cons, List.not_mem_nil, or_false] at hi
        subst hi
        refine opV_visop rfl (by rfl) (by intro e; cases e) (fun w₁ h₁ σ hr hp => ?_)
        replace hF := rl9 hF h₁
        clear h₁
        have hr0 : quRep p σ w₁ := hr
        have hO := hr0.2.1
        have hc9 : w₁.cell? ⟨p.Ob, j, none⟩ = some (.int .u64 (QS.o σ j)) := by
          unfold outO at hO
          simp [World.cell?, hO, outs_get p σ hj]
        have hz9 : w₁.frozen? ⟨p.Ob, j, none⟩ = false := by simp [World.frozen?, hO, outO]
        have hr8 := qu_out h hj hr0
        have ho8 := onlySB_set (quC_ok h) hr (⟨p.Ob, j, none⟩ : Addr) (.int .u64 p.x) (.inr rfl)
        refine ⟨fun hb => (by cases hb.1), undef, w₁.setCell ⟨p.Ob, j, none⟩ (.int .u64 p.x), (⟨.fin, m4, j⟩ : QU), ({ (σ : QS) with o := fun i => if i = j then p.x else QS.o σ i } : QS), .inr ⟨by go_simp, rfl⟩, fun e he => ?_, QT.st (u := (⟨.w0, m4, j⟩ : QU)) rfl, hr8, ho8, rfl, fun es => ⟨fun l hl => hl, fun l hl => .inl hl, fun l hl => .inl ⟨rfl, hl.2⟩⟩, fun l ho => .inl ?_, fun _ hb => hb, fun N1 hN => ?_⟩
        · simp [go_sem, storedEv, hc9] at he
          rw [he.2]
          exact ev_own (.inl ⟨by show ¬ QPh.w0 = QPh.a0; simp, rfl⟩)
        · rcases ho with ⟨h1, rfl⟩ | ⟨h1, rfl⟩
          · exact .inl ⟨by show ¬ QPh.w0 = QPh.a0; simp, rfl⟩
          · cases h1
        have hF2 := hS.act _ _ ho8 ⟨_, hr8⟩ hF
        walk_nrm
        refine anyV_done ?_
        exact ⟨rfl, _, resultsC_none rfl _, rfl, hF2.1⟩
      · skip
        (refine opV_cons (by omega) rfl (by rfl) ?_; intro _ hR K hK; replace hF := rl9 hF hR; clear hR; go_simp; refine hK _ _ ⟨?_, ?_⟩; (· rw [listed_nil (by simp [go_sem, *])]; exact DW.refl _ _ _); clear hK K; try walk_nrm)
        refine anyV_all (rs := [0]) (by kernel_rfl) (by simp) ?_
        intro i hi
        simp only [List.mem_cons, List.not_mem_nil, or_false] at hi
        subst hi
        (refine opV_cons (by omega) rfl (by rfl) ?_; intro _ hR K hK; replace hF := rl9 hF hR; clear hR; have m1 := hP1 _ hF; have m2 := hP2 _ hF; go_simp; refine hK _ _ ⟨?_, ?_⟩; (· refine dw_read (fun e he => ?_); have hm := mem_listed he; simp [go_sem, m1, m2] at hm; subst hm; exact evW_cell (.inr (hlow _ (by simp)).1) (hlow _ (by simp)).2); clear hK K m1 m2; try walk_nrm)
        refine anyV_all (rs := [4]) (by kernel_rfl) (by simp) ?_
        intro i hi
        simp only [List.mem_cons, List.not_mem_nil, or_false] at hi
        subst hi
        (refine opV_cons (by omega) rfl (by rfl) ?_; intro _ hR K hK; replace hF := rl9 hF hR; clear hR; go_simp; refine hK _ _ ⟨?_, ?_⟩; (· rw [listed_nil (by simp [go_sem, *])]; exact DW.refl _ _ _); clear hK K; try walk_nrm)
        refine anyV_all (rs := [5]) (by kernel_rfl) (by simp) ?_
        intro i hi
        simp only [List.mem_cons, List.not_mem_nil, or_false] at hi
        subst hi
        refine opV_visop rfl (by rfl) (by intro e; cases e) (fun w₁ h₁ σ hr hp => ?_)
        replace hF := rl9 hF h₁
        clear h₁
        have hr0 : quRep p σ w₁ := hr
        have hO := hr0.2.1
        have hc9 : w₁.cell? ⟨p.Ob, j, none⟩ = some (.int .u64 (QS.o σ j)) := by
          unfold outO at hO
          simp [World.cell?, hO, outs_get p σ hj]
        have hz9 : w₁.frozen? ⟨p.Ob, j, none⟩ = false := by simp [World.frozen?, hO, outO]
        have hr8 := qu_out h hj hr0
        have ho8 := onlySB_set (quC_ok h) hr (⟨p.Ob, j, none⟩ : Addr) (.int .u64 p.x) (.inr rfl)
        refine ⟨fun hb => (by cases hb.1), undef, w₁.setCell ⟨p.Ob, j, none⟩ (.int .u64 p.x), (⟨.fin, m4, j⟩ : QU), ({ (σ : QS) with o := fun i => if i = j then p.x else QS.o σ i } : QS), .inr ⟨by go_simp, rfl⟩, fun e he => ?_, QT.st (u := (⟨.w0, m4, j⟩ : QU)) rfl, hr8, ho8, rfl, fun es => ⟨fun l hl => hl, fun l hl => .inl hl, fun l hl => .inl ⟨rfl, hl.2⟩⟩, fun l ho => .inl ?_, fun _ hb => hb, fun N1 hN => ?_⟩
        · simp [go_sem, storedEv, hc9] at he
          rw [he.2]
          exact ev_own (.inl ⟨by show ¬ QPh.w0 = QPh.a0; simp, rfl⟩)
        · rcases ho with ⟨h1, rfl⟩ | ⟨h1, rfl⟩
          · exact .inl ⟨by show ¬ QPh.w0 = QPh.a0; simp, rfl⟩
          · cases h1
        have hF2 := hS.act _ _ ho8 ⟨_, hr8⟩ hF
        walk_nrm
        refine anyV_done ?_
        exact ⟨rfl, _, resultsC_none rfl _, rfl, hF2.1⟩
end Go.Proofs.Ytinghnaigpenkaa
