/- A phase: a leaver's step; a worker's step in each of its situations. -/
import Derived.Test.YtinghnaigpenkaaPhD
namespace Go.Proofs.Ytinghnaigpenkaa
open Go.Conc
open Go.ConcN (CTag phi isOpen isW3 isFin pend WD Vc Ssum Fsum cnt OpenSt AllQuit RelBy sumTo upd sumTo_upd upd_same upd_ne sumTo_congr sumTo_upd_out le_sumTo get_map_set get_map_set_same Deaf_still Deaf_absent phi_mono Vc_upd Vc_le others_uncounted bk_cell deafBehind_idle)
open Go.ConcR (KK wgBlock WgAt stA smA rd wr mk Payload DC0 Bk g_of_ofEvents again_blocked bk_of_mute ofEvent_mk loc_of_ofEvent ofEvent_loc_mark ofEvent_cell)
set_option linter.unusedVariables false
set_option linter.unusedSimpArgs false
set_option linter.unusedSectionVars false
variable [Payload]

section
variable {c : Cfg} {es : Array Event} {w' : World} {Cs : Nat → Nat} {fn : FuncId} {pos : String}
theorem okP_of_Bk (K : c.Ok) {k : Nat} (h : ∀ e ∈ es, Bk c.Wg e) : ∀ op ∈ MemOp.ofEvents k fn pos es, OkP (famOf c w' Cs) k op := by
  intro op hop
  obtain ⟨e, he, rfl⟩ := Go.Conc.mem_ofEvents hop
  refine ⟨rfl, fun x hx _ => ?_⟩
  rcases h e he with h1 | h1 | ⟨a, wr, rfl, ha⟩
  · simp only [ofEvent_loc_mark h1] at hx; cases hx
  · simp only [ofEvent_loc_mark h1] at hx; cases hx
  · simp only [ofEvent_cell, MemAct.touch?, Option.some.injEq] at hx
    subst hx
    exact .inl ⟨K.shWg a ha, rfl⟩
theorem okS_of_Bk (K : c.Ok) {j : Nat} (h : ∀ e ∈ es, Bk c.Wg e) : ∀ op ∈ MemOp.ofEvents 0 fn pos es, OkS (famOf c w' Cs) c.N0 j op := by
  intro op hop
  obtain ⟨e, he, rfl⟩ := Go.Conc.mem_ofEvents hop
  refine ⟨rfl, fun x hx _ => ?_⟩
  rcases h e he with h1 | h1 | ⟨a, wr, rfl, ha⟩
  · simp only [ofEvent_loc_mark h1] at hx; cases hx
  · simp only [ofEvent_loc_mark h1] at hx; cases hx
  · simp only [ofEvent_cell, MemAct.touch?, Option.some.injEq] at hx
    subst hx
    exact .inl ⟨K.shWg a ha, by simp⟩
theorem norel_of_Bk' (h : ∀ e ∈ es, Bk c.Wg e) : ∀ e ∈ es, e.loc ≠ .mark (.release (stA c.Wg)) := ConcN.norel_of_Bk h
/-- a worker's idle step -/
theorem okP_of_EvW {C k : Nat} (hk : Cs (k - c.N0) = C) (hN : c.N0 ≤ k) (h : ∀ e ∈ es, EvW c C w' e) : ∀ op ∈ MemOp.ofEvents k fn pos es, OkP (famOf c w' Cs) k op := by
  intro op hop
  obtain ⟨e, he, rfl⟩ := Go.Conc.mem_ofEvents hop
  refine ⟨rfl, fun x hx hm => ?_⟩
  obtain ⟨a, h1, h2, h3, h4, h5, h6⟩ := (h e he).1 x hx hm
  refine .inr (.inr ⟨h3, ⟨a, h1, h4, h5, ?_⟩, h2⟩)
  rcases h6 with h6 | h6 | h6
  · exact .inr (.inl ⟨by rw [hk]; exact h6, hN⟩)
  · exact .inl h6
  · exact .inr (.inr h6)
theorem okP_of_EvV {k : Nat} (h : ∀ e ∈ es, EvV c k e) : ∀ op ∈ MemOp.ofEvents k fn pos es, OkP (famOf c w' Cs) k op := by
  intro op hop
  obtain ⟨e, he, rfl⟩ := Go.Conc.mem_ofEvents hop
  refine ⟨rfl, fun x hx hm => ?_⟩
  rcases (h e he).1 x hx hm with h1 | h1
  · exact .inl h1
  · exact .inr (.inl h1)
theorem okS_of_EvS {lw j : Nat} (hlw : ∀ i, i < j → Cs i < lw) (h : ∀ e ∈ es, EvS c lw w' e) : ∀ op ∈ MemOp.ofEvents 0 fn pos es, OkS (famOf c w' Cs) c.N0 j op := by
  intro op hop
  obtain ⟨e, he, rfl⟩ := Go.Conc.mem_ofEvents hop
  refine ⟨rfl, fun x hx hm => ?_⟩
  rcases (h e he).1 x hx hm with h1 | ⟨h1, h2, h3⟩
  · exact .inl h1
  · refine .inr ⟨h1, fun k _ => h2 k, fun hw => ⟨?_, fun k hk hr => ?_⟩⟩
    · obtain ⟨a, ha, _, _, hs⟩ := h3 hw
      exact ⟨a, ha, hs⟩
    obtain ⟨a, ha, hb, hs, hsf⟩ := h3 hw
    obtain ⟨a', ha', _, _, h4⟩ := hr
    rw [ha] at ha'
    injection ha' with ha'
    subst ha'
    rcases h4 with h4 | h4 | ⟨_, _, h4⟩
    · omega
    · have := hlw (k - c.N0) (by have := hk.1; have := hk.2; omega); omega
    · exact h4 hsf
/-- a worker on its way into Done: it touches the group's cells alone -/
theorem okP_of_lib (K : c.Ok) {k : Nat} (h : ∀ e ∈ es, ConcN.EvW c.Wg E0 E0 1 e) : ∀ op ∈ MemOp.ofEvents k fn pos es, OkP (famOf c w' Cs) k op := by
  intro op hop
  obtain ⟨e, he, rfl⟩ := Go.Conc.mem_ofEvents hop
  refine ⟨rfl, fun x hx hm => ?_⟩
  rcases ((h e he).1 fn pos).2 x hx with ⟨⟨a, h1, h2⟩, h3, h4⟩ | h1 | ⟨h1, _⟩
  · refine .inl ⟨by show c.sh x.loc; rw [h1]; exact K.shWg a h2, ?_⟩
    cases hk : x.kind with
    | atomic => rfl
    | plain => exact absurd hk h3
    | said => exact absurd hk h4
  · exact h1.elim
  · exact h1.elim
end

section
variable {P : Program} {c : Cfg} {Anch : Nat → Goroutine → World → Prop} {Fin : Goroutine → World → Prop} {Shun : Loc → Prop} {T0 : Nat}
  {gs : Array Goroutine} {w w' : World} {sl : Option (Nat × Nat)} {j lw : Nat} {D : Nat → WD} {X : Nat → WX c.U} {σ σ' : c.S} {q : Nat → Nat} {tag : CTag} {f0 d0 : Nat} {a : Goroutine} {t : Trace} {st sm st' sm' : Int}

/-- one who only leaves -/
theorem stepLeaver (K : c.Ok) (hAr : ∀ lw g w, Anch lw g w → g.status = .running) (ha : gs[0]? = some a) (hcs : CS P c Anch Fin tag j f0 d0 lw a w) (hcom : Com P c Shun T0 j lw gs w t D X σ q d0) (hwg : WgAt c.ty c.Wg w st sm) (hmode : ConcN.Mode j D tag st sm)
    {i : Nat} (hi0 : 0 < i) (hiN : i < c.N0) {g : Goroutine} (hg : gs[i]? = some g) (hrun : g.status = .running) :
    ∃ m₁ ops μ', runT P (crowd gs w sl) i = (.next m₁, ops) ∧ Lt3 μ' (Meas c j D X σ q tag f0) ∧ Inv P c Anch Fin Shun T0 μ' m₁ (t ++ ops) := by
  have hq := hcom.old i g hi0 hiN hg
  have hi0' : (i == 0) = false := by simp; omega
  cases hqi : q i with
  | zero => rw [hqi] at hq; rw [hq.1] at hrun; cases hrun
  | succ k =>
    rw [hqi] at hq
    rcases hq with ⟨hf, _⟩ | ⟨_, g', es, hm, hstp, hq'⟩
    · rw [hf] at hrun; cases hrun
    have hrunT := runT_crowd_go (P := P) (sl := sl) (i := i) hg (by rw [hi0']; exact hstp w)
    obtain ⟨tag', f', hcs', hf', htag, hwk⟩ := hcs.wokenBy hAr (R0.refl w) g g'
    have hbk : ∀ e ∈ es, Bk c.Wg e := fun e he => bk_of_mute (hm e he)
    have hsum : sumTo c.N0 (upd q i k) + (k + 1) = sumTo c.N0 q + k := by
      have := sumTo_upd q k id hiN
      simpa [hqi] using this
    have hmode' : ConcN.Mode j D tag' st sm := hmode.retag htag
    refine ⟨_, _, Meas c j D X σ (upd q i k) tag' f', hrunT, ?_, _, w, sl, j, D, X, σ, upd q i k, tag', f', d0, lw, woken P g g' w a, st, sm, rfl, by rw [get_map_set _ _ _ _ (by omega), ha]; rfl, hcs', ?_, hwg, hmode', rfl⟩
    · simp only [Meas]
      rw [ConcN.phi_retag c.n _ htag]
      exact Prod.Lex.right _ (Prod.Lex.right _ (by omega))
    · refine ⟨by simp [hcom.size], fun i' hi' => ?_, fun i' x h0 hN hx => ?_, hcom.pt.appMute (by omega) g_of_ofEvents (fun op hop => by obtain ⟨e, he, rfl⟩ := Go.Conc.mem_ofEvents hop; exact touch_mute (hm e he)), norel_app hcom.norel (norel_ofEvents (norel_of_Bk' hbk)),
        by rw [Deaf_other t (by omega) _ g_of_ofEvents, hcom.deaf0], fun i' hi' => by rw [Deaf_other t (by omega) _ g_of_ofEvents, hcom.deafW i' hi'], fun i' hi' hst => ?_, hcom.box, hcom.inj, hcom.fuel, hcom.rep, hcom.ju,
        hcom.h0, hcom.lwle, hcom.over.app hcom.pt.size _⟩
      · obtain ⟨x, hx, hsx⟩ := hcom.wk i' hi'
        exact ⟨x, by rw [get_map_set _ _ _ _ (by omega), hx, Option.map_some, hsx.woken], hsx⟩
      · by_cases e : i' = i
        · subst e
          have hlt : i' < gs.size := (Array.getElem?_eq_some_iff.1 hg).1
          rw [get_map_set_same _ _ _ hlt] at hx
          obtain rfl := Option.some.inj hx
          rw [upd_same, Deaf_own]
          exact hq'
        · rw [get_map_set _ _ _ _ (Ne.symm e)] at hx
          obtain ⟨y, hy, rfl⟩ := Option.map_eq_some_iff.1 hx
          have hqj := hcom.old i' y h0 hN hy
          rw [woken_quitsD hqj, upd_ne q k e, Deaf_other t (fun h => e h.symm) _ g_of_ofEvents]
          exact hqj
      · obtain ⟨r, hr⟩ := hcom.rel i' hi' hst
        exact ⟨r, hr.appOther g_of_ofEvents (by omega)⟩

theorem x_upd_self (X : Nat → WX c.U) (i : Nat) : upd (fun a => (X a).u) i (X i).u = fun a => (X a).u := by
  funext a
  by_cases e : a = i
  · subst e; rw [upd_same]
  · rw [upd_ne _ _ e]

set_option maxHeartbeats 1600000 in
theorem stepWorker (K : c.Ok) (hAr : ∀ lw g w, Anch lw g w → g.status = .running) (ha : gs[0]? = some a) (hcs : CS P c Anch Fin tag j f0 d0 lw a w) (hcom : Com P c Shun T0 j lw gs w t D X σ q d0) (hwg : WgAt c.ty c.Wg w st sm) (hmode : ConcN.Mode j D tag st sm)
    {i : Nat} (hi : i < j) {g : Goroutine} (hg : gs[c.N0 + i]? = some g) (hrun : g.status = .running) :
    ∃ m₁ ops μ', runT P (crowd gs w sl) (c.N0 + i) = (.next m₁, ops) ∧ Lt3 μ' (Meas c j D X σ q tag f0) ∧ Inv P c Anch Fin Shun T0 μ' m₁ (t ++ ops) := by
  have hl : Live c.ty c.Wg w := ⟨_, _, hwg⟩
  have hN0 := K.hN
  obtain ⟨g₁, hg₁, hs⟩ := hcom.wk i hi
  obtain rfl : g = g₁ := by rw [hg] at hg₁; exact Option.some.inj hg₁
  generalize hst : (D i).stage = s at hs
  generalize hfu : (D i).fuel = m at hs
  generalize hde : (D i).deaf = dd at hs
  generalize hwk : (X i).wk = kb at hs
  have hb := hcs.bound
  have hVj := Vc_le j D
  have hdk : Deaf t (c.N0 + i) = dd := by rw [hcom.deafW i hi, hde]
  have hus := x_upd_self X i
  have hCk : (fun i => (X i).C) (c.N0 + i - c.N0) = (X i).C := by simp
  have hbox := (hcom.box i hi).1
  -- a step of the library's bookkeeping
  have bookG : ∀ {g' : Goroutine} {w' : World} {es : Array Event} {s' m' dd' : Nat} {v : Value} {st' sm' : Int}, stepG P false g w = .go g' w' es → Aside c.Wg w w' → WgAt c.ty c.Wg w' st' sm' → (∀ e ∈ es, Bk c.Wg e) →
      (∀ jx e, es[jx]? = some e → (MemAct.ofEvent e).touch? = none ∨ 0 < deafBehind dd (es.extract 0 jx)) → c.fin (X i).u → kb = false → ConcN.WSit P c.ty c.Wg (X i).C 1 E0 E0 0 1 v s' m' dd' g' w' → deafBehind dd es = dd' → s ≤ 6 →
      (∀ tag', (tag' = tag ∨ (tag = .blk ∧ tag' = .w3)) → (mayWake P g = true → g'.status = .running → tag' ≠ .blk) → ConcN.Mode j (upd D i ⟨s', m', dd'⟩) tag' st' sm') → ((s' < s ∧ cnt ⟨s', m', dd'⟩ ≤ cnt (D i)) ∨ (s' = s ∧ m' + 1 = m)) →
      ∃ m₁ ops μ', runT P (crowd gs w sl) (c.N0 + i) = (.next m₁, ops) ∧ Lt3 μ' (Meas c j D X σ q tag f0) ∧ Inv P c Anch Fin Shun T0 μ' m₁ (t ++ ops) := by
    intro g' w' es s' m' dd' v st' sm' hgo hAs hwg' hbk hd hfin hkb hs' hdd h6 hmode' hlt
    have hT := Turn.wg K hAs hl ⟨_, _, hwg'⟩
    refine workerStep (x' := X i) (σ' := σ) K hAr ha hcs hcom hl hi hg hgo hT (fun _ h => h.elim) rfl (by rw [hwk, hkb]; exact .sit hfin hs') (okP_of_Bk K hbk) (norel_of_Bk' hbk) (by rw [hde]; exact hdd)
      (fun _ => let ⟨r, hr⟩ := hcom.rel i hi (by omega); ⟨r, ConcN.RelBy.book hr hdk _ _ hbk hd⟩) (K.rep_same σ w w' hcom.rep (fun b hs => hAs.block b (fun e => K.sbWg (e ▸ hs)))) (by rw [hus]; exact hcom.ju) (by rw [hus]; exact Nat.le_refl _) (fun e => by rw [hwk, hkb] at e; cases e) hwg' hmode' ?_
    rw [hst, hfu, hus]
    rcases hlt with h | ⟨h1, h2⟩
    · exact .inl h
    · exact .inr ⟨h1, .inr ⟨rfl, h2⟩⟩
  have book : ∀ {g' : Goroutine} {w' : World} {es : Array Event} {s' m' dd' : Nat} {v : Value} {st' sm' : Int}, stepG P false g w = .go g' w' es → Aside c.Wg w w' → WgAt c.ty c.Wg w' st' sm' → (∀ e ∈ es, Bk c.Wg e) →
      (∀ jx e, es[jx]? = some e → (MemAct.ofEvent e).touch? = none ∨ 0 < deafBehind dd (es.extract 0 jx)) → c.fin (X i).u → kb = false → ConcN.WSit P c.ty c.Wg (X i).C 1 E0 E0 0 1 v s' m' dd' g' w' → deafBehind dd es = dd' → s ≤ 6 →
      ConcN.Mode j (upd D i ⟨s', m', dd'⟩) tag st' sm' → ((s' < s ∧ cnt ⟨s', m', dd'⟩ ≤ cnt (D i)) ∨ (s' = s ∧ m' + 1 = m)) →
      ∃ m₁ ops μ', runT P (crowd gs w sl) (c.N0 + i) = (.next m₁, ops) ∧ Lt3 μ' (Meas c j D X σ q tag f0) ∧ Inv P c Anch Fin Shun T0 μ' m₁ (t ++ ops) :=
    fun hgo hAs hwg' hbk hd hfin hkb hs' hdd h6 hmode' hlt => bookG hgo hAs hwg' hbk hd hfin hkb hs' hdd h6 (fun _ ht _ => hmode'.retag ht) hlt
  have idle : ∀ {g' : Goroutine} {m' : Nat} {v : Value}, stepG P false g w = .go g' w #[] → c.fin (X i).u → kb = false → ConcN.WSit P c.ty c.Wg (X i).C 1 E0 E0 0 1 v s m' dd g' w → m' + 1 = m → s ≤ 6 → s ≠ 1 →
      ∃ m₁ ops μ', runT P (crowd gs w sl) (c.N0 + i) = (.next m₁, ops) ∧ Lt3 μ' (Meas c j D X σ q tag f0) ∧ Inv P c Anch Fin Shun T0 μ' m₁ (t ++ ops) := by
    intro g' m' v hgo hfin hkb hs' hm h6 h1
    exact book hgo (.refl c.Wg w) hwg (by simp) (by simp) hfin hkb hs' rfl h6 (by have := hmode.same (i := i) m' dd; rwa [hst] at this) (.inr ⟨rfl, hm⟩)
  -- on the way into Done
  have into : ∀ {mr : Nat} {v : Value}, c.fin (X i).u → s = 7 → dd = 0 → (kb = true ∨ mr = m) → Goes P false (ConcN.RW c.ty c.Wg (X i).C 1 0 0) (ConcN.DWs c.Wg E0 E0 (X i).C 1 1) (ConcN.AtR0 P c.ty c.Wg (X i).C 1 0 1 v) mr g w →
      ∃ m₁ ops μ', runT P (crowd gs w sl) (c.N0 + i) = (.next m₁, ops) ∧ Lt3 μ' (Meas c j D X σ q tag f0) ∧ Inv P c Anch Fin Shun T0 μ' m₁ (t ++ ops) := by
    intro mr v hfin h7 hd0 hkb h
    have hk1 : wkb false ≤ wkb (X i).wk := by simp [wkb]
    rcases Goes.cases h with hstop | ⟨m', rfl, hstep⟩
    · obtain ⟨_, hhas, g', hgo, m₂, hk⟩ := hstop w (ConcN.RW.refl w)
      refine workerStep (x' := ⟨(X i).C, (X i).u, (X i).N, false⟩) (σ' := σ) (s' := 6) (m' := m₂) (dd' := 0) (Xs := fun _ => False) K hAr ha hcs hcom hl hi hg hgo ⟨.refl w, Nat.le_refl _, fun _ _ _ _ _ => rfl, fun _ h => h.elim, fun _ h => h.elim, fun _ h => h, fun _ _ h => h, id, id⟩ (fun _ h => h.elim) rfl (WS.sit (v := v) hfin (.k1 hk)) (by
          intro op hop
          obtain ⟨e, he, rfl⟩ := Go.Conc.mem_ofEvents hop
          simp at he; subst he
          exact ⟨rfl, fun x hx => by simp [mk, MemAct.ofEvent, MemAct.touch?] at hx⟩) (by intro e he; simp at he; subst he; simp [mk]) (by rw [hde, hd0]; rfl)
        (fun _ => ⟨t.size, ConcN.RelBy.new (by rw [hdk, hd0]) _ _⟩) hcom.rep (by rw [hus]; exact hcom.ju) (by rw [hus]; exact Nat.le_refl _) (fun e => by cases e) hwg (fun _ ht _ => (hmode.counted hi (by omega) (.inl rfl) _ _).retag ht) (.inl ⟨by omega, by simp [cnt, hst, h7]⟩)
    · obtain ⟨g', w', es, hgo, ⟨hac, hev⟩, hg'⟩ := hstep w (ConcN.RW.refl w)
      have hT := Turn.cell K hac hbox (hcom.box i hi).2.2 ⟨σ, hcom.rep⟩ hl
      have hWC : c.Wg ≠ (X i).C := fun e => hl.hard (e ▸ hbox)
      refine workerStep (x' := ⟨(X i).C, (X i).u, (X i).N, false⟩) (σ' := σ) (s' := 7) (m' := m') (dd' := 0) K hAr ha hcs hcom hl hi hg hgo hT (fun _ h => h) rfl (WS.sit (v := v) hfin (.r0 hg')) (okP_of_lib K hev) (fun e he => (hev e he).2.2.2)
        (by rw [hde, hd0]; exact deafBehind_idle (fun e he => ⟨(hev e he).2.1, (hev e he).2.2.1⟩) 0) (fun h => by omega) (K.rep_same σ w w' hcom.rep (fun b hs => hac.block b (fun e => K.sb_hard σ w b hcom.rep hs (e ▸ hbox)))) (by rw [hus]; exact hcom.ju) (by rw [hus]; exact Nat.le_refl _) (fun e => by cases e)
        (hwg.of_block (hac.block c.Wg hWC)) (fun _ ht _ => ConcN.Mode.retag (by have := hmode.same (i := i) m' 0; rwa [hst, h7] at this) ht) (.inr ⟨by rw [hst, h7], ?_⟩)
      · rw [hus]
        rcases hkb with rfl | rfl
        · exact .inl (by simp [wkb, hwk])
        · cases hkk : kb with
          | true => exact .inl (by simp [wkb, hwk, hkk])
          | false => exact .inr ⟨by simp [wkb, hwk, hkk], by rw [hfu]⟩
  cases hs with
  | work h =>
    rcases Goes.cases h with hstop | ⟨m', rfl, hstep⟩
    · rcases hstop w (RW.refl w) with ⟨hf, _, mr, v, hR⟩ | ⟨hnf, _, hvis⟩
      · exact into hf rfl rfl (.inl rfl) hR
      · obtain ⟨g', w', es, u', σ', hgo, htr, hrep', hosb, hev, hk⟩ := hvis σ hcom.rep (K.pre σ _ j i hi hcom.ju hnf)
        obtain ⟨hju', hmu'⟩ := K.step σ _ j i u' σ' hi hcom.ju hnf htr
        have hN := hcom.fuel i hi hwk
        obtain ⟨N', hN'⟩ : ∃ N', (X i).N = N' + 1 := ⟨(X i).N - 1, by omega⟩
        rw [hN'] at hk
        obtain ⟨m₂, hk⟩ := hk
        refine workerStep (x' := ⟨(X i).C, u', N', true⟩) (σ' := σ') (s' := 7) (m' := m₂) (dd' := 0) K hAr ha hcs hcom hl hi hg hgo (Turn.sb K hcom.rep hosb hrep') (fun _ h => h.elim) rfl (.work hk) (okP_of_EvV hev) (fun e he => (hev e he).2.2.2)
          (by rw [hde]; exact deafBehind_idle (fun e he => ⟨(hev e he).2.1, (hev e he).2.2.1⟩) 0) (fun h => by omega) hrep' hju' (Nat.le_of_lt hmu') (fun _ => Nat.le_of_lt_succ (Nat.lt_of_lt_of_le hmu' (hN'.symm ▸ hN : _ ≤ N' + 1))) (hwg.of_block (hosb.old _ K.sbWg))
          (fun _ ht _ => ConcN.Mode.retag (by have := hmode.same (i := i) m₂ 0; rwa [hst] at this) ht) (.inr ⟨hst.symm, .inl (by rw [hwk]; simp only [wkb, if_true]; omega)⟩)
    · obtain ⟨g', w', es, hgo, hD, hg'⟩ := hstep w (RW.refl w)
      have hT := Turn.dw K hD
      refine workerStep (x' := X i) (σ' := σ) (s' := 7) (m' := m') (dd' := 0) K hAr ha hcs hcom hl hi hg hgo hT (fun _ h => h.elim) rfl (by rw [hwk]; exact .work hg') (okP_of_EvW hCk (by omega) hD.ev) (fun e he => (hD.ev e he).2.2.2)
        (by rw [hde]; exact deafBehind_idle (fun e he => ⟨(hD.ev e he).2.1, (hD.ev e he).2.2.1⟩) 0) (fun h => by omega) (K.rep_same σ w w' hcom.rep (fun b hb => hD.old b (K.sb_lt σ w b hcom.rep hb))) (by rw [hus]; exact hcom.ju) (by rw [hus]; exact Nat.le_refl _) (fun e => by rw [hus]; exact hcom.fuel i hi e)
        (hwg.of_block (hD.old _ hl.lt)) (fun _ ht _ => ConcN.Mode.retag (by have := hmode.same (i := i) m' 0; rwa [hst] at this) ht) (.inr ⟨hst.symm, .inr ⟨by rw [hus], by rw [hfu]⟩⟩)
  | sit hf hs =>
    cases hs with
    | r0 h => exact into hf rfl rfl (.inr rfl) h
    | k1 h =>
      rcases Goes.cases h with hstop | ⟨m', rfl, hstep⟩
      · obtain ⟨_, g', hgo, m₂, hk⟩ := hstop w (ConcN.RW.refl w)
        exact book (v := .tuple #[]) hgo (.refl c.Wg w) hwg (by intro e he; simp at he; subst he; exact .inl rfl) (by intro jx e he; exact .inl (by have := Array.mem_of_getElem? he; simp at this; subst this; rfl)) hf rfl (.d1 hk) rfl (by omega)
          (hmode.counted hi (by omega) (.inr rfl) _ _) (.inl ⟨by omega, by simp [cnt, hst]⟩)
      · obtain ⟨g', w', es, hgo, ⟨rfl, rfl⟩, hg'⟩ := hstep w (ConcN.RW.refl w)
        exact idle (v := .tuple #[]) hgo hf rfl (.k1 hg') rfl (by omega) (by omega)
    | d1 h =>
      rcases Goes.cases h with hstop | ⟨m', rfl, hstep⟩
      · obtain ⟨_, hall⟩ := hstop w (ConcN.RW.refl w)
        have hc1 : cnt (D i) = 1 := by simp [cnt, hst]
        have hV1 : 1 ≤ Vc j D := by have := le_sumTo (f := fun x => cnt (D x)) hi; simp only [Vc]; omega
        have hn := K.hn
        have bk2 : ∀ e ∈ #[rd (stA c.Wg), wr (stA c.Wg)], Bk c.Wg e := by intro e he; simp at he; rcases he with rfl | rfl <;> exact bk_cell _ _ rfl
        have df2 : ∀ jx e, (#[rd (stA c.Wg), wr (stA c.Wg)] : Array Event)[jx]? = some e → (MemAct.ofEvent e).touch? = none ∨ 0 < deafBehind 1 ((#[rd (stA c.Wg), wr (stA c.Wg)] : Array Event).extract 0 jx) := by
          intro jx e he
          match jx, he with
          | 0, _ => exact .inr (by simp [deafBehind])
          | 1, _ => exact .inr (by simp [deafBehind, rd])
          | jx + 2, he => simp at he
        have hq0 : ∀ q, cnt (⟨1, q, 1⟩ : WD) = 0 := fun _ => rfl
        have opq : ∀ q, OpenSt j D → OpenSt j (upd D i ⟨1, q, 1⟩) := fun q h a ha => by
          by_cases e : a = i
          · subst e; rw [upd_same]; simp
          · rw [upd_ne D _ e]; exact h a ha
        cases hmode with
        | opn h1 h2 h3 =>
          obtain ⟨v, hv⟩ : ∃ v, Vc j D + pend tag = v + 1 := ⟨Vc j D + pend tag - 1, by omega⟩
          rw [hv] at hwg
          have hw1 : WgAt c.ty c.Wg w (((v : Nat) + 1) * KK + ((0 : Nat) : Int)) 0 := by simpa using hwg
          obtain ⟨g', hgo, _, hq⟩ := hall v 0 (by omega) (by omega) hw1
          obtain ⟨q', hq⟩ := hq (by omega)
          have hv' : Vc j (upd D i ⟨1, q', 1⟩) + pend tag = v := by have := Vc_upd D (⟨1, q', 1⟩ : WD) hi; have := hq0 q'; omega
          refine book (v := .tuple #[]) hgo (aside_setCell w (stA c.Wg) _) (hwg.setSt _) bk2 df2 hf rfl (.quit hq) rfl (by omega) ?_ (.inl ⟨by omega, by simp [cnt]⟩)
          have e : ((v : Nat) : Int) * KK + ((0 : Nat) : Int) = ((Vc j (upd D i ⟨1, q', 1⟩) + pend tag : Nat) : Int) * KK := by rw [hv']; simp
          rw [e]
          exact .opn h1 (opq q' h2) (fun vs ev => by have := h3 vs ev; omega)
        | reg h1 h2 h3 =>
          obtain ⟨v, hv⟩ : ∃ v, Vc j D = v + 1 := ⟨Vc j D - 1, by omega⟩
          rw [hv] at hwg
          have hp : pend tag = 0 := by cases tag <;> first | rfl | exact h1.elim
          have hw1 : WgAt c.ty c.Wg w (((v : Nat) + 1) * KK + ((1 : Nat) : Int)) 0 := by simpa using hwg
          obtain ⟨g', hgo, hlst, hq⟩ := hall v 1 (by omega) (by omega) hw1
          by_cases hv0 : v = 0
          · subst hv0
            obtain ⟨m₂, hk⟩ := hlst ⟨rfl, rfl⟩
            refine book (v := .tuple #[]) hgo (aside_setCell w (stA c.Wg) _) (hwg.setSt _) bk2 df2 hf rfl (.d2 hk) rfl (by omega) ?_ (.inl ⟨by omega, by simp [cnt]⟩)
            have hoth : ∀ a, a < j → a ≠ i → (D a).stage = 1 := fun a ha e => by
              have c0 := others_uncounted hi hv hc1 a ha e
              have := h2 a ha
              simp only [cnt] at c0
              split at c0 <;> omega
            have := ConcN.Mode.last (j := j) (D := upd D i ⟨4, m₂, 1⟩) (tag := tag) i h1 hi (by rw [upd_same]; simp) (fun a ha e => by rw [upd_ne D _ e]; exact hoth a ha e)
            rw [upd_same] at this
            simpa using this
          · obtain ⟨q', hq⟩ := hq (by omega)
            have hv' : Vc j (upd D i ⟨1, q', 1⟩) = v := by have := Vc_upd D (⟨1, q', 1⟩ : WD) hi; have := hq0 q'; omega
            refine book (v := .tuple #[]) hgo (aside_setCell w (stA c.Wg) _) (hwg.setSt _) bk2 df2 hf rfl (.quit hq) rfl (by omega) ?_ (.inl ⟨by omega, by simp [cnt]⟩)
            have e : ((v : Nat) : Int) * KK + ((1 : Nat) : Int) = ((Vc j (upd D i ⟨1, q', 1⟩) : Nat) : Int) * KK + 1 := by rw [hv']; simp
            rw [e]
            exact .reg h1 (opq q' h2) (by omega)
        | last L _ h2 h3 h4 =>
          by_cases e : i = L
          · subst e; omega
          · have := h4 i hi e; omega
        | sema h2 => have := h2 i hi; omega
        | fin _ h2 => have := h2 i hi; omega
      · obtain ⟨g', w', es, hgo, ⟨rfl, rfl⟩, hg'⟩ := hstep w (ConcN.RW.refl w)
        exact idle (v := .tuple #[]) hgo hf rfl (.d1 hg') rfl (by omega) (by omega)
    | d2 h =>
      rcases Goes.cases h with hstop | ⟨m', rfl, hstep⟩
      · obtain ⟨_, hx⟩ := hstop w (ConcN.RW.refl w)
        obtain ⟨hW3, hoth, rfl, rfl⟩ := hmode.isLast hi (by omega)
        simp only [hst] at hwg
        obtain ⟨g', hgo, m₂, hk⟩ := hx (by simpa using hwg)
        refine book (v := .tuple #[]) hgo (.refl c.Wg w) hwg (by intro e he; simp at he; subst he; exact bk_cell _ _ rfl) (by intro jx e he; match jx, he with | 0, _ => exact .inr (by simp [deafBehind]) | jx + 1, he => simp at he) hf rfl (.d3 hk) rfl (by omega) ?_ (.inl ⟨by omega, by simp [cnt]⟩)
        have := ConcN.Mode.last (j := j) (D := upd D i ⟨3, m₂, 1⟩) (tag := tag) i hW3 hi (by rw [upd_same]; simp) (fun a ha e => by rw [upd_ne D _ e]; exact hoth a ha e)
        rw [upd_same] at this
        simpa using this
      · obtain ⟨g', w', es, hgo, ⟨rfl, rfl⟩, hg'⟩ := hstep w (ConcN.RW.refl w)
        exact idle (v := .tuple #[]) hgo hf rfl (.d2 hg') rfl (by omega) (by omega)
    | d3 h =>
      rcases Goes.cases h with hstop | ⟨m', rfl, hstep⟩
      · obtain ⟨_, hx⟩ := hstop w (ConcN.RW.refl w)
        obtain ⟨hW3, hoth, rfl, rfl⟩ := hmode.isLast hi (by omega)
        simp only [hst] at hwg
        obtain ⟨g', hgo, m₂, hk⟩ := hx (by simpa using hwg)
        refine book (v := .tuple #[]) hgo (aside_setCell w (stA c.Wg) _) (hwg.setSt 0) (by intro e he; simp at he; subst he; exact bk_cell _ _ rfl) (by intro jx e he; match jx, he with | 0, _ => exact .inr (by simp [deafBehind]) | jx + 1, he => simp at he) hf rfl (.d4 hk) rfl (by omega) ?_ (.inl ⟨by omega, by simp [cnt]⟩)
        have := ConcN.Mode.last (j := j) (D := upd D i ⟨2, m₂, 1⟩) (tag := tag) i hW3 hi (by rw [upd_same]; simp) (fun a ha e => by rw [upd_ne D _ e]; exact hoth a ha e)
        rw [upd_same] at this
        simpa using this
      · obtain ⟨g', w', es, hgo, ⟨rfl, rfl⟩, hg'⟩ := hstep w (ConcN.RW.refl w)
        exact idle (v := .tuple #[]) hgo hf rfl (.d3 hg') rfl (by omega) (by omega)
    | d4 h =>
      rcases Goes.cases h with hstop | ⟨m', rfl, hstep⟩
      · obtain ⟨_, hmw, hx⟩ := hstop w (ConcN.RW.refl w)
        obtain ⟨hW3, hoth, rfl, rfl⟩ := hmode.isLast hi (by omega)
        simp only [hst] at hwg
        obtain ⟨g', hgo, q', hq⟩ := hx (by simpa using hwg)
        have hrun' : g'.status = .running := by
          cases q' with
          | zero => exact absurd hq.2 (by decide)
          | succ q' => exact hq.elim (fun x => absurd x.2 (by decide)) (fun x => x.1)
        refine bookG (v := .tuple #[]) hgo (aside_setCell w (smA c.Wg) _) (hwg.setSm 1) (es := semEvents (smA c.Wg)) ?_ ?_ hf rfl (.quit hq) (by simp [deafBehind, semEvents]) (by omega) ?_ (.inl ⟨by omega, by simp [cnt]⟩)
        · intro e he
          simp [semEvents] at he
          rcases he with rfl | rfl | rfl | rfl
          · exact .inl rfl
          · exact bk_cell _ _ rfl
          · exact bk_cell _ _ rfl
          · exact .inr (.inl rfl)
        · intro jx e he
          match jx, he with
          | 0, he => simp [semEvents] at he; subst he; exact .inl rfl
          | 1, _ => exact .inr (by simp [deafBehind, semEvents])
          | 2, _ => exact .inr (by simp [deafBehind, semEvents])
          | 3, he => simp [semEvents] at he; subst he; exact .inl rfl
          | jx + 4, he => simp [semEvents] at he
        · intro tag' ht hw
          have hnb := hw hmw hrun'
          have e3 : tag' = .w3 := by
            rcases ht with rfl | ⟨_, rfl⟩
            · cases tag' <;> first | rfl | exact hW3.elim | exact absurd rfl hnb
            · rfl
          subst e3
          simp only [if_true]
          exact .sema fun a ha => by
            by_cases e : a = i
            · subst e; rw [upd_same]
            · rw [upd_ne D _ e]; exact hoth a ha e
      · obtain ⟨g', w', es, hgo, ⟨rfl, rfl⟩, hg'⟩ := hstep w (ConcN.RW.refl w)
        exact idle (v := .tuple #[]) hgo hf rfl (.d4 hg') rfl (by omega) (by omega)
    | quit h =>
      cases m with
      | zero => rw [h.1] at hrun; cases hrun
      | succ q' =>
        rcases h with ⟨hf', _⟩ | ⟨_, g', es, hmute, hstep, hq⟩
        · rw [hf'] at hrun; cases hrun
        · have hbk : ∀ e ∈ es, Bk c.Wg e := fun e he => bk_of_mute (hmute e he)
          have hno : ∀ jx e, es[jx]? = some e → (MemAct.ofEvent e).touch? = none ∨ 0 < deafBehind dd (es.extract 0 jx) := fun jx e he => .inl (touch_mute (hmute e (Array.mem_of_getElem? he)))
          exact book (v := .tuple #[]) (hstep w) (.refl c.Wg w) hwg hbk hno hf rfl (.quit hq) rfl (by omega) (by have := hmode.same (i := i) q' (deafBehind dd es); rwa [hst] at this) (.inr ⟨rfl, rfl⟩)
end
end Go.Proofs.Ytinghnaigpenkaa
