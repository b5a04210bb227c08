import Derived.Test.YtinghnaigpenkaaZPhD
section
/- A phase: a leaver's step; a worker's step in each of its situations. -/
namespace Go.Proofs.Ytinghnaigpenkaa
open Go.Conc
open Go.ConcN (CTag phi isOpen isW3 isFin pend WD Vc Ssum Fsum cnt OpenSt AllQuit RelBy sumTo upd sumTo_upd upd_same upd_ne sumTo_congr sumTo_upd_out le_sumTo get_map_set get_map_set_same Deaf_still Deaf_absent phi_mono Vc_upd Vc_le others_uncounted bk_cell deafBehind_idle)
open Go.ConcR (KK wgBlock WgAt stA smA rd wr mk Payload DC0 Bk g_of_ofEvents again_blocked bk_of_mute ofEvent_mk loc_of_ofEvent ofEvent_loc_mark ofEvent_cell)
set_option linter.unusedVariables false
set_option linter.unusedSimpArgs false
set_option linter.unusedSectionVars false
variable [Payload]

section
variable {c : Cfg} {es : Array Event} {w' : World} {Cs : Nat → Nat} {us : Nat → c.U} {σ : c.S} {j : Nat} {fn : FuncId} {pos : String} {O R : Nat → Loc → Prop} {pb : Loc → Prop}
theorem okX_sh (K : c.Ok) (hH : c.H0 ≤ w'.heap.size) {x : Touch} (h : c.sh x.loc) (hf : x.loc = .cell c.pfa → x.write = true → ∀ l, ¬ pb l) : OkX (famG c w' Cs O R pb σ j) x :=
  ⟨⟨fun ad e => Nat.lt_of_lt_of_le (K.sh_lt ad (e ▸ h)) hH, fun hv => K.sp_sh _ (K.vir_sp _ _ _ hv) h⟩, hf⟩
theorem okX_wg (K : c.Ok) (hH : c.H0 ≤ w'.heap.size) {a : Addr} (ha : a.block = c.Wg) {x : Touch} (e : x.loc = .cell a) : OkX (famG c w' Cs O R pb σ j) x := okX_sh K hH (e ▸ K.shWg a ha) (fun e2 _ => by
  rw [e] at e2
  injection e2 with e2
  exact absurd ha (by rw [e2]; exact K.pfaWg))
theorem okP_of_Bk (K : c.Ok) (hH : c.H0 ≤ w'.heap.size) {k : Nat} (h : ∀ e ∈ es, Bk c.Wg e) : ∀ op ∈ MemOp.ofEvents k fn pos es, OkP (famG c w' Cs O R pb σ j) k op := by
  intro op hop
  obtain ⟨e, he, rfl⟩ := Go.Conc.mem_ofEvents hop
  refine ⟨rfl, fun x hx _ => ?_⟩
  rcases h e he with h1 | h1 | ⟨a, wr, rfl, ha⟩
  · simp only [ofEvent_loc_mark h1] at hx; cases hx
  · simp only [ofEvent_loc_mark h1] at hx; cases hx
  · simp only [ofEvent_cell, MemAct.touch?, Option.some.injEq] at hx
    subst hx
    exact ⟨okX_wg K hH ha rfl, .inl ⟨K.shWg a ha, rfl⟩⟩
theorem okS_of_Bk (K : c.Ok) (hH : c.H0 ≤ w'.heap.size) (h : ∀ e ∈ es, Bk c.Wg e) : ∀ op ∈ MemOp.ofEvents 0 fn pos es, OkS (famG c w' Cs O R pb σ j) c.N0 j op := by
  intro op hop
  obtain ⟨e, he, rfl⟩ := Go.Conc.mem_ofEvents hop
  refine ⟨rfl, fun x hx _ => ?_⟩
  rcases h e he with h1 | h1 | ⟨a, wr, rfl, ha⟩
  · simp only [ofEvent_loc_mark h1] at hx; cases hx
  · simp only [ofEvent_loc_mark h1] at hx; cases hx
  · simp only [ofEvent_cell, MemAct.touch?, Option.some.injEq] at hx
    subst hx
    exact ⟨okX_wg K hH ha rfl, .inl ⟨K.shWg a ha, by simp⟩⟩
theorem norel_of_Bk' (h : ∀ e ∈ es, Bk c.Wg e) : ∀ e ∈ es, e.loc ≠ .mark (.release (stA c.Wg)) := ConcN.norel_of_Bk h
/-- a worker's idle step -/
theorem okP_of_EvW (K : c.Ok) (hH : c.H0 ≤ w'.heap.size) {i C : Nat} (hi : i < j) (hk : Cs i = C) (hC : C < w'.heap.size) (h : ∀ e ∈ es, EvW c C w' e) : ∀ op ∈ MemOp.ofEvents (c.N0 + i) fn pos es, OkP (famG c w' Cs O R pb σ j) (c.N0 + i) op := by
  intro op hop
  obtain ⟨e, he, rfl⟩ := Go.Conc.mem_ofEvents hop
  refine ⟨rfl, fun x hx hm => ?_⟩
  obtain ⟨a, h1, h2, h3, h4, h5, h6⟩ := (h e he).1 x hx hm
  refine ⟨⟨⟨fun ad e => ?_, fun hv => h5 (K.vir_sp _ _ _ hv)⟩, fun _ hw => by rw [h2] at hw; cases hw⟩, .inr (.inr ⟨h3, .inl ⟨a, h1, h4, h5, ?_⟩, h2⟩)⟩
  · rw [h1] at e
    injection e with e
    subst e
    show a.block < w'.heap.size
    rcases h6 with h6 | h6 | h6
    · omega
    · omega
    · exact h6.2.1
  · rcases h6 with h6 | h6 | h6
    · exact .inr (.inl ⟨i, hi, rfl, by rw [hk]; exact h6⟩)
    · exact .inl h6
    · exact .inr (.inr h6)
theorem okP_of_EvV (K : c.Ok) (hH : c.H0 ≤ w'.heap.size) {i : Nat} {u : c.U} (hO : ∀ l, c.own u (c.N0 + i) l → O (c.N0 + i) l ∧ ¬ c.vir σ j l ∧ (c.sp l ∨ ∃ a : Addr, l = .cell a ∧ c.H0 ≤ a.block ∧ Flg c w' a.block) ∧ (l = .cell c.pfa → ∀ l, ¬ pb l))
    (hR : ∀ l, c.prd u l → R (c.N0 + i) l ∧ ¬ c.vir σ j l ∧ c.sp l) (hm : c.mayp u → ∀ l, ¬ pb l) (h : ∀ e ∈ es, EvV c (c.N0 + i) u e) :
    ∀ op ∈ MemOp.ofEvents (c.N0 + i) fn pos es, OkP (famG c w' Cs O R pb σ j) (c.N0 + i) op := by
  intro op hop
  obtain ⟨e, he, rfl⟩ := Go.Conc.mem_ofEvents hop
  refine ⟨rfl, fun x hx hmm => ?_⟩
  have spx : ∀ ad : Addr, x.loc = .cell ad → c.sp x.loc → ad.block < w'.heap.size := fun ad e h5 => by
    obtain ⟨a', h5, h6⟩ := K.sp_lt _ h5
    rw [e] at h5
    injection h5 with h5
    subst h5
    omega
  rcases (h e he).1 x hx hmm with h1 | ⟨h1, h2⟩ | ⟨h1, h2, h3⟩
  · exact ⟨okX_sh K hH h1.1 (fun e hw => hm (h1.2.2 e hw)), .inl ⟨h1.1, h1.2.1⟩⟩
  · obtain ⟨h3, h4, h5, h8⟩ := hO _ h2
    refine ⟨⟨⟨fun ad e => ?_, h4⟩, fun e _ => h8 e⟩, .inr (.inl ⟨h1, h3⟩)⟩
    show ad.block < w'.heap.size
    rcases h5 with h5 | ⟨a', h5, h6, h7⟩
    · exact spx ad e h5
    · rw [e] at h5
      injection h5 with h5
      subst h5
      exact h7.lt
  · obtain ⟨h4, h5, h6⟩ := hR _ h3
    exact ⟨⟨⟨fun ad e => spx ad e h6, h5⟩, fun _ hw => by rw [h2] at hw; cases hw⟩, .inr (.inr ⟨h1, .inr h4, h2⟩)⟩
theorem okS_of_EvS (K : c.Ok) (hH : c.H0 ≤ w'.heap.size) (hju : c.JU σ us j) (hrep : c.Rep σ w') {lw : Nat} (hlw : ∀ i, i < j → Cs i < lw) (h : ∀ e ∈ es, EvS c lw w' e) : ∀ op ∈ MemOp.ofEvents 0 fn pos es, OkS (famOf c w' Cs us σ j) c.N0 j op := by
  intro op hop
  obtain ⟨e, he, rfl⟩ := Go.Conc.mem_ofEvents hop
  refine ⟨rfl, fun x hx hm => ?_⟩
  rcases (h e he).1 x hx hm with h1 | ⟨h1, h2, a, h3, h4⟩
  · exact ⟨okX_sh K hH h1.1 (fun e hw => by rw [h1.2.2 e] at hw; cases hw), .inl ⟨h1.1, h1.2.1⟩⟩
  · refine ⟨⟨⟨fun ad e => ?_, fun hv => h2 (K.vir_sp _ _ _ hv)⟩, fun e _ => ?_⟩, .inr ⟨h1, fun hp => h2 (K.pub_sp _ _ hp), fun k hk ho => ?_, fun hw k hk hr => ?_⟩⟩
    · rw [h3] at e
      injection e with e
      subst e
      show a.block < w'.heap.size
      rcases h4 with ⟨_, _, h4⟩ | ⟨_, h4⟩
      · exact h4.lt
      · omega
    · rcases K.pfaSh with h5 | h5
      · exact absurd (show c.sh x.loc by rw [e]; exact h5) h1
      · exact h5 σ
    · obtain ⟨i, hi, rfl, ho⟩ := ho
      rcases K.own_in σ us j i w' _ hju hrep hi ho with h5 | ⟨a', h5, h6, h7⟩
      · exact h2 h5
      · rw [h3] at h5
        injection h5 with h5
        subst h5
        rcases h4 with ⟨_, _, h4⟩ | ⟨_, h4⟩
        · exact h7.hard K h4
        · omega
    · rcases hr with hr | ⟨i, hi, _, hr⟩
      · rcases h4 with ⟨hb, hs, hsf⟩ | ⟨h4, _⟩
        · obtain ⟨a', ha', _, _, h4⟩ := hr
          rw [h3] at ha'
          injection ha' with ha'
          subst ha'
          rcases h4 with h4 | ⟨i, hi, _, h4⟩ | ⟨_, _, h4, _⟩
          · omega
          · have := hlw i hi; omega
          · exact h4 hsf
        · rw [h4] at hw; cases hw
      · exact h2 (K.pub_sp _ _ (K.prd_pub σ us j i _ hju hi hr))
/-- a worker on its way into Done: it touches the group's cells alone -/
theorem okP_of_lib (K : c.Ok) (hH : c.H0 ≤ w'.heap.size) {k : Nat} (h : ∀ e ∈ es, ConcN.EvW c.Wg E0 E0 1 e) : ∀ op ∈ MemOp.ofEvents k fn pos es, OkP (famG c w' Cs O R pb σ j) k op := by
  intro op hop
  obtain ⟨e, he, rfl⟩ := Go.Conc.mem_ofEvents hop
  refine ⟨rfl, fun x hx hm => ?_⟩
  rcases ((h e he).1 fn pos).2 x hx with ⟨⟨a, h1, h2⟩, h3, h4⟩ | h1 | ⟨h1, _⟩
  · refine ⟨okX_wg K hH h2 h1, .inl ⟨by show c.sh x.loc; rw [h1]; exact K.shWg a h2, ?_⟩⟩
    cases hk : x.kind with
    | atomic => rfl
    | plain => exact absurd hk h3
    | said => exact absurd hk h4
  · exact h1.elim
  · exact h1.elim
end

section
variable {P : Program} {c : Cfg} {Anch : Nat → Goroutine → World → Prop} {Fin : Goroutine → World → Prop} {Shun : Loc → Prop} {T0 : Nat}
  {gs : Array Goroutine} {w w' : World} {sl : Option (Nat × Nat)} {j lw : Nat} {D : Nat → WD} {X : Nat → WX c.U} {σ σ' : c.S} {q : Nat → Nat} {tag : CTag} {f0 d0 : Nat} {a : Goroutine} {t : Trace} {st sm st' sm' : Int}

/-- one who only leaves -/
theorem stepLeaver (K : c.Ok) (hAr : ∀ lw g w, Anch lw g w → g.status = .running) (ha : gs[0]? = some a) (hcs : CS P c Anch Fin tag j f0 d0 lw a w) (hcom : Com P c Shun T0 j lw gs w t D X σ q d0) (hwg : WgAt c.ty c.Wg w st sm) (hmode : ConcN.Mode j D tag st sm)
    {i : Nat} (hi0 : 0 < i) (hiN : i < c.N0) {g : Goroutine} (hg : gs[i]? = some g) (hrun : g.status = .running) :
    ∃ m₁ ops μ', runT P (crowd gs w sl) i = (.next m₁, ops) ∧ Lt3 μ' (Meas c j D X σ q tag f0) ∧ Inv P c Anch Fin Shun T0 μ' m₁ (t ++ ops) := by
  have hq := hcom.old i g hi0 hiN hg
  have hi0' : (i == 0) = false := by simp; omega
  cases hqi : q i with
  | zero => rw [hqi] at hq; rw [hq.1] at hrun; cases hrun
  | succ k =>
    rw [hqi] at hq
    rcases hq with ⟨hf, _⟩ | ⟨_, g', es, hm, hstp, hq'⟩
    · rw [hf] at hrun; cases hrun
    have hrunT := runT_crowd_go (P := P) (sl := sl) (i := i) hg (by rw [hi0']; exact hstp w)
    obtain ⟨tag', f', hcs', hf', htag, hwk, _⟩ := hcs.wokenBy hAr (R0.refl w) g g'
    have hjn := hcs.bound
    have hbk : ∀ e ∈ es, Bk c.Wg e := fun e he => bk_of_mute (hm e he)
    have hsum : sumTo c.N0 (upd q i k) + (k + 1) = sumTo c.N0 q + k := by
      have := sumTo_upd q k id hiN
      simpa [hqi] using this
    have hmode' : ConcN.Mode j D tag' st sm := hmode.retag htag
    refine ⟨_, _, Meas c j D (wakeX (wakes P g g') X) σ (upd q i k) tag' f', hrunT, ?_, _, w, sl, j, D, wakeX (wakes P g g') X, σ, upd q i k, tag', f', d0, lw, woken P g g' w a, st, sm, rfl, by rw [get_map_set _ _ _ _ (by omega), ha]; rfl, hcs', ?_, hwg, hmode', rfl⟩
    · simp only [Meas]
      rw [ConcN.phi_retag c.n _ htag]
      exact Prod.Lex.right _ (Prod.Lex.right _ (m3_w hf' (Nat.le_trans (Nb_le _ _) (by omega)) (by omega)))
    · refine ⟨by simp [hcom.size], fun i' hi' => ?_, fun i' x h0 hN hx => ?_, hcom.pt.appMute (by omega) g_of_ofEvents (fun op hop => by obtain ⟨e, he, rfl⟩ := Go.Conc.mem_ofEvents hop; exact touch_mute (hm e he)), norel_app hcom.norel (norel_ofEvents (norel_of_Bk' hbk)),
        by rw [Deaf_other t (by omega) _ g_of_ofEvents, hcom.deaf0], fun i' hi' => by rw [Deaf_other t (by omega) _ g_of_ofEvents, hcom.deafW i' hi'], fun i' hi' hst => ?_, hcom.box, hcom.inj, hcom.fuel, fun i hi hb => hcom.blks i hi (by simp only [wakeX] at hb; simp at hb; exact hb.1), hcom.rep, hcom.ju,
        hcom.h0, hcom.lwle, hcom.over.app hcom.pt.size _⟩
      · obtain ⟨x, hx, hsx⟩ := hcom.wk i' hi'
        exact ⟨woken P g g' w x, by rw [get_map_set _ _ _ _ (by omega), hx, Option.map_some], hsx.wokenBy g g' w⟩
      · by_cases e : i' = i
        · subst e
          have hlt : i' < gs.size := (Array.getElem?_eq_some_iff.1 hg).1
          rw [get_map_set_same _ _ _ hlt] at hx
          obtain rfl := Option.some.inj hx
          rw [upd_same, Deaf_own]
          exact hq'
        · rw [get_map_set _ _ _ _ (Ne.symm e)] at hx
          obtain ⟨y, hy, rfl⟩ := Option.map_eq_some_iff.1 hx
          have hqj := hcom.old i' y h0 hN hy
          rw [woken_quitsD hqj, upd_ne q k e, Deaf_other t (fun h => e h.symm) _ g_of_ofEvents]
          exact hqj
      · obtain ⟨r, hr⟩ := hcom.rel i' hi' hst
        exact ⟨r, hr.appOther g_of_ofEvents (by omega)⟩

theorem x_upd_self (X : Nat → WX c.U) (i : Nat) : upd (fun a => (X a).u) i (X i).u = fun a => (X a).u := by
  funext a
  by_cases e : a = i
  · subst e; rw [upd_same]
  · rw [upd_ne _ _ e]

set_option maxHeartbeats 1600000 in
theorem stepWorker (K : c.Ok) (hAr : ∀ lw g w, Anch lw g w → g.status = .running) (ha : gs[0]? = some a) (hcs : CS P c Anch Fin tag j f0 d0 lw a w) (hcom : Com P c Shun T0 j lw gs w t D X σ q d0) (hwg : WgAt c.ty c.Wg w st sm) (hmode : ConcN.Mode j D tag st sm)
    {i : Nat} (hi : i < j) {g : Goroutine} (hg : gs[c.N0 + i]? = some g) (hrun : g.status = .running) :
    ∃ m₁ ops μ', runT P (crowd gs w sl) (c.N0 + i) = (.next m₁, ops) ∧ Lt3 μ' (Meas c j D X σ q tag f0) ∧ Inv P c Anch Fin Shun T0 μ' m₁ (t ++ ops) := by
  have hl : Live c.ty c.Wg w := ⟨_, _, hwg⟩
  have hN0 := K.hN
  obtain ⟨g₁, hg₁, hs⟩ := hcom.wk i hi
  obtain rfl : g = g₁ := by rw [hg] at hg₁; exact Option.some.inj hg₁
  generalize hst : (D i).stage = s at hs
  generalize hfu : (D i).fuel = m at hs
  generalize hde : (D i).deaf = dd at hs
  generalize hwk : (X i).wk = kb at hs
  generalize hbl : (X i).bl = lb at hs
  have hb := hcs.bound
  have hVj := Vc_le j D
  have hdk : Deaf t (c.N0 + i) = dd := by rw [hcom.deafW i hi, hde]
  have hus := x_upd_self X i
  have hbox := (hcom.box i hi).1
  -- a step of the library's bookkeeping
  have bookG : ∀ {g' : Goroutine} {w' : World} {es : Array Event} {s' m' dd' : Nat} {v : Value} {st' sm' : Int}, stepG P false g w = .go g' w' es → Aside c.Wg w w' → WgAt c.ty c.Wg w' st' sm' → (∀ e ∈ es, Bk c.Wg e) →
      (∀ jx e, es[jx]? = some e → (MemAct.ofEvent e).touch? = none ∨ 0 < deafBehind dd (es.extract 0 jx)) → c.fin (X i).u → kb = false → lb = false → ConcN.WSit P c.ty c.Wg (X i).C 1 E0 E0 0 1 v s' m' dd' g' w' → deafBehind dd es = dd' → s ≤ 6 →
      (∀ tag', (tag' = tag ∨ (tag = .blk ∧ tag' = .w3)) → (mayWake P g = true → g'.status = .running → tag' ≠ .blk) → ConcN.Mode j (upd D i ⟨s', m', dd'⟩) tag' st' sm') → ((s' < s ∧ cnt ⟨s', m', dd'⟩ ≤ cnt (D i)) ∨ (s' = s ∧ m' + 1 = m)) →
      ∃ m₁ ops μ', runT P (crowd gs w sl) (c.N0 + i) = (.next m₁, ops) ∧ Lt3 μ' (Meas c j D X σ q tag f0) ∧ Inv P c Anch Fin Shun T0 μ' m₁ (t ++ ops) := by
    intro g' w' es s' m' dd' v st' sm' hgo hAs hwg' hbk hd hfin hkb hlb hs' hdd h6 hmode' hlt
    have hT := Turn.wg K hAs hl ⟨_, _, hwg'⟩
    refine workerStep (x' := X i) (σ' := σ) K hAr ha hcs hcom hl hi hg hgo hT (fun _ h => h.elim) rfl (by rw [hwk, hkb, hbl, hlb]; exact .sit hfin hs') (okP_of_Bk K (Nat.le_trans hcom.h0 hT.size) hbk) (norel_of_Bk' hbk) (by rw [hde]; exact hdd)
      (fun _ => let ⟨r, hr⟩ := hcom.rel i hi (by omega); ⟨r, ConcN.RelBy.book hr hdk _ _ hbk hd⟩) (aside_rep K hAs hl hcom.rep) (by rw [hus]; exact hcom.ju) (by rw [hus]; exact Nat.le_refl _) (fun e => by rw [hwk, hkb] at e; cases e) (fun _ h => h) (fun _ h => .inl h) ⟨fun _ h => h, fun _ h => .inl h, fun _ h => .inl h⟩ (fun _ h => .inl h) (.inl fun _ h => h) (fun e => by rw [hbl, hlb] at e; cases e) hwg' hmode' ?_
    rw [hst, hfu, hus]
    rcases hlt with h | ⟨h1, h2⟩
    · exact .inl h
    · exact .inr ⟨h1, .inr ⟨rfl, .inl h2⟩⟩
  have book : ∀ {g' : Goroutine} {w' : World} {es : Array Event} {s' m' dd' : Nat} {v : Value} {st' sm' : Int}, stepG P false g w = .go g' w' es → Aside c.Wg w w' → WgAt c.ty c.Wg w' st' sm' → (∀ e ∈ es, Bk c.Wg e) →
      (∀ jx e, es[jx]? = some e → (MemAct.ofEvent e).touch? = none ∨ 0 < deafBehind dd (es.extract 0 jx)) → c.fin (X i).u → kb = false → lb = false → ConcN.WSit P c.ty c.Wg (X i).C 1 E0 E0 0 1 v s' m' dd' g' w' → deafBehind dd es = dd' → s ≤ 6 →
      ConcN.Mode j (upd D i ⟨s', m', dd'⟩) tag st' sm' → ((s' < s ∧ cnt ⟨s', m', dd'⟩ ≤ cnt (D i)) ∨ (s' = s ∧ m' + 1 = m)) →
      ∃ m₁ ops μ', runT P (crowd gs w sl) (c.N0 + i) = (.next m₁, ops) ∧ Lt3 μ' (Meas c j D X σ q tag f0) ∧ Inv P c Anch Fin Shun T0 μ' m₁ (t ++ ops) :=
    fun hgo hAs hwg' hbk hd hfin hkb hlb hs' hdd h6 hmode' hlt => bookG hgo hAs hwg' hbk hd hfin hkb hlb hs' hdd h6 (fun _ ht _ => hmode'.retag ht) hlt
  have idle : ∀ {g' : Goroutine} {m' : Nat} {v : Value}, stepG P false g w = .go g' w #[] → c.fin (X i).u → kb = false → lb = false → ConcN.WSit P c.ty c.Wg (X i).C 1 E0 E0 0 1 v s m' dd g' w → m' + 1 = m → s ≤ 6 → s ≠ 1 →
      ∃ m₁ ops μ', runT P (crowd gs w sl) (c.N0 + i) = (.next m₁, ops) ∧ Lt3 μ' (Meas c j D X σ q tag f0) ∧ Inv P c Anch Fin Shun T0 μ' m₁ (t ++ ops) := by
    intro g' m' v hgo hfin hkb hlb hs' hm h6 h1
    exact book hgo (.refl c.Wg w) hwg (by simp) (by simp) hfin hkb hlb hs' rfl h6 (by have := hmode.same (i := i) m' dd; rwa [hst] at this) (.inr ⟨rfl, hm⟩)
  -- on the way into Done
  have into : ∀ {mr : Nat} {v : Value}, c.fin (X i).u → s = 7 → dd = 0 → (kb = true ∨ mr = m) → lb = false → Goes P false (ConcN.RW c.ty c.Wg (X i).C 1 0 0) (ConcN.DWs c.Wg E0 E0 (X i).C 1 1) (ConcN.AtR0 P c.ty c.Wg (X i).C 1 0 1 v) mr g w →
      ∃ m₁ ops μ', runT P (crowd gs w sl) (c.N0 + i) = (.next m₁, ops) ∧ Lt3 μ' (Meas c j D X σ q tag f0) ∧ Inv P c Anch Fin Shun T0 μ' m₁ (t ++ ops) := by
    intro mr v hfin h7 hd0 hkb hlb h
    have hk1 : wkb false ≤ wkb (X i).wk := by simp [wkb]
    rcases Goes.cases h with hstop | ⟨m', rfl, hstep⟩
    · obtain ⟨_, hhas, g', hgo, m₂, hk⟩ := hstop w (ConcN.RW.refl w)
      refine workerStep (x' := ⟨(X i).C, (X i).u, (X i).N, false, false⟩) (σ' := σ) (s' := 6) (m' := m₂) (dd' := 0) (Xs := fun _ => False) K hAr ha hcs hcom hl hi hg hgo (Turn.refl K w) (fun _ h => h.elim) rfl (WS.sit (v := v) hfin (.k1 hk)) (by
          intro op hop
          obtain ⟨e, he, rfl⟩ := Go.Conc.mem_ofEvents hop
          simp at he; subst he
          exact ⟨rfl, fun x hx => by simp [mk, MemAct.ofEvent, MemAct.touch?] at hx⟩) (by intro e he; simp at he; subst he; simp [mk]) (by rw [hde, hd0]; rfl)
        (fun _ => ⟨t.size, ConcN.RelBy.new (by rw [hdk, hd0]) _ _⟩) hcom.rep (by rw [hus]; exact hcom.ju) (by rw [hus]; exact Nat.le_refl _) (fun e => by cases e) (fun _ h => h) (fun _ h => .inl h) ⟨fun _ h => h, fun _ h => .inl h, fun _ h => .inl h⟩ (fun _ h => .inl h) (.inl fun _ h => h) (fun e => by cases e) hwg (fun _ ht _ => (hmode.counted hi (by omega) (.inl rfl) _ _).retag ht) (.inl ⟨by omega, by simp [cnt, hst, h7]⟩)
    · obtain ⟨g', w', es, hgo, ⟨hac, hev⟩, hg'⟩ := hstep w (ConcN.RW.refl w)
      have hT := Turn.cell K hac hbox (hcom.box i hi).2.2 ⟨σ, hcom.rep⟩ hl
      have hWC : c.Wg ≠ (X i).C := fun e => hl.hard (e ▸ hbox)
      refine workerStep (x' := ⟨(X i).C, (X i).u, (X i).N, false, false⟩) (σ' := σ) (s' := 7) (m' := m') (dd' := 0) K hAr ha hcs hcom hl hi hg hgo hT (fun _ h => h) rfl (WS.sit (v := v) hfin (.r0 hg')) (okP_of_lib K (Nat.le_trans hcom.h0 hT.size) hev) (fun e he => (hev e he).2.2.2)
        (by rw [hde, hd0]; exact deafBehind_idle (fun e he => ⟨(hev e he).2.1, (hev e he).2.2.1⟩) 0) (fun h => by omega) (cell_rep K hac hbox hcom.rep) (by rw [hus]; exact hcom.ju) (by rw [hus]; exact Nat.le_refl _) (fun e => by cases e) (fun _ h => h) (fun _ h => .inl h) ⟨fun _ h => h, fun _ h => .inl h, fun _ h => .inl h⟩ (fun _ h => .inl h) (.inl fun _ h => h) (fun e => by cases e)
        (hwg.of_block (hac.block c.Wg hWC)) (fun _ ht _ => ConcN.Mode.retag (by have := hmode.same (i := i) m' 0; rwa [hst, h7] at this) ht) (.inr ⟨by rw [hst, h7], ?_⟩)
      · rw [hus]
        rcases hkb with rfl | rfl
        · exact .inl (by simp [wkb, hwk])
        · cases hkk : kb with
          | true => exact .inl (by simp [wkb, hwk, hkk])
          | false => exact .inr ⟨by simp [wkb, hwk, hkk], .inl (by rw [hfu])⟩
  cases hs with
  | work h =>
    rcases Goes.cases h with hstop | ⟨m', rfl, hstep⟩
    · rcases hstop w (RW.refl w) with ⟨hf, _, mr, v, hR⟩ | ⟨hnf, hvis⟩
      · exact into hf rfl (K.fin_dn _ hf) (.inl rfl) rfl hR
      · obtain ⟨hrn, hoff, hvis⟩ := hvis
        obtain ⟨hvb, hvis⟩ := hvis σ hcom.rep (K.pre σ _ j i hi hcom.ju hnf)
        have hN := hcom.fuel i hi hwk
        by_cases hb : c.blk (X i).u σ
        · -- it cannot go on: it stands blocked
          refine workerStep (x' := ⟨(X i).C, (X i).u, (X i).N, true, true⟩) (σ' := σ) (s' := 7) (m' := 0) (dd' := c.dn (X i).u) (Xs := fun _ => False) K hAr ha hcs hcom hl hi hg (hvb hb) (Turn.refl K w) (fun _ h => h.elim) rfl
            (.blkd hnf fun w₁ h₁ => ?_) (by intro op hop; simp [MemOp.ofEvents] at hop) (by simp) (by rw [hde]; rfl) (fun h => by omega) hcom.rep (by rw [hus]; exact hcom.ju) (by rw [hus]; exact Nat.le_refl _) (fun _ => by rw [hus]; exact hN)
            (fun _ h => h) (fun _ h => .inl h) ⟨fun _ h => h, fun _ h => .inl h, fun _ h => .inl h⟩ (fun _ h => .inl h) (.inl fun _ h => h) (fun _ => hb) hwg (fun _ ht _ => ConcN.Mode.retag (by have := hmode.same (i := i) 0 (c.dn (X i).u); rwa [hst] at this) ht)
            (.inr ⟨hst.symm, .inr ⟨by rw [hus, hwk], .inr ⟨Nat.zero_le _, wakes_blocked rfl, rfl, hbl⟩⟩⟩)
          rcases hstop w₁ h₁ with ⟨hf, _⟩ | ⟨_, h⟩
          · exact absurd hf hnf
          · exact h
        · obtain ⟨g', w', es, u', σ', hgo, htr, hrep', hosb, hev, hpb, hdn, hown, hwake, hk⟩ := hvis hb
          obtain ⟨hju', hmu', hvir', hsp', hkeep'⟩ := K.step σ _ j i u' σ' hi hcom.ju hnf hb htr
          obtain ⟨N', hN'⟩ : ∃ N', (X i).N = N' + 1 := ⟨(X i).N - 1, by omega⟩
          rw [hN'] at hk
          obtain ⟨m₂, hk⟩ := hk
          have hT := Turn.sb K hcom.rep hosb hrep'
          refine workerStep (x' := ⟨(X i).C, u', N', true, false⟩) (σ' := σ') (s' := 7) (m' := m₂) (dd' := c.dn u') K hAr ha hcs hcom hl hi hg hgo hT (fun _ h => h.elim) rfl (.work hk)
            (okP_of_EvV K (Nat.le_trans hcom.h0 hT.size) (fun l hl => ⟨.inl ⟨i, hi, rfl, hl⟩, fun hv => K.own_vir σ _ j i l hcom.ju hi hl (hvir' l hv), (K.own_in σ _ j i w l hcom.ju hcom.rep hi hl).imp id (fun ⟨a, h1, h2, h3⟩ => ⟨a, h1, h2, hT.flg _ h3⟩), fun e => K.pfaSh.elim (fun hs => absurd hl (fun hl => by
                rcases K.own_in σ _ j i w l hcom.ju hcom.rep hi hl with h5 | ⟨a, h5, h6, h7⟩
                · exact K.sp_sh l h5 (e ▸ hs)
                · rw [e] at h5
                  injection h5 with h5
                  have := K.sh_lt _ hs
                  rw [h5] at this
                  omega)) (fun h1 => h1 σ)⟩)
              (fun l hl => ⟨⟨i, hi, rfl, hl⟩, fun hv => K.pub_vir σ _ j l hcom.ju (K.prd_pub σ _ j i l hcom.ju hi hl) (hvir' l hv), K.pub_sp _ _ (K.prd_pub σ _ j i l hcom.ju hi hl)⟩) (fun hm l => K.mayp σ _ j i l hcom.ju hi hm) hev) (fun e he => (hev e he).2)
            (by rw [hde]; exact hdn) (fun h => by omega) hrep' hju' (Nat.le_of_lt hmu') (fun _ => Nat.le_of_lt_succ (Nat.lt_of_lt_of_le hmu' (hN'.symm ▸ hN : _ ≤ N' + 1)))
            hvir' hkeep' ⟨hpb.up, fun l hl => (hpb.new l hl).imp id (fun x => ⟨x.1, x.2.1, by rw [hde]; exact x.2.2⟩), fun l hl => (hpb.rd l hl).imp id (fun y => y.imp id (fun x => ⟨x.1, x.2.1, by rw [hde]; exact x.2.2⟩))⟩ (fun l hl => ?_) (hwake.imp id fun x => wakes_of x.1 x.2) (fun e => by cases e) (hwg.of_block (hosb.old _ hl.lt K.sbWg (.inl hl.noF)))
            (fun _ ht _ => ConcN.Mode.retag (by have := hmode.same (i := i) m₂ (c.dn u'); rwa [hst] at this) ht) (.inr ⟨hst.symm, .inl (by rw [hwk]; simp only [wkb, if_true]; omega)⟩)
          rcases hown l hl with h1 | h1 | h1
          · exact .inl h1
          · exact (hsp' l hl h1).imp id .inl
          · exact .inr (.inr h1)
    · obtain ⟨g', w', es, hgo, hD, hg'⟩ := hstep w (RW.refl w)
      have hT := Turn.dw K hD
      refine workerStep (x' := X i) (σ' := σ) (s' := 7) (m' := m') (dd' := c.dn (X i).u) K hAr ha hcs hcom hl hi hg hgo hT (fun _ h => h.elim) rfl (by rw [hwk, hbl]; exact .work hg')
        (okP_of_EvW K (Nat.le_trans hcom.h0 hT.size) hi rfl (Nat.lt_of_lt_of_le hbox.lt hT.size) hD.ev) (fun e he => (hD.ev e he).2.2.2)
        (by rw [hde]; exact deafBehind_idle (fun e he => ⟨(hD.ev e he).2.1, (hD.ev e he).2.2.1⟩) _) (fun h => by omega) (K.rep_same σ w w' hcom.rep hD.size (fun b hb _ => hD.old b hb)) (by rw [hus]; exact hcom.ju) (by rw [hus]; exact Nat.le_refl _) (fun e => by rw [hus]; exact hcom.fuel i hi e)
        (fun _ h => h) (fun _ h => .inl h) ⟨fun _ h => h, fun _ h => .inl h, fun _ h => .inl h⟩ (fun _ h => .inl h) (.inl fun _ h => h) (fun e => by rw [hbl] at e; cases e)
        (hwg.of_block (hD.old _ hl.lt)) (fun _ ht _ => ConcN.Mode.retag (by have := hmode.same (i := i) m' (c.dn (X i).u); rwa [hst] at this) ht) (.inr ⟨hst.symm, .inr ⟨by rw [hus], .inl (by rw [hfu])⟩⟩)
  | blkd hf h => have := (h w (RW.refl w)); simp at hrun
  | sit hf hs =>
    cases hs with
    | r0 h => exact into hf rfl rfl (.inr rfl) rfl h
    | k1 h =>
      rcases Goes.cases h with hstop | ⟨m', rfl, hstep⟩
      · obtain ⟨_, g', hgo, m₂, hk⟩ := hstop w (ConcN.RW.refl w)
        exact book (v := .tuple #[]) hgo (.refl c.Wg w) hwg (by intro e he; simp at he; subst he; exact .inl rfl) (by intro jx e he; exact .inl (by have := Array.mem_of_getElem? he; simp at this; subst this; rfl)) hf rfl rfl (.d1 hk) rfl (by omega)
          (hmode.counted hi (by omega) (.inr rfl) _ _) (.inl ⟨by omega, by simp [cnt, hst]⟩)
      · obtain ⟨g', w', es, hgo, ⟨rfl, rfl⟩, hg'⟩ := hstep w (ConcN.RW.refl w)
        exact idle (v := .tuple #[]) hgo hf rfl rfl (.k1 hg') rfl (by omega) (by omega)
    | d1 h =>
      rcases Goes.cases h with hstop | ⟨m', rfl, hstep⟩
      · obtain ⟨_, hall⟩ := hstop w (ConcN.RW.refl w)
        have hc1 : cnt (D i) = 1 := by simp [cnt, hst]
        have hV1 : 1 ≤ Vc j D := by have := le_sumTo (f := fun x => cnt (D x)) hi; simp only [Vc]; omega
        have hn := K.hn
        have bk2 : ∀ e ∈ #[rd (stA c.Wg), wr (stA c.Wg)], Bk c.Wg e := by intro e he; simp at he; rcases he with rfl | rfl <;> exact bk_cell _ _ rfl
        have df2 : ∀ jx e, (#[rd (stA c.Wg), wr (stA c.Wg)] : Array Event)[jx]? = some e → (MemAct.ofEvent e).touch? = none ∨ 0 < deafBehind 1 ((#[rd (stA c.Wg), wr (stA c.Wg)] : Array Event).extract 0 jx) := by
          intro jx e he
          match jx, he with
          | 0, _ => exact .inr (by simp [deafBehind])
          | 1, _ => exact .inr (by simp [deafBehind, rd])
          | jx + 2, he => simp at he
        have hq0 : ∀ q, cnt (⟨1, q, 1⟩ : WD) = 0 := fun _ => rfl
        have opq : ∀ q, OpenSt j D → OpenSt j (upd D i ⟨1, q, 1⟩) := fun q h a ha => by
          by_cases e : a = i
          · subst e; rw [upd_same]; simp
          · rw [upd_ne D _ e]; exact h a ha
        cases hmode with
        | opn h1 h2 h3 =>
          obtain ⟨v, hv⟩ : ∃ v, Vc j D + pend tag = v + 1 := ⟨Vc j D + pend tag - 1, by omega⟩
          rw [hv] at hwg
          have hw1 : WgAt c.ty c.Wg w (((v : Nat) + 1) * KK + ((0 : Nat) : Int)) 0 := by simpa using hwg
          obtain ⟨g', hgo, _, hq⟩ := hall v 0 (by omega) (by omega) hw1
          obtain ⟨q', hq⟩ := hq (by omega)
          have hv' : Vc j (upd D i ⟨1, q', 1⟩) + pend tag = v := by have := Vc_upd D (⟨1, q', 1⟩ : WD) hi; have := hq0 q'; omega
          refine book (v := .tuple #[]) hgo (aside_setCell w (stA c.Wg) _) (hwg.setSt _) bk2 df2 hf rfl rfl (.quit hq) rfl (by omega) ?_ (.inl ⟨by omega, by simp [cnt]⟩)
          have e : ((v : Nat) : Int) * KK + ((0 : Nat) : Int) = ((Vc j (upd D i ⟨1, q', 1⟩) + pend tag : Nat) : Int) * KK := by rw [hv']; simp
          rw [e]
          exact .opn h1 (opq q' h2) (fun vs ev => by have := h3 vs ev; omega)
        | reg h1 h2 h3 =>
          obtain ⟨v, hv⟩ : ∃ v, Vc j D = v + 1 := ⟨Vc j D - 1, by omega⟩
          rw [hv] at hwg
          have hp : pend tag = 0 := by cases tag <;> first | rfl | exact h1.elim
          have hw1 : WgAt c.ty c.Wg w (((v : Nat) + 1) * KK + ((1 : Nat) : Int)) 0 := by simpa using hwg
          obtain ⟨g', hgo, hlst, hq⟩ := hall v 1 (by omega) (by omega) hw1
          by_cases hv0 : v = 0
          · subst hv0
            obtain ⟨m₂, hk⟩ := hlst ⟨rfl, rfl⟩
            refine book (v := .tuple #[]) hgo (aside_setCell w (stA c.Wg) _) (hwg.setSt _) bk2 df2 hf rfl rfl (.d2 hk) rfl (by omega) ?_ (.inl ⟨by omega, by simp [cnt]⟩)
            have hoth : ∀ a, a < j → a ≠ i → (D a).stage = 1 := fun a ha e => by
              have c0 := others_uncounted hi hv hc1 a ha e
              have := h2 a ha
              simp only [cnt] at c0
              split at c0 <;> omega
            have := ConcN.Mode.last (j := j) (D := upd D i ⟨4, m₂, 1⟩) (tag := tag) i h1 hi (by rw [upd_same]; simp) (fun a ha e => by rw [upd_ne D _ e]; exact hoth a ha e)
            rw [upd_same] at this
            simpa using this
          · obtain ⟨q', hq⟩ := hq (by omega)
            have hv' : Vc j (upd D i ⟨1, q', 1⟩) = v := by have := Vc_upd D (⟨1, q', 1⟩ : WD) hi; have := hq0 q'; omega
            refine book (v := .tuple #[]) hgo (aside_setCell w (stA c.Wg) _) (hwg.setSt _) bk2 df2 hf rfl rfl (.quit hq) rfl (by omega) ?_ (.inl ⟨by omega, by simp [cnt]⟩)
            have e : ((v : Nat) : Int) * KK + ((1 : Nat) : Int) = ((Vc j (upd D i ⟨1, q', 1⟩) : Nat) : Int) * KK + 1 := by rw [hv']; simp
            rw [e]
            exact .reg h1 (opq q' h2) (by omega)
        | last L _ h2 h3 h4 =>
          by_cases e : i = L
          · subst e; omega
          · have := h4 i hi e; omega
        | sema h2 => have := h2 i hi; omega
        | fin _ h2 => have := h2 i hi; omega
      · obtain ⟨g', w', es, hgo, ⟨rfl, rfl⟩, hg'⟩ := hstep w (ConcN.RW.refl w)
        exact idle (v := .tuple #[]) hgo hf rfl rfl (.d1 hg') rfl (by omega) (by omega)
    | d2 h =>
      rcases Goes.cases h with hstop | ⟨m', rfl, hstep⟩
      · obtain ⟨_, hx⟩ := hstop w (ConcN.RW.refl w)
        obtain ⟨hW3, hoth, rfl, rfl⟩ := hmode.isLast hi (by omega)
        simp only [hst] at hwg
        obtain ⟨g', hgo, m₂, hk⟩ := hx (by simpa using hwg)
        refine book (v := .tuple #[]) hgo (.refl c.Wg w) hwg (by intro e he; simp at he; subst he; exact bk_cell _ _ rfl) (by intro jx e he; match jx, he with | 0, _ => exact .inr (by simp [deafBehind]) | jx + 1, he => simp at he) hf rfl rfl (.d3 hk) rfl (by omega) ?_ (.inl ⟨by omega, by simp [cnt]⟩)
        have := ConcN.Mode.last (j := j) (D := upd D i ⟨3, m₂, 1⟩) (tag := tag) i hW3 hi (by rw [upd_same]; simp) (fun a ha e => by rw [upd_ne D _ e]; exact hoth a ha e)
        rw [upd_same] at this
        simpa using this
      · obtain ⟨g', w', es, hgo, ⟨rfl, rfl⟩, hg'⟩ := hstep w (ConcN.RW.refl w)
        exact idle (v := .tuple #[]) hgo hf rfl rfl (.d2 hg') rfl (by omega) (by omega)
    | d3 h =>
      rcases Goes.cases h with hstop | ⟨m', rfl, hstep⟩
      · obtain ⟨_, hx⟩ := hstop w (ConcN.RW.refl w)
        obtain ⟨hW3, hoth, rfl, rfl⟩ := hmode.isLast hi (by omega)
        simp only [hst] at hwg
        obtain ⟨g', hgo, m₂, hk⟩ := hx (by simpa using hwg)
        refine book (v := .tuple #[]) hgo (aside_setCell w (stA c.Wg) _) (hwg.setSt 0) (by intro e he; simp at he; subst he; exact bk_cell _ _ rfl) (by intro jx e he; match jx, he with | 0, _ => exact .inr (by simp [deafBehind]) | jx + 1, he => simp at he) hf rfl rfl (.d4 hk) rfl (by omega) ?_ (.inl ⟨by omega, by simp [cnt]⟩)
        have := ConcN.Mode.last (j := j) (D := upd D i ⟨2, m₂, 1⟩) (tag := tag) i hW3 hi (by rw [upd_same]; simp) (fun a ha e => by rw [upd_ne D _ e]; exact hoth a ha e)
        rw [upd_same] at this
        simpa using this
      · obtain ⟨g', w', es, hgo, ⟨rfl, rfl⟩, hg'⟩ := hstep w (ConcN.RW.refl w)
        exact idle (v := .tuple #[]) hgo hf rfl rfl (.d3 hg') rfl (by omega) (by omega)
    | d4 h =>
      rcases Goes.cases h with hstop | ⟨m', rfl, hstep⟩
      · obtain ⟨_, hmw, hx⟩ := hstop w (ConcN.RW.refl w)
        obtain ⟨hW3, hoth, rfl, rfl⟩ := hmode.isLast hi (by omega)
        simp only [hst] at hwg
        obtain ⟨g', hgo, q', hq⟩ := hx (by simpa using hwg)
        have hrun' : g'.status = .running := by
          cases q' with
          | zero => exact absurd hq.2 (by decide)
          | succ q' => exact hq.elim (fun x => absurd x.2 (by decide)) (fun x => x.1)
        refine bookG (v := .tuple #[]) hgo (aside_setCell w (smA c.Wg) _) (hwg.setSm 1) (es := semEvents (smA c.Wg)) ?_ ?_ hf rfl rfl (.quit hq) (by simp [deafBehind, semEvents]) (by omega) ?_ (.inl ⟨by omega, by simp [cnt]⟩)
        · intro e he
          simp [semEvents] at he
          rcases he with rfl | rfl | rfl | rfl
          · exact .inl rfl
          · exact bk_cell _ _ rfl
          · exact bk_cell _ _ rfl
          · exact .inr (.inl rfl)
        · intro jx e he
          match jx, he with
          | 0, he => simp [semEvents] at he; subst he; exact .inl rfl
          | 1, _ => exact .inr (by simp [deafBehind, semEvents])
          | 2, _ => exact .inr (by simp [deafBehind, semEvents])
          | 3, he => simp [semEvents] at he; subst he; exact .inl rfl
          | jx + 4, he => simp [semEvents] at he
        · intro tag' ht hw
          have hnb := hw hmw hrun'
          have e3 : tag' = .w3 := by
            rcases ht with rfl | ⟨_, rfl⟩
            · cases tag' <;> first | rfl | exact hW3.elim | exact absurd rfl hnb
            · rfl
          subst e3
          simp only [if_true]
          exact .sema fun a ha => by
            by_cases e : a = i
            · subst e; rw [upd_same]
            · rw [upd_ne D _ e]; exact hoth a ha e
      · obtain ⟨g', w', es, hgo, ⟨rfl, rfl⟩, hg'⟩ := hstep w (ConcN.RW.refl w)
        exact idle (v := .tuple #[]) hgo hf rfl rfl (.d4 hg') rfl (by omega) (by omega)
    | quit h =>
      cases m with
      | zero => rw [h.1] at hrun; cases hrun
      | succ q' =>
        rcases h with ⟨hf', _⟩ | ⟨_, g', es, hmute, hstep, hq⟩
        · rw [hf'] at hrun; cases hrun
        · have hbk : ∀ e ∈ es, Bk c.Wg e := fun e he => bk_of_mute (hmute e he)
          have hno : ∀ jx e, es[jx]? = some e → (MemAct.ofEvent e).touch? = none ∨ 0 < deafBehind dd (es.extract 0 jx) := fun jx e he => .inl (touch_mute (hmute e (Array.mem_of_getElem? he)))
          exact book (v := .tuple #[]) (hstep w) (.refl c.Wg w) hwg hbk hno hf rfl rfl (.quit hq) rfl (by omega) (by have := hmode.same (i := i) q' (deafBehind dd es); rwa [hst] at this) (.inr ⟨rfl, rfl⟩)
end
end Go.Proofs.Ytinghnaigpenkaa

end
section
/- A phase: the starter's steps; from the first to the last. -/
namespace Go.Proofs.Ytinghnaigpenkaa
open Go.Conc
open Go.ConcN (CTag phi isOpen isW3 isFin pend WD Vc Ssum Fsum cnt OpenSt AllQuit RelBy sumTo upd sumTo_upd upd_same upd_ne sumTo_congr sumTo_upd_out le_sumTo get_map_set get_map_set_same Deaf_absent phi_mono Vc_upd Vc_le others_uncounted bk_cell deafBehind_idle allQuit_of exists_counted)
open Go.ConcR (KK wgBlock WgAt stA smA rd wr mk Payload DC0 Bk g_of_ofEvents again_blocked bk_of_mute ofEvent_mk loc_of_ofEvent ofEvent_loc_mark ofEvent_cell)
set_option linter.unusedVariables false
set_option linter.unusedSimpArgs false
set_option linter.unusedSectionVars false
variable [Payload]

theorem lt3_trans {a b c : Nat × Nat × Nat} (h : Lt3 a b) (h' : Lt3 b c) : Lt3 a c := by
  obtain ⟨a1, a2, a3⟩ := a
  obtain ⟨b1, b2, b3⟩ := b
  obtain ⟨c1, c2, c3⟩ := c
  rcases Prod.lex_def.1 h with h | ⟨h1, h2⟩ <;> rcases Prod.lex_def.1 h' with k | ⟨k1, k2⟩ <;> simp only at *
  · exact Prod.Lex.left _ _ (by omega)
  · exact Prod.Lex.left _ _ (by omega)
  · exact Prod.Lex.left _ _ (by omega)
  · subst h1; subst k1
    refine Prod.Lex.right _ ?_
    rcases Prod.lex_def.1 h2 with h | ⟨h1, h2⟩ <;> rcases Prod.lex_def.1 k2 with k | ⟨k1, k2⟩ <;> simp only at *
    · exact Prod.Lex.left _ _ (by omega)
    · exact Prod.Lex.left _ _ (by omega)
    · exact Prod.Lex.left _ _ (by omega)
    · subst h1; subst k1; exact Prod.Lex.right _ (by omega)

/-- BEHIND THE PHASE -/
def PhEnd (P : Program) (c : Cfg) (Fin : Goroutine → World → Prop) (m : Machine) (t : Trace) : Prop :=
  ∃ (gs : Array Goroutine) (w : World) (sl : Option (Nat × Nat)) (a : Goroutine) (q : Nat → Nat) (σ : c.S) (us : Nat → c.U),
    m = crowd gs w sl ∧ gs[0]? = some a ∧ gs.size = c.N0 + c.n ∧ a.status = .running ∧ Fin a w ∧ Leavers P t gs q ∧ Pst c.sh t ∧ c.H0 ≤ w.heap.size ∧ (∀ (i : Nat) (op : MemOp), t[i]? = some op → op.g < gs.size) ∧
      WgAt c.ty c.Wg w 0 0 ∧ c.Rep σ w ∧ c.JU σ us c.n ∧ ∀ i, i < c.n → c.fin (us i)

section
variable {P : Program} {c : Cfg} {Anch : Nat → Goroutine → World → Prop} {Fin : Goroutine → World → Prop} {Shun : Loc → Prop} {T0 : Nat}
  {gs : Array Goroutine} {w w' : World} {sl : Option (Nat × Nat)} {j lw : Nat} {D : Nat → WD} {X : Nat → WX c.U} {σ σ' : c.S} {q : Nat → Nat} {tag tag' : CTag} {f0 f' d0 : Nat} {a a' : Goroutine} {t : Trace} {st sm st' sm' : Int} {es : Array Event}

theorem idleC (K : c.Ok) (ha : gs[0]? = some a) (hcom : Com P c Shun T0 j lw gs w t D X σ q d0) (hwg : WgAt c.ty c.Wg w st sm) (hmode : ConcN.Mode j D tag st sm)
    (hgo : stepG P true a w = .go a' w' es) (hD : D0 c lw w w' es) (hcs' : CS P c Anch Fin tag j f' d0 lw a' w') (hf : f' < f0) :
    ∃ m₁ ops μ', runT P (crowd gs w sl) 0 = (.next m₁, ops) ∧ Lt3 μ' (Meas c j D X σ q tag f0) ∧ Inv P c Anch Fin Shun T0 μ' m₁ (t ++ ops) := by
  have hl : Live c.ty c.Wg w := ⟨_, _, hwg⟩
  have hdf : deafBehind d0 es = d0 := deafBehind_idle (fun e he => ⟨(hD.ev e he).2.1, (hD.ev e he).2.2.1⟩) d0
  exact callerStep K ha hcom hl hgo (Turn.d0 K hD) (fun b hb => hb.1) (okS_of_EvS K (Nat.le_trans hcom.h0 hD.size) hcom.ju (hD.repS K hcom.rep) (fun i hi => (hcom.box i hi).2.1) hD.ev) (fun e he => (hD.ev e he).2.2.2)
    (hD.repS K hcom.rep) (by rw [hdf]; exact hcs') (hwg.of_block (hD.old _ hl.lt (.inr (.inl hl.hard)))) hmode (Nat.le_of_add_right_le hcs'.bound) (.inr ⟨rfl, hf⟩)

theorem bookC (K : c.Ok) (ha : gs[0]? = some a) (hcom : Com P c Shun T0 j lw gs w t D X σ q d0) (hwg : WgAt c.ty c.Wg w st sm)
    (hgo : stepG P true a w = .go a' w' es) (hAs : Aside c.Wg w w') (hwg' : WgAt c.ty c.Wg w' st' sm') (hbk : ∀ e ∈ es, Bk c.Wg e) (hcs' : CS P c Anch Fin tag' j f' (deafBehind d0 es) lw a' w')
    (hmode' : ConcN.Mode j D tag' st' sm') (hlt : phi c.n (Vc j D) tag' < phi c.n (Vc j D) tag ∨ (phi c.n (Vc j D) tag' = phi c.n (Vc j D) tag ∧ f' < f0)) :
    ∃ m₁ ops μ', runT P (crowd gs w sl) 0 = (.next m₁, ops) ∧ Lt3 μ' (Meas c j D X σ q tag f0) ∧ Inv P c Anch Fin Shun T0 μ' m₁ (t ++ ops) := by
  have hl : Live c.ty c.Wg w := ⟨_, _, hwg⟩
  exact callerStep K ha hcom hl hgo (Turn.wg K hAs hl ⟨_, _, hwg'⟩) (fun _ h => h.elim) (okS_of_Bk K (by rw [hAs.size]; exact hcom.h0) hbk) (norel_of_Bk' hbk) (aside_rep K hAs hl hcom.rep) hcs' hwg' hmode' (Nat.le_of_add_right_le hcs'.bound) hlt

theorem w1Step (K : c.Ok) (ha : gs[0]? = some a) (hcom : Com P c Shun T0 c.n lw gs w t D X σ q 1) (hwg : WgAt c.ty c.Wg w st sm) (hmode : ConcN.Mode c.n D .w1 st sm)
    (h : Goes P true (R0 c lw) (D0 c lw) (AtW1 P c lw (Anch lw) Fin) f0 a w) :
    ∃ m₁ ops μ', runT P (crowd gs w sl) 0 = (.next m₁, ops) ∧ Lt3 μ' (Meas c c.n D X σ q .w1 f0) ∧ Inv P c Anch Fin Shun T0 μ' m₁ (t ++ ops) := by
  have hn := K.hn
  rcases Goes.cases h with hstop | ⟨m', rfl, hstep⟩
  · obtain ⟨_, hall⟩ := hstop w (R0.refl w)
    obtain ⟨ho, rfl, rfl, _⟩ := hmode.open_inv trivial
    have hV := Vc_le c.n D
    obtain ⟨a', hgo, h0, hne⟩ := hall (Vc c.n D) (by omega) (by simpa [pend] using hwg)
    by_cases hv : Vc c.n D = 0
    · obtain ⟨m₂, hk⟩ := h0 hv
      refine bookC (tag' := .ke) K ha hcom hwg hgo (.refl c.Wg w) hwg ConcN.bk_rd (.ke hk) ?_ (.inl (by simp only [phi]; omega))
      have e : ((Vc c.n D + pend .w1 : Nat) : Int) * KK = 0 := by rw [hv]; simp [pend]
      rw [e]
      exact .fin trivial (allQuit_of ho hv)
    · obtain ⟨m₂, hk⟩ := hne hv
      exact bookC (tag' := .w2 (Vc c.n D)) K ha hcom hwg hgo (.refl c.Wg w) hwg ConcN.bk_rd (.w2 hk) (hmode.reopen trivial trivial rfl (fun vs e => by cases e; omega)) (.inl (by simp only [phi]; omega))
  · obtain ⟨a', w', es, hgo, hD, hg'⟩ := hstep w (R0.refl w)
    exact idleC K ha hcom hwg hmode hgo hD (.w1 hg') (by omega)
end

section
variable {P : Program} {c : Cfg} {Shun : Loc → Prop} {T0 : Nat}
  {gs : Array Goroutine} {w : World} {j lw : Nat} {D : Nat → WD} {X : Nat → WX c.U} {σ : c.S} {q : Nat → Nat} {a' : Goroutine} {t : Trace}
/-- A go statement: one more worker -/
theorem Com.spawn (K : c.Ok) (hj : j < c.n) (hcom : Com P c Shun T0 j lw gs w t D X σ q 0) {child : Goroutine} {C m₂ : Nat} {x y : MemOp} (hx : x.g = 0 ∧ x.act = .go (c.N0 + j)) (hy : y.g = c.N0 + j ∧ y.act = .start)
    (hlw : lw ≤ C) (hH : c.H0 ≤ C) (hs : Soft w C) (hw : WS P c (c.N0 + j) C (c.init j) (c.mu σ (fun i => (X i).u) j) true false 7 m₂ 0 child w) :
    Com P c Shun T0 (j + 1) w.heap.size ((gs.setIfInBounds 0 a').push child) w (t ++ #[x, y]) (upd D j ⟨7, m₂, 0⟩) (upd X j ⟨C, c.init j, c.mu σ (fun i => (X i).u) j, true, false⟩) σ q 0 := by
  have hN0 := K.hN
  obtain ⟨hju', hmu', hvir'⟩ := K.spawn σ _ j hj hcom.ju
  have hst : ∀ op ∈ #[x, y], op.act ≠ .mark .disable ∧ op.act ≠ .mark .enable := by
    intro op hop
    simp only [List.mem_toArray, List.mem_cons, List.not_mem_nil, or_false] at hop
    rcases hop with rfl | rfl
    · rw [hx.2]; exact ⟨by simp, by simp⟩
    · rw [hy.2]; exact ⟨by simp, by simp⟩
  have hdf : ∀ g, Deaf (t ++ #[x, y]) g = Deaf t g := fun g => ConcN.Deaf_still t g _ hst
  have hg0 : ∀ i, i < j → i ≠ j := fun i h e => by omega
  have hxy : ∀ op ∈ #[x, y], op.g = 0 ∨ op.g = c.N0 + j := by
    intro op hop
    simp only [List.mem_toArray, List.mem_cons, List.not_mem_nil, or_false] at hop
    rcases hop with rfl | rfl
    · exact .inl hx.1
    · exact .inr hy.1
  have hCj : (fun i => (upd X j ⟨C, c.init j, c.mu σ (fun i => (X i).u) j, true, false⟩ i).C) = upd (fun i => (X i).C) j C := by
    funext i
    by_cases e : i = j
    · subst e; simp only [upd_same]
    · simp only [upd_ne _ _ e]
  refine ⟨by simp [hcom.size]; omega, fun i hi => ?_, fun i g hi0 hiN hg => ?_, ?_, norel_app hcom.norel ?_, by rw [hdf]; exact hcom.deaf0, fun i hi => ?_, fun i hi hsi => ?_, fun i hi => ?_, fun i i' hi hi' e => ?_, fun i hi hwk => ?_, fun i hi hb => ?_, hcom.rep, ?_, hcom.h0, Nat.le_refl _, hcom.over.app hcom.pt.size _⟩
  · by_cases e : i = j
    · subst e
      refine ⟨child, ?_, ?_⟩
      · have : c.N0 + i = (gs.setIfInBounds 0 a').size := by simp [hcom.size]
        rw [this, Array.getElem?_push_size]
      · simp only [upd_same]; exact hw
    · obtain ⟨g, hg, hsg⟩ := hcom.wk i (by omega)
      refine ⟨g, ?_, by rw [upd_ne X _ e, upd_ne D _ e]; exact hsg⟩
      have hlt := (Array.getElem?_eq_some_iff.1 hg).1
      rw [Array.getElem?_push_lt (by simpa using hlt), ← Array.getElem?_eq_getElem, Array.getElem?_setIfInBounds_ne (by omega)]
      exact hg
  · have hlt : i < gs.size := by rw [hcom.size]; omega
    rw [Array.getElem?_push_lt (by simpa using hlt), ← Array.getElem?_eq_getElem, Array.getElem?_setIfInBounds_ne (by omega)] at hg
    rw [hdf]
    exact hcom.old i g hi0 hiN hg
  · rw [hCj, upd_u]
    obtain ⟨Cs, hCs⟩ : ∃ Cs, Cs = fun i => (X i).C := ⟨_, rfl⟩
    obtain ⟨us, hus⟩ : ∃ us, us = fun i => (X i).u := ⟨_, rfl⟩
    have hpt := hcom.pt
    have hbox : ∀ i, i < j → Soft w (Cs i) := fun i hi => by rw [hCs]; exact (hcom.box i hi).1
    simp only [← hCs, ← hus] at hpt hju' ⊢
    have hA : (famOf c w (upd Cs j C) (upd us j (c.init j)) σ (j + 1)).Apart := apart_fam K hju' hcom.rep fun i hi => by
      by_cases e : i = j
      · subst e; rw [upd_same]; exact hs
      · rw [upd_ne _ _ e]; exact hbox i (by omega)
    have hown : ∀ k, Started c.N0 j k → ∀ l, (famOf c w (upd Cs j C) (upd us j (c.init j)) σ (j + 1)).own k l ↔ (famOf c w Cs us σ j).own k l := fun k hk l => by
      constructor
      · rintro ⟨i, hi, rfl, h⟩
        have hne : i ≠ j := by have := hk.2; omega
        rw [upd_ne _ _ hne] at h
        exact ⟨i, by omega, rfl, h⟩
      · rintro ⟨i, hi, rfl, h⟩
        exact ⟨i, by omega, rfl, by rw [upd_ne _ _ (by omega)]; exact h⟩
    have hrd : ∀ k, Started c.N0 j k → ∀ l, (famOf c w (upd Cs j C) (upd us j (c.init j)) σ (j + 1)).rd k l ↔ (famOf c w Cs us σ j).rd k l := fun k hk l => by
      constructor
      · rintro (⟨a, h1, h2, h3, h4⟩ | ⟨i, hi, rfl, h⟩)
        · refine .inl ⟨a, h1, h2, h3, ?_⟩
          rcases h4 with h4 | ⟨i, hi, rfl, h4⟩ | h4
          · exact .inl h4
          · have hne : i ≠ j := by have := hk.2; omega
            rw [upd_ne _ _ hne] at h4
            exact .inr (.inl ⟨i, by omega, rfl, h4⟩)
          · exact .inr (.inr h4)
        · have hne : i ≠ j := by have := hk.2; omega
          rw [upd_ne _ _ hne] at h
          exact .inr ⟨i, by omega, rfl, h⟩
      · rintro (⟨a, h1, h2, h3, h4⟩ | ⟨i, hi, rfl, h⟩)
        · refine .inl ⟨a, h1, h2, h3, ?_⟩
          rcases h4 with h4 | ⟨i, hi, rfl, h4⟩ | h4
          · exact .inl h4
          · exact .inr (.inl ⟨i, by omega, rfl, by rw [upd_ne _ _ (by omega)]; exact h4⟩)
          · exact .inr (.inr h4)
        · exact .inr ⟨i, by omega, rfl, by rw [upd_ne _ _ (by omega)]; exact h⟩
    have hpt' : PT (famOf c w (upd Cs j C) (upd us j (c.init j)) σ (j + 1)) Shun c.N0 T0 t j :=
      PT.extend (F' := famOf c w (upd Cs j C) (upd us j (c.init j)) σ (j + 1)) hpt rfl rfl (fun k hk l h => .inl ((hown k hk l).1 h)) (fun k hk l h => .inl ((hrd k hk l).1 h))
        (fun l _ _ hp hf => ⟨hp, fun k hk => ⟨fun ho => (hf k hk).1 ((hown k hk l).2 ho), fun hr => (hf k hk).2 ((hrd k hk l).2 hr)⟩⟩) (fun l _ _ hp hf => ⟨hp, fun k hk ho => hf k hk ((hown k hk l).2 ho)⟩) (fun _ h => h) hvir' (fun l hl => .inl hl)
    exact PT.fork hpt' hA hx hy hcom.deaf0 (fun l hl hp => by
      rcases hl with ⟨_, _, _, h3, _⟩ | ⟨i, hi, e, h⟩
      · exact h3 (K.pub_sp σ l hp)
      · have e : i = j := by omega
        subst e
        rw [upd_same] at h
        exact K.init_prd _ l h)
  · intro op hop
    simp only [List.mem_toArray, List.mem_cons, List.not_mem_nil, or_false] at hop
    rcases hop with rfl | rfl
    · rw [hx.2]; simp
    · rw [hy.2]; simp
  · rw [hdf]
    by_cases e : i = j
    · subst e
      rw [upd_same]
      exact Deaf_absent fun k op hk e => by have := hcom.pt.gs k op hk; omega
    · rw [upd_ne D _ e]; exact hcom.deafW i (by omega)
  · by_cases e : i = j
    · subst e; rw [upd_same] at hsi; simp at hsi
    · rw [upd_ne D _ e] at hsi
      obtain ⟨r, hr⟩ := hcom.rel i (by omega) hsi
      exact ⟨r, ConcN.RelBy.appNot hr fun op hop he => by rcases hxy op hop with h | h <;> omega⟩
  · by_cases e : i = j
    · subst e; rw [upd_same]; exact ⟨hs, hs.lt, hH⟩
    · rw [upd_ne X _ e]
      have := hcom.box i (by omega)
      exact ⟨this.1, Nat.lt_of_lt_of_le this.2.1 hcom.lwle, this.2.2⟩
  · by_cases e1 : i = j
    · by_cases e2 : i' = j
      · omega
      · subst e1
        rw [upd_same, upd_ne X _ e2] at e
        have := (hcom.box i' (by omega)).2.1
        simp only at e; omega
    · by_cases e2 : i' = j
      · subst e2
        rw [upd_same, upd_ne X _ e1] at e
        have := (hcom.box i (by omega)).2.1
        simp only at e; omega
      · rw [upd_ne X _ e1, upd_ne X _ e2] at e
        exact hcom.inj i i' (by omega) (by omega) e
  · rw [upd_u]
    by_cases e : i = j
    · subst e; rw [upd_same]; exact hmu'
    · rw [upd_ne X _ e] at hwk ⊢
      exact Nat.le_trans hmu' (hcom.fuel i (by omega) hwk)
  · by_cases e : i = j
    · subst e; rw [upd_same] at hb; cases hb
    · rw [upd_ne X _ e] at hb ⊢
      exact hcom.blks i (by omega) hb
  · rw [upd_u]; exact hju'
end
end Go.Proofs.Ytinghnaigpenkaa

end
section
/- A phase: whatever step of the starter's; no deadlock; from the first go statement to the last worker's release. -/
namespace Go.Proofs.Ytinghnaigpenkaa
open Go.Conc
open Go.ConcN (CTag phi isOpen isW3 isFin pend WD Vc Ssum Fsum cnt OpenSt AllQuit RelBy sumTo upd sumTo_upd upd_same upd_ne sumTo_congr sumTo_upd_out le_sumTo get_map_set get_map_set_same Deaf_absent phi_mono Vc_upd Vc_le others_uncounted bk_cell deafBehind_idle allQuit_of exists_counted)
open Go.ConcR (KK wgBlock WgAt stA smA rd wr mk Payload DC0 Bk g_of_ofEvents again_blocked bk_of_mute ofEvent_mk loc_of_ofEvent ofEvent_loc_mark ofEvent_cell)
set_option linter.unusedVariables false
set_option linter.unusedSimpArgs false
set_option linter.unusedSectionVars false
variable [Payload]

section
variable {P : Program} {c : Cfg} {Anch : Nat → Goroutine → World → Prop} {Fin : Goroutine → World → Prop} {Shun : Loc → Prop} {T0 : Nat}
  {gs : Array Goroutine} {w w' : World} {sl : Option (Nat × Nat)} {j lw : Nat} {D : Nat → WD} {X : Nat → WX c.U} {σ σ' : c.S} {q : Nat → Nat} {tag tag' : CTag} {f0 f' d0 : Nat} {a a' : Goroutine} {t : Trace} {st sm st' sm' : Int} {es : Array Event}

/-- THE LAST STEP: the starter acquires what all have released -/
theorem acqStep (K : c.Ok) (hS : ∀ l, Shun l → c.sh l) (ha : gs[0]? = some a) (hcom : Com P c Shun T0 c.n lw gs w t D X σ q 0) (hwg : WgAt c.ty c.Wg w 0 0) (hq : AllQuit c.n D) (h : AtAcq P c Fin a w) :
    ∃ m₁ ops, runT P (crowd gs w sl) 0 = (.next m₁, ops) ∧ PhEnd P c Fin m₁ (t ++ ops) := by
  obtain ⟨_, a', hgo, hr', hfin⟩ := h
  have hN0 := K.hN
  have hrun := runT_crowd_go (P := P) (sl := sl) (i := 0) ha (by simpa using hgo)
  have hl : Live c.ty c.Wg w := ⟨_, _, hwg⟩
  have e1 : MemOp.ofEvents 0 a.frame.fn a.frame.place #[mk (.acquire (stA c.Wg))] = #[{ g := 0, fn := a.frame.fn, pos := a.frame.place, act := .mark (.acquire (stA c.Wg)) }] := by rw [ofEvents_eq]; simp [ofEvent_mk]
  refine ⟨_, _, hrun, ?_⟩
  have hsz : ((gs.map (woken P a a' w)).setIfInBounds 0 a').size = gs.size := by simp
  obtain ⟨u, hu⟩ : ∃ u, u = MemOp.ofEvents 0 a.frame.fn a.frame.place #[mk (.acquire (stA c.Wg))] := ⟨_, rfl⟩
  have hu0 : ∀ op ∈ u, op.g = 0 := by rw [hu]; exact g_of_ofEvents
  have hun : ∀ op ∈ u, op.act.touch? = none := by rw [hu, e1]; intro op hop; simp at hop; subst hop; rfl
  have huk : ∀ op ∈ u, op.act ≠ .mark .disable ∧ op.act ≠ .mark .enable := by rw [hu, e1]; intro op hop; simp at hop; subst hop; exact ⟨by simp, by simp⟩
  have hur : ∀ op ∈ u, op.act ≠ .mark (.release (stA c.Wg)) := by rw [hu, e1]; intro op hop; simp at hop; subst hop; simp
  have hpt := hcom.pt.appMute (u := u) (g := 0) (by omega) hu0 hun
  have hdf : ∀ g, Deaf (t ++ u) g = Deaf t g := fun g => ConcN.Deaf_still t g _ huk
  have hy : (t ++ u)[t.size]? = some { g := 0, fn := a.frame.fn, pos := a.frame.place, act := .mark (.acquire (stA c.Wg)) } := by rw [hu, e1]; simp
  have rel : ∀ k, Started c.N0 c.n k → ∃ r, RelBy (stA c.Wg) (t ++ u) k r ∧ r < t.size := fun k hk => by
    obtain ⟨i, rfl⟩ : ∃ i, k = c.N0 + i := ⟨k - c.N0, by have := hk.1; omega⟩
    have hi : i < c.n := by have := hk.2; omega
    obtain ⟨r, hr⟩ := hcom.rel i hi (by rw [hq i hi]; omega)
    exact ⟨r, hr.appOther hu0 (by omega), lt_of_act? hr.act⟩
  rw [← hu]
  refine ⟨_, w, sl, a', fun i => if i < c.N0 then q i else (D (i - c.N0)).fuel, σ, fun i => (X i).u, rfl, ?_, by rw [hsz, hcom.size], hr', hfin, ⟨fun i g hi0 hg => ?_, fun i hi => ?_⟩, ?_, hcom.h0, ?_, hwg, hcom.rep, hcom.ju, fun i hi => ?_⟩
  · have : 0 < gs.size := (Array.getElem?_eq_some_iff.1 ha).1
    simp [this]
  · rw [get_map_set _ _ _ _ (by omega)] at hg
    obtain ⟨y, hy', rfl⟩ := Option.map_eq_some_iff.1 hg
    rw [hdf]
    by_cases hiN : i < c.N0
    · have hqq := hcom.old i y hi0 hiN hy'
      rw [woken_quitsD hqq, if_pos hiN]
      exact hqq
    · rw [if_neg hiN]
      obtain ⟨i', rfl⟩ : ∃ i', i = c.N0 + i' := ⟨i - c.N0, by omega⟩
      have hi' : i' < c.n := by have := (Array.getElem?_eq_some_iff.1 hy').1; rw [hcom.size] at this; omega
      obtain ⟨z, hz, hs⟩ := hcom.wk i' hi'
      rw [hy'] at hz
      cases hz
      rw [show c.N0 + i' - c.N0 = i' by omega, hcom.deafW i' hi', hs.woken_quits (hq i' hi')]
      exact hs.quits (hq i' hi')
  · rw [hdf]
    rw [hsz, hcom.size] at hi
    exact Deaf_absent fun k op hk e => by have := hcom.pt.gs k op hk; omega
  · exact PT.finish (F := famOf c w (fun i => (X i).C) (fun i => (X i).u) σ c.n) (wg := stA c.Wg) (q := t.size) hpt hN0 hS rel (norel_app hcom.norel hur) (by rw [act?_of hy]) (by unfold Trace.g?; rw [hy]; rfl) ⟨0, by unfold Trace.g?; rw [hy]; rfl, by rw [deaf_old (Nat.le_refl _)]; exact hcom.deaf0⟩ (by rw [hdf]; exact hcom.deaf0)
      (hcom.over.app hcom.pt.size u)
  · intro i op hi
    rw [hsz, hcom.size]
    exact hpt.gs i op hi
  · obtain ⟨z, hz, hs⟩ := hcom.wk i hi
    exact hs.fin (by rw [hq i hi]; omega)

set_option maxHeartbeats 1600000 in
theorem stepCaller (K : c.Ok) (hS : ∀ l, Shun l → c.sh l)
    (hAn : ∀ lw g w, Anch lw g w → ∃ m, Goes P true (R0 c lw) (D0 c lw) (AtW1 P c lw (Anch lw) Fin) m g w)
    (ha : gs[0]? = some a) (hcs : CS P c Anch Fin tag j f0 d0 lw a w) (hcom : Com P c Shun T0 j lw gs w t D X σ q d0) (hwg : WgAt c.ty c.Wg w st sm) (hmode : ConcN.Mode j D tag st sm) (hrun : a.status = .running) :
    (∃ m₁ ops, runT P (crowd gs w sl) 0 = (.next m₁, ops) ∧ PhEnd P c Fin m₁ (t ++ ops)) ∨
    (∃ m₁ ops μ', runT P (crowd gs w sl) 0 = (.next m₁, ops) ∧ Lt3 μ' (Meas c j D X σ q tag f0) ∧ Inv P c Anch Fin Shun T0 μ' m₁ (t ++ ops)) := by
  have hVj := Vc_le j D
  have hn := K.hn
  cases hcs with
  | skd hr h =>
    rcases Goes.cases h with hstop | ⟨m', rfl, hstep⟩
    · obtain ⟨_, a', hgo, m₂, hk⟩ := hstop w (R0.refl w)
      exact .inr (bookC K ha hcom hwg hgo (.refl c.Wg w) hwg ConcN.bk_dis (.sa1 hr hk) (hmode.reopen trivial trivial rfl (by simp)) (.inl (by simp only [phi]; omega)))
    · obtain ⟨a', w', es, hgo, hD, hg'⟩ := hstep w (R0.refl w)
      exact .inr (idleC K ha hcom hwg hmode hgo hD (.skd hr hg') (by omega))
  | sa1 hr h =>
    rename_i r
    rcases Goes.cases h with hstop | ⟨m', rfl, hstep⟩
    · obtain ⟨_, hall⟩ := hstop w (R0.refl w)
      obtain ⟨ho, rfl, rfl, _⟩ := hmode.open_inv trivial
      obtain ⟨a', hgo, m₂, hk⟩ := hall (Vc (c.n - (r + 1)) D) (by omega) (by simpa [pend] using hwg)
      refine .inr (bookC K ha hcom hwg hgo (aside_setCell w (stA c.Wg) _) (hwg.setSt _) ConcN.bk_rw (.ske hr hk) ?_ (.inl (by simp only [phi]; omega)))
      have e : (((Vc (c.n - (r + 1)) D : Nat) : Int) + 1) * KK = ((Vc (c.n - (r + 1)) D + pend (.sp r 3) : Nat) : Int) * KK := by simp [pend]
      rw [e]
      exact .opn trivial ho (by simp)
    · obtain ⟨a', w', es, hgo, hD, hg'⟩ := hstep w (R0.refl w)
      exact .inr (idleC K ha hcom hwg hmode hgo hD (.sa1 hr hg') (by omega))
  | ske hr h =>
    rcases Goes.cases h with hstop | ⟨m', rfl, hstep⟩
    · obtain ⟨_, a', hgo, m₂, hk⟩ := hstop w (R0.refl w)
      exact .inr (bookC K ha hcom hwg hgo (.refl c.Wg w) hwg ConcN.bk_en (.sgo hr hk) (hmode.reopen trivial trivial rfl (by simp)) (.inl (by simp only [phi]; omega)))
    · obtain ⟨a', w', es, hgo, hD, hg'⟩ := hstep w (R0.refl w)
      exact .inr (idleC K ha hcom hwg hmode hgo hD (.ske hr hg') (by omega))
  | sgo hr h =>
    rename_i r
    rcases Goes.cases h with hstop | ⟨m', rfl, hstep⟩
    · obtain ⟨_, a', child, C, hsp, hcr, hlw, hH, hsoft, hall, hnext⟩ := hstop w (R0.refl w)
      obtain ⟨jj, hjj⟩ : ∃ jj, jj = c.n - (r + 1) := ⟨_, rfl⟩
      rw [← hjj] at hcom hmode hall hVj ⊢
      obtain ⟨m₂, hk⟩ := hall (c.mu σ (fun i => (X i).u) jj + 1)
      obtain ⟨ho, rfl, rfl, _⟩ := hmode.open_inv trivial
      have hrun' := runT_crowd_spawn (P := P) (sl := sl) (i := 0) ha (by simpa using hsp)
      rw [hcom.size] at hrun'
      have hcom' := hcom.spawn (a' := a') K (by omega) (x := { g := 0, fn := a.frame.fn, pos := a.frame.place, act := .go (c.N0 + jj) }) (y := { g := c.N0 + jj, fn := child.frame.fn, pos := a.frame.place, act := .start }) ⟨rfl, rfl⟩ ⟨rfl, rfl⟩ hlw hH hsoft (by have := WS.work hk; rwa [K.init_dn] at this)
      have eV : Vc (jj + 1) (upd D jj ⟨7, m₂, 0⟩) = Vc jj D + 1 := by
        simp only [Vc, sumTo, upd_same]
        rw [sumTo_upd_out D _ cnt (Nat.le_refl _)]; rfl
      have eS : Ssum (jj + 1) (upd D jj ⟨7, m₂, 0⟩) = Ssum jj D + 7 := by
        simp only [Ssum, sumTo, upd_same]
        rw [sumTo_upd_out D _ WD.stage (Nat.le_refl _)]
      have ho' : OpenSt (jj + 1) (upd D jj ⟨7, m₂, 0⟩) := fun i hi => by
        by_cases e : i = jj
        · subst e; rw [upd_same]; simp
        · rw [upd_ne D _ e]; exact ho i (by omega)
      have ha' : ((gs.setIfInBounds 0 a').push child)[0]? = some a' := by
        have h0 : 0 < gs.size := (Array.getElem?_eq_some_iff.1 ha).1
        rw [Array.getElem?_push_lt (by simpa using h0), ← Array.getElem?_eq_getElem]
        simp [h0]
      have est : ∀ tag', pend tag' = 0 → ((Vc jj D + pend (.sp r 2) : Nat) : Int) * KK = ((Vc (jj + 1) (upd D jj ⟨7, m₂, 0⟩) + pend tag' : Nat) : Int) * KK := fun tag' hp => by rw [eV, hp]; simp [pend]
      cases r with
      | zero =>
        obtain ⟨m₃, hk⟩ := hnext
        have ej : jj + 1 = c.n := by omega
        rw [ej] at hcom' eV eS ho' est
        refine .inr ⟨_, _, Meas c c.n (upd D jj ⟨7, m₂, 0⟩) (upd X jj ⟨C, c.init jj, c.mu σ (fun i => (X i).u) jj, true, false⟩) σ q .kd m₃, hrun', ?_, _, w, sl, c.n, _, _, σ, q, .kd, m₃, 0, w.heap.size, a', _, _, rfl, ha', .kd hk, hcom', hwg, ?_, rfl⟩
        · simp only [Meas]
          exact Prod.Lex.left _ _ (by simp only [phi]; omega)
        · rw [est .kd rfl]
          exact .opn trivial ho' (by simp)
      | succ r' =>
        obtain ⟨m₃, hk⟩ := hnext
        have ej : jj + 1 = c.n - (r' + 1) := by omega
        rw [ej] at hcom' eV eS ho' est
        refine .inr ⟨_, _, Meas c (c.n - (r' + 1)) (upd D jj ⟨7, m₂, 0⟩) (upd X jj ⟨C, c.init jj, c.mu σ (fun i => (X i).u) jj, true, false⟩) σ q (.sp r' 5) m₃, hrun', ?_, _, w, sl, c.n - (r' + 1), _, _, σ, q, .sp r' 5, m₃, 0, w.heap.size, a', _, _, rfl, ha', .skd (by omega) hk, hcom', hwg, ?_, rfl⟩
        · simp only [Meas]
          exact Prod.Lex.left _ _ (by simp only [phi]; omega)
        · rw [est (.sp r' 5) rfl]
          exact .opn trivial ho' (by simp)
    · obtain ⟨a', w', es, hgo, hD, hg'⟩ := hstep w (R0.refl w)
      exact .inr (idleC K ha hcom hwg hmode hgo hD (.sgo hr hg') (by omega))
  | kd h =>
    rcases Goes.cases h with hstop | ⟨m', rfl, hstep⟩
    · obtain ⟨_, a', hgo, m₂, hk⟩ := hstop w (R0.refl w)
      exact .inr (bookC K ha hcom hwg hgo (.refl c.Wg w) hwg ConcN.bk_dis (.anch hk) (hmode.reopen trivial trivial rfl (by simp)) (.inl (by simp only [phi]; omega)))
    · obtain ⟨a', w', es, hgo, hD, hg'⟩ := hstep w (R0.refl w)
      exact .inr (idleC K ha hcom hwg hmode hgo hD (.kd hg') (by omega))
  | anch h =>
    rcases Goes.cases h with hstop | ⟨m', rfl, hstep⟩
    · obtain ⟨m₂, hk⟩ := hAn lw a w (hstop w (R0.refl w))
      obtain ⟨m₁, ops, μ', h1, h2, h3⟩ := w1Step (sl := sl) K ha hcom hwg (hmode.reopen trivial trivial rfl (by simp)) hk
      exact .inr ⟨m₁, ops, μ', h1, lt3_trans h2 (Prod.Lex.left _ _ (by simp only [phi]; omega)), h3⟩
    · obtain ⟨a', w', es, hgo, hD, hg'⟩ := hstep w (R0.refl w)
      exact .inr (idleC K ha hcom hwg hmode hgo hD (.anch hg') (by omega))
  | w1 h => exact .inr (w1Step K ha hcom hwg hmode h)
  | w2 h =>
    rename_i vs
    rcases Goes.cases h with hstop | ⟨m', rfl, hstep⟩
    · obtain ⟨_, hall⟩ := hstop w (R0.refl w)
      obtain ⟨ho, rfl, rfl, hw2⟩ := hmode.open_inv trivial
      obtain ⟨hle, h1⟩ := hw2 vs rfl
      obtain ⟨hhit, hmiss⟩ := hall (Vc c.n D) (by omega) (by simpa [pend] using hwg)
      by_cases e : Vc c.n D = vs
      · obtain ⟨a', hgo, m₂, hk⟩ := hhit e
        exact .inr (bookC K ha hcom hwg hgo (aside_setCell w (stA c.Wg) _) (hwg.setSt _) ConcN.bk_rw (.w3 hk) (.reg trivial ho (by omega)) (.inl (by simp only [phi]; omega)))
      · obtain ⟨a', hgo, m₂, hk⟩ := hmiss e
        exact .inr (bookC K ha hcom hwg hgo (.refl c.Wg w) hwg ConcN.bk_rd (.anch hk) (hmode.reopen trivial trivial rfl (by simp)) (.inl (by simp only [phi]; omega)))
    · obtain ⟨a', w', es, hgo, hD, hg'⟩ := hstep w (R0.refl w)
      exact .inr (idleC K ha hcom hwg hmode hgo hD (.w2 hg') (by omega))
  | w3 h =>
    rcases Goes.cases h with hstop | ⟨m', rfl, hstep⟩
    · obtain ⟨_, hoff, hblk, htake⟩ := hstop w (R0.refl w)
      cases hmode with
      | opn h1 _ _ => exact h1.elim
      | reg h1 h2 h3 => exact .inr (bookC K ha hcom hwg (hblk ⟨_, hwg⟩) (.refl c.Wg w) hwg (by simp) (.blk hstop) (.reg trivial h2 h3) (.inr ⟨rfl, by omega⟩))
      | last L h1 h2 h3 h4 => exact .inr (bookC K ha hcom hwg (hblk ⟨_, hwg⟩) (.refl c.Wg w) hwg (by simp) (.blk hstop) (.last L trivial h2 h3 h4) (.inr ⟨rfl, by omega⟩))
      | sema h2 =>
        obtain ⟨a', hgo, m₂, hk⟩ := htake hwg
        exact .inr (bookC K ha hcom hwg hgo (aside_setCell w (smA c.Wg) _) (hwg.setSm 0) ConcN.bk_sem (.w4 hk) (.fin trivial h2) (.inl (by simp only [phi]; omega)))
      | fin h1 _ => exact h1.elim
    · obtain ⟨a', w', es, hgo, hD, hg'⟩ := hstep w (R0.refl w)
      exact .inr (idleC K ha hcom hwg hmode hgo hD (.w3 hg') (by omega))
  | blk h => simp at hrun
  | w4 h =>
    rcases Goes.cases h with hstop | ⟨m', rfl, hstep⟩
    · obtain ⟨_, hx⟩ := hstop w (R0.refl w)
      obtain ⟨hq, rfl, rfl⟩ := hmode.fin_inv trivial
      obtain ⟨a', hgo, m₂, hk⟩ := hx hwg
      exact .inr (bookC K ha hcom hwg hgo (.refl c.Wg w) hwg ConcN.bk_rd (.ke hk) (.fin trivial hq) (.inl (by simp only [phi]; omega)))
    · obtain ⟨a', w', es, hgo, hD, hg'⟩ := hstep w (R0.refl w)
      exact .inr (idleC K ha hcom hwg hmode hgo hD (.w4 hg') (by omega))
  | ke h =>
    rcases Goes.cases h with hstop | ⟨m', rfl, hstep⟩
    · obtain ⟨_, a', hgo, m₂, hk⟩ := hstop w (R0.refl w)
      obtain ⟨hq, rfl, rfl⟩ := hmode.fin_inv trivial
      exact .inr (bookC K ha hcom hwg hgo (.refl c.Wg w) hwg ConcN.bk_en (.acq hk) (.fin trivial hq) (.inl (by simp only [phi]; omega)))
    · obtain ⟨a', w', es, hgo, hD, hg'⟩ := hstep w (R0.refl w)
      exact .inr (idleC K ha hcom hwg hmode hgo hD (.ke hg') (by omega))
  | acq h =>
    rcases Goes.cases h with hstop | ⟨m', rfl, hstep⟩
    · obtain ⟨hq, rfl, rfl⟩ := hmode.fin_inv trivial
      exact .inl (acqStep K hS ha hcom hwg hq (hstop w (R0.refl w)))
    · obtain ⟨a', w', es, hgo, hD, hg'⟩ := hstep w (R0.refl w)
      exact .inr (idleC K ha hcom hwg hmode hgo hD (.acq hg') (by omega))

/-- NO DEADLOCK -/
theorem ws_running {k C N s m d : Nat} {u : c.U} {b bl : Bool} {g : Goroutine} (h : WS P c k C u N b bl s m d g w) (hs : s ≠ 1) (hb : bl = false) : g.status = .running := by
  cases h with
  | work h => exact Goes.running (fun _ _ x => stopU_running x) w (RW.refl w) h
  | blkd hf h => cases hb
  | sit hf h => exact ConcN.WSit.running_of h hs
theorem someone_runs (K : c.Ok) (hAr : ∀ lw g w, Anch lw g w → g.status = .running) (ha : gs[0]? = some a) (hcs : CS P c Anch Fin tag j f0 d0 lw a w) (hcom : Com P c Shun T0 j lw gs w t D X σ q d0) (hmode : ConcN.Mode j D tag st sm) :
    ∃ (i : Nat) (g : Goroutine), gs[i]? = some g ∧ g.status = .running := by
  have one : ∀ i, i < j → (D i).stage ≠ 1 → ∃ (i : Nat) (g : Goroutine), gs[i]? = some g ∧ g.status = .running := fun i hi h1 => by
    obtain ⟨g, hg, hs⟩ := hcom.wk i hi
    rcases hs.status with ⟨hb, _⟩ | ⟨hb, _, _, hf⟩
    · exact ⟨_, g, hg, ws_running hs h1 hb⟩
    · obtain ⟨i', hi', hf', hb'⟩ := K.live σ _ j hcom.ju ⟨i, hi, hf⟩
      obtain ⟨g', hg', hs'⟩ := hcom.wk i' hi'
      refine ⟨_, g', hg', ws_running hs' (fun e => hf' (hs'.fin (by omega))) ?_⟩
      cases hbl : (X i').bl with
      | false => rfl
      | true => exact absurd (hcom.blks i' hi' hbl) hb'
  rcases hcs.status hAr with ⟨hs, _⟩ | ⟨_, rfl⟩
  · exact ⟨0, a, ha, hs⟩
  · cases hmode with
    | opn h1 _ _ => exact h1.elim
    | reg _ _ h3 =>
      obtain ⟨i, hi, h5⟩ := exists_counted h3
      exact one i hi (by omega)
    | last L _ h2 h3 _ => exact one L h2 (by omega)
    | fin h1 _ => exact h1.elim
theorem all_awake (hAr : ∀ lw g w, Anch lw g w → g.status = .running) (ha : gs[0]? = some a) (hcs : CS P c Anch Fin tag j f0 d0 lw a w) (hcom : Com P c Shun T0 j lw gs w t D X σ q d0) : ∀ g ∈ gs, awake g := by
  intro g hg
  obtain ⟨i, hi⟩ := Array.mem_iff_getElem?.1 hg
  by_cases h0 : i = 0
  · subst h0
    rw [ha] at hi; cases hi
    intro tm
    rcases hcs.status hAr with ⟨hs, _⟩ | ⟨hs, _⟩ <;> rw [hs] <;> simp
  · by_cases hN : i < c.N0
    · have hq := hcom.old i g (by omega) hN hi
      exact awake_of (hq.status.elim .inl fun x => .inr (.inr x))
    · obtain ⟨i', rfl⟩ : ∃ i', i = c.N0 + i' := ⟨i - c.N0, by omega⟩
      have hi' : i' < j := by have := (Array.getElem?_eq_some_iff.1 hi).1; rw [hcom.size] at this; omega
      obtain ⟨g', hg', hs⟩ := hcom.wk i' hi'
      rw [hi] at hg'; cases hg'
      exact awake_of (hs.status.elim (fun x => x.2.elim .inl fun x => .inr (.inr x)) fun x => .inr (.inl x.2.1))
end

section
variable {P : Program} {c : Cfg} {Anch : Nat → Goroutine → World → Prop} {Fin : Goroutine → World → Prop} {Shun : Loc → Prop} {T0 : Nat}
theorem phase_step (K : c.Ok) (hS : ∀ l, Shun l → c.sh l) (hAr : ∀ lw g w, Anch lw g w → g.status = .running)
    (hAn : ∀ lw g w, Anch lw g w → ∃ m, Goes P true (R0 c lw) (D0 c lw) (AtW1 P c lw (Anch lw) Fin) m g w) : ∀ μ m t, Inv P c Anch Fin Shun T0 μ m t →
    (∃ m' ops, stepT P m = (.next m', ops) ∧ PhEnd P c Fin m' (t ++ ops)) ∨ (∃ m' ops μ', stepT P m = (.next m', ops) ∧ Lt3 μ' μ ∧ Inv P c Anch Fin Shun T0 μ' m' (t ++ ops)) := by
  rintro μ m t ⟨gs, w, sl, j, D, X, σ, q, tag, f0, d0, lw, a, st, sm, rfl, ha, hcs, hcom, hwg, hmode, rfl⟩
  obtain ⟨i, g, d, sl', hg, hrun, hstep⟩ := crowd_pick (P := P) (w := w) (sl := sl) (all_awake hAr ha hcs hcom) (someone_runs K hAr ha hcs hcom hmode)
  rw [hstep]
  have hcs' := hcs.rely (R0.at K w d)
  have hcom' := hcom.at K ⟨_, _, hwg⟩ d
  have hwg' : WgAt c.ty c.Wg (w.at d) st sm := hwg
  by_cases h0 : i = 0
  · subst h0
    rw [ha] at hg; cases hg
    exact stepCaller (sl := sl') K hS hAn ha hcs' hcom' hwg' hmode hrun
  · by_cases hN : i < c.N0
    · exact .inr (stepLeaver K hAr ha hcs' hcom' hwg' hmode (by omega) hN hg hrun)
    · obtain ⟨i', rfl⟩ : ∃ i', i = c.N0 + i' := ⟨i - c.N0, by omega⟩
      have hi' : i' < j := by have := (Array.getElem?_eq_some_iff.1 hg).1; rw [hcom.size] at this; omega
      exact .inr (stepWorker K hAr ha hcs' hcom' hwg' hmode hi' hg hrun)

theorem phase_runs (K : c.Ok) (hS : ∀ l, Shun l → c.sh l) (hAr : ∀ lw g w, Anch lw g w → g.status = .running)
    (hAn : ∀ lw g w, Anch lw g w → ∃ m, Goes P true (R0 c lw) (D0 c lw) (AtW1 P c lw (Anch lw) Fin) m g w) : ∀ μ m t, Inv P c Anch Fin Shun T0 μ m t →
    ∃ N m' t', runNT P N m t = (.next m', t') ∧ PhEnd P c Fin m' t' := by
  intro μ
  induction μ using (Prod.lex Nat.lt_wfRel (Prod.lex Nat.lt_wfRel Nat.lt_wfRel)).wf.induction with
  | _ μ ih =>
    intro m t h
    rcases phase_step K hS hAr hAn μ m t h with ⟨m', ops, h1, h2⟩ | ⟨m', ops, μ', h1, h2, h3⟩
    · exact ⟨1, m', t ++ ops, by simp only [runNT, h1], h2⟩
    · obtain ⟨N, m'', t'', h4, h5⟩ := ih μ' h2 m' (t ++ ops) h3
      exact ⟨N + 1, m'', t'', by simp only [runNT, h1]; exact h4, h5⟩

/-- ████ A PHASE: from a frame to a frame ████ -/
theorem phase (K : c.Ok) (hS : ∀ l, Shun l → c.sh l) (hAr : ∀ lw g w, Anch lw g w → g.status = .running)
    (hAn : ∀ lw g w, Anch lw g w → ∃ m, Goes P true (R0 c lw) (D0 c lw) (AtW1 P c lw (Anch lw) Fin) m g w)
    {gs : Array Goroutine} {a : Goroutine} {w : World} {sl : Option (Nat × Nat)} {t : Trace} {q : Nat → Nat} {lw : Nat} {σ : c.S} {us : Nat → c.U}
    (ha : gs[0]? = some a) (hsz : gs.size = c.N0) (hL : Leavers P t gs q) (hP : Pst Shun t) (hH0 : c.H0 ≤ w.heap.size) (hg : ∀ (i : Nat) (op : MemOp), t[i]? = some op → op.g < gs.size)
    (hsp : Spawns P c Anch c.n lw a w) (hlw : lw ≤ w.heap.size) (hwg : WgAt c.ty c.Wg w 0 0) (hrep : c.Rep σ w) (hju : c.JU σ us 0) :
    ∃ N m' t', runNT P N (crowd gs w sl) t = (.next m', t') ∧ PhEnd P c Fin m' t' := by
  have hcom : Com P c Shun t.size 0 lw gs w t (fun _ => ⟨0, 0, 0⟩) (fun i => ⟨0, us i, 0, false, false⟩) σ q 0 :=
    ⟨hsz, fun i hi => by omega, fun i g h0 hN hg' => hL.old i g h0 hg', PT.start hP hS (fun l => K.pub0 σ _ l hju) (fun i op hi => by have := hg i op hi; omega), fun i hi => by
      intro e
      obtain ⟨op, ho, _⟩ := Option.map_eq_some_iff.1 e
      have := lt_size_of_getElem? ho; omega, hP.hears, fun i hi => by omega, fun i hi => by omega, fun i hi => by omega, fun i i' hi => by omega, fun i hi => by omega, fun i hi => by omega, hrep, hju, hH0, hlw, fun i g hi hgi hne hc => hP.over i g hgi hne hc⟩
  have hmode : ∀ tag, isOpen tag → pend tag = 0 → (∀ vs, tag ≠ .w2 vs) → ConcN.Mode 0 (fun _ => (⟨0, 0, 0⟩ : WD)) tag 0 0 := fun tag h1 h2 h3 => by
    have := ConcN.Mode.opn (j := 0) (D := fun _ => (⟨0, 0, 0⟩ : WD)) h1 (fun i hi => by omega) (fun vs e => absurd e (h3 vs))
    simpa [Vc, sumTo, h2] using this
  have hInv : ∃ μ, Inv P c Anch Fin Shun t.size μ (crowd gs w sl) t := by
    cases hn : c.n with
    | zero =>
      rw [hn] at hsp
      obtain ⟨m, hk⟩ := hsp
      have hc := CS.kd (Fin := Fin) hk
      rw [hn] at hc
      exact ⟨_, gs, w, sl, 0, _, _, σ, q, .kd, m, 0, lw, a, 0, 0, rfl, ha, hc, hcom, hwg, hmode .kd trivial rfl (by simp), rfl⟩
    | succ r =>
      rw [hn] at hsp
      obtain ⟨m, hk⟩ := hsp
      have hc := CS.skd (Fin := Fin) (P := P) (c := c) (Anch := Anch) (r := r) (by omega) hk
      rw [show c.n - (r + 1) = 0 by omega] at hc
      exact ⟨_, gs, w, sl, 0, _, _, σ, q, .sp r 5, m, 0, lw, a, 0, 0, rfl, ha, hc, hcom, hwg, hmode (.sp r 5) trivial rfl (by simp), rfl⟩
  obtain ⟨μ, hI⟩ := hInv
  exact phase_runs K hS hAr hAn μ _ _ hI
end
end Go.Proofs.Ytinghnaigpenkaa

end
section
/- Between two phases: goroutine 0 goes on beside those that only leave; and to the return. -/
namespace Go.Proofs.Ytinghnaigpenkaa
open Go.Conc
open Go.ConcN (sumTo upd sumTo_upd upd_same upd_ne get_map_set get_map_set_same)
open Go.ConcR (g_of_ofEvents Payload)
set_option linter.unusedVariables false
set_option linter.unusedSimpArgs false
set_option linter.unusedSectionVars false

/-- what a step may list between two phases -/
def EvP (Shun : Loc → Prop) (e : Event) : Prop := (∀ x, (MemAct.ofEvent e).touch? = some x → Shun x.loc → x.kind ≠ .plain) ∧ e.loc ≠ .mark .disable ∧ e.loc ≠ .mark .enable
def DP0 (Shun : Loc → Prop) (w w' : World) (es : Array Event) : Prop := ∀ e ∈ es, EvP Shun e

section
variable {Shun : Loc → Prop} {t u : Trace}
/-- goroutine 0's step, whatever it marks -/
theorem PstD.ownM {d d' : Nat} (h : PstD d Shun t) {fn : FuncId} {pos : String} {es : Array Event} (hes : ∀ e ∈ es, ∀ x, (MemAct.ofEvent e).touch? = some x → Shun x.loc → x.kind ≠ .plain) (hd : deafBehind d es = d') : PstD d' Shun (t ++ MemOp.ofEvents 0 fn pos es) := by
  refine ⟨fun said => noRace_append (h.clean said) g_of_ofEvents fun i a ha op hop b hb hc => ?_, fun i a ha hm => ?_, handedOver_app h.over fun op hop => .inl (g_of_ofEvents op hop), ?_⟩
  · rcases h.known i a ha hc.2.1 with h1 | ⟨h1, h2⟩
    · exact h1
    · obtain ⟨e, he, rfl⟩ := Go.Conc.mem_ofEvents hop
      have hkb := hes e he b hb (hc.1 ▸ h1)
      obtain ⟨_, _, _, hcase⟩ := hc
      rw [h2] at hcase
      rcases hcase with x | x | ⟨_, x, _⟩
      · cases x
      · exact absurd x hkb
      · cases x
  · rcases touch_app ha with h1 | ⟨op, hop, hi, hx⟩
    · exact (h.known i a h1 hm).imp (·.app _) id
    · exact .inl (knows_said (by unfold Trace.g?; rw [hi]; exact congrArg some (g_of_ofEvents op hop)))
  · rw [Deaf_own, h.hears]
    exact hd
theorem PstD.own {d : Nat} (h : PstD d Shun t) {fn : FuncId} {pos : String} {es : Array Event} (hes : ∀ e ∈ es, EvP Shun e) : PstD d Shun (t ++ MemOp.ofEvents 0 fn pos es) :=
  h.ownM (fun e he => (hes e he).1) (deafBehind_still (fun e he => ⟨(hes e he).2.1, (hes e he).2.2⟩) _)
theorem PstD.mute {d : Nat} (h : PstD d Shun t) {g : Nat} (hg : g ≠ 0) {fn : FuncId} {pos : String} {es : Array Event} (hm : ∀ e ∈ es, e.mute = true) : PstD d Shun (t ++ MemOp.ofEvents g fn pos es) := by
  have hn : ∀ op ∈ MemOp.ofEvents g fn pos es, op.act.touch? = none := fun op hop => by obtain ⟨e, he, rfl⟩ := Go.Conc.mem_ofEvents hop; exact touch_mute (hm e he)
  refine ⟨fun said => noRace_append (h.clean said) g_of_ofEvents fun i a ha op hop b hb hc => (by rw [hn op hop] at hb; cases hb), fun i a ha hm' => ?_, handedOver_app h.over fun op hop => .inr (hn op hop), (Deaf_other t hg _ g_of_ofEvents).trans h.hears⟩
  rcases touch_app ha with h1 | ⟨op, hop, hi, hx⟩
  · exact (h.known i a h1 hm').imp (·.app _) id
  · rw [hn op hop] at hx; cases hx
theorem PstD.sub {d : Nat} {S' : Loc → Prop} (h : PstD d Shun t) (hs : ∀ l, Shun l → S' l) : PstD d S' t := ⟨h.clean, fun i a ha hm => (h.known i a ha hm).imp id fun x => ⟨hs _ x.1, x.2⟩, h.over, h.hears⟩
theorem pst_nil : Pst (fun _ => False) #[] := ⟨past_nil.clean, past_nil.known, past_nil.over, past_nil.hears⟩
end

/-- what is held between two phases -/
structure FrmD (dd : Nat) (P : Program) (Shun : Loc → Prop) (gs : Array Goroutine) (t : Trace) (q : Nat → Nat) : Prop where
  L : Leavers P t gs q
  S : PstD dd Shun t
  B : ∀ (i : Nat) (op : MemOp), t[i]? = some op → op.g < gs.size
abbrev Frm := FrmD 0
theorem frm_one (P : Program) (a : Goroutine) : Frm P (fun _ => False) #[a] #[] (fun _ => 0) := ⟨leavers_one P a, pst_nil, fun i op h => by simp at h⟩

section
variable {P : Program} {Shun : Loc → Prop} {gs : Array Goroutine} {a a' g g' : Goroutine} {w w' : World} {sl : Option (Nat × Nat)} {t : Trace} {q : Nat → Nat} {es : Array Event}
theorem FrmD.step0M {dd d' : Nat} (h : FrmD dd P Shun gs t q) (h0 : gs[0]? = some a) (hes : ∀ e ∈ es, ∀ x, (MemAct.ofEvent e).touch? = some x → Shun x.loc → x.kind ≠ .plain) (hd : deafBehind dd es = d') :
    FrmD d' P Shun ((gs.map (woken P a a' w')).setIfInBounds 0 a') (t ++ MemOp.ofEvents 0 a.frame.fn a.frame.place es) q := by
  refine ⟨⟨fun j x hj hx => ?_, fun j hj => ?_⟩, h.S.ownM hes hd, fun i op hi => ?_⟩
  · rw [get_map_set _ _ _ _ (by omega)] at hx
    obtain ⟨y, hy, rfl⟩ := Option.map_eq_some_iff.1 hx
    have hq := h.L.old j y hj hy
    rw [woken_quitsD hq, Deaf_other t (by omega) _ g_of_ofEvents]
    exact hq
  · have hs : gs.size ≤ j := by simpa using hj
    have : 0 < gs.size := (Array.getElem?_eq_some_iff.1 h0).1
    rw [Deaf_other t (by omega) _ g_of_ofEvents]
    exact h.L.above j hs
  · have h0' : 0 < gs.size := (Array.getElem?_eq_some_iff.1 h0).1
    rcases getElem?_append_cases hi with ⟨_, hi'⟩ | ⟨_, hiu⟩
    · simpa using h.B i op hi'
    · rw [g_of_ofEvents op hiu]; simpa using h0'
theorem FrmD.step0 {dd : Nat} (h : FrmD dd P Shun gs t q) (h0 : gs[0]? = some a) (hes : ∀ e ∈ es, EvP Shun e) :
    FrmD dd P Shun ((gs.map (woken P a a' w')).setIfInBounds 0 a') (t ++ MemOp.ofEvents 0 a.frame.fn a.frame.place es) q :=
  h.step0M h0 (fun e he => (hes e he).1) (deafBehind_still (fun e he => ⟨(hes e he).2.1, (hes e he).2.2⟩) _)
theorem FrmD.stepL {dd : Nat} (h : FrmD dd P Shun gs t q) {i k : Nat} (hi0 : 0 < i) (hg : gs[i]? = some g) (hqi : q i = k + 1) (hm : ∀ e ∈ es, e.mute = true) (hq' : QuitsD P k (deafBehind (Deaf t i) es) g') :
    FrmD dd P Shun ((gs.map (woken P g g' w')).setIfInBounds i g') (t ++ MemOp.ofEvents i g.frame.fn g.frame.place es) (upd q i k) := by
  have hlt : i < gs.size := (Array.getElem?_eq_some_iff.1 hg).1
  refine ⟨⟨fun j x hj hx => ?_, fun j hj => ?_⟩, h.S.mute (by omega) hm, fun i' op hi => ?_⟩
  · by_cases e : j = i
    · subst e
      rw [get_map_set_same _ _ _ hlt] at hx
      obtain rfl := Option.some.inj hx
      rw [upd_same, Deaf_own]
      exact hq'
    · rw [get_map_set _ _ _ _ (Ne.symm e)] at hx
      obtain ⟨y, hy, rfl⟩ := Option.map_eq_some_iff.1 hx
      have hqj := h.L.old j y hj hy
      rw [woken_quitsD hqj, upd_ne q k e, Deaf_other t (fun h => e h.symm) _ g_of_ofEvents]
      exact hqj
  · have hs : gs.size ≤ j := by simpa using hj
    rw [Deaf_other t (by omega) _ g_of_ofEvents]
    exact h.L.above j hs
  · rcases getElem?_append_cases hi with ⟨_, hi'⟩ | ⟨_, hiu⟩
    · simpa using h.B i' op hi'
    · rw [g_of_ofEvents op hiu]; simpa using hlt
theorem FrmD.awake {dd : Nat} (h : FrmD dd P Shun gs t q) (h0 : gs[0]? = some a) (hr : a.status = .running) : ∀ g ∈ gs, awake g := by
  intro g hg
  obtain ⟨i, hi⟩ := Array.mem_iff_getElem?.1 hg
  by_cases e : i = 0
  · subst e; rw [h0] at hi; cases hi; exact awake_of (.inl hr)
  · exact awake_of ((h.L.old i g (by omega) hi).status.elim .inl fun x => .inr (.inr x))

variable {D : World → World → Array Event → Prop} {Stop : Goroutine → World → Prop}
/-- the machine's step: goroutine 0's, or a leaver's -/
theorem seg_pick {dd : Nat} (h : FrmD dd P Shun gs t q) (h0 : gs[0]? = some a) (hr : a.status = .running) :
    (∃ d sl', stepT P (crowd gs w sl) = runT P (crowd gs (w.at d) sl') 0) ∨
    (∃ i g k g' es d sl', 0 < i ∧ gs[i]? = some g ∧ q i = k + 1 ∧ (∀ e ∈ es, e.mute = true) ∧ QuitsD P k (deafBehind (Deaf t i) es) g' ∧
      stepT P (crowd gs w sl) = (.next (crowd ((gs.map (woken P g g' (w.at d))).setIfInBounds i g') (w.at d) sl'), MemOp.ofEvents i g.frame.fn g.frame.place es)) := by
  obtain ⟨i, g, d, sl', hi, hg, hst⟩ := crowd_pick (P := P) (w := w) (sl := sl) (h.awake h0 hr) ⟨0, a, h0, hr⟩
  by_cases e : i = 0
  · subst e; exact .inl ⟨d, sl', hst⟩
  · have hq := h.L.old i g (by omega) hi
    cases hqi : q i with
    | zero => rw [hqi] at hq; rw [hq.1] at hg; cases hg
    | succ k =>
      rw [hqi] at hq
      rcases hq with ⟨hf, _⟩ | ⟨_, g', es, hm, hstp, hq'⟩
      · rw [hf] at hg; cases hg
      · have hi0 : (i == 0) = false := by simpa using e
        exact .inr ⟨i, g, k, g', es, d, sl', by omega, hi, hqi, hm, hq', hst.trans (runT_crowd_go (P := P) (sl := sl') (i := i) hi (by rw [hi0]; exact hstp (w.at d)))⟩

/-- goroutine 0 stands at the step that ends the run -/
def AtEndP (P : Program) (Shun : Loc → Prop) (Post : Value → World → Prop) (g : Goroutine) (w : World) : Prop :=
  g.status = .running ∧ ∃ v es, stepG P true g w = .ended (.done v) w es ∧ (∀ e ∈ es, EvP Shun e) ∧ Post v w
variable {Post : Value → World → Prop}
def SInv (P : Program) (Shun : Loc → Prop) (D : World → World → Array Event → Prop) (Post : Value → World → Prop) (μ : Nat) (m : Machine) (t : Trace) : Prop :=
  ∃ (gs : Array Goroutine) (a : Goroutine) (w : World) (sl : Option (Nat × Nat)) (q : Nat → Nat) (n : Nat), m = crowd gs w sl ∧ gs[0]? = some a ∧ Frm P Shun gs t q ∧ Goes P true AtRel D (AtEndP P Shun Post) n a w ∧ μ = n + sumTo gs.size q
theorem seg_end_step (hD : ∀ w w' es, D w w' es → ∀ e ∈ es, EvP Shun e) (μ : Nat) (m : Machine) (t : Trace) (h : SInv P Shun D Post μ m t) :
    (∃ o w ops, stepT P m = (.ended o w, ops) ∧ Good P Post m o w (t ++ ops)) ∨ (∃ m' ops μ', stepT P m = (.next m', ops) ∧ μ' < μ ∧ SInv P Shun D Post μ' m' (t ++ ops)) := by
  obtain ⟨gs, a, w, sl, q, n, rfl, h0, hF, hG, rfl⟩ := h
  have hr : a.status = .running := hG.running (fun _ _ x => x.1) w (atRel_refl w)
  rcases seg_pick (w := w) (sl := sl) hF h0 hr with ⟨d, sl', hst⟩ | ⟨i, g, k, g', es, d, sl', hi0, hgi, hqi, hm, hq', hst⟩
  · rcases Goes.cases hG with hstop | ⟨m', rfl, hstep⟩
    · obtain ⟨_, v, es, hend, hes, hpost⟩ := hstop (w.at d) ⟨d, rfl⟩
      have hrunT := runT_many_ended (P := P) (sl := sl') (i := 0) h0 (by simpa using hend)
      have hP' := hF.S.own (fn := a.frame.fn) (pos := a.frame.place) hes
      refine .inl ⟨_, _, _, hst.trans hrunT, v, rfl, hpost, hP'.clean, hP'.over, ⟨fun x hx => ?_, rfl⟩, fun j x hx hj => ?_⟩
      · obtain ⟨j, hj⟩ := List.mem_iff_getElem?.1 hx
        rw [List.getElem?_drop] at hj
        exact ⟨_, (hF.L.old (1 + j) x (by omega) (by simpa [crowd] using hj)).leaves⟩
      · have hq := hF.L.old j x (by omega) hx
        refine ⟨q j, ?_⟩
        have e := Deaf_other t (g := j) (g' := 0) (by omega) _ (g_of_ofEvents (fn := a.frame.fn) (pos := a.frame.place) (es := es))
        have e2 : (t ++ MemOp.ofEvents 0 a.frame.fn a.frame.place es).deaf j (t ++ MemOp.ofEvents 0 a.frame.fn a.frame.place es).size = Deaf t j := e
        rw [e2]
        exact hq.hears _
    · obtain ⟨a', w', es, hgo, hd, hG'⟩ := hstep (w.at d) ⟨d, rfl⟩
      have hrun := runT_crowd_go (P := P) (sl := sl') (i := 0) h0 (by simpa using hgo)
      have h0' : 0 < gs.size := (Array.getElem?_eq_some_iff.1 h0).1
      exact .inr ⟨_, _, m' + sumTo gs.size q, hst.trans hrun, by omega, _, a', w', sl', q, m', rfl, by simp [h0'], hF.step0 (a' := a') (w' := w') h0 (hD _ _ _ hd), hG', by simp⟩
  · have hlt : i < gs.size := (Array.getElem?_eq_some_iff.1 hgi).1
    have hsum : sumTo gs.size (upd q i k) + (k + 1) = sumTo gs.size q + k := by
      have := sumTo_upd q k id hlt
      simpa [hqi] using this
    exact .inr ⟨_, _, n + sumTo gs.size (upd q i k), hst, by omega, _, a, w.at d, sl', upd q i k, n, rfl, by rw [get_map_set _ _ _ _ (by omega), h0]; simp [woken_run hr], hF.stepL (w' := w.at d) hi0 hgi hqi hm hq', Goes.rely atRel_trans hG ⟨d, rfl⟩, by simp⟩
/-- ████ THE LAST SEGMENT ████ -/
theorem seg_end (hD : ∀ w w' es, D w w' es → ∀ e ∈ es, EvP Shun e) {n : Nat} (h0 : gs[0]? = some a) (hF : Frm P Shun gs t q) (hG : Goes P true AtRel D (AtEndP P Shun Post) n a w) :
    ∃ N last o w' t', runNT P (N + 1) (crowd gs w sl) t = (.ended o w', t') ∧ runN P N (crowd gs w sl) = .next last ∧ step P last = .ended o w' ∧ Good P Post last o w' t' :=
  run_of_inv Nat.lt_wfRel.wf (SInv P Shun D Post) (Good P Post) (seg_end_step hD) _ _ _ ⟨gs, a, w, sl, q, n, rfl, h0, hF, hG, rfl⟩
/-- several runs, one behind the other -/
theorem good_after {N1 : Nat} {m m' : Machine} {t1 : Trace} (h1 : runNT P N1 m t = (.next m', t1))
    (h2 : ∃ N last o w' t', runNT P (N + 1) m' t1 = (.ended o w', t') ∧ runN P N m' = .next last ∧ step P last = .ended o w' ∧ Good P Post last o w' t') :
    ∃ N last o w' t', runNT P (N + 1) m t = (.ended o w', t') ∧ runN P N m = .next last ∧ step P last = .ended o w' ∧ Good P Post last o w' t' := by
  obtain ⟨N, last, o, w', t', e1, e2, e3, e4⟩ := h2
  refine ⟨N1 + N, last, o, w', t', ?_, ?_, e3, e4⟩
  · rw [Nat.add_assoc, runNT_add, h1]; exact e1
  · rw [runN_add, ← runNT_fst P _ _ t, h1]; exact e2
end
end Go.Proofs.Ytinghnaigpenkaa

end
