/- A phase: the starter's steps; from the first to the last. -/
import Derived.Test.YtinghnaigpenkaaPhE
namespace Go.Proofs.Ytinghnaigpenkaa
open Go.Conc
open Go.ConcN (CTag phi isOpen isW3 isFin pend WD Vc Ssum Fsum cnt OpenSt AllQuit RelBy sumTo upd sumTo_upd upd_same upd_ne sumTo_congr sumTo_upd_out le_sumTo get_map_set get_map_set_same Deaf_absent phi_mono Vc_upd Vc_le others_uncounted bk_cell deafBehind_idle allQuit_of exists_counted)
open Go.ConcR (KK wgBlock WgAt stA smA rd wr mk Payload DC0 Bk g_of_ofEvents again_blocked bk_of_mute ofEvent_mk loc_of_ofEvent ofEvent_loc_mark ofEvent_cell)
set_option linter.unusedVariables false
set_option linter.unusedSimpArgs false
set_option linter.unusedSectionVars false
variable [Payload]

theorem lt3_trans {a b c : Nat × Nat × Nat} (h : Lt3 a b) (h' : Lt3 b c) : Lt3 a c := by
  obtain ⟨a1, a2, a3⟩ := a
  obtain ⟨b1, b2, b3⟩ := b
  obtain ⟨c1, c2, c3⟩ := c
  rcases Prod.lex_def.1 h with h | ⟨h1, h2⟩ <;> rcases Prod.lex_def.1 h' with k | ⟨k1, k2⟩ <;> simp only at *
  · exact Prod.Lex.left _ _ (by omega)
  · exact Prod.Lex.left _ _ (by omega)
  · exact Prod.Lex.left _ _ (by omega)
  · subst h1; subst k1
    refine Prod.Lex.right _ ?_
    rcases Prod.lex_def.1 h2 with h | ⟨h1, h2⟩ <;> rcases Prod.lex_def.1 k2 with k | ⟨k1, k2⟩ <;> simp only at *
    · exact Prod.Lex.left _ _ (by omega)
    · exact Prod.Lex.left _ _ (by omega)
    · exact Prod.Lex.left _ _ (by omega)
    · subst h1; subst k1; exact Prod.Lex.right _ (by omega)

/-- BEHIND THE PHASE -/
def PhEnd (P : Program) (c : Cfg) (Fin : Goroutine → World → Prop) (m : Machine) (t : Trace) : Prop :=
  ∃ (gs : Array Goroutine) (w : World) (sl : Option (Nat × Nat)) (a : Goroutine) (q : Nat → Nat) (σ : c.S) (us : Nat → c.U),
    m = crowd gs w sl ∧ gs[0]? = some a ∧ gs.size = c.N0 + c.n ∧ a.status = .running ∧ Fin a w ∧ Leavers P t gs q ∧ Pst c.sh t ∧ c.H0 ≤ w.heap.size ∧ (∀ (i : Nat) (op : MemOp), t[i]? = some op → op.g < gs.size) ∧
      WgAt c.ty c.Wg w 0 0 ∧ c.Rep σ w ∧ c.JU σ us c.n ∧ ∀ i, i < c.n → c.fin (us i)

section
variable {P : Program} {c : Cfg} {Anch : Nat → Goroutine → World → Prop} {Fin : Goroutine → World → Prop} {Shun : Loc → Prop} {T0 : Nat}
  {gs : Array Goroutine} {w w' : World} {sl : Option (Nat × Nat)} {j lw : Nat} {D : Nat → WD} {X : Nat → WX c.U} {σ σ' : c.S} {q : Nat → Nat} {tag tag' : CTag} {f0 f' d0 : Nat} {a a' : Goroutine} {t : Trace} {st sm st' sm' : Int} {es : Array Event}

theorem idleC (K : c.Ok) (ha : gs[0]? = some a) (hcom : Com P c Shun T0 j lw gs w t D X σ q d0) (hwg : WgAt c.ty c.Wg w st sm) (hmode : ConcN.Mode j D tag st sm)
    (hgo : stepG P true a w = .go a' w' es) (hD : D0 c lw w w' es) (hcs' : CS P c Anch Fin tag j f' d0 lw a' w') (hf : f' < f0) :
    ∃ m₁ ops μ', runT P (crowd gs w sl) 0 = (.next m₁, ops) ∧ Lt3 μ' (Meas c j D X σ q tag f0) ∧ Inv P c Anch Fin Shun T0 μ' m₁ (t ++ ops) := by
  have hl : Live c.ty c.Wg w := ⟨_, _, hwg⟩
  have hdf : deafBehind d0 es = d0 := deafBehind_idle (fun e he => ⟨(hD.ev e he).2.1, (hD.ev e he).2.2.1⟩) d0
  exact callerStep K ha hcom hl hgo (Turn.d0 K hD) (fun b hb => hb.1) (okS_of_EvS (fun i hi => (hcom.box i hi).2.1) hD.ev) (fun e he => (hD.ev e he).2.2.2)
    (K.rep_same σ w w' hcom.rep (fun b hb => hD.old b (K.sb_lt σ w b hcom.rep hb) (.inr (.inl (K.sb_hard σ w b hcom.rep hb))))) (by rw [hdf]; exact hcs') (hwg.of_block (hD.old _ hl.lt (.inr (.inl hl.hard)))) hmode (.inr ⟨rfl, hf⟩)

theorem bookC (K : c.Ok) (ha : gs[0]? = some a) (hcom : Com P c Shun T0 j lw gs w t D X σ q d0) (hwg : WgAt c.ty c.Wg w st sm)
    (hgo : stepG P true a w = .go a' w' es) (hAs : Aside c.Wg w w') (hwg' : WgAt c.ty c.Wg w' st' sm') (hbk : ∀ e ∈ es, Bk c.Wg e) (hcs' : CS P c Anch Fin tag' j f' (deafBehind d0 es) lw a' w')
    (hmode' : ConcN.Mode j D tag' st' sm') (hlt : phi c.n (Vc j D) tag' < phi c.n (Vc j D) tag ∨ (phi c.n (Vc j D) tag' = phi c.n (Vc j D) tag ∧ f' < f0)) :
    ∃ m₁ ops μ', runT P (crowd gs w sl) 0 = (.next m₁, ops) ∧ Lt3 μ' (Meas c j D X σ q tag f0) ∧ Inv P c Anch Fin Shun T0 μ' m₁ (t ++ ops) := by
  have hl : Live c.ty c.Wg w := ⟨_, _, hwg⟩
  exact callerStep K ha hcom hl hgo (Turn.wg K hAs hl ⟨_, _, hwg'⟩) (fun _ h => h.elim) (okS_of_Bk K hbk) (norel_of_Bk' hbk) (K.rep_same σ w w' hcom.rep (fun b hs => hAs.block b (fun e => K.sbWg (e ▸ hs)))) hcs' hwg' hmode' hlt

theorem w1Step (K : c.Ok) (ha : gs[0]? = some a) (hcom : Com P c Shun T0 c.n lw gs w t D X σ q 1) (hwg : WgAt c.ty c.Wg w st sm) (hmode : ConcN.Mode c.n D .w1 st sm)
    (h : Goes P true (R0 c lw) (D0 c lw) (AtW1 P c lw (Anch lw) Fin) f0 a w) :
    ∃ m₁ ops μ', runT P (crowd gs w sl) 0 = (.next m₁, ops) ∧ Lt3 μ' (Meas c c.n D X σ q .w1 f0) ∧ Inv P c Anch Fin Shun T0 μ' m₁ (t ++ ops) := by
  have hn := K.hn
  rcases Goes.cases h with hstop | ⟨m', rfl, hstep⟩
  · obtain ⟨_, hall⟩ := hstop w (R0.refl w)
    obtain ⟨ho, rfl, rfl, _⟩ := hmode.open_inv trivial
    have hV := Vc_le c.n D
    obtain ⟨a', hgo, h0, hne⟩ := hall (Vc c.n D) (by omega) (by simpa [pend] using hwg)
    by_cases hv : Vc c.n D = 0
    · obtain ⟨m₂, hk⟩ := h0 hv
      refine bookC (tag' := .ke) K ha hcom hwg hgo (.refl c.Wg w) hwg ConcN.bk_rd (.ke hk) ?_ (.inl (by simp only [phi]; omega))
      have e : ((Vc c.n D + pend .w1 : Nat) : Int) * KK = 0 := by rw [hv]; simp [pend]
      rw [e]
      exact .fin trivial (allQuit_of ho hv)
    · obtain ⟨m₂, hk⟩ := hne hv
      exact bookC (tag' := .w2 (Vc c.n D)) K ha hcom hwg hgo (.refl c.Wg w) hwg ConcN.bk_rd (.w2 hk) (hmode.reopen trivial trivial rfl (fun vs e => by cases e; omega)) (.inl (by simp only [phi]; omega))
  · obtain ⟨a', w', es, hgo, hD, hg'⟩ := hstep w (R0.refl w)
    exact idleC K ha hcom hwg hmode hgo hD (.w1 hg') (by omega)
end

section
variable {P : Program} {c : Cfg} {Shun : Loc → Prop} {T0 : Nat}
  {gs : Array Goroutine} {w : World} {j lw : Nat} {D : Nat → WD} {X : Nat → WX c.U} {σ : c.S} {q : Nat → Nat} {a' : Goroutine} {t : Trace}
/-- A go statement: one more worker -/
theorem Com.spawn (K : c.Ok) (hj : j < c.n) (hcom : Com P c Shun T0 j lw gs w t D X σ q 0) {child : Goroutine} {C m₂ : Nat} {x y : MemOp} (hx : x.g = 0 ∧ x.act = .go (c.N0 + j)) (hy : y.g = c.N0 + j ∧ y.act = .start)
    (hlw : lw ≤ C) (hH : c.H0 ≤ C) (hs : Soft w C) (hw : WS P c (c.N0 + j) C (c.init j) (c.mu σ (fun i => (X i).u) j) true 7 m₂ 0 child w) :
    Com P c Shun T0 (j + 1) w.heap.size ((gs.setIfInBounds 0 a').push child) w (t ++ #[x, y]) (upd D j ⟨7, m₂, 0⟩) (upd X j ⟨C, c.init j, c.mu σ (fun i => (X i).u) j, true⟩) σ q 0 := by
  have hN0 := K.hN
  obtain ⟨hju', hmu'⟩ := K.spawn σ _ j hj hcom.ju
  have hst : ∀ op ∈ #[x, y], op.act ≠ .mark .disable ∧ op.act ≠ .mark .enable := by
    intro op hop
    simp only [List.mem_toArray, List.mem_cons, List.not_mem_nil, or_false] at hop
    rcases hop with rfl | rfl
    · rw [hx.2]; exact ⟨by simp, by simp⟩
    · rw [hy.2]; exact ⟨by simp, by simp⟩
  have hdf : ∀ g, Deaf (t ++ #[x, y]) g = Deaf t g := fun g => ConcN.Deaf_still t g _ hst
  have hg0 : ∀ i, i < j → i ≠ j := fun i h e => by omega
  have hxy : ∀ op ∈ #[x, y], op.g = 0 ∨ op.g = c.N0 + j := by
    intro op hop
    simp only [List.mem_toArray, List.mem_cons, List.not_mem_nil, or_false] at hop
    rcases hop with rfl | rfl
    · exact .inl hx.1
    · exact .inr hy.1
  have hCj : (fun i => (upd X j ⟨C, c.init j, c.mu σ (fun i => (X i).u) j, true⟩ i).C) = upd (fun i => (X i).C) j C := by
    funext i
    by_cases e : i = j
    · subst e; simp only [upd_same]
    · simp only [upd_ne _ _ e]
  refine ⟨by simp [hcom.size]; omega, fun i hi => ?_, fun i g hi0 hiN hg => ?_, ?_, norel_app hcom.norel ?_, by rw [hdf]; exact hcom.deaf0, fun i hi => ?_, fun i hi hsi => ?_, fun i hi => ?_, fun i i' hi hi' e => ?_, fun i hi hwk => ?_, hcom.rep, ?_, hcom.h0, Nat.le_refl _, hcom.over.app hcom.pt.size _⟩
  · by_cases e : i = j
    · subst e
      refine ⟨child, ?_, ?_⟩
      · have : c.N0 + i = (gs.setIfInBounds 0 a').size := by simp [hcom.size]
        rw [this, Array.getElem?_push_size]
      · simp only [upd_same]; exact hw
    · obtain ⟨g, hg, hsg⟩ := hcom.wk i (by omega)
      refine ⟨g, ?_, by rw [upd_ne X _ e, upd_ne D _ e]; exact hsg⟩
      have hlt := (Array.getElem?_eq_some_iff.1 hg).1
      rw [Array.getElem?_push_lt (by simpa using hlt), ← Array.getElem?_eq_getElem, Array.getElem?_setIfInBounds_ne (by omega)]
      exact hg
  · have hlt : i < gs.size := by rw [hcom.size]; omega
    rw [Array.getElem?_push_lt (by simpa using hlt), ← Array.getElem?_eq_getElem, Array.getElem?_setIfInBounds_ne (by omega)] at hg
    rw [hdf]
    exact hcom.old i g hi0 hiN hg
  · rw [hCj]
    have hrd : ∀ k, Started c.N0 j k → ∀ l, (famOf c w (upd (fun i => (X i).C) j C)).rd k l ↔ (famOf c w (fun i => (X i).C)).rd k l := fun k hk l => by
      have hne : k - c.N0 ≠ j := by have := hk.1; have := hk.2; omega
      simp only [famOf, upd_ne (fun i => (X i).C) C hne]
    have hpt : PT (famOf c w (upd (fun i => (X i).C) j C)) Shun c.N0 T0 t j := PT.extend (F' := famOf c w (upd (fun i => (X i).C) j C)) hcom.pt rfl rfl (fun k hk l h => (hrd k hk l).2 h) (fun k hk l h => .inl ((hrd k hk l).1 h)) (fun _ h => h)
    exact PT.fork hpt (apart_fam K _ _) hx hy hcom.deaf0
  · intro op hop
    simp only [List.mem_toArray, List.mem_cons, List.not_mem_nil, or_false] at hop
    rcases hop with rfl | rfl
    · rw [hx.2]; simp
    · rw [hy.2]; simp
  · rw [hdf]
    by_cases e : i = j
    · subst e
      rw [upd_same]
      exact Deaf_absent fun k op hk e => by have := hcom.pt.gs k op hk; omega
    · rw [upd_ne D _ e]; exact hcom.deafW i (by omega)
  · by_cases e : i = j
    · subst e; rw [upd_same] at hsi; simp at hsi
    · rw [upd_ne D _ e] at hsi
      obtain ⟨r, hr⟩ := hcom.rel i (by omega) hsi
      exact ⟨r, ConcN.RelBy.appNot hr fun op hop he => by rcases hxy op hop with h | h <;> omega⟩
  · by_cases e : i = j
    · subst e; rw [upd_same]; exact ⟨hs, hs.lt, hH⟩
    · rw [upd_ne X _ e]
      have := hcom.box i (by omega)
      exact ⟨this.1, Nat.lt_of_lt_of_le this.2.1 hcom.lwle, this.2.2⟩
  · by_cases e1 : i = j
    · by_cases e2 : i' = j
      · omega
      · subst e1
        rw [upd_same, upd_ne X _ e2] at e
        have := (hcom.box i' (by omega)).2.1
        simp only at e; omega
    · by_cases e2 : i' = j
      · subst e2
        rw [upd_same, upd_ne X _ e1] at e
        have := (hcom.box i (by omega)).2.1
        simp only at e; omega
      · rw [upd_ne X _ e1, upd_ne X _ e2] at e
        exact hcom.inj i i' (by omega) (by omega) e
  · rw [upd_u]
    by_cases e : i = j
    · subst e; rw [upd_same]; exact hmu'
    · rw [upd_ne X _ e] at hwk ⊢
      exact Nat.le_trans hmu' (hcom.fuel i (by omega) hwk)
  · rw [upd_u]; exact hju'
end
end Go.Proofs.Ytinghnaigpenkaa
