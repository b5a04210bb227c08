/- A phase: the starter's situations; the invariant; whatever step of a worker's, whatever step of the starter's. -/
import Derived.Test.YtinghnaigpenkaaPhC
namespace Go.Proofs.Ytinghnaigpenkaa
open Go.Conc
open Go.ConcN (CTag phi isOpen isW3 isFin pend WD Vc Ssum Fsum cnt OpenSt AllQuit Mode RelBy sumTo upd sumTo_upd upd_same upd_ne sumTo_congr sumTo_upd_out le_sumTo get_map_set get_map_set_same Deaf_still Deaf_absent phi_mono)
open Go.ConcR (KK wgBlock WgAt stA smA rd wr mk Payload DC0 Bk g_of_ofEvents again_blocked bk_of_mute ofEvent_mk loc_of_ofEvent ofEvent_loc_mark ofEvent_cell)
set_option linter.unusedVariables false
set_option linter.unusedSimpArgs false
set_option linter.unusedSectionVars false
variable [Payload]

section
variable (P : Program) (c : Cfg) (Anch : Nat → Goroutine → World → Prop) (Fin : Goroutine → World → Prop)
/-- tag, how many are started, fuel, deafness, the boxes' bound -/
inductive CS : CTag → Nat → Nat → Nat → Nat → Goroutine → World → Prop
  | skd {r m lw : Nat} {g : Goroutine} {w : World} : r < c.n → Goes P true (R0 c lw) (D0 c lw) (AtKdS P c lw (c.n - (r + 1)) (Spawns P c Anch r)) m g w → CS (.sp r 5) (c.n - (r + 1)) m 0 lw g w
  | sa1 {r m lw : Nat} {g : Goroutine} {w : World} : r < c.n → Goes P true (R0 c lw) (D0 c lw) (AtA1 P c lw (c.n - (r + 1)) (Spawns P c Anch r)) m g w → CS (.sp r 4) (c.n - (r + 1)) m 1 lw g w
  | ske {r m lw : Nat} {g : Goroutine} {w : World} : r < c.n → Goes P true (R0 c lw) (D0 c lw) (AtKeS P c lw (c.n - (r + 1)) (Spawns P c Anch r)) m g w → CS (.sp r 3) (c.n - (r + 1)) m 1 lw g w
  | sgo {r m lw : Nat} {g : Goroutine} {w : World} : r < c.n → Goes P true (R0 c lw) (D0 c lw) (AtGoS P c lw (c.n - (r + 1)) (Spawns P c Anch r)) m g w → CS (.sp r 2) (c.n - (r + 1)) m 0 lw g w
  | kd {m lw : Nat} {g : Goroutine} {w : World} : Goes P true (R0 c lw) (D0 c lw) (AtKd P c lw (Anch lw)) m g w → CS .kd c.n m 0 lw g w
  | anch {m lw : Nat} {g : Goroutine} {w : World} : Goes P true (R0 c lw) (D0 c lw) (Anch lw) m g w → CS .anch c.n m 1 lw g w
  | w1 {m lw : Nat} {g : Goroutine} {w : World} : Goes P true (R0 c lw) (D0 c lw) (AtW1 P c lw (Anch lw) Fin) m g w → CS .w1 c.n m 1 lw g w
  | w2 {vs m lw : Nat} {g : Goroutine} {w : World} : Goes P true (R0 c lw) (D0 c lw) (AtW2 P c lw (Anch lw) Fin vs) m g w → CS (.w2 vs) c.n m 1 lw g w
  | w3 {m lw : Nat} {g : Goroutine} {w : World} : Goes P true (R0 c lw) (D0 c lw) (AtW3 P c lw Fin) m g w → CS .w3 c.n (m + 1) 1 lw g w
  | blk {lw : Nat} {g : Goroutine} {w : World} : (∀ w₁, R0 c lw w w₁ → AtW3 P c lw Fin g w₁) → CS .blk c.n 0 1 lw { g with status := .blocked } w
  | w4 {m lw : Nat} {g : Goroutine} {w : World} : Goes P true (R0 c lw) (D0 c lw) (AtW4 P c lw Fin) m g w → CS .w4 c.n m 1 lw g w
  | ke {m lw : Nat} {g : Goroutine} {w : World} : Goes P true (R0 c lw) (D0 c lw) (AtKe P c lw Fin) m g w → CS .ke c.n m 1 lw g w
  | acq {m lw : Nat} {g : Goroutine} {w : World} : Goes P true (R0 c lw) (D0 c lw) (AtAcq P c Fin) m g w → CS .acq c.n m 0 lw g w
end

section
variable {P : Program} {c : Cfg} {Anch : Nat → Goroutine → World → Prop} {Fin : Goroutine → World → Prop} {tag : CTag} {j f d lw : Nat} {a : Goroutine} {w w' : World}
theorem CS.rely (h : CS P c Anch Fin tag j f d lw a w) (hr : R0 c lw w w') : CS P c Anch Fin tag j f d lw a w' := by
  have tr : ∀ x y z, R0 c lw x y → R0 c lw y z → R0 c lw x z := fun _ _ _ h1 h2 => h1.trans h2
  cases h with
  | skd hn h => exact .skd hn (Goes.rely tr h hr)
  | sa1 hn h => exact .sa1 hn (Goes.rely tr h hr)
  | ske hn h => exact .ske hn (Goes.rely tr h hr)
  | sgo hn h => exact .sgo hn (Goes.rely tr h hr)
  | kd h => exact .kd (Goes.rely tr h hr)
  | anch h => exact .anch (Goes.rely tr h hr)
  | w1 h => exact .w1 (Goes.rely tr h hr)
  | w2 h => exact .w2 (Goes.rely tr h hr)
  | w3 h => exact .w3 (Goes.rely tr h hr)
  | blk h => exact .blk (fun w₂ h₂ => h w₂ (hr.trans h₂))
  | w4 h => exact .w4 (Goes.rely tr h hr)
  | ke h => exact .ke (Goes.rely tr h hr)
  | acq h => exact .acq (Goes.rely tr h hr)

/-- it is running, or it is blocked at the semaphore -/
theorem CS.status (hAr : ∀ lw g w, Anch lw g w → g.status = .running) (h : CS P c Anch Fin tag j f d lw a w) : (a.status = .running ∧ tag ≠ .blk) ∨ (a.status = .blocked ∧ tag = .blk) := by
  cases h with
  | skd _ h => exact .inl ⟨Goes.running (fun _ _ x => x.1) w (.refl w) h, by simp⟩
  | sa1 _ h => exact .inl ⟨Goes.running (fun _ _ x => x.1) w (.refl w) h, by simp⟩
  | ske _ h => exact .inl ⟨Goes.running (fun _ _ x => x.1) w (.refl w) h, by simp⟩
  | sgo _ h => exact .inl ⟨Goes.running (fun _ _ x => x.1) w (.refl w) h, by simp⟩
  | kd h => exact .inl ⟨Goes.running (fun _ _ x => x.1) w (.refl w) h, by simp⟩
  | anch h => exact .inl ⟨Goes.running (hAr lw) w (.refl w) h, by simp⟩
  | w1 h => exact .inl ⟨Goes.running (fun _ _ x => x.1) w (.refl w) h, by simp⟩
  | w2 h => exact .inl ⟨Goes.running (fun _ _ x => x.1) w (.refl w) h, by simp⟩
  | w3 h => exact .inl ⟨Goes.running (fun _ _ x => x.1) w (.refl w) h, by simp⟩
  | blk h => exact .inr ⟨rfl, rfl⟩
  | w4 h => exact .inl ⟨Goes.running (fun _ _ x => x.1) w (.refl w) h, by simp⟩
  | ke h => exact .inl ⟨Goes.running (fun _ _ x => x.1) w (.refl w) h, by simp⟩
  | acq h => exact .inl ⟨Goes.running (fun _ _ x => x.1) w (.refl w) h, by simp⟩

/-- under another's step: as it stood; or, blocked, it is let try again -/
theorem CS.wokenBy (hAr : ∀ lw g w, Anch lw g w → g.status = .running) (h : CS P c Anch Fin tag j f d lw a w) (hr : R0 c lw w w') (g g' : Goroutine) :
    ∃ tag' f', CS P c Anch Fin tag' j f' d lw (woken P g g' w' a) w' ∧ f' ≤ f + 1 ∧ (tag' = tag ∨ (tag = .blk ∧ tag' = .w3)) ∧ (mayWake P g = true → g'.status = .running → tag' ≠ .blk) := by
  have h' := h.rely hr
  unfold Go.Conc.woken
  split
  · rcases h'.status hAr with ⟨hs, hne⟩ | ⟨_, rfl⟩
    · exact ⟨tag, f, by rw [again_running _ (.inl hs)]; exact h', by omega, .inl rfl, fun _ _ => hne⟩
    · cases h' with
      | blk hb =>
        rename_i g0
        have h3 := hb w' (.refl w')
        exact ⟨.w3, 0 + 1, by rw [again_blocked h3.1 h3.2.1]; exact .w3 (Goes.stop hb), by omega, .inr ⟨rfl, rfl⟩, fun _ _ => by simp⟩
  · rename_i hc
    exact ⟨tag, f, h', by omega, .inl rfl, fun h1 h2 => absurd (by simp [h1, h2]) hc⟩
theorem CS.bound (h : CS P c Anch Fin tag j f d lw a w) : j + pend tag ≤ c.n := by
  cases h <;> simp only [pend] <;> (try simp) <;> omega
end

section
variable {P : Program} {c : Cfg} {k C N s m d : Nat} {u : c.U} {b : Bool} {g : Goroutine} {w w₁ : World}
theorem WS.rely (K : c.Ok) (h : WS P c k C u N b s m d g w) (hr : RW c C w w₁) (hs : Soft w C) (hrep : ∃ σ, c.Rep σ w) (hl : Live c.ty c.Wg w) : WS P c k C u N b s m d g w₁ := by
  cases h with
  | work h => exact .work (Goes.rely (fun _ _ _ h1 h2 => h1.trans h2) h hr)
  | sit hf h => exact .sit hf (h.rely (hr.lib K hs hrep hl))
theorem WS.status (h : WS P c k C u N b s m d g w) : g.status = .running ∨ g.status = .finished := by
  cases h with
  | work h => exact .inl (Goes.running (fun _ _ x => by rcases x with ⟨_, x, _⟩ | ⟨_, x, _⟩ <;> exact x) w (RW.refl w) h)
  | sit hf h => exact h.status
theorem WS.woken (h : WS P c k C u N b s m d g w) (a a' : Goroutine) (w' : World) : woken P a a' w' g = g := by
  unfold Go.Conc.woken
  split
  · exact again_running _ h.status
  · rfl
theorem WS.stage (h : WS P c k C u N b s m d g w) : s ≤ 7 ∧ (b = true → s = 7) := by
  cases h with
  | work h => exact ⟨Nat.le_refl _, fun _ => rfl⟩
  | sit hf h => exact ⟨by cases h <;> omega, fun e => by cases e⟩
theorem WS.quits (h : WS P c k C u N b s m d g w) (hs : s = 1) : QuitsD P m d g := by
  cases h with
  | work h => omega
  | sit hf h => exact ConcN.WSit.quits h hs
theorem WS.fin (h : WS P c k C u N b s m d g w) (hs : s ≠ 7) : c.fin u := by
  cases h with
  | work h => exact absurd rfl hs
  | sit hf h => exact hf
end

def wkb (b : Bool) : Nat := if b then 1 else 0
def Wk {U : Type} (j : Nat) (X : Nat → WX U) : Nat := sumTo j fun i => wkb (X i).wk
abbrev Lt3 : Nat × Nat × Nat → Nat × Nat × Nat → Prop := Prod.Lex (· < ·) (Prod.Lex (· < ·) (· < ·))
section
variable (P : Program) (c : Cfg) (Anch : Nat → Goroutine → World → Prop) (Fin : Goroutine → World → Prop) (Shun : Loc → Prop) (T0 : Nat)
def Meas (j : Nat) (D : Nat → WD) (X : Nat → WX c.U) (σ : c.S) (q : Nat → Nat) (tag : CTag) (f0 : Nat) : Nat × Nat × Nat :=
  (phi c.n (Vc j D) tag + Ssum j D, c.mu σ (fun i => (X i).u) j + Wk j X, f0 + 2 * (Fsum j D + sumTo c.N0 q))
def Inv (μ : Nat × Nat × Nat) (m : Machine) (t : Trace) : Prop :=
  ∃ (gs : Array Goroutine) (w : World) (sl : Option (Nat × Nat)) (j : Nat) (D : Nat → WD) (X : Nat → WX c.U) (σ : c.S) (q : Nat → Nat) (tag : CTag) (f0 d0 lw : Nat) (a : Goroutine) (st sm : Int),
    m = crowd gs w sl ∧ gs[0]? = some a ∧ CS P c Anch Fin tag j f0 d0 lw a w ∧ Com P c Shun T0 j lw gs w t D X σ q d0 ∧ WgAt c.ty c.Wg w st sm ∧ ConcN.Mode j D tag st sm ∧ μ = Meas c j D X σ q tag f0
end

theorem upd_u {U : Type} (X : Nat → WX U) (i : Nat) (x : WX U) : (fun a => (upd X i x a).u) = upd (fun a => (X a).u) i x.u := by
  funext a
  by_cases e : a = i
  · subst e; simp [upd_same]
  · rw [upd_ne X _ e, upd_ne _ _ e]
theorem upd_C {U : Type} (X : Nat → WX U) (i : Nat) (x : WX U) (h : x.C = (X i).C) : (fun a => (upd X i x a).C) = fun a => (X a).C := by
  funext a
  by_cases e : a = i
  · subst e; rw [upd_same, h]
  · rw [upd_ne X _ e]
theorem norel_app {T0 : Nat} {t u : Trace} {x : Addr} (h : ∀ i, T0 ≤ i → t.act? i ≠ some (.mark (.release x))) (hu : ∀ op ∈ u, op.act ≠ .mark (.release x)) : ∀ i, T0 ≤ i → (t ++ u).act? i ≠ some (.mark (.release x)) := by
  intro i hi e
  obtain ⟨op, ho, hoa⟩ := Option.map_eq_some_iff.1 e
  rcases getElem?_append_cases ho with ⟨_, ho'⟩ | ⟨_, hou⟩
  · exact h i hi (by rw [act?_of ho', hoa])
  · exact hu op hou hoa
theorem norel_ofEvents {g : Nat} {fn : FuncId} {pos : String} {es : Array Event} {x : Addr} (h : ∀ e ∈ es, e.loc ≠ .mark (.release x)) : ∀ op ∈ MemOp.ofEvents g fn pos es, op.act ≠ .mark (.release x) := by
  intro op hop e
  obtain ⟨ev, he, rfl⟩ := Go.Conc.mem_ofEvents hop
  exact h ev he (loc_of_ofEvent e)

section
variable {P : Program} {c : Cfg} {Anch : Nat → Goroutine → World → Prop} {Fin : Goroutine → World → Prop} {Shun : Loc → Prop} {T0 : Nat}
  {gs : Array Goroutine} {w w' : World} {sl : Option (Nat × Nat)} {j lw : Nat} {D : Nat → WD} {X : Nat → WX c.U} {σ σ' : c.S} {q : Nat → Nat} {tag : CTag} {f0 d0 : Nat} {a : Goroutine} {t : Trace} {st sm st' sm' : Int}

/-- a draw -/
theorem Com.at (K : c.Ok) (h : Com P c Shun T0 j lw gs w t D X σ q d0) (hl : Live c.ty c.Wg w) (d : Nat) : Com P c Shun T0 j lw gs (w.at d) t D X σ q d0 := by
  have hT := Turn.of_at K w d
  exact ⟨h.size, fun i hi => let ⟨g, hg, hs⟩ := h.wk i hi; ⟨g, hg, hs.rely K (hT.rw (fun e => e)) (h.box i hi).1 ⟨σ, h.rep⟩ hl⟩, h.old, h.pt.turn hT h.h0, h.norel, h.deaf0, h.deafW, h.rel, h.box, h.inj, h.fuel, rep_at K h.rep d, h.ju, h.h0, h.lwle, h.over⟩

/-- A STEP OF WORKER NUMBER i -/
theorem workerStep (K : c.Ok) (hAr : ∀ lw g w, Anch lw g w → g.status = .running) (ha : gs[0]? = some a) (hcs : CS P c Anch Fin tag j f0 d0 lw a w) (hcom : Com P c Shun T0 j lw gs w t D X σ q d0) (hl : Live c.ty c.Wg w)
    {i : Nat} (hi : i < j) {g g' : Goroutine} {es : Array Event} {s' m' dd' : Nat} {x' : WX c.U} {Xs : Nat → Prop} (hg : gs[c.N0 + i]? = some g) (hgo : stepG P false g w = .go g' w' es)
    (hT : Turn c Xs w w') (hXs : ∀ b, Xs b → b = (X i).C) (hxC : x'.C = (X i).C) (hs' : WS P c (c.N0 + i) (X i).C x'.u x'.N x'.wk s' m' dd' g' w')
    (hok : ∀ op ∈ MemOp.ofEvents (c.N0 + i) g.frame.fn g.frame.place es, OkP (famOf c w' (fun i => (X i).C)) (c.N0 + i) op) (hnr : ∀ e ∈ es, e.loc ≠ .mark (.release (stA c.Wg)))
    (hdeaf : deafBehind (D i).deaf es = dd') (hrel : s' ≤ 6 → ∃ r, RelBy (stA c.Wg) (t ++ MemOp.ofEvents (c.N0 + i) g.frame.fn g.frame.place es) (c.N0 + i) r)
    (hrep : c.Rep σ' w') (hju : c.JU σ' (upd (fun a => (X a).u) i x'.u) j) (hmu : c.mu σ' (upd (fun a => (X a).u) i x'.u) j ≤ c.mu σ (fun a => (X a).u) j) (hN : x'.wk = true → c.mu σ' (upd (fun a => (X a).u) i x'.u) j ≤ x'.N)
    (hwg : WgAt c.ty c.Wg w' st' sm')
    (hmode : ∀ tag', (tag' = tag ∨ (tag = .blk ∧ tag' = .w3)) → (mayWake P g = true → g'.status = .running → tag' ≠ .blk) → ConcN.Mode j (upd D i ⟨s', m', dd'⟩) tag' st' sm')
    (hlt : (s' < (D i).stage ∧ cnt ⟨s', m', dd'⟩ ≤ cnt (D i)) ∨ (s' = (D i).stage ∧ (c.mu σ' (upd (fun a => (X a).u) i x'.u) j + wkb x'.wk < c.mu σ (fun a => (X a).u) j + wkb (X i).wk ∨ (c.mu σ' (upd (fun a => (X a).u) i x'.u) j + wkb x'.wk = c.mu σ (fun a => (X a).u) j + wkb (X i).wk ∧ m' + 1 = (D i).fuel)))) :
    ∃ m₁ ops μ', runT P (crowd gs w sl) (c.N0 + i) = (.next m₁, ops) ∧ Lt3 μ' (Meas c j D X σ q tag f0) ∧ Inv P c Anch Fin Shun T0 μ' m₁ (t ++ ops) := by
  have hN0 := K.hN
  obtain ⟨tag', f', hcs', hf', htag, hwk⟩ := hcs.wokenBy hAr (hT.r0 (fun b hb => by rw [hXs b hb]; exact (hcom.box i hi).2.1)) g g'
  have hne : ¬ (c.N0 + i == 0) = true := by simp; omega
  have hrun := runT_crowd_go (P := P) (sl := sl) (i := c.N0 + i) hg (by rw [Bool.not_eq_true] at hne; rw [hne]; exact hgo)
  have e1 := sumTo_upd D (⟨s', m', dd'⟩ : WD) cnt hi
  have e2 := sumTo_upd D (⟨s', m', dd'⟩ : WD) WD.stage hi
  have e3 := sumTo_upd D (⟨s', m', dd'⟩ : WD) WD.fuel hi
  have e4 := sumTo_upd X x' (fun x => wkb x.wk) hi
  have hSt : Started c.N0 j (c.N0 + i) := ⟨by omega, by omega⟩
  have hfam : (fun a => (upd X i x' a).C) = fun a => (X a).C := upd_C X i x' hxC
  have hrw : ∀ i', i' < j → i' ≠ i → RW c (X i').C w w' := fun i' hi' hne' => hT.rw (fun hx => hne' (hcom.inj i' i hi' hi (hXs _ hx)))
  refine ⟨_, _, Meas c j (upd D i ⟨s', m', dd'⟩) (upd X i x') σ' q tag' f', hrun, ?_,
    _, w', sl, j, upd D i ⟨s', m', dd'⟩, upd X i x', σ', q, tag', f', d0, lw, woken P g g' w' a, st', sm', rfl, by rw [get_map_set _ _ _ _ (by omega), ha]; rfl, hcs', ?_, hwg, hmode tag' htag hwk, rfl⟩
  · simp only [Meas, upd_u]
    rw [ConcN.phi_retag c.n _ htag]
    simp only [Vc, Ssum, Fsum, Wk] at *
    rcases hlt with ⟨h1, h2⟩ | ⟨h1, h2⟩
    · refine Prod.Lex.left _ _ ?_
      have := phi_mono c.n (v' := sumTo j fun a => cnt (upd D i ⟨s', m', dd'⟩ a)) (v := sumTo j fun a => cnt (D a)) (by omega) tag
      omega
    · have ec : cnt (⟨s', m', dd'⟩ : WD) = cnt (D i) := by simp only [cnt, h1]
      have ev : (sumTo j fun a => cnt (upd D i ⟨s', m', dd'⟩ a)) = sumTo j fun a => cnt (D a) := by omega
      have es' : (sumTo j fun a => (upd D i ⟨s', m', dd'⟩ a).stage) = sumTo j fun a => (D a).stage := by omega
      rw [ev, es']
      refine Prod.Lex.right _ ?_
      rcases h2 with h2 | ⟨h2, h3⟩
      · refine Prod.Lex.left _ _ ?_
        omega
      · have : c.mu σ' (upd (fun a => (X a).u) i x'.u) j + (sumTo j fun a => wkb (upd X i x' a).wk) = c.mu σ (fun a => (X a).u) j + sumTo j fun a => wkb (X a).wk := by omega
        rw [this]
        refine Prod.Lex.right _ ?_
        omega
  · refine ⟨by simp [hcom.size], fun i' hi' => ?_, fun i' x hi0 hiN hx => ?_, ?_, norel_app hcom.norel (norel_ofEvents hnr), by rw [Deaf_other t (by omega) _ g_of_ofEvents, hcom.deaf0], fun i' hi' => ?_, fun i' hi' hst => ?_, fun i' hi' => ?_, fun i1 i2 h1 h2 e => ?_, fun i' hi' hw => ?_, hrep, by rw [upd_u]; exact hju,
      Nat.le_trans hcom.h0 hT.size, Nat.le_trans hcom.lwle hT.size, hcom.over.app hcom.pt.size _⟩
    · by_cases e : i' = i
      · subst e
        refine ⟨g', get_map_set_same _ _ _ (by rw [hcom.size]; omega), ?_⟩
        rw [upd_same, upd_same, hxC]
        exact hs'
      · obtain ⟨x, hx, hsx⟩ := hcom.wk i' hi'
        refine ⟨x, by rw [get_map_set _ _ _ _ (by omega), hx, Option.map_some, hsx.woken], ?_⟩
        rw [upd_ne D _ e, upd_ne X _ e]
        exact hsx.rely K (hrw i' hi' e) (hcom.box i' hi').1 ⟨σ, hcom.rep⟩ hl
    · rw [get_map_set _ _ _ _ (by omega)] at hx
      obtain ⟨y, hy, rfl⟩ := Option.map_eq_some_iff.1 hx
      have hq := hcom.old i' y hi0 hiN hy
      rw [woken_quitsD hq, Deaf_other t (by omega) _ g_of_ofEvents]
      exact hq
    · rw [hfam]
      exact (hcom.pt.turn hT hcom.h0).appW (apart_fam K _ _) hSt hok
    · by_cases e : i' = i
      · subst e; rw [Deaf_own, hcom.deafW i' hi', upd_same]; exact hdeaf
      · rw [Deaf_other t (by omega) _ g_of_ofEvents, hcom.deafW i' hi', upd_ne D _ e]
    · by_cases e : i' = i
      · subst e; rw [upd_same] at hst; exact hrel hst
      · rw [upd_ne D _ e] at hst
        obtain ⟨r, hr⟩ := hcom.rel i' hi' hst
        exact ⟨r, hr.appOther g_of_ofEvents (by omega)⟩
    · have : (upd X i x' i').C = (X i').C := congrFun hfam i'
      rw [this]
      exact ⟨hT.new _ (hcom.box i' hi').1, (hcom.box i' hi').2⟩
    · have h3 : (upd X i x' i1).C = (X i1).C := congrFun hfam i1
      have h4 : (upd X i x' i2).C = (X i2).C := congrFun hfam i2
      rw [h3, h4] at e
      exact hcom.inj i1 i2 h1 h2 e
    · rw [upd_u]
      by_cases e : i' = i
      · subst e; rw [upd_same] at hw ⊢; exact hN hw
      · rw [upd_ne X _ e] at hw ⊢
        exact Nat.le_trans hmu (hcom.fuel i' hi' hw)

/-- A STEP OF THE STARTER's THAT IS NEITHER A go STATEMENT NOR THE LAST -/
theorem callerStep (K : c.Ok) (ha : gs[0]? = some a) (hcom : Com P c Shun T0 j lw gs w t D X σ q d0) (hl : Live c.ty c.Wg w)
    {a' : Goroutine} {es : Array Event} {tag' : CTag} {f' : Nat} {Xs : Nat → Prop} (hgo : stepG P true a w = .go a' w' es)
    (hT : Turn c Xs w w') (hXs : ∀ b, Xs b → lw ≤ b)
    (hok : ∀ op ∈ MemOp.ofEvents 0 a.frame.fn a.frame.place es, OkS (famOf c w' (fun i => (X i).C)) c.N0 j op) (hnr : ∀ e ∈ es, e.loc ≠ .mark (.release (stA c.Wg))) (hrep : c.Rep σ w')
    (hcs' : CS P c Anch Fin tag' j f' (deafBehind d0 es) lw a' w') (hwg : WgAt c.ty c.Wg w' st' sm') (hmode : ConcN.Mode j D tag' st' sm')
    (hlt : phi c.n (Vc j D) tag' < phi c.n (Vc j D) tag ∨ (phi c.n (Vc j D) tag' = phi c.n (Vc j D) tag ∧ f' < f0)) :
    ∃ m₁ ops μ', runT P (crowd gs w sl) 0 = (.next m₁, ops) ∧ Lt3 μ' (Meas c j D X σ q tag f0) ∧ Inv P c Anch Fin Shun T0 μ' m₁ (t ++ ops) := by
  have hN0 := K.hN
  have hrun := runT_crowd_go (P := P) (sl := sl) (i := 0) ha (by simpa using hgo)
  refine ⟨_, _, Meas c j D X σ q tag' f', hrun, ?_,
    _, w', sl, j, D, X, σ, q, tag', f', deafBehind d0 es, lw, a', st', sm', rfl, get_map_set_same _ _ _ (by rw [hcom.size]; omega), hcs', ?_, hwg, hmode, rfl⟩
  · simp only [Meas]
    rcases hlt with h | ⟨h1, h2⟩
    · exact Prod.Lex.left _ _ (by omega)
    · rw [h1]; exact Prod.Lex.right _ (Prod.Lex.right _ (by omega))
  · refine ⟨by simp [hcom.size], fun i hi => ?_, fun i x hi0 hiN hx => ?_, (hcom.pt.turn hT hcom.h0).app0 (apart_fam K _ _) hN0 hok, norel_app hcom.norel (norel_ofEvents hnr), by rw [Deaf_own, hcom.deaf0], fun i hi => by rw [Deaf_other t (by omega) _ g_of_ofEvents, hcom.deafW i hi],
      fun i hi hst => ?_, fun i hi => ⟨hT.new _ (hcom.box i hi).1, (hcom.box i hi).2⟩, hcom.inj, hcom.fuel, hrep, hcom.ju, Nat.le_trans hcom.h0 hT.size, Nat.le_trans hcom.lwle hT.size, hcom.over.app hcom.pt.size _⟩
    · obtain ⟨x, hx, hsx⟩ := hcom.wk i hi
      refine ⟨x, by rw [get_map_set _ _ _ _ (by omega), hx, Option.map_some, hsx.woken], hsx.rely K (hT.rw (fun h => ?_)) (hcom.box i hi).1 ⟨σ, hcom.rep⟩ hl⟩
      have := hXs _ h; have := (hcom.box i hi).2.1; omega
    · rw [get_map_set _ _ _ _ (by omega)] at hx
      obtain ⟨y, hy, rfl⟩ := Option.map_eq_some_iff.1 hx
      have hq := hcom.old i y hi0 hiN hy
      rw [woken_quitsD hq, Deaf_other t (by omega) _ g_of_ofEvents]
      exact hq
    · obtain ⟨r, hr⟩ := hcom.rel i hi hst
      exact ⟨r, hr.appOther g_of_ofEvents (by omega)⟩
end
end Go.Proofs.Ytinghnaigpenkaa
