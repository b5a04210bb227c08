/- Between two phases: goroutine 0 goes on beside those that only leave; and to the return. -/
import Derived.Test.YtinghnaigpenkaaPhG
namespace Go.Proofs.Ytinghnaigpenkaa
open Go.Conc
open Go.ConcN (sumTo upd sumTo_upd upd_same upd_ne get_map_set get_map_set_same)
open Go.ConcR (g_of_ofEvents Payload)
set_option linter.unusedVariables false
set_option linter.unusedSimpArgs false
set_option linter.unusedSectionVars false

/-- what a step may list between two phases -/
def EvP (Shun : Loc → Prop) (e : Event) : Prop := (∀ x, (MemAct.ofEvent e).touch? = some x → Shun x.loc → x.kind ≠ .plain) ∧ e.loc ≠ .mark .disable ∧ e.loc ≠ .mark .enable
def DP0 (Shun : Loc → Prop) (w w' : World) (es : Array Event) : Prop := ∀ e ∈ es, EvP Shun e

section
variable {Shun : Loc → Prop} {t u : Trace}
/-- goroutine 0's step, whatever it marks -/
theorem PstD.ownM {d d' : Nat} (h : PstD d Shun t) {fn : FuncId} {pos : String} {es : Array Event} (hes : ∀ e ∈ es, ∀ x, (MemAct.ofEvent e).touch? = some x → Shun x.loc → x.kind ≠ .plain) (hd : deafBehind d es = d') : PstD d' Shun (t ++ MemOp.ofEvents 0 fn pos es) := by
  refine ⟨fun said => noRace_append (h.clean said) g_of_ofEvents fun i a ha op hop b hb hc => ?_, fun i a ha hm => ?_, handedOver_app h.over fun op hop => .inl (g_of_ofEvents op hop), ?_⟩
  · rcases h.known i a ha hc.2.1 with h1 | ⟨h1, h2⟩
    · exact h1
    · obtain ⟨e, he, rfl⟩ := Go.Conc.mem_ofEvents hop
      have hkb := hes e he b hb (hc.1 ▸ h1)
      obtain ⟨_, _, _, hcase⟩ := hc
      rw [h2] at hcase
      rcases hcase with x | x | ⟨_, x, _⟩
      · cases x
      · exact absurd x hkb
      · cases x
  · rcases touch_app ha with h1 | ⟨op, hop, hi, hx⟩
    · exact (h.known i a h1 hm).imp (·.app _) id
    · exact .inl (knows_said (by unfold Trace.g?; rw [hi]; exact congrArg some (g_of_ofEvents op hop)))
  · rw [Deaf_own, h.hears]
    exact hd
theorem PstD.own {d : Nat} (h : PstD d Shun t) {fn : FuncId} {pos : String} {es : Array Event} (hes : ∀ e ∈ es, EvP Shun e) : PstD d Shun (t ++ MemOp.ofEvents 0 fn pos es) :=
  h.ownM (fun e he => (hes e he).1) (deafBehind_still (fun e he => ⟨(hes e he).2.1, (hes e he).2.2⟩) _)
theorem PstD.mute {d : Nat} (h : PstD d Shun t) {g : Nat} (hg : g ≠ 0) {fn : FuncId} {pos : String} {es : Array Event} (hm : ∀ e ∈ es, e.mute = true) : PstD d Shun (t ++ MemOp.ofEvents g fn pos es) := by
  have hn : ∀ op ∈ MemOp.ofEvents g fn pos es, op.act.touch? = none := fun op hop => by obtain ⟨e, he, rfl⟩ := Go.Conc.mem_ofEvents hop; exact touch_mute (hm e he)
  refine ⟨fun said => noRace_append (h.clean said) g_of_ofEvents fun i a ha op hop b hb hc => (by rw [hn op hop] at hb; cases hb), fun i a ha hm' => ?_, handedOver_app h.over fun op hop => .inr (hn op hop), (Deaf_other t hg _ g_of_ofEvents).trans h.hears⟩
  rcases touch_app ha with h1 | ⟨op, hop, hi, hx⟩
  · exact (h.known i a h1 hm').imp (·.app _) id
  · rw [hn op hop] at hx; cases hx
theorem PstD.sub {d : Nat} {S' : Loc → Prop} (h : PstD d Shun t) (hs : ∀ l, Shun l → S' l) : PstD d S' t := ⟨h.clean, fun i a ha hm => (h.known i a ha hm).imp id fun x => ⟨hs _ x.1, x.2⟩, h.over, h.hears⟩
theorem pst_nil : Pst (fun _ => False) #[] := ⟨past_nil.clean, past_nil.known, past_nil.over, past_nil.hears⟩
end

/-- what is held between two phases -/
structure FrmD (dd : Nat) (P : Program) (Shun : Loc → Prop) (gs : Array Goroutine) (t : Trace) (q : Nat → Nat) : Prop where
  L : Leavers P t gs q
  S : PstD dd Shun t
  B : ∀ (i : Nat) (op : MemOp), t[i]? = some op → op.g < gs.size
abbrev Frm := FrmD 0
theorem frm_one (P : Program) (a : Goroutine) : Frm P (fun _ => False) #[a] #[] (fun _ => 0) := ⟨leavers_one P a, pst_nil, fun i op h => by simp at h⟩

section
variable {P : Program} {Shun : Loc → Prop} {gs : Array Goroutine} {a a' g g' : Goroutine} {w w' : World} {sl : Option (Nat × Nat)} {t : Trace} {q : Nat → Nat} {es : Array Event}
theorem FrmD.step0M {dd d' : Nat} (h : FrmD dd P Shun gs t q) (h0 : gs[0]? = some a) (hes : ∀ e ∈ es, ∀ x, (MemAct.ofEvent e).touch? = some x → Shun x.loc → x.kind ≠ .plain) (hd : deafBehind dd es = d') :
    FrmD d' P Shun ((gs.map (woken P a a' w')).setIfInBounds 0 a') (t ++ MemOp.ofEvents 0 a.frame.fn a.frame.place es) q := by
  refine ⟨⟨fun j x hj hx => ?_, fun j hj => ?_⟩, h.S.ownM hes hd, fun i op hi => ?_⟩
  · rw [get_map_set _ _ _ _ (by omega)] at hx
    obtain ⟨y, hy, rfl⟩ := Option.map_eq_some_iff.1 hx
    have hq := h.L.old j y hj hy
    rw [woken_quitsD hq, Deaf_other t (by omega) _ g_of_ofEvents]
    exact hq
  · have hs : gs.size ≤ j := by simpa using hj
    have : 0 < gs.size := (Array.getElem?_eq_some_iff.1 h0).1
    rw [Deaf_other t (by omega) _ g_of_ofEvents]
    exact h.L.above j hs
  · have h0' : 0 < gs.size := (Array.getElem?_eq_some_iff.1 h0).1
    rcases getElem?_append_cases hi with ⟨_, hi'⟩ | ⟨_, hiu⟩
    · simpa using h.B i op hi'
    · rw [g_of_ofEvents op hiu]; simpa using h0'
theorem FrmD.step0 {dd : Nat} (h : FrmD dd P Shun gs t q) (h0 : gs[0]? = some a) (hes : ∀ e ∈ es, EvP Shun e) :
    FrmD dd P Shun ((gs.map (woken P a a' w')).setIfInBounds 0 a') (t ++ MemOp.ofEvents 0 a.frame.fn a.frame.place es) q :=
  h.step0M h0 (fun e he => (hes e he).1) (deafBehind_still (fun e he => ⟨(hes e he).2.1, (hes e he).2.2⟩) _)
theorem FrmD.stepL {dd : Nat} (h : FrmD dd P Shun gs t q) {i k : Nat} (hi0 : 0 < i) (hg : gs[i]? = some g) (hqi : q i = k + 1) (hm : ∀ e ∈ es, e.mute = true) (hq' : QuitsD P k (deafBehind (Deaf t i) es) g') :
    FrmD dd P Shun ((gs.map (woken P g g' w')).setIfInBounds i g') (t ++ MemOp.ofEvents i g.frame.fn g.frame.place es) (upd q i k) := by
  have hlt : i < gs.size := (Array.getElem?_eq_some_iff.1 hg).1
  refine ⟨⟨fun j x hj hx => ?_, fun j hj => ?_⟩, h.S.mute (by omega) hm, fun i' op hi => ?_⟩
  · by_cases e : j = i
    · subst e
      rw [get_map_set_same _ _ _ hlt] at hx
      obtain rfl := Option.some.inj hx
      rw [upd_same, Deaf_own]
      exact hq'
    · rw [get_map_set _ _ _ _ (Ne.symm e)] at hx
      obtain ⟨y, hy, rfl⟩ := Option.map_eq_some_iff.1 hx
      have hqj := h.L.old j y hj hy
      rw [woken_quitsD hqj, upd_ne q k e, Deaf_other t (fun h => e h.symm) _ g_of_ofEvents]
      exact hqj
  · have hs : gs.size ≤ j := by simpa using hj
    rw [Deaf_other t (by omega) _ g_of_ofEvents]
    exact h.L.above j hs
  · rcases getElem?_append_cases hi with ⟨_, hi'⟩ | ⟨_, hiu⟩
    · simpa using h.B i' op hi'
    · rw [g_of_ofEvents op hiu]; simpa using hlt
theorem FrmD.awake {dd : Nat} (h : FrmD dd P Shun gs t q) (h0 : gs[0]? = some a) (hr : a.status = .running) : ∀ g ∈ gs, awake g := by
  intro g hg
  obtain ⟨i, hi⟩ := Array.mem_iff_getElem?.1 hg
  by_cases e : i = 0
  · subst e; rw [h0] at hi; cases hi; exact awake_of (.inl hr)
  · exact awake_of ((h.L.old i g (by omega) hi).status.elim .inl fun x => .inr (.inr x))

variable {D : World → World → Array Event → Prop} {Stop : Goroutine → World → Prop}
/-- the machine's step: goroutine 0's, or a leaver's -/
theorem seg_pick {dd : Nat} (h : FrmD dd P Shun gs t q) (h0 : gs[0]? = some a) (hr : a.status = .running) :
    (∃ d sl', stepT P (crowd gs w sl) = runT P (crowd gs (w.at d) sl') 0) ∨
    (∃ i g k g' es d sl', 0 < i ∧ gs[i]? = some g ∧ q i = k + 1 ∧ (∀ e ∈ es, e.mute = true) ∧ QuitsD P k (deafBehind (Deaf t i) es) g' ∧
      stepT P (crowd gs w sl) = (.next (crowd ((gs.map (woken P g g' (w.at d))).setIfInBounds i g') (w.at d) sl'), MemOp.ofEvents i g.frame.fn g.frame.place es)) := by
  obtain ⟨i, g, d, sl', hi, hg, hst⟩ := crowd_pick (P := P) (w := w) (sl := sl) (h.awake h0 hr) ⟨0, a, h0, hr⟩
  by_cases e : i = 0
  · subst e; exact .inl ⟨d, sl', hst⟩
  · have hq := h.L.old i g (by omega) hi
    cases hqi : q i with
    | zero => rw [hqi] at hq; rw [hq.1] at hg; cases hg
    | succ k =>
      rw [hqi] at hq
      rcases hq with ⟨hf, _⟩ | ⟨_, g', es, hm, hstp, hq'⟩
      · rw [hf] at hg; cases hg
      · have hi0 : (i == 0) = false := by simpa using e
        exact .inr ⟨i, g, k, g', es, d, sl', by omega, hi, hqi, hm, hq', hst.trans (runT_crowd_go (P := P) (sl := sl') (i := i) hi (by rw [hi0]; exact hstp (w.at d)))⟩

/-- ████ A SEGMENT ████ -/
theorem seg {dd : Nat} (hD : ∀ w w' es, D w w' es → ∀ e ∈ es, EvP Shun e) : ∀ (M n : Nat) (gs : Array Goroutine) (a : Goroutine) (w : World) (sl : Option (Nat × Nat)) (t : Trace) (q : Nat → Nat), n + sumTo gs.size q ≤ M → gs[0]? = some a → FrmD dd P Shun gs t q → Goes P true AtRel D Stop n a w →
    ∃ (N : Nat) (gs' : Array Goroutine) (a' : Goroutine) (w' : World) (sl' : Option (Nat × Nat)) (t' : Trace) (q' : Nat → Nat),
      runNT P N (crowd gs w sl) t = (.next (crowd gs' w' sl'), t') ∧ gs'.size = gs.size ∧ gs'[0]? = some a' ∧ Stop a' w' ∧ FrmD dd P Shun gs' t' q' := by
  intro M
  induction M with
  | zero =>
    intro n gs a w sl t q hM h0 hF hG
    obtain rfl : n = 0 := by omega
    exact ⟨0, gs, a, w, sl, t, q, rfl, rfl, h0, hG w (atRel_refl w), hF⟩
  | succ M ih =>
    intro n gs a w sl t q hM h0 hF hG
    cases n with
    | zero => exact ⟨0, gs, a, w, sl, t, q, rfl, rfl, h0, hG w (atRel_refl w), hF⟩
    | succ m' =>
    rcases hG with hstop | ⟨hr, hst0⟩
    · exact ⟨0, gs, a, w, sl, t, q, rfl, rfl, h0, hstop w (atRel_refl w), hF⟩
    · have hstep := fun w₁ h₁ => goes_elim (hst0 w₁ h₁)
      have hG : Goes P true AtRel D Stop (m' + 1) a w := .inr ⟨hr, hst0⟩
      rcases seg_pick (w := w) (sl := sl) hF h0 hr with ⟨d, sl', hst⟩ | ⟨i, g, k, g', es, d, sl', hi0, hgi, hqi, hm, hq', hst⟩
      · obtain ⟨a', w', es, hgo, hd, hG'⟩ := hstep (w.at d) ⟨d, rfl⟩
        have hrun := runT_crowd_go (P := P) (sl := sl') (i := 0) h0 (by simpa using hgo)
        have hsz : ((gs.map (woken P a a' w')).setIfInBounds 0 a').size = gs.size := by simp
        have h0' : 0 < gs.size := (Array.getElem?_eq_some_iff.1 h0).1
        obtain ⟨N, gs', a'', w'', sl'', t', q', e1, e2, e3, e4, e5⟩ := ih m' _ a' w' sl' _ q (by rw [hsz]; omega) (by simp [h0']) (hF.step0 (a' := a') (w' := w') h0 (hD _ _ _ hd)) hG'
        exact ⟨N + 1, gs', a'', w'', sl'', t', q', by simp only [runNT, hst, hrun]; exact e1, e2.trans hsz, e3, e4, e5⟩
      · have hsz : ((gs.map (woken P g g' (w.at d))).setIfInBounds i g').size = gs.size := by simp
        have hlt : i < gs.size := (Array.getElem?_eq_some_iff.1 hgi).1
        have hsum : sumTo gs.size (upd q i k) + (k + 1) = sumTo gs.size q + k := by
          have := sumTo_upd q k id hlt
          simpa [hqi] using this
        obtain ⟨N, gs', a'', w'', sl'', t', q', e1, e2, e3, e4, e5⟩ := ih (m' + 1) _ a (w.at d) sl' _ (upd q i k) (by rw [hsz]; omega) (by rw [get_map_set _ _ _ _ (by omega), h0]; simp [woken_run hr]) (hF.stepL (w' := w.at d) hi0 hgi hqi hm hq') (Goes.rely atRel_trans hG ⟨d, rfl⟩)
        exact ⟨N + 1, gs', a'', w'', sl'', t', q', by simp only [runNT, hst]; exact e1, e2.trans hsz, e3, e4, e5⟩

/-- goroutine 0 stands at the step that ends the run -/
def AtEndP (P : Program) (Shun : Loc → Prop) (Post : Value → World → Prop) (g : Goroutine) (w : World) : Prop :=
  g.status = .running ∧ ∃ v es, stepG P true g w = .ended (.done v) w es ∧ (∀ e ∈ es, EvP Shun e) ∧ Post v w
variable {Post : Value → World → Prop}
def SInv (P : Program) (Shun : Loc → Prop) (D : World → World → Array Event → Prop) (Post : Value → World → Prop) (μ : Nat) (m : Machine) (t : Trace) : Prop :=
  ∃ (gs : Array Goroutine) (a : Goroutine) (w : World) (sl : Option (Nat × Nat)) (q : Nat → Nat) (n : Nat), m = crowd gs w sl ∧ gs[0]? = some a ∧ Frm P Shun gs t q ∧ Goes P true AtRel D (AtEndP P Shun Post) n a w ∧ μ = n + sumTo gs.size q
theorem seg_end_step (hD : ∀ w w' es, D w w' es → ∀ e ∈ es, EvP Shun e) (μ : Nat) (m : Machine) (t : Trace) (h : SInv P Shun D Post μ m t) :
    (∃ o w ops, stepT P m = (.ended o w, ops) ∧ Good P Post m o w (t ++ ops)) ∨ (∃ m' ops μ', stepT P m = (.next m', ops) ∧ μ' < μ ∧ SInv P Shun D Post μ' m' (t ++ ops)) := by
  obtain ⟨gs, a, w, sl, q, n, rfl, h0, hF, hG, rfl⟩ := h
  have hr : a.status = .running := hG.running (fun _ _ x => x.1) w (atRel_refl w)
  rcases seg_pick (w := w) (sl := sl) hF h0 hr with ⟨d, sl', hst⟩ | ⟨i, g, k, g', es, d, sl', hi0, hgi, hqi, hm, hq', hst⟩
  · rcases Goes.cases hG with hstop | ⟨m', rfl, hstep⟩
    · obtain ⟨_, v, es, hend, hes, hpost⟩ := hstop (w.at d) ⟨d, rfl⟩
      have hrunT := runT_many_ended (P := P) (sl := sl') (i := 0) h0 (by simpa using hend)
      have hP' := hF.S.own (fn := a.frame.fn) (pos := a.frame.place) hes
      refine .inl ⟨_, _, _, hst.trans hrunT, v, rfl, hpost, hP'.clean, hP'.over, ⟨fun x hx => ?_, rfl⟩, fun j x hx hj => ?_⟩
      · obtain ⟨j, hj⟩ := List.mem_iff_getElem?.1 hx
        rw [List.getElem?_drop] at hj
        exact ⟨_, (hF.L.old (1 + j) x (by omega) (by simpa [crowd] using hj)).leaves⟩
      · have hq := hF.L.old j x (by omega) hx
        refine ⟨q j, ?_⟩
        have e := Deaf_other t (g := j) (g' := 0) (by omega) _ (g_of_ofEvents (fn := a.frame.fn) (pos := a.frame.place) (es := es))
        have e2 : (t ++ MemOp.ofEvents 0 a.frame.fn a.frame.place es).deaf j (t ++ MemOp.ofEvents 0 a.frame.fn a.frame.place es).size = Deaf t j := e
        rw [e2]
        exact hq.hears _
    · obtain ⟨a', w', es, hgo, hd, hG'⟩ := hstep (w.at d) ⟨d, rfl⟩
      have hrun := runT_crowd_go (P := P) (sl := sl') (i := 0) h0 (by simpa using hgo)
      have h0' : 0 < gs.size := (Array.getElem?_eq_some_iff.1 h0).1
      exact .inr ⟨_, _, m' + sumTo gs.size q, hst.trans hrun, by omega, _, a', w', sl', q, m', rfl, by simp [h0'], hF.step0 (a' := a') (w' := w') h0 (hD _ _ _ hd), hG', by simp⟩
  · have hlt : i < gs.size := (Array.getElem?_eq_some_iff.1 hgi).1
    have hsum : sumTo gs.size (upd q i k) + (k + 1) = sumTo gs.size q + k := by
      have := sumTo_upd q k id hlt
      simpa [hqi] using this
    exact .inr ⟨_, _, n + sumTo gs.size (upd q i k), hst, by omega, _, a, w.at d, sl', upd q i k, n, rfl, by rw [get_map_set _ _ _ _ (by omega), h0]; simp [woken_run hr], hF.stepL (w' := w.at d) hi0 hgi hqi hm hq', Goes.rely atRel_trans hG ⟨d, rfl⟩, by simp⟩
/-- ████ THE LAST SEGMENT ████ -/
theorem seg_end (hD : ∀ w w' es, D w w' es → ∀ e ∈ es, EvP Shun e) {n : Nat} (h0 : gs[0]? = some a) (hF : Frm P Shun gs t q) (hG : Goes P true AtRel D (AtEndP P Shun Post) n a w) :
    ∃ N last o w' t', runNT P (N + 1) (crowd gs w sl) t = (.ended o w', t') ∧ runN P N (crowd gs w sl) = .next last ∧ step P last = .ended o w' ∧ Good P Post last o w' t' :=
  run_of_inv Nat.lt_wfRel.wf (SInv P Shun D Post) (Good P Post) (seg_end_step hD) _ _ _ ⟨gs, a, w, sl, q, n, rfl, h0, hF, hG, rfl⟩
/-- several runs, one behind the other -/
theorem good_after {N1 : Nat} {m m' : Machine} {t1 : Trace} (h1 : runNT P N1 m t = (.next m', t1))
    (h2 : ∃ N last o w' t', runNT P (N + 1) m' t1 = (.ended o w', t') ∧ runN P N m' = .next last ∧ step P last = .ended o w' ∧ Good P Post last o w' t') :
    ∃ N last o w' t', runNT P (N + 1) m t = (.ended o w', t') ∧ runN P N m = .next last ∧ step P last = .ended o w' ∧ Good P Post last o w' t' := by
  obtain ⟨N, last, o, w', t', e1, e2, e3, e4⟩ := h2
  refine ⟨N1 + N, last, o, w', t', ?_, ?_, e3, e4⟩
  · rw [Nat.add_assoc, runNT_add, h1]; exact e1
  · rw [runN_add, ← runNT_fst P _ _ t, h1]; exact e2
end
end Go.Proofs.Ytinghnaigpenkaa
