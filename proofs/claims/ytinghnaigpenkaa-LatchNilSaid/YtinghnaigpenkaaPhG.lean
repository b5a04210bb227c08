/- A phase: whatever step of the starter's; no deadlock; from the first go statement to the last worker's release. -/
import Derived.Test.YtinghnaigpenkaaPhF
namespace Go.Proofs.Ytinghnaigpenkaa
open Go.Conc
open Go.ConcN (CTag phi isOpen isW3 isFin pend WD Vc Ssum Fsum cnt OpenSt AllQuit RelBy sumTo upd sumTo_upd upd_same upd_ne sumTo_congr sumTo_upd_out le_sumTo get_map_set get_map_set_same Deaf_absent phi_mono Vc_upd Vc_le others_uncounted bk_cell deafBehind_idle allQuit_of exists_counted)
open Go.ConcR (KK wgBlock WgAt stA smA rd wr mk Payload DC0 Bk g_of_ofEvents again_blocked bk_of_mute ofEvent_mk loc_of_ofEvent ofEvent_loc_mark ofEvent_cell)
set_option linter.unusedVariables false
set_option linter.unusedSimpArgs false
set_option linter.unusedSectionVars false
variable [Payload]

section
variable {P : Program} {c : Cfg} {Anch : Nat → Goroutine → World → Prop} {Fin : Goroutine → World → Prop} {Shun : Loc → Prop} {T0 : Nat}
  {gs : Array Goroutine} {w w' : World} {sl : Option (Nat × Nat)} {j lw : Nat} {D : Nat → WD} {X : Nat → WX c.U} {σ σ' : c.S} {q : Nat → Nat} {tag tag' : CTag} {f0 f' d0 : Nat} {a a' : Goroutine} {t : Trace} {st sm st' sm' : Int} {es : Array Event}

/-- THE LAST STEP: the starter acquires what all have released -/
theorem acqStep (K : c.Ok) (hS : ∀ l, Shun l → c.sh l) (ha : gs[0]? = some a) (hcom : Com P c Shun T0 c.n lw gs w t D X σ q 0) (hwg : WgAt c.ty c.Wg w 0 0) (hq : AllQuit c.n D) (h : AtAcq P c Fin a w) :
    ∃ m₁ ops, runT P (crowd gs w sl) 0 = (.next m₁, ops) ∧ PhEnd P c Fin m₁ (t ++ ops) := by
  obtain ⟨_, a', hgo, hr', hfin⟩ := h
  have hN0 := K.hN
  have hrun := runT_crowd_go (P := P) (sl := sl) (i := 0) ha (by simpa using hgo)
  have hl : Live c.ty c.Wg w := ⟨_, _, hwg⟩
  have e1 : MemOp.ofEvents 0 a.frame.fn a.frame.place #[mk (.acquire (stA c.Wg))] = #[{ g := 0, fn := a.frame.fn, pos := a.frame.place, act := .mark (.acquire (stA c.Wg)) }] := by rw [ofEvents_eq]; simp [ofEvent_mk]
  refine ⟨_, _, hrun, ?_⟩
  have hsz : ((gs.map (woken P a a' w)).setIfInBounds 0 a').size = gs.size := by simp
  obtain ⟨u, hu⟩ : ∃ u, u = MemOp.ofEvents 0 a.frame.fn a.frame.place #[mk (.acquire (stA c.Wg))] := ⟨_, rfl⟩
  have hu0 : ∀ op ∈ u, op.g = 0 := by rw [hu]; exact g_of_ofEvents
  have hun : ∀ op ∈ u, op.act.touch? = none := by rw [hu, e1]; intro op hop; simp at hop; subst hop; rfl
  have huk : ∀ op ∈ u, op.act ≠ .mark .disable ∧ op.act ≠ .mark .enable := by rw [hu, e1]; intro op hop; simp at hop; subst hop; exact ⟨by simp, by simp⟩
  have hur : ∀ op ∈ u, op.act ≠ .mark (.release (stA c.Wg)) := by rw [hu, e1]; intro op hop; simp at hop; subst hop; simp
  have hpt := hcom.pt.appMute (u := u) (g := 0) (by omega) hu0 hun
  have hdf : ∀ g, Deaf (t ++ u) g = Deaf t g := fun g => ConcN.Deaf_still t g _ huk
  have hy : (t ++ u)[t.size]? = some { g := 0, fn := a.frame.fn, pos := a.frame.place, act := .mark (.acquire (stA c.Wg)) } := by rw [hu, e1]; simp
  have rel : ∀ k, Started c.N0 c.n k → ∃ r, RelBy (stA c.Wg) (t ++ u) k r ∧ r < t.size := fun k hk => by
    obtain ⟨i, rfl⟩ : ∃ i, k = c.N0 + i := ⟨k - c.N0, by have := hk.1; omega⟩
    have hi : i < c.n := by have := hk.2; omega
    obtain ⟨r, hr⟩ := hcom.rel i hi (by rw [hq i hi]; omega)
    exact ⟨r, hr.appOther hu0 (by omega), lt_of_act? hr.act⟩
  rw [← hu]
  refine ⟨_, w, sl, a', fun i => if i < c.N0 then q i else (D (i - c.N0)).fuel, σ, fun i => (X i).u, rfl, ?_, by rw [hsz, hcom.size], hr', hfin, ⟨fun i g hi0 hg => ?_, fun i hi => ?_⟩, ?_, hcom.h0, ?_, hwg, hcom.rep, hcom.ju, fun i hi => ?_⟩
  · have : 0 < gs.size := (Array.getElem?_eq_some_iff.1 ha).1
    simp [this]
  · rw [get_map_set _ _ _ _ (by omega)] at hg
    obtain ⟨y, hy', rfl⟩ := Option.map_eq_some_iff.1 hg
    rw [hdf]
    by_cases hiN : i < c.N0
    · have hqq := hcom.old i y hi0 hiN hy'
      rw [woken_quitsD hqq, if_pos hiN]
      exact hqq
    · rw [if_neg hiN]
      obtain ⟨i', rfl⟩ : ∃ i', i = c.N0 + i' := ⟨i - c.N0, by omega⟩
      have hi' : i' < c.n := by have := (Array.getElem?_eq_some_iff.1 hy').1; rw [hcom.size] at this; omega
      obtain ⟨z, hz, hs⟩ := hcom.wk i' hi'
      rw [hy'] at hz
      cases hz
      rw [show c.N0 + i' - c.N0 = i' by omega, hcom.deafW i' hi', hs.woken]
      exact hs.quits (hq i' hi')
  · rw [hdf]
    rw [hsz, hcom.size] at hi
    exact Deaf_absent fun k op hk e => by have := hcom.pt.gs k op hk; omega
  · exact PT.finish (F := famOf c w fun i => (X i).C) (wg := stA c.Wg) (q := t.size) hpt hN0 hS rel (norel_app hcom.norel hur) (by rw [act?_of hy]) (by unfold Trace.g?; rw [hy]; rfl) ⟨0, by unfold Trace.g?; rw [hy]; rfl, by rw [deaf_old (Nat.le_refl _)]; exact hcom.deaf0⟩ (by rw [hdf]; exact hcom.deaf0)
      (hcom.over.app hcom.pt.size u)
  · intro i op hi
    rw [hsz, hcom.size]
    exact hpt.gs i op hi
  · obtain ⟨z, hz, hs⟩ := hcom.wk i hi
    exact hs.fin (by rw [hq i hi]; omega)

set_option maxHeartbeats 1600000 in
theorem stepCaller (K : c.Ok) (hS : ∀ l, Shun l → c.sh l)
    (hAn : ∀ lw g w, Anch lw g w → ∃ m, Goes P true (R0 c lw) (D0 c lw) (AtW1 P c lw (Anch lw) Fin) m g w)
    (ha : gs[0]? = some a) (hcs : CS P c Anch Fin tag j f0 d0 lw a w) (hcom : Com P c Shun T0 j lw gs w t D X σ q d0) (hwg : WgAt c.ty c.Wg w st sm) (hmode : ConcN.Mode j D tag st sm) (hrun : a.status = .running) :
    (∃ m₁ ops, runT P (crowd gs w sl) 0 = (.next m₁, ops) ∧ PhEnd P c Fin m₁ (t ++ ops)) ∨
    (∃ m₁ ops μ', runT P (crowd gs w sl) 0 = (.next m₁, ops) ∧ Lt3 μ' (Meas c j D X σ q tag f0) ∧ Inv P c Anch Fin Shun T0 μ' m₁ (t ++ ops)) := by
  have hVj := Vc_le j D
  have hn := K.hn
  cases hcs with
  | skd hr h =>
    rcases Goes.cases h with hstop | ⟨m', rfl, hstep⟩
    · obtain ⟨_, a', hgo, m₂, hk⟩ := hstop w (R0.refl w)
      exact .inr (bookC K ha hcom hwg hgo (.refl c.Wg w) hwg ConcN.bk_dis (.sa1 hr hk) (hmode.reopen trivial trivial rfl (by simp)) (.inl (by simp only [phi]; omega)))
    · obtain ⟨a', w', es, hgo, hD, hg'⟩ := hstep w (R0.refl w)
      exact .inr (idleC K ha hcom hwg hmode hgo hD (.skd hr hg') (by omega))
  | sa1 hr h =>
    rename_i r
    rcases Goes.cases h with hstop | ⟨m', rfl, hstep⟩
    · obtain ⟨_, hall⟩ := hstop w (R0.refl w)
      obtain ⟨ho, rfl, rfl, _⟩ := hmode.open_inv trivial
      obtain ⟨a', hgo, m₂, hk⟩ := hall (Vc (c.n - (r + 1)) D) (by omega) (by simpa [pend] using hwg)
      refine .inr (bookC K ha hcom hwg hgo (aside_setCell w (stA c.Wg) _) (hwg.setSt _) ConcN.bk_rw (.ske hr hk) ?_ (.inl (by simp only [phi]; omega)))
      have e : (((Vc (c.n - (r + 1)) D : Nat) : Int) + 1) * KK = ((Vc (c.n - (r + 1)) D + pend (.sp r 3) : Nat) : Int) * KK := by simp [pend]
      rw [e]
      exact .opn trivial ho (by simp)
    · obtain ⟨a', w', es, hgo, hD, hg'⟩ := hstep w (R0.refl w)
      exact .inr (idleC K ha hcom hwg hmode hgo hD (.sa1 hr hg') (by omega))
  | ske hr h =>
    rcases Goes.cases h with hstop | ⟨m', rfl, hstep⟩
    · obtain ⟨_, a', hgo, m₂, hk⟩ := hstop w (R0.refl w)
      exact .inr (bookC K ha hcom hwg hgo (.refl c.Wg w) hwg ConcN.bk_en (.sgo hr hk) (hmode.reopen trivial trivial rfl (by simp)) (.inl (by simp only [phi]; omega)))
    · obtain ⟨a', w', es, hgo, hD, hg'⟩ := hstep w (R0.refl w)
      exact .inr (idleC K ha hcom hwg hmode hgo hD (.ske hr hg') (by omega))
  | sgo hr h =>
    rename_i r
    rcases Goes.cases h with hstop | ⟨m', rfl, hstep⟩
    · obtain ⟨_, a', child, C, hsp, hcr, hlw, hH, hsoft, hall, hnext⟩ := hstop w (R0.refl w)
      obtain ⟨jj, hjj⟩ : ∃ jj, jj = c.n - (r + 1) := ⟨_, rfl⟩
      rw [← hjj] at hcom hmode hall hVj ⊢
      obtain ⟨m₂, hk⟩ := hall (c.mu σ (fun i => (X i).u) jj + 1)
      obtain ⟨ho, rfl, rfl, _⟩ := hmode.open_inv trivial
      have hrun' := runT_crowd_spawn (P := P) (sl := sl) (i := 0) ha (by simpa using hsp)
      rw [hcom.size] at hrun'
      have hcom' := hcom.spawn (a' := a') K (by omega) (x := { g := 0, fn := a.frame.fn, pos := a.frame.place, act := .go (c.N0 + jj) }) (y := { g := c.N0 + jj, fn := child.frame.fn, pos := a.frame.place, act := .start }) ⟨rfl, rfl⟩ ⟨rfl, rfl⟩ hlw hH hsoft (.work hk)
      have eV : Vc (jj + 1) (upd D jj ⟨7, m₂, 0⟩) = Vc jj D + 1 := by
        simp only [Vc, sumTo, upd_same]
        rw [sumTo_upd_out D _ cnt (Nat.le_refl _)]; rfl
      have eS : Ssum (jj + 1) (upd D jj ⟨7, m₂, 0⟩) = Ssum jj D + 7 := by
        simp only [Ssum, sumTo, upd_same]
        rw [sumTo_upd_out D _ WD.stage (Nat.le_refl _)]
      have ho' : OpenSt (jj + 1) (upd D jj ⟨7, m₂, 0⟩) := fun i hi => by
        by_cases e : i = jj
        · subst e; rw [upd_same]; simp
        · rw [upd_ne D _ e]; exact ho i (by omega)
      have ha' : ((gs.setIfInBounds 0 a').push child)[0]? = some a' := by
        have h0 : 0 < gs.size := (Array.getElem?_eq_some_iff.1 ha).1
        rw [Array.getElem?_push_lt (by simpa using h0), ← Array.getElem?_eq_getElem]
        simp [h0]
      have est : ∀ tag', pend tag' = 0 → ((Vc jj D + pend (.sp r 2) : Nat) : Int) * KK = ((Vc (jj + 1) (upd D jj ⟨7, m₂, 0⟩) + pend tag' : Nat) : Int) * KK := fun tag' hp => by rw [eV, hp]; simp [pend]
      cases r with
      | zero =>
        obtain ⟨m₃, hk⟩ := hnext
        have ej : jj + 1 = c.n := by omega
        rw [ej] at hcom' eV eS ho' est
        refine .inr ⟨_, _, Meas c c.n (upd D jj ⟨7, m₂, 0⟩) (upd X jj ⟨C, c.init jj, c.mu σ (fun i => (X i).u) jj, true⟩) σ q .kd m₃, hrun', ?_, _, w, sl, c.n, _, _, σ, q, .kd, m₃, 0, w.heap.size, a', _, _, rfl, ha', .kd hk, hcom', hwg, ?_, rfl⟩
        · simp only [Meas]
          exact Prod.Lex.left _ _ (by simp only [phi]; omega)
        · rw [est .kd rfl]
          exact .opn trivial ho' (by simp)
      | succ r' =>
        obtain ⟨m₃, hk⟩ := hnext
        have ej : jj + 1 = c.n - (r' + 1) := by omega
        rw [ej] at hcom' eV eS ho' est
        refine .inr ⟨_, _, Meas c (c.n - (r' + 1)) (upd D jj ⟨7, m₂, 0⟩) (upd X jj ⟨C, c.init jj, c.mu σ (fun i => (X i).u) jj, true⟩) σ q (.sp r' 5) m₃, hrun', ?_, _, w, sl, c.n - (r' + 1), _, _, σ, q, .sp r' 5, m₃, 0, w.heap.size, a', _, _, rfl, ha', .skd (by omega) hk, hcom', hwg, ?_, rfl⟩
        · simp only [Meas]
          exact Prod.Lex.left _ _ (by simp only [phi]; omega)
        · rw [est (.sp r' 5) rfl]
          exact .opn trivial ho' (by simp)
    · obtain ⟨a', w', es, hgo, hD, hg'⟩ := hstep w (R0.refl w)
      exact .inr (idleC K ha hcom hwg hmode hgo hD (.sgo hr hg') (by omega))
  | kd h =>
    rcases Goes.cases h with hstop | ⟨m', rfl, hstep⟩
    · obtain ⟨_, a', hgo, m₂, hk⟩ := hstop w (R0.refl w)
      exact .inr (bookC K ha hcom hwg hgo (.refl c.Wg w) hwg ConcN.bk_dis (.anch hk) (hmode.reopen trivial trivial rfl (by simp)) (.inl (by simp only [phi]; omega)))
    · obtain ⟨a', w', es, hgo, hD, hg'⟩ := hstep w (R0.refl w)
      exact .inr (idleC K ha hcom hwg hmode hgo hD (.kd hg') (by omega))
  | anch h =>
    rcases Goes.cases h with hstop | ⟨m', rfl, hstep⟩
    · obtain ⟨m₂, hk⟩ := hAn lw a w (hstop w (R0.refl w))
      obtain ⟨m₁, ops, μ', h1, h2, h3⟩ := w1Step (sl := sl) K ha hcom hwg (hmode.reopen trivial trivial rfl (by simp)) hk
      exact .inr ⟨m₁, ops, μ', h1, lt3_trans h2 (Prod.Lex.left _ _ (by simp only [phi]; omega)), h3⟩
    · obtain ⟨a', w', es, hgo, hD, hg'⟩ := hstep w (R0.refl w)
      exact .inr (idleC K ha hcom hwg hmode hgo hD (.anch hg') (by omega))
  | w1 h => exact .inr (w1Step K ha hcom hwg hmode h)
  | w2 h =>
    rename_i vs
    rcases Goes.cases h with hstop | ⟨m', rfl, hstep⟩
    · obtain ⟨_, hall⟩ := hstop w (R0.refl w)
      obtain ⟨ho, rfl, rfl, hw2⟩ := hmode.open_inv trivial
      obtain ⟨hle, h1⟩ := hw2 vs rfl
      obtain ⟨hhit, hmiss⟩ := hall (Vc c.n D) (by omega) (by simpa [pend] using hwg)
      by_cases e : Vc c.n D = vs
      · obtain ⟨a', hgo, m₂, hk⟩ := hhit e
        exact .inr (bookC K ha hcom hwg hgo (aside_setCell w (stA c.Wg) _) (hwg.setSt _) ConcN.bk_rw (.w3 hk) (.reg trivial ho (by omega)) (.inl (by simp only [phi]; omega)))
      · obtain ⟨a', hgo, m₂, hk⟩ := hmiss e
        exact .inr (bookC K ha hcom hwg hgo (.refl c.Wg w) hwg ConcN.bk_rd (.anch hk) (hmode.reopen trivial trivial rfl (by simp)) (.inl (by simp only [phi]; omega)))
    · obtain ⟨a', w', es, hgo, hD, hg'⟩ := hstep w (R0.refl w)
      exact .inr (idleC K ha hcom hwg hmode hgo hD (.w2 hg') (by omega))
  | w3 h =>
    rcases Goes.cases h with hstop | ⟨m', rfl, hstep⟩
    · obtain ⟨_, hoff, hblk, htake⟩ := hstop w (R0.refl w)
      cases hmode with
      | opn h1 _ _ => exact h1.elim
      | reg h1 h2 h3 => exact .inr (bookC K ha hcom hwg (hblk ⟨_, hwg⟩) (.refl c.Wg w) hwg (by simp) (.blk hstop) (.reg trivial h2 h3) (.inr ⟨rfl, by omega⟩))
      | last L h1 h2 h3 h4 => exact .inr (bookC K ha hcom hwg (hblk ⟨_, hwg⟩) (.refl c.Wg w) hwg (by simp) (.blk hstop) (.last L trivial h2 h3 h4) (.inr ⟨rfl, by omega⟩))
      | sema h2 =>
        obtain ⟨a', hgo, m₂, hk⟩ := htake hwg
        exact .inr (bookC K ha hcom hwg hgo (aside_setCell w (smA c.Wg) _) (hwg.setSm 0) ConcN.bk_sem (.w4 hk) (.fin trivial h2) (.inl (by simp only [phi]; omega)))
      | fin h1 _ => exact h1.elim
    · obtain ⟨a', w', es, hgo, hD, hg'⟩ := hstep w (R0.refl w)
      exact .inr (idleC K ha hcom hwg hmode hgo hD (.w3 hg') (by omega))
  | blk h => simp at hrun
  | w4 h =>
    rcases Goes.cases h with hstop | ⟨m', rfl, hstep⟩
    · obtain ⟨_, hx⟩ := hstop w (R0.refl w)
      obtain ⟨hq, rfl, rfl⟩ := hmode.fin_inv trivial
      obtain ⟨a', hgo, m₂, hk⟩ := hx hwg
      exact .inr (bookC K ha hcom hwg hgo (.refl c.Wg w) hwg ConcN.bk_rd (.ke hk) (.fin trivial hq) (.inl (by simp only [phi]; omega)))
    · obtain ⟨a', w', es, hgo, hD, hg'⟩ := hstep w (R0.refl w)
      exact .inr (idleC K ha hcom hwg hmode hgo hD (.w4 hg') (by omega))
  | ke h =>
    rcases Goes.cases h with hstop | ⟨m', rfl, hstep⟩
    · obtain ⟨_, a', hgo, m₂, hk⟩ := hstop w (R0.refl w)
      obtain ⟨hq, rfl, rfl⟩ := hmode.fin_inv trivial
      exact .inr (bookC K ha hcom hwg hgo (.refl c.Wg w) hwg ConcN.bk_en (.acq hk) (.fin trivial hq) (.inl (by simp only [phi]; omega)))
    · obtain ⟨a', w', es, hgo, hD, hg'⟩ := hstep w (R0.refl w)
      exact .inr (idleC K ha hcom hwg hmode hgo hD (.ke hg') (by omega))
  | acq h =>
    rcases Goes.cases h with hstop | ⟨m', rfl, hstep⟩
    · obtain ⟨hq, rfl, rfl⟩ := hmode.fin_inv trivial
      exact .inl (acqStep K hS ha hcom hwg hq (hstop w (R0.refl w)))
    · obtain ⟨a', w', es, hgo, hD, hg'⟩ := hstep w (R0.refl w)
      exact .inr (idleC K ha hcom hwg hmode hgo hD (.acq hg') (by omega))

/-- NO DEADLOCK -/
theorem ws_running {k C N s m d : Nat} {u : c.U} {b : Bool} {g : Goroutine} (h : WS P c k C u N b s m d g w) (hs : s ≠ 1) : g.status = .running := by
  cases h with
  | work h => exact Goes.running (fun _ _ x => by rcases x with ⟨_, x, _⟩ | ⟨_, x, _⟩ <;> exact x) w (RW.refl w) h
  | sit hf h => exact ConcN.WSit.running_of h hs
theorem someone_runs (hAr : ∀ lw g w, Anch lw g w → g.status = .running) (ha : gs[0]? = some a) (hcs : CS P c Anch Fin tag j f0 d0 lw a w) (hcom : Com P c Shun T0 j lw gs w t D X σ q d0) (hmode : ConcN.Mode j D tag st sm) :
    ∃ (i : Nat) (g : Goroutine), gs[i]? = some g ∧ g.status = .running := by
  rcases hcs.status hAr with ⟨hs, _⟩ | ⟨_, rfl⟩
  · exact ⟨0, a, ha, hs⟩
  · cases hmode with
    | opn h1 _ _ => exact h1.elim
    | reg _ _ h3 =>
      obtain ⟨i, hi, h5⟩ := exists_counted h3
      obtain ⟨g, hg, hs⟩ := hcom.wk i hi
      exact ⟨_, g, hg, ws_running hs (by omega)⟩
    | last L _ h2 h3 _ =>
      obtain ⟨g, hg, hs⟩ := hcom.wk L h2
      exact ⟨_, g, hg, ws_running hs (by omega)⟩
    | fin h1 _ => exact h1.elim
theorem all_awake (hAr : ∀ lw g w, Anch lw g w → g.status = .running) (ha : gs[0]? = some a) (hcs : CS P c Anch Fin tag j f0 d0 lw a w) (hcom : Com P c Shun T0 j lw gs w t D X σ q d0) : ∀ g ∈ gs, awake g := by
  intro g hg
  obtain ⟨i, hi⟩ := Array.mem_iff_getElem?.1 hg
  by_cases h0 : i = 0
  · subst h0
    rw [ha] at hi; cases hi
    intro tm
    rcases hcs.status hAr with ⟨hs, _⟩ | ⟨hs, _⟩ <;> rw [hs] <;> simp
  · by_cases hN : i < c.N0
    · have hq := hcom.old i g (by omega) hN hi
      exact awake_of (hq.status.elim .inl fun x => .inr (.inr x))
    · obtain ⟨i', rfl⟩ : ∃ i', i = c.N0 + i' := ⟨i - c.N0, by omega⟩
      have hi' : i' < j := by have := (Array.getElem?_eq_some_iff.1 hi).1; rw [hcom.size] at this; omega
      obtain ⟨g', hg', hs⟩ := hcom.wk i' hi'
      rw [hi] at hg'; cases hg'
      exact awake_of (hs.status.elim .inl fun x => .inr (.inr x))
end

section
variable {P : Program} {c : Cfg} {Anch : Nat → Goroutine → World → Prop} {Fin : Goroutine → World → Prop} {Shun : Loc → Prop} {T0 : Nat}
theorem phase_step (K : c.Ok) (hS : ∀ l, Shun l → c.sh l) (hAr : ∀ lw g w, Anch lw g w → g.status = .running)
    (hAn : ∀ lw g w, Anch lw g w → ∃ m, Goes P true (R0 c lw) (D0 c lw) (AtW1 P c lw (Anch lw) Fin) m g w) : ∀ μ m t, Inv P c Anch Fin Shun T0 μ m t →
    (∃ m' ops, stepT P m = (.next m', ops) ∧ PhEnd P c Fin m' (t ++ ops)) ∨ (∃ m' ops μ', stepT P m = (.next m', ops) ∧ Lt3 μ' μ ∧ Inv P c Anch Fin Shun T0 μ' m' (t ++ ops)) := by
  rintro μ m t ⟨gs, w, sl, j, D, X, σ, q, tag, f0, d0, lw, a, st, sm, rfl, ha, hcs, hcom, hwg, hmode, rfl⟩
  obtain ⟨i, g, d, sl', hg, hrun, hstep⟩ := crowd_pick (P := P) (w := w) (sl := sl) (all_awake hAr ha hcs hcom) (someone_runs hAr ha hcs hcom hmode)
  rw [hstep]
  have hcs' := hcs.rely (R0.at K w d)
  have hcom' := hcom.at K ⟨_, _, hwg⟩ d
  have hwg' : WgAt c.ty c.Wg (w.at d) st sm := hwg
  by_cases h0 : i = 0
  · subst h0
    rw [ha] at hg; cases hg
    exact stepCaller (sl := sl') K hS hAn ha hcs' hcom' hwg' hmode hrun
  · by_cases hN : i < c.N0
    · exact .inr (stepLeaver K hAr ha hcs' hcom' hwg' hmode (by omega) hN hg hrun)
    · obtain ⟨i', rfl⟩ : ∃ i', i = c.N0 + i' := ⟨i - c.N0, by omega⟩
      have hi' : i' < j := by have := (Array.getElem?_eq_some_iff.1 hg).1; rw [hcom.size] at this; omega
      exact .inr (stepWorker K hAr ha hcs' hcom' hwg' hmode hi' hg hrun)

theorem phase_runs (K : c.Ok) (hS : ∀ l, Shun l → c.sh l) (hAr : ∀ lw g w, Anch lw g w → g.status = .running)
    (hAn : ∀ lw g w, Anch lw g w → ∃ m, Goes P true (R0 c lw) (D0 c lw) (AtW1 P c lw (Anch lw) Fin) m g w) : ∀ μ m t, Inv P c Anch Fin Shun T0 μ m t →
    ∃ N m' t', runNT P N m t = (.next m', t') ∧ PhEnd P c Fin m' t' := by
  intro μ
  induction μ using (Prod.lex Nat.lt_wfRel (Prod.lex Nat.lt_wfRel Nat.lt_wfRel)).wf.induction with
  | _ μ ih =>
    intro m t h
    rcases phase_step K hS hAr hAn μ m t h with ⟨m', ops, h1, h2⟩ | ⟨m', ops, μ', h1, h2, h3⟩
    · exact ⟨1, m', t ++ ops, by simp only [runNT, h1], h2⟩
    · obtain ⟨N, m'', t'', h4, h5⟩ := ih μ' h2 m' (t ++ ops) h3
      exact ⟨N + 1, m'', t'', by simp only [runNT, h1]; exact h4, h5⟩

/-- ████ A PHASE: from a frame to a frame ████ -/
theorem phase (K : c.Ok) (hS : ∀ l, Shun l → c.sh l) (hAr : ∀ lw g w, Anch lw g w → g.status = .running)
    (hAn : ∀ lw g w, Anch lw g w → ∃ m, Goes P true (R0 c lw) (D0 c lw) (AtW1 P c lw (Anch lw) Fin) m g w)
    {gs : Array Goroutine} {a : Goroutine} {w : World} {sl : Option (Nat × Nat)} {t : Trace} {q : Nat → Nat} {lw : Nat} {σ : c.S} {us : Nat → c.U}
    (ha : gs[0]? = some a) (hsz : gs.size = c.N0) (hL : Leavers P t gs q) (hP : Pst Shun t) (hH0 : c.H0 ≤ w.heap.size) (hg : ∀ (i : Nat) (op : MemOp), t[i]? = some op → op.g < gs.size)
    (hsp : Spawns P c Anch c.n lw a w) (hlw : lw ≤ w.heap.size) (hwg : WgAt c.ty c.Wg w 0 0) (hrep : c.Rep σ w) (hju : c.JU σ us 0) :
    ∃ N m' t', runNT P N (crowd gs w sl) t = (.next m', t') ∧ PhEnd P c Fin m' t' := by
  have hcom : Com P c Shun t.size 0 lw gs w t (fun _ => ⟨0, 0, 0⟩) (fun i => ⟨0, us i, 0, false⟩) σ q 0 :=
    ⟨hsz, fun i hi => by omega, fun i g h0 hN hg' => hL.old i g h0 hg', PT.start hP hS (fun i op hi => by have := hg i op hi; omega), fun i hi => by
      intro e
      obtain ⟨op, ho, _⟩ := Option.map_eq_some_iff.1 e
      have := lt_size_of_getElem? ho; omega, hP.hears, fun i hi => by omega, fun i hi => by omega, fun i hi => by omega, fun i i' hi => by omega, fun i hi => by omega, hrep, hju, hH0, hlw, fun i g hi hgi hne hc => hP.over i g hgi hne hc⟩
  have hmode : ∀ tag, isOpen tag → pend tag = 0 → (∀ vs, tag ≠ .w2 vs) → ConcN.Mode 0 (fun _ => (⟨0, 0, 0⟩ : WD)) tag 0 0 := fun tag h1 h2 h3 => by
    have := ConcN.Mode.opn (j := 0) (D := fun _ => (⟨0, 0, 0⟩ : WD)) h1 (fun i hi => by omega) (fun vs e => absurd e (h3 vs))
    simpa [Vc, sumTo, h2] using this
  have hInv : ∃ μ, Inv P c Anch Fin Shun t.size μ (crowd gs w sl) t := by
    cases hn : c.n with
    | zero =>
      rw [hn] at hsp
      obtain ⟨m, hk⟩ := hsp
      have hc := CS.kd (Fin := Fin) hk
      rw [hn] at hc
      exact ⟨_, gs, w, sl, 0, _, _, σ, q, .kd, m, 0, lw, a, 0, 0, rfl, ha, hc, hcom, hwg, hmode .kd trivial rfl (by simp), rfl⟩
    | succ r =>
      rw [hn] at hsp
      obtain ⟨m, hk⟩ := hsp
      have hc := CS.skd (Fin := Fin) (P := P) (c := c) (Anch := Anch) (r := r) (by omega) hk
      rw [show c.n - (r + 1) = 0 by omega] at hc
      exact ⟨_, gs, w, sl, 0, _, _, σ, q, .sp r 5, m, 0, lw, a, 0, 0, rfl, ha, hc, hcom, hwg, hmode (.sp r 5) trivial rfl (by simp), rfl⟩
  obtain ⟨μ, hI⟩ := hInv
  exact phase_runs K hS hAr hAn μ _ _ hI
end
end Go.Proofs.Ytinghnaigpenkaa
