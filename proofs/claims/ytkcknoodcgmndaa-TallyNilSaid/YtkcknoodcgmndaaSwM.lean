/- tally.Sweep from its loop to the end of Wait: the phase. -/
import Derived.Test.YtkcknoodcgmndaaSwL
import Derived.Test.YtkcknoodcgmndaaSgX
namespace Go.Proofs.Ytkcknoodcgmndaa
open Go.Conc Go.RowKit Go.Conc.Lib Go.ConcR.Gen
open Go.ConcN (WgLive sumTo)
open Go.ConcR (KK wgBlock WgAt stA smA rd wr mk Payload)
set_option linter.unusedVariables false
set_option linter.unusedSimpArgs false
set_option linter.unusedSectionVars false
set_option maxRecDepth 100000
set_option maxHeartbeats 4000000
section
variable {P : Program} {c : Cfg} {lw : Nat} {A A' : Goroutine → World → Prop} {Fin Fin' : Goroutine → World → Prop}
theorem atW1_mono (h : ∀ g w, A g w → A' g w) (g : Goroutine) (w : World) (x : AtW1 P c lw A Fin g w) : AtW1 P c lw A' Fin g w := by
  refine ⟨x.1, fun v hv hw => ?_⟩
  obtain ⟨g', e1, e2, e3⟩ := x.2 v hv hw
  refine ⟨g', e1, e2, fun hn => ?_⟩
  obtain ⟨m, hm⟩ := e3 hn
  refine ⟨m, goes_imp (fun g w y => ⟨y.1, fun v' h1 h2 => ⟨(y.2 v' h1 h2).1, fun hne => ?_⟩⟩) m _ _ hm⟩
  obtain ⟨g2, f1, m2, f2⟩ := (y.2 v' h1 h2).2 hne
  exact ⟨g2, f1, m2, goes_imp h m2 _ _ f2⟩
end
def DE (w w' : World) (es : Array Event) : Prop := w' = w ∧ ∀ e ∈ es, False
theorem goes_track {P : Program} {Sh : Loc → Prop} {Stp : Goroutine → World → Prop} : ∀ (m : Nat) (g : Goroutine) (w : World), Goes P true AtRel DE Stp m g w → GoesW P true AtRel (DP0 Sh) (fun g' w' => Stp g' w' ∧ AtRel w w') g w
  | 0, g, w, h => .stop fun w₁ h₁ => ⟨h w₁ h₁, h₁⟩
  | m + 1, g, w, h => by
    rcases h with h | ⟨hr, h⟩
    · exact .stop fun w₁ h₁ => ⟨h w₁ h₁, h₁⟩
    · refine GoesW.mk' hr fun w₁ h₁ => ?_
      have := h w₁ h₁
      revert this
      cases stepG P true g w₁ <;> simp only [GStep.goes, imp_self]
      rename_i g' w' es
      rintro ⟨⟨rfl, he⟩, y⟩
      exact ⟨fun e hm => (he e hm).elim, (goes_track m _ _ y).mono fun g2 w2 z => ⟨z.1, atRel_trans _ _ _ h₁ z.2⟩⟩
/-- behind Wait -/
noncomputable def gW16 (s : SwP) (z : SwL) (kk : List Item) (cs : List Frame) (v3 v8 v9 v14 v15 v16 v17 v18 v19 v20 v21 v22 v23 v24 : Value) : Goroutine :=
  G ((base 16).at (act16 s z s.l.length v3 v8 v9 v14 v15 v16 v17 v18 v19 v20 v21 v22 v23 v24) (.inRegion ops9 [] :: .code tail9 :: kk)) cs
def Fin16 (s : SwP) (z : SwL) (kk : List Item) (cs : List Frame) (g : Goroutine) (w : World) : Prop :=
  ∃ lw m, SwF s z lw w ∧ Goes Try.prog true AtRel DE (fun g' w' => ∃ v3 v8 v9 v14 v15 v16 v17 v18 v19 v20 v21 v22 v23 v24, g' = gW16 s z kk cs v3 v8 v9 v14 v15 v16 v17 v18 v19 v20 v21 v22 v23 v24) m g w
theorem dst9 : ops9[0]?.bind (·.dst) = some 20 := by unfold ops9 rest16; simp only [Try.f16, Option.getD_some]; try rfl
theorem wait16 {s : SwP} {z : SwL} (k : SwSt s z) {kk : List Item} {cs : List Frame} (lw : Nat) (g : Goroutine) (w : World) (h : AnchS s z kk cs lw g w) :
    ∃ m, Goes Try.prog true (R0 (swCfg s) lw) (D0 (swCfg s) lw) (AtW1 Try.prog (swCfg s) lw (AnchS s z kk cs lw) (Fin16 s z kk cs)) m g w := by
  have K := swOk k.K
  obtain ⟨v3, v8, v9, v14, v15, v16, v17, v18, v19, v20, v21, v22, v23, v24, h⟩ := h
  have hW := waitRound (F := SwF s z) (DA := DE) (Stp := fun g' w' => ∃ v3 v8 v9 v14 v15 v16 v17 v18 v19 v20 v21 v22 v23 v24, g' = gW16 s z kk cs v3 v8 v9 v14 v15 v16 v17 v18 v19 v20 v21 v22 v23 v24) (Fin := Fin16 s z kk cs) (mT := 0) wgLib K k.K.few (fun w w' r h => h.rely k r) (fun w a v ha h => h.setWg k a v ha) (fun w es he => ⟨rfl, he⟩) (fun g w hf hl m hg => ⟨lw, m, hf, hg⟩) (fun w hf hl w₁ h₁ => by
    rw [dst9]
    exact ⟨_, _, _, _, _, _, _, _, _, _, _, _, _, _, rfl⟩) g w h
  obtain ⟨m, hm⟩ := hW
  exact ⟨m, goes_imp (atW1_mono fun g w h => ⟨_, _, _, _, _, _, _, _, _, _, _, _, _, _, h⟩) m _ _ hm⟩
theorem anchS_run {s : SwP} {z : SwL} {kk : List Item} {cs : List Frame} (lw : Nat) (g : Goroutine) (w : World) (h : AnchS s z kk cs lw g w) : g.status = .running := by
  obtain ⟨v3, v8, v9, v14, v15, v16, v17, v18, v19, v20, v21, v22, v23, v24, T, rfl, _⟩ := h
  rfl
theorem SJ.start {n : Nat} {l : List (List Int)} {σ : SS} {us : Nat → SU} (h : ∀ v ∈ σ.ws, v < 2 ^ 64) : SJ n l σ σ us 0 :=
  ⟨Nat.zero_le _, rfl, h, fun i hi => by omega, fun i hi => by omega, by simp [sumTo], by simp [sumTo], fun _ h => h, fun _ h => .inl h⟩
/-- ████ Sweep's phase ████ -/
theorem sweepPh {Post : Value → World → Prop} {s : SwP} {z : SwL} (k : SwSt s z) {kk : List Item} {cs : List Frame} {w : World} {x : XS} (hx : x.n = s.N0) (hS : ∀ l, x.S l → (swCfg s).sh l) (hH0 : s.H0 ≤ w.heap.size)
    (hF : SwF s z w.heap.size w) (hwg : WgAt 81 s.Wg w 0 0) (hrep : SwRep s s.σ0 w) (hrng : ∀ v ∈ s.σ0.ws, v < 2 ^ 64)
    (hend : ∀ (w' : World) (σ : SS) (us : Nat → SU) (v3 v8 v9 v14 v15 v16 v17 v18 v19 v20 v21 v22 v23 v24 : Value), (∃ lw, SwF s z lw w') → WgAt 81 s.Wg w' 0 0 → SwRep s σ w' → SJ s.nn s.l s.σ0 σ us s.l.length → (∀ i, i < s.l.length → (us i).todo = []) →
      Win Try.prog Post ⟨(swCfg s).sh, s.N0 + s.l.length⟩ (G ((base 16).at (act16 s z s.l.length v3 v8 v9 v14 v15 v16 v17 v18 v19 v20 v21 v22 v23 v24) (.code tail9 :: kk)) cs) w')
    (v3 v8 v9 v14 v15 v16 v17 v18 v19 v20 v21 v22 v23 v24 : Value) :
    Win Try.prog Post x (G ((base 16).at (act16 s z 0 v3 v8 v9 v14 v15 v16 v17 v18 v19 v20 v21 v22 v23 v24) (.code blk16 :: .inLoop blk16 :: .inBlock 0 :: .code rest16 :: kk)) cs) w := by
  have K := swOk k.K
  refine win_phase (c := swCfg s) (Fin := Fin16 s z kk cs) (σ := s.σ0) (us := fun _ => ⟨[], .idle⟩) K hS anchS_run (fun lw g w h => wait16 k lw g w h) hx hH0 (fun w₁ h₁ => ?_) (Nat.le_refl _) hwg hrep (SJ.start hrng) ?_
  · obtain ⟨d, rfl⟩ := h₁
    exact spawns16 k (kk := kk) (cs := cs) s.l.length 0 w.heap.size (w.at d) v3 v8 v9 v14 v15 v16 v17 v18 v19 v20 v21 v22 v23 v24 (by omega) ⟨hF.rely k (R0.at K w d), ⟨0, 0, hwg⟩⟩
  · intro a' w' σ' us' hr hfin h0 hw hrp hju hdone
    obtain ⟨lw, m, hf, hg⟩ := hfin
    refine win_of ((goes_track m _ _ hg).mono ?_)
    rintro g2 w2 ⟨⟨v3, v8, v9, v14, v15, v16, v17, v18, v19, v20, v21, v22, v23, v24, rfl⟩, hat⟩
    refine win_mk rfl fun w₁ h₁ => ?_
    unfold gW16
    rw [stepG_region_end]
    refine ⟨fun e he => by simp at he, ?_⟩
    obtain ⟨d, rfl⟩ := atRel_trans _ _ _ hat h₁
    exact hend _ σ' us' _ _ _ _ _ _ _ _ _ _ _ _ _ _ ⟨lw, hf.rely k (R0.at K _ d)⟩ hw (rep_at K hrp d) hju hdone
end Go.Proofs.Ytkcknoodcgmndaa
