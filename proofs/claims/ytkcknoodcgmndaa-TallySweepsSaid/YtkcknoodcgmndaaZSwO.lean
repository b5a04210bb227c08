import Derived.Test.YtkcknoodcgmndaaZTcD
import Derived.Test.YtkcknoodcgmndaaZRfB
import Derived.Test.YtkcknoodcgmndaaZTcC
section
/- tally.Sweep from its loop to the end of Wait: the phase. -/
namespace Go.Proofs.Ytkcknoodcgmndaa
open Go.Conc Go.RowKit Go.Conc.Lib Go.ConcR.Gen
open Go.ConcN (WgLive sumTo)
open Go.ConcR (KK wgBlock WgAt stA smA rd wr mk Payload)
set_option linter.unusedVariables false
set_option linter.unusedSimpArgs false
set_option linter.unusedSectionVars false
set_option maxRecDepth 100000
set_option maxHeartbeats 4000000
section
variable {P : Program} {c : Cfg} {lw : Nat} {A A' : Goroutine → World → Prop} {Fin Fin' : Goroutine → World → Prop}
theorem atW1_mono (h : ∀ g w, A g w → A' g w) (g : Goroutine) (w : World) (x : AtW1 P c lw A Fin g w) : AtW1 P c lw A' Fin g w := by
  refine ⟨x.1, fun v hv hw => ?_⟩
  obtain ⟨g', e1, e2, e3⟩ := x.2 v hv hw
  refine ⟨g', e1, e2, fun hn => ?_⟩
  obtain ⟨m, hm⟩ := e3 hn
  refine ⟨m, goes_imp (fun g w y => ⟨y.1, fun v' h1 h2 => ⟨(y.2 v' h1 h2).1, fun hne => ?_⟩⟩) m _ _ hm⟩
  obtain ⟨g2, f1, m2, f2⟩ := (y.2 v' h1 h2).2 hne
  exact ⟨g2, f1, m2, goes_imp h m2 _ _ f2⟩
end
def DE (w w' : World) (es : Array Event) : Prop := w' = w ∧ ∀ e ∈ es, False
theorem goes_track {P : Program} {Sh : Loc → Prop} {Stp : Goroutine → World → Prop} : ∀ (m : Nat) (g : Goroutine) (w : World), Goes P true AtRel DE Stp m g w → GoesW P true AtRel (DP0 Sh) (fun g' w' => Stp g' w' ∧ AtRel w w') g w
  | 0, g, w, h => .stop fun w₁ h₁ => ⟨h w₁ h₁, h₁⟩
  | m + 1, g, w, h => by
    rcases h with h | ⟨hr, h⟩
    · exact .stop fun w₁ h₁ => ⟨h w₁ h₁, h₁⟩
    · refine GoesW.mk' hr fun w₁ h₁ => ?_
      have := h w₁ h₁
      revert this
      cases stepG P true g w₁ <;> simp only [GStep.goes, imp_self]
      rename_i g' w' es
      rintro ⟨⟨rfl, he⟩, y⟩
      exact ⟨fun e hm => (he e hm).elim, (goes_track m _ _ y).mono fun g2 w2 z => ⟨z.1, atRel_trans _ _ _ h₁ z.2⟩⟩
/-- behind Wait -/
noncomputable def gW16 (s : SwP) (z : SwL) (kk : List Item) (cs : List Frame) (v3 v8 v9 v14 v15 v16 v17 v18 v19 v20 v21 v22 v23 v24 : Value) : Goroutine :=
  G ((base 16).at (act16 s z s.l.length v3 v8 v9 v14 v15 v16 v17 v18 v19 v20 v21 v22 v23 v24) (.inRegion ops9 [] :: .code tail9 :: kk)) cs
def Fin16 (s : SwP) (z : SwL) (kk : List Item) (cs : List Frame) (g : Goroutine) (w : World) : Prop :=
  ∃ lw m, SwF s z lw w ∧ Goes Try.prog true AtRel DE (fun g' w' => ∃ v3 v8 v9 v14 v15 v16 v17 v18 v19 v20 v21 v22 v23 v24, g' = gW16 s z kk cs v3 v8 v9 v14 v15 v16 v17 v18 v19 v20 v21 v22 v23 v24) m g w
theorem dst9 : ops9[0]?.bind (·.dst) = some 20 := by unfold ops9 rest16; simp only [Try.f16, Option.getD_some]; try rfl
theorem wait16 {s : SwP} {z : SwL} (k : SwSt s z) {kk : List Item} {cs : List Frame} (lw : Nat) (g : Goroutine) (w : World) (h : AnchS s z kk cs lw g w) :
    ∃ m, Goes Try.prog true (R0 (swCfg s) lw) (D0 (swCfg s) lw) (AtW1 Try.prog (swCfg s) lw (AnchS s z kk cs lw) (Fin16 s z kk cs)) m g w := by
  have K := swOk k.K
  obtain ⟨v3, v8, v9, v14, v15, v16, v17, v18, v19, v20, v21, v22, v23, v24, h⟩ := h
  have hW := waitRound (F := SwF s z) (DA := DE) (Stp := fun g' w' => ∃ v3 v8 v9 v14 v15 v16 v17 v18 v19 v20 v21 v22 v23 v24, g' = gW16 s z kk cs v3 v8 v9 v14 v15 v16 v17 v18 v19 v20 v21 v22 v23 v24) (Fin := Fin16 s z kk cs) (mT := 0) wgLib K k.K.few (fun w w' r h => h.rely k r) (fun w a v ha h => h.setWg k a v ha) (fun w es he => ⟨rfl, he⟩) (fun g w hf hl m hg => ⟨lw, m, hf, hg⟩) (fun w hf hl w₁ h₁ => by
    rw [dst9]
    exact ⟨_, _, _, _, _, _, _, _, _, _, _, _, _, _, rfl⟩) g w h
  obtain ⟨m, hm⟩ := hW
  exact ⟨m, goes_imp (atW1_mono fun g w h => ⟨_, _, _, _, _, _, _, _, _, _, _, _, _, _, h⟩) m _ _ hm⟩
theorem anchS_run {s : SwP} {z : SwL} {kk : List Item} {cs : List Frame} (lw : Nat) (g : Goroutine) (w : World) (h : AnchS s z kk cs lw g w) : g.status = .running := by
  obtain ⟨v3, v8, v9, v14, v15, v16, v17, v18, v19, v20, v21, v22, v23, v24, T, rfl, _⟩ := h
  rfl
theorem SJ.start {n : Nat} {l : List (List Int)} {σ : SS} {us : Nat → SU} (h : ∀ v ∈ σ.ws, v < 2 ^ 64) : SJ n l σ σ us 0 :=
  ⟨Nat.zero_le _, rfl, h, fun i hi => by omega, fun i hi => by omega, by simp [sumTo], by simp [sumTo], fun _ h => h, fun _ h => .inl h⟩
/-- ████ Sweep's phase ████ -/
theorem sweepPh {Post : Value → World → Prop} {s : SwP} {z : SwL} (k : SwSt s z) {kk : List Item} {cs : List Frame} {w : World} {x : XS} (hx : x.n = s.N0) (hS : ∀ l, x.S l → (swCfg s).sh l) (hH0 : s.H0 ≤ w.heap.size)
    (hF : SwF s z w.heap.size w) (hwg : WgAt 81 s.Wg w 0 0) (hrep : SwRep s s.σ0 w) (hrng : ∀ v ∈ s.σ0.ws, v < 2 ^ 64)
    (hend : ∀ (w' : World) (σ : SS) (us : Nat → SU) (v3 v8 v9 v14 v15 v16 v17 v18 v19 v20 v21 v22 v23 v24 : Value), (∃ lw, SwF s z lw w') → WgAt 81 s.Wg w' 0 0 → SwRep s σ w' → SJ s.nn s.l s.σ0 σ us s.l.length → (∀ i, i < s.l.length → (us i).todo = []) →
      Win Try.prog Post ⟨(swCfg s).sh, s.N0 + s.l.length⟩ (G ((base 16).at (act16 s z s.l.length v3 v8 v9 v14 v15 v16 v17 v18 v19 v20 v21 v22 v23 v24) (.code tail9 :: kk)) cs) w')
    (v3 v8 v9 v14 v15 v16 v17 v18 v19 v20 v21 v22 v23 v24 : Value) :
    Win Try.prog Post x (G ((base 16).at (act16 s z 0 v3 v8 v9 v14 v15 v16 v17 v18 v19 v20 v21 v22 v23 v24) (.code blk16 :: .inLoop blk16 :: .inBlock 0 :: .code rest16 :: kk)) cs) w := by
  have K := swOk k.K
  refine win_phase (c := swCfg s) (Fin := Fin16 s z kk cs) (σ := s.σ0) (us := fun _ => ⟨[], .idle⟩) K hS anchS_run (fun lw g w h => wait16 k lw g w h) hx hH0 (fun w₁ h₁ => ?_) (Nat.le_refl _) hwg hrep (SJ.start hrng) ?_
  · obtain ⟨d, rfl⟩ := h₁
    exact spawns16 k (kk := kk) (cs := cs) s.l.length 0 w.heap.size (w.at d) v3 v8 v9 v14 v15 v16 v17 v18 v19 v20 v21 v22 v23 v24 (by omega) ⟨hF.rely k (R0.at K w d), ⟨0, 0, hwg⟩⟩
  · intro a' w' σ' us' hr hfin h0 hw hrp hju hdone
    obtain ⟨lw, m, hf, hg⟩ := hfin
    refine win_of ((goes_track m _ _ hg).mono ?_)
    rintro g2 w2 ⟨⟨v3, v8, v9, v14, v15, v16, v17, v18, v19, v20, v21, v22, v23, v24, rfl⟩, hat⟩
    refine win_mk rfl fun w₁ h₁ => ?_
    unfold gW16
    rw [stepG_region_end]
    refine ⟨fun e he => by simp at he, ?_⟩
    obtain ⟨d, rfl⟩ := atRel_trans _ _ _ hat h₁
    exact hend _ σ' us' _ _ _ _ _ _ _ _ _ _ _ _ _ _ ⟨lw, hf.rely k (R0.at K _ d)⟩ hw (rep_at K hrp d) hju hdone
end Go.Proofs.Ytkcknoodcgmndaa

end
section
/- tally.Sweep behind Wait. -/
namespace Go.Proofs.Ytkcknoodcgmndaa
open Go.Conc Go.RowKit
open Go.ConcN (WgLive sumTo)
open Go.ConcR (WgAt Payload wgBlock)
set_option linter.unusedVariables false
set_option linter.unusedSimpArgs false
set_option linter.unusedSectionVars false
set_option maxRecDepth 100000
set_option maxHeartbeats 4000000






theorem atRel_draw {W w : World} {n : Nat} (h : AtRel W w) : AtRel W { w with drawn := n } := by obtain ⟨d, rfl⟩ := h; exact ⟨n, rfl⟩
theorem tail16_W {S : Loc → Prop} {s : SwP} {z : SwL} {σ : SS} (w : World) (hbb : w.heap[z.bB]? = some (.cells #[.pointer (some ⟨s.Bb, 0, none⟩)] 23)) (hb : w.heap[s.Bb]? = some (.cells (boardC σ.won σ.lost) 70)) (hrd : ¬ S (.cell ⟨z.bB, 0, none⟩))
    (v3 v8 v9 v14 v15 v16 v17 v18 v19 v20 v21 v22 v23 v24 : Value) :
    CodeW Try.prog true AtRel (DP0 S) 16 tail9 (bodyPostC Try.prog Try.f16 (fun v w' => v = .tuple #[.int .i64 σ.won, .int .i64 σ.lost] ∧ AtRel w w')) (act16 s z s.l.length v3 v8 v9 v14 v15 v16 v17 v18 v19 v20 v21 v22 v23 v24) w := by
  have T9 := termsP S
  have hc : w.cell? ⟨z.bB, 0, none⟩ = some (.pointer (some ⟨s.Bb, 0, none⟩)) := box_cell hbb
  have hw : w.cell? ⟨s.Bb, 0, none⟩ = some (.int .i64 σ.won) := by simp [World.cell?, hb, boardC]
  have hl : w.cell? ⟨s.Bb, 1, none⟩ = some (.int .i64 σ.lost) := by simp [World.cell?, hb, boardC]
  clear hb hbb
  rw [show tail9 = _ from (by unfold tail9 rest16; simp only [Try.f16, Option.getD_some]; try rfl)]
  unfold act16
  have hF := atRel_refl w
  (refine codeW_seq T9 ?_)
  refine codeW_region_any T9 (letsDraw_P S) (by rfl) (fun w₁ h₁ => ?_)
  replace hF := atRel_draw (n := w₁.drawn + 1) (atRel_trans _ _ _ hF h₁)
  clear h₁
  generalize { w₁ with drawn := w₁.drawn + 1 } = w2 at hF ⊢
  simp only [List.size_toArray, List.length_cons, List.length_nil, Nat.reduceAdd, Nat.zero_add]
  refine anyW_all (rs := [0, 2]) (by kernel_rfl) (by simp) ?_
  intro i hi
  simp only [List.mem_cons, List.not_mem_nil, or_false] at hi
  rcases hi with rfl | rfl
  · skip
    (refine opW_cons rfl (by rfl) ?_; intro _ hR K hK; replace hF := atRel_trans _ _ _ hF hR; clear hR; have hl9 := (atRel_cell hF ⟨z.bB, 0, none⟩).trans hc; go_simp; refine hK _ _ ⟨?_, ?_⟩; (· intro e he; have hm := mem_listed he; simp [go_sem, hl9] at hm; rw [hm]; exact evP_cell _ hrd); clear hK K hl9; try walk_nrm)
    refine anyW_all (rs := [1, 2]) (by kernel_rfl) (by simp) ?_
    intro i hi
    simp only [List.mem_cons, List.not_mem_nil, or_false] at hi
    rcases hi with rfl | rfl
    · skip
      co_apply opW_call T9 rfl (by rfl) rfl
      · walk_nrm
        exact at10_W _ _ _ _ (by decide) (by decide) ((atRel_cell hF _).trans hw)
      rintro _ w' ⟨rfl, hF'⟩
      replace hF := atRel_trans _ _ _ hF hF'
      clear hF'
      walk_nrm
      refine anyW_all (rs := [2]) (by kernel_rfl) (by simp) ?_
      intro i hi
      simp only [List.mem_cons, List.not_mem_nil, or_false] at hi
      subst hi
      (refine opW_cons rfl (by rfl) ?_; intro _ hR K hK; replace hF := atRel_trans _ _ _ hF hR; clear hR; have hl9 := (atRel_cell hF ⟨z.bB, 0, none⟩).trans hc; go_simp; refine hK _ _ ⟨?_, ?_⟩; (· intro e he; have hm := mem_listed he; simp [go_sem, hl9] at hm; rw [hm]; exact evP_cell _ hrd); clear hK K hl9; try walk_nrm)
      refine anyW_all (rs := [3]) (by kernel_rfl) (by simp) ?_
      intro i hi
      simp only [List.mem_cons, List.not_mem_nil, or_false] at hi
      subst hi
      co_apply opW_call T9 rfl (by rfl) rfl
      · walk_nrm
        exact at10_W _ _ _ _ (by decide) (by decide) ((atRel_cell hF _).trans hl)
      rintro _ w' ⟨rfl, hF'⟩
      replace hF := atRel_trans _ _ _ hF hF'
      clear hF'
      walk_nrm
      refine anyW_all (rs := [4]) (by kernel_rfl) (by simp) ?_
      intro i hi
      simp only [List.mem_cons, List.not_mem_nil, or_false] at hi
      subst hi
      (refine opW_cons rfl (by rfl) ?_; intro _ hR K hK; replace hF := atRel_trans _ _ _ hF hR; clear hR; go_simp; refine hK _ _ ⟨?_, ?_⟩; (· rw [listed_nil (by simp [go_sem, *])]; exact dp0_nil); clear hK K; try walk_nrm)
      refine anyW_all (rs := [5]) (by kernel_rfl) (by simp) ?_
      intro i hi
      simp only [List.mem_cons, List.not_mem_nil, or_false] at hi
      subst hi
      (refine opW_cons rfl (by rfl) ?_; intro _ hR K hK; replace hF := atRel_trans _ _ _ hF hR; clear hR; go_simp; refine hK _ _ ⟨?_, ?_⟩; (· rw [listed_nil (by simp [go_sem, *])]; exact dp0_nil); clear hK K; try walk_nrm)
      refine anyW_done ?_
      (refine codeW_ret T9 ?_)
      exact ⟨rfl, _, resultsC_tmp2 rfl _, rfl, hF⟩
    · skip
      (refine opW_cons rfl (by rfl) ?_; intro _ hR K hK; replace hF := atRel_trans _ _ _ hF hR; clear hR; have hl9 := (atRel_cell hF ⟨z.bB, 0, none⟩).trans hc; go_simp; refine hK _ _ ⟨?_, ?_⟩; (· intro e he; have hm := mem_listed he; simp [go_sem, hl9] at hm; rw [hm]; exact evP_cell _ hrd); clear hK K hl9; try walk_nrm)
      refine anyW_all (rs := [1]) (by kernel_rfl) (by simp) ?_
      intro i hi
      simp only [List.mem_cons, List.not_mem_nil, or_false] at hi
      subst hi
      co_apply opW_call T9 rfl (by rfl) rfl
      · walk_nrm
        exact at10_W _ _ _ _ (by decide) (by decide) ((atRel_cell hF _).trans hw)
      rintro _ w' ⟨rfl, hF'⟩
      replace hF := atRel_trans _ _ _ hF hF'
      clear hF'
      walk_nrm
      refine anyW_all (rs := [3]) (by kernel_rfl) (by simp) ?_
      intro i hi
      simp only [List.mem_cons, List.not_mem_nil, or_false] at hi
      subst hi
      co_apply opW_call T9 rfl (by rfl) rfl
      · walk_nrm
        exact at10_W _ _ _ _ (by decide) (by decide) ((atRel_cell hF _).trans hl)
      rintro _ w' ⟨rfl, hF'⟩
      replace hF := atRel_trans _ _ _ hF hF'
      clear hF'
      walk_nrm
      refine anyW_all (rs := [4]) (by kernel_rfl) (by simp) ?_
      intro i hi
      simp only [List.mem_cons, List.not_mem_nil, or_false] at hi
      subst hi
      (refine opW_cons rfl (by rfl) ?_; intro _ hR K hK; replace hF := atRel_trans _ _ _ hF hR; clear hR; go_simp; refine hK _ _ ⟨?_, ?_⟩; (· rw [listed_nil (by simp [go_sem, *])]; exact dp0_nil); clear hK K; try walk_nrm)
      refine anyW_all (rs := [5]) (by kernel_rfl) (by simp) ?_
      intro i hi
      simp only [List.mem_cons, List.not_mem_nil, or_false] at hi
      subst hi
      (refine opW_cons rfl (by rfl) ?_; intro _ hR K hK; replace hF := atRel_trans _ _ _ hF hR; clear hR; go_simp; refine hK _ _ ⟨?_, ?_⟩; (· rw [listed_nil (by simp [go_sem, *])]; exact dp0_nil); clear hK K; try walk_nrm)
      refine anyW_done ?_
      (refine codeW_ret T9 ?_)
      exact ⟨rfl, _, resultsC_tmp2 rfl _, rfl, hF⟩
  · skip
    (refine opW_cons rfl (by rfl) ?_; intro _ hR K hK; replace hF := atRel_trans _ _ _ hF hR; clear hR; have hl9 := (atRel_cell hF ⟨z.bB, 0, none⟩).trans hc; go_simp; refine hK _ _ ⟨?_, ?_⟩; (· intro e he; have hm := mem_listed he; simp [go_sem, hl9] at hm; rw [hm]; exact evP_cell _ hrd); clear hK K hl9; try walk_nrm)
    refine anyW_all (rs := [0]) (by kernel_rfl) (by simp) ?_
    intro i hi
    simp only [List.mem_cons, List.not_mem_nil, or_false] at hi
    subst hi
    (refine opW_cons rfl (by rfl) ?_; intro _ hR K hK; replace hF := atRel_trans _ _ _ hF hR; clear hR; have hl9 := (atRel_cell hF ⟨z.bB, 0, none⟩).trans hc; go_simp; refine hK _ _ ⟨?_, ?_⟩; (· intro e he; have hm := mem_listed he; simp [go_sem, hl9] at hm; rw [hm]; exact evP_cell _ hrd); clear hK K hl9; try walk_nrm)
    refine anyW_all (rs := [1]) (by kernel_rfl) (by simp) ?_
    intro i hi
    simp only [List.mem_cons, List.not_mem_nil, or_false] at hi
    subst hi
    co_apply opW_call T9 rfl (by rfl) rfl
    · walk_nrm
      exact at10_W _ _ _ _ (by decide) (by decide) ((atRel_cell hF _).trans hw)
    rintro _ w' ⟨rfl, hF'⟩
    replace hF := atRel_trans _ _ _ hF hF'
    clear hF'
    walk_nrm
    refine anyW_all (rs := [3]) (by kernel_rfl) (by simp) ?_
    intro i hi
    simp only [List.mem_cons, List.not_mem_nil, or_false] at hi
    subst hi
    co_apply opW_call T9 rfl (by rfl) rfl
    · walk_nrm
      exact at10_W _ _ _ _ (by decide) (by decide) ((atRel_cell hF _).trans hl)
    rintro _ w' ⟨rfl, hF'⟩
    replace hF := atRel_trans _ _ _ hF hF'
    clear hF'
    walk_nrm
    refine anyW_all (rs := [4]) (by kernel_rfl) (by simp) ?_
    intro i hi
    simp only [List.mem_cons, List.not_mem_nil, or_false] at hi
    subst hi
    (refine opW_cons rfl (by rfl) ?_; intro _ hR K hK; replace hF := atRel_trans _ _ _ hF hR; clear hR; go_simp; refine hK _ _ ⟨?_, ?_⟩; (· rw [listed_nil (by simp [go_sem, *])]; exact dp0_nil); clear hK K; try walk_nrm)
    refine anyW_all (rs := [5]) (by kernel_rfl) (by simp) ?_
    intro i hi
    simp only [List.mem_cons, List.not_mem_nil, or_false] at hi
    subst hi
    (refine opW_cons rfl (by rfl) ?_; intro _ hR K hK; replace hF := atRel_trans _ _ _ hF hR; clear hR; go_simp; refine hK _ _ ⟨?_, ?_⟩; (· rw [listed_nil (by simp [go_sem, *])]; exact dp0_nil); clear hK K; try walk_nrm)
    refine anyW_done ?_
    (refine codeW_ret T9 ?_)
    exact ⟨rfl, _, resultsC_tmp2 rfl _, rfl, hF⟩
end Go.Proofs.Ytkcknoodcgmndaa

end
section
/- tally.Sweep, called. -/
namespace Go.Proofs.Ytkcknoodcgmndaa
open Go.Conc Go.RowKit
open Go.ConcN (WgLive sumTo)
open Go.ConcR (WgAt Payload wgBlock)
set_option linter.unusedVariables false
set_option linter.unusedSimpArgs false
set_option linter.unusedSectionVars false
set_option maxRecDepth 100000
set_option maxHeartbeats 4000000




theorem ev_store_ptr (P : Program) (w : World) (es : Array Event) (a : Addr) (m : Mode) (p : Option Addr) : (store a (.pointer p) m).events P w es = storedEv P w es a (.pointer p) m := events_store P w es a _ m rfl
def blkS (d : Nat → Prop) : Loc → Prop := fun l => ∃ a : Addr, l = .cell a ∧ d a.block
/-- what Sweep is given -/
structure SwIn where
  l : List (List Int)
  has : Bool
  Mb : Nat
  cap : Nat
  Wb : Nat
  nn : Nat
  ws : List Nat
  lA : Option Addr
  lb : Nat
  lo : Nat
  lc : Nat
  pA : Nat → Option Addr
  pd : Nat → Nat
  po : Nat → Nat
  pc : Nat → Nat
def SwIn.s (i : SwIn) (d : Nat → Prop) (n H : Nat) : SwP := { Wg := H + 3, Bb := H + 1, Wb := i.Wb, has := i.has, N0 := n, H0 := H + 4, nn := i.nn, l := i.l, σ0 := ⟨0, 0, i.ws⟩, dead := d }
def SwIn.z (i : SwIn) (H : Nat) (w0 : World) : SwL := { w0 := w0, mB := H, bB := H + 2, Mb := i.Mb, cap := i.cap, lA := i.lA, lb := i.lb, lo := i.lo, lc := i.lc, pA := i.pA, pd := i.pd, po := i.po, pc := i.pc }
structure SwIn.Ok (i : SwIn) (d : Nat → Prop) (n : Nat) (w : World) : Prop where
  few : i.l.length < 2147483648
  hn : 0 < n
  room : i.nn ≤ 64 * i.ws.length
  few2 : i.nn ≤ 65536
  small : sumTo i.l.length (fun j => (i.l.getD j []).length) < 2 ^ 62
  no : i.has = false → i.nn = 0
  rng : ∀ v ∈ i.ws, v < 2 ^ 64
  row : i.has = true → w.heap[i.Mb]? = some (.cells #[.int .i64 i.nn, .slice (some ⟨i.Wb, 0, none⟩) i.ws.length i.cap] 74)
  wds : i.has = true → w.heap[i.Wb]? = some (.cells (i.ws.map (fun v : Nat => Value.int .u64 v)).toArray 78)
  rowW : i.has = true → i.Mb ≠ i.Wb ∧ ¬ d i.Mb
  lA : 0 < i.l.length → i.lA = some ⟨i.lb, i.lo, none⟩ ∧ ¬ d i.lb ∧ (i.has = true → i.lb ≠ i.Wb)
  list : ∀ j, j < i.l.length → w.cell? ⟨i.lb, i.lo + j, none⟩ = some (.slice (i.pA j) (i.l.getD j []).length (i.pc j))
  part : ∀ j, i.l.getD j [] ≠ [] → (¬ d (i.pd j) ∧ (i.has = true → i.pd j ≠ i.Wb)) ∧ i.pA j = some ⟨i.pd j, i.po j, none⟩
  data : ∀ j q x, (i.l.getD j [])[q]? = some x → w.cell? ⟨i.pd j, i.po j + q, none⟩ = some (.int .i64 x)
  dead : ∀ b, d b → b < w.heap.size
def SwIn.vp (i : SwIn) : Option Addr := if i.has then some ⟨i.Mb, 0, none⟩ else none
theorem SwIn.mk_vp (i : SwIn) (d : Nat → Prop) (n H : Nat) : mkV (i.s d n H) i.Mb = .pointer i.vp := by unfold mkV SwIn.vp SwIn.s; cases i.has <;> rfl
/-- what Sweep leaves -/
def SwIn.Out (i : SwIn) (d : Nat → Prop) (n : Nat) (w : World) (v : Value) (w' : World) (x' : XS) : Prop :=
  ∃ (σ : SS) (us : Nat → SU), v = .tuple #[.int .i64 σ.won, .int .i64 σ.lost] ∧ SJ i.nn i.l ⟨0, 0, i.ws⟩ σ us i.l.length ∧ (∀ j, j < i.l.length → (us j).todo = []) ∧
    (i.has = true → w'.heap[i.Wb]? = some (.cells (σ.ws.map (fun v : Nat => Value.int .u64 v)).toArray 78)) ∧
    (∀ g ob, (i.has = true → g ≠ i.Wb) → w.heap[g]? = some ob → w'.heap[g]? = some ob) ∧ Env w w' ∧ w.heap.size + 4 ≤ w'.heap.size ∧
    x' = ⟨blkS (fun b => b = w.heap.size + 3 ∨ (b = w.heap.size + 1 ∨ (i.has = true ∧ b = i.Wb)) ∨ d b), n + i.l.length⟩
noncomputable def r3c : Code := match (Try.f16.body.getD .skip) with
  | .seq _ (.seq _ (.seq _ (.seq (.seq c _) _))) => c
  | _ => .skip
/-- the memory where the rounds begin -/
structure Pre5 (i : SwIn) (w W : World) : Prop where
  size : W.heap.size = w.heap.size + 4
  old : ∀ g, g < w.heap.size → W.heap[g]? = w.heap[g]?
  mbox : W.heap[w.heap.size]? = some (.cells #[.pointer i.vp] 35)
  board : W.heap[w.heap.size + 1]? = some (.cells (boardC 0 0) 70)
  bbox : W.heap[w.heap.size + 2]? = some (.cells #[.pointer (some ⟨w.heap.size + 1, 0, none⟩)] 23)
  wg : WgAt 81 (w.heap.size + 3) W 0 0
  env : Env w W
theorem lt_of_some {w : World} {g : Nat} {o : Obj} (h : w.heap[g]? = some o) : g < w.heap.size := (Array.getElem?_eq_some_iff.1 h).1
section
variable {i : SwIn} {d : Nat → Prop} {n : Nat} {w W : World}
theorem SwIn.Ok.sok (h : i.Ok d n w) : (i.s d n w.heap.size).Ok := by
  refine ⟨h.few, h.hn, h.room, h.few2, ?_, ?_, fun hh => ?_, fun hh => ?_⟩
  · have := h.small
    simpa [SwIn.s] using this
  · show w.heap.size + 1 ≠ w.heap.size + 3
    omega
  · have := lt_of_some (h.wds hh)
    show i.Wb ≠ w.heap.size + 3
    omega
  · have := lt_of_some (h.wds hh)
    show i.Wb ≠ w.heap.size + 1
    omega
theorem SwIn.Ok.low (h : i.Ok d n w) {g : Nat} (hg : g < w.heap.size) (hd : ¬ d g) (hw : i.has = true → g ≠ i.Wb) : RdLow (i.s d n w.heap.size) g := by
  refine ⟨by show g < w.heap.size + 4; omega, by show g ≠ w.heap.size + 3; omega, ?_, hd⟩
  rintro (h1 | ⟨h1, h2⟩)
  · have : g = w.heap.size + 1 := h1
    omega
  · exact hw h1 h2
theorem SwIn.Ok.new (h : i.Ok d n w) {g : Nat} (hg : w.heap.size ≤ g) (h1 : g ≠ w.heap.size + 1) (h3 : g ≠ w.heap.size + 3) (h4 : g < w.heap.size + 4) : RdLow (i.s d n w.heap.size) g := by
  refine ⟨h4, h3, ?_, fun hd => by have := h.dead _ hd; omega⟩
  rintro (h5 | ⟨h5, h6⟩)
  · exact h1 h5
  · have := lt_of_some (h.wds h5)
    have h6 : g = i.Wb := h6
    omega
theorem SwIn.Ok.sst (h : i.Ok d n w) : SwSt (i.s d n w.heap.size) (i.z w.heap.size W) := by
  refine ⟨h.sok, h.no, fun j => ?_, ?_, h.new (g := w.heap.size) (Nat.le_refl _) (by omega) (by omega) (by omega), h.new (g := w.heap.size + 2) (by omega) (by omega) (by omega) (by omega), fun hh => h.low (lt_of_some (h.row hh)) (h.rowW hh).2 (fun _ => (h.rowW hh).1), fun hl => ?_, fun hl => (h.lA hl).1, fun j hj => ?_, fun b hb => ⟨?_, ?_, fun hd => ?_⟩⟩
  · show (i.l.getD j []).length < 4611686018427387904
    have hs := h.small
    by_cases hj : j < i.l.length
    · have : (i.l.getD j []).length ≤ _ := ConcN.le_sumTo (f := fun j => (i.l.getD j []).length) hj
      omega
    · rw [List.getD_eq_getElem?_getD, List.getElem?_eq_none (by omega)]
      simp
  · have := h.few
    show i.l.length < 4611686018427387904
    omega
  · obtain ⟨ob, hob⟩ := cell_some (h.list 0 hl)
    exact h.low (lt_of_some hob) (h.lA hl).2.1 (h.lA hl).2.2
  · have hq : ∃ x, (i.l.getD j [])[0]? = some x := by
      cases e : i.l.getD j [] with
      | nil => exact absurd e hj
      | cons x r => exact ⟨x, rfl⟩
    obtain ⟨x, hx⟩ := hq
    obtain ⟨ob, hob⟩ := cell_some (h.data j 0 x hx)
    exact ⟨h.low (lt_of_some hob) (h.part j hj).1.1 (h.part j hj).1.2, (h.part j hj).2⟩
  · have hb : w.heap.size + 4 ≤ b := hb
    rintro (h5 | ⟨h5, h6⟩)
    · have h5 : b = w.heap.size + 1 := h5
      omega
    · have := lt_of_some (h.wds h5)
      have h6 : b = i.Wb := h6
      omega
  · have hb : w.heap.size + 4 ≤ b := hb
    show b ≠ w.heap.size + 3
    omega
  · have hb : w.heap.size + 4 ≤ b := hb
    have := h.dead _ hd
    omega
theorem Pre5.cell (p : Pre5 i w W) {g o : Nat} {v : Value} (h : w.cell? ⟨g, o, none⟩ = some v) : W.cell? ⟨g, o, none⟩ = some v := by
  obtain ⟨ob, hob⟩ := cell_some h
  rw [cell_same (p.old g (lt_of_some hob))]
  exact h
theorem Pre5.swf (p : Pre5 i w W) (h : i.Ok d n w) : SwF (i.s d n w.heap.size) (i.z w.heap.size W) W.heap.size W := by
  refine ⟨Nat.le_refl _, Nat.le_of_eq p.size.symm, ?_, p.bbox, fun hh => (p.old _ (lt_of_some (h.row hh))).trans (h.row hh), fun j hj => p.cell (h.list j hj), fun j q x hx => p.cell (h.data j q x hx), fun _ _ _ e => e, .refl W⟩
  show W.heap[w.heap.size]? = some (.cells #[mkV (i.s d n w.heap.size) i.Mb] 35)
  rw [i.mk_vp]
  exact p.mbox
theorem Pre5.rep (p : Pre5 i w W) (h : i.Ok d n w) : SwRep (i.s d n w.heap.size) ⟨0, 0, i.ws⟩ W := ⟨p.board, fun hh => (p.old _ (lt_of_some (h.wds hh))).trans (h.wds hh)⟩
end
theorem sweepTail {Post : Value → World → Prop} {i : SwIn} {d : Nat → Prop} {n : Nat} {w W w₁ : World} (h : i.Ok d n w) (p : Pre5 i w W) (hF : AtRel W w₁) (v3 v8 v9 v11 v12 v13 v14 v15 v16 v17 v18 v19 v20 v21 v22 v23 v24 : Value) :
    CodeX Try.prog Post 16 (.seq (.seq r3c (.block 0 (.loop blk16))) rest16) (fun e a w' x => bodyPostC Try.prog Try.f16 (fun v w' => i.Out d n w v w' x) e a w')
      ⟨#[.pointer i.vp, .slice i.lA i.l.length i.lc, .pointer (some ⟨w.heap.size, 0, none⟩), v3, .int .i64 0, .int .i64 0, .pointer (some ⟨w.heap.size + 2, 0, none⟩), .pointer (some ⟨w.heap.size + 3, 0, none⟩), v8, v9, .pointer (some ⟨w.heap.size + 1, 0, none⟩), v11, v12, v13, v14, v15, v16, v17, v18, v19, v20, v21, v22, v23, v24], []⟩ w₁ ⟨blkS d, n⟩ := by
  have T9 := termsP (blkS d)
  have k : SwSt (i.s d n w.heap.size) (i.z w.heap.size W) := h.sst
  intro kk cs hc
  have h3 : CodeX Try.prog Post 16 r3c (fun e a w' x => e = .normal ∧ a = act16 (i.s d n w.heap.size) (i.z w.heap.size W) 0 v3 v8 v9 v14 v15 v16 v17 v18 v19 v20 v21 v22 v23 v24 ∧ AtRel W w' ∧ x = ⟨blkS d, n⟩)
      ⟨#[.pointer i.vp, .slice i.lA i.l.length i.lc, .pointer (some ⟨w.heap.size, 0, none⟩), v3, .int .i64 0, .int .i64 0, .pointer (some ⟨w.heap.size + 2, 0, none⟩), .pointer (some ⟨w.heap.size + 3, 0, none⟩), v8, v9, .pointer (some ⟨w.heap.size + 1, 0, none⟩), v11, v12, v13, v14, v15, v16, v17, v18, v19, v20, v21, v22, v23, v24], []⟩ w₁ ⟨blkS d, n⟩ := by
    refine codeX_of ?_
    rw [show r3c = _ from (by unfold r3c; simp only [Try.f16, Option.getD_some]; try rfl)]
    (refine codeW_region T9 ?_; simp only [List.size_toArray, List.length_cons, List.length_nil, Nat.reduceAdd, Nat.zero_add, List.range, List.range.loop])
    repeat (refine opsW_cons rfl (by rfl) ?_; intro _ hR K hK; replace hF := atRel_trans _ _ _ hF hR; clear hR; have hs9 := atRel_size hF; go_simp; refine hK _ _ ⟨?_, ?_⟩; (· rw [listed_nil (by simp [go_sem, *])]; exact dp0_nil); clear hK K hs9; try walk_nrm)
    refine opsW_nil T9 ?_
    refine ⟨rfl, ?_, hF, by trivial⟩
    unfold act16
    rw [show mkV (i.s d n w.heap.size) (i.z w.heap.size W).Mb = .pointer i.vp from i.mk_vp d n w.heap.size]
    rfl
  have key : Win Try.prog Post ⟨blkS d, n⟩ (G ((base 16).at ⟨#[.pointer i.vp, .slice i.lA i.l.length i.lc, .pointer (some ⟨w.heap.size, 0, none⟩), v3, .int .i64 0, .int .i64 0, .pointer (some ⟨w.heap.size + 2, 0, none⟩), .pointer (some ⟨w.heap.size + 3, 0, none⟩), v8, v9, .pointer (some ⟨w.heap.size + 1, 0, none⟩), v11, v12, v13, v14, v15, v16, v17, v18, v19, v20, v21, v22, v23, v24], []⟩ (.code r3c :: .code (.block 0 (.loop blk16)) :: .code rest16 :: kk)) cs) w₁ := by
    refine h3 _ cs ?_
    rintro e a w2 x ⟨rfl, rfl, hF2, rfl⟩
    refine win_mk rfl fun w₃ h₃ => ?_
    rw [stepG_block]
    refine ⟨fun e he => by simp at he, ?_⟩
    refine win_mk rfl fun w₄ h₄ => ?_
    rw [stepG_loop]
    refine ⟨fun e he => by simp at he, ?_⟩
    obtain ⟨q, rfl⟩ := atRel_trans _ _ _ (atRel_trans _ _ _ hF2 h₃) h₄
    refine sweepPh (w := W.at q) k rfl ?_ (Nat.le_of_eq p.size.symm) ((p.swf h).rely k (R0.at (swOk k.K) W q)) p.wg (rep_at (swOk k.K) (p.rep h) q) h.rng ?_ _ _ _ _ _ _ _ _ _ _ _ _ _ _
    · rintro l ⟨a, rfl, hd⟩
      exact ⟨a, rfl, .inr (.inr hd)⟩
    · intro w' σ us v3 v8 v9 v14 v15 v16 v17 v18 v19 v20 v21 v22 v23 v24 hf hw hr hj hd
      obtain ⟨lw, hf⟩ := hf
      have ht := tail16_W (S := (swCfg (i.s d n w.heap.size)).sh) (s := i.s d n w.heap.size) (z := i.z w.heap.size W) (σ := σ) w' hf.bbox hr.b (by
        rintro ⟨a, e, hx⟩
        injection e with e
        subst e
        rcases hx with hx | hx | hx
        · exact k.bb.2.1 hx
        · exact k.bb.2.2.1 hx
        · exact k.bb.2.2.2 hx) v3 v8 v9 v14 v15 v16 v17 v18 v19 v20 v21 v22 v23 v24
      refine codeX_of (Q := fun e a w' x => bodyPostC Try.prog Try.f16 (fun v w' => i.Out d n w v w' x) e a w') (codeW_mono ht fun e a w2 q => ?_) kk cs hc
      have ho : ∀ (v : Value) (w2 : World), (v = .tuple #[.int .i64 σ.won, .int .i64 σ.lost] ∧ AtRel w' w2) → i.Out d n w v w2 ⟨(swCfg (i.s d n w.heap.size)).sh, (i.s d n w.heap.size).N0 + (i.s d n w.heap.size).l.length⟩ := by
        rintro v w2 ⟨rfl, q, rfl⟩
        refine ⟨σ, us, rfl, hj, hd, fun hh => hr.m hh, fun g ob hg e => ?_, p.env.trans (Env.trans hf.env (env_at w' q)), ?_, rfl⟩
        · refine hf.old g ob ⟨?_, ?_, ?_⟩ ((p.old g (lt_of_some e)).trans e)
          · have := lt_of_some e
            show g < w.heap.size + 4
            omega
          · have := lt_of_some e
            show g ≠ w.heap.size + 3
            omega
          · rintro (h5 | ⟨h5, h6⟩)
            · have h5 : g = w.heap.size + 1 := h5
              have := lt_of_some e
              omega
            · exact hg h5 h6
        · exact Nat.le_trans hf.h0 hf.lwle
      cases e <;> first | exact ⟨q.1, q.2.choose, q.2.choose_spec.1, ho _ _ q.2.choose_spec.2⟩ | exact q
  refine win_mk rfl fun w₂ h₂ => ?_
  rw [stepG_seq]
  refine ⟨fun e he => by simp at he, ?_⟩
  refine Win.rely ?_ h₂
  refine win_mk rfl fun w₃ h₃ => ?_
  rw [stepG_seq]
  exact ⟨fun e he => by simp at he, key.rely h₃⟩
theorem sweepX {Post : Value → World → Prop} (i : SwIn) (d : Nat → Prop) (n : Nat) (w : World) (h : i.Ok d n w) :
    CallX Try.prog Post 16 #[.pointer i.vp, .slice i.lA i.l.length i.lc] w ⟨blkS d, n⟩ (i.Out d n w) := by
  have T9 := termsP (blkS d)
  refine ⟨_, _, Try.func16, by kernel_rfl, rfl, ?_⟩
  simp only [Try.ntmps16]
  walk_nrm
  have hF := atRel_refl w
  (refine codeX_seq (codeX_of ?_); (refine codeW_region T9 ?_; simp only [List.size_toArray, List.length_cons, List.length_nil, Nat.reduceAdd, Nat.zero_add, List.range, List.range.loop]))
  (refine opsW_cons rfl (by rfl) ?_; intro _ hR K hK; replace hF := atRel_trans _ _ _ hF hR; clear hR; have hs9 := atRel_size hF; go_simp; refine hK _ _ ⟨?_, ?_⟩; (· rw [listed_nil (by simp [go_sem, *])]; exact dp0_nil); clear hK K hs9; try walk_nrm)
  replace hF := atRel_alloc hF (.cells #[.pointer i.vp] 35)
  (refine opsW_cons rfl (by rfl) ?_; intro _ hR K hK; replace hF := atRel_trans _ _ _ hF hR; clear hR; have hs9 := atRel_size hF; go_simp; refine hK _ _ ⟨?_, ?_⟩; (· rw [listed_nil (by simp [go_sem, *])]; exact dp0_nil); clear hK K hs9; try walk_nrm)
  (refine opsW_cons rfl (by rfl) ?_; intro _ hR K hK; replace hF := atRel_trans _ _ _ hF hR; clear hR; have hs9 := atRel_size hF; go_simp; refine hK _ _ ⟨?_, ?_⟩; (· rw [listed_nil (by simp [go_sem, *])]; exact dp0_nil); clear hK K hs9; try walk_nrm)
  (refine opsW_nil T9 ?_; simp only [Exit.thenX])
  (refine codeX_seq (codeX_of ?_); (refine codeW_region T9 ?_; simp only [List.size_toArray, List.length_cons, List.length_nil, Nat.reduceAdd, Nat.zero_add, List.range, List.range.loop]))
  have hsz := atRel_size hF
  simp only [World.size_alloc] at hsz
  co_apply opsW_call T9 rfl (by rfl) rfl
  · walk_nrm
    exact newBoard_W _
  rintro _ w' ⟨rfl, hF'⟩
  rw [hsz]
  clear hsz
  replace hF := atRel_trans _ _ _ (atRel_alloc hF _) hF'
  clear hF'
  walk_nrm
  (refine opsW_cons rfl (by rfl) ?_; intro _ hR K hK; replace hF := atRel_trans _ _ _ hF hR; clear hR; have hs9 := atRel_size hF; go_simp; refine hK _ _ ⟨?_, ?_⟩; (· rw [listed_nil (by simp [go_sem, *])]; exact dp0_nil); clear hK K hs9; try walk_nrm)
  replace hF := atRel_alloc hF (.cells #[.pointer none] 23)
  have hb0 : (((w.alloc (.cells #[.pointer i.vp] 35)).alloc (.cells (boardC 0 0) 70)).alloc (.cells #[.pointer none] 23)).heap[w.heap.size + 1 + 1]? = some (.cells #[.pointer none] 23) := by
    have := alloc_new ((w.alloc (.cells #[.pointer i.vp] 35)).alloc (.cells (boardC 0 0) 70)) (.cells #[.pointer none] 23)
    simpa only [World.size_alloc] using this
  have hn2 : ¬ blkS d (.cell ⟨w.heap.size + 1 + 1, 0, none⟩) := by
    rintro ⟨a, e, hd⟩
    injection e with e
    subst e
    have : w.heap.size + 1 + 1 < w.heap.size := h.dead _ hd
    omega
  have hc0 := box_cell hb0
  have hz0 := box_thaw hb0
  generalize hW3 : ((w.alloc (.cells #[.pointer i.vp] 35)).alloc (.cells (boardC 0 0) 70)).alloc (.cells #[.pointer none] 23) = W3 at hF hb0 hc0 hz0
  replace hW3 : RowKit.Hid _ := hW3
  (refine opsW_cons rfl (by rfl) ?_; intro _ hR K hK; replace hF := atRel_trans _ _ _ hF hR; clear hR; have hc9 := (atRel_cell hF _).trans hc0; have hz9 := (atRel_frozen hF _).trans hz0; go_simp; refine hK _ _ ⟨?_, ?_⟩; (· intro e he; have hm := mem_listed he; simp [go_sem, ev_store_ptr, storedEv, hc9, hz9] at hm; (first | rw [hm.2] | rw [hm]); exact evP_cell _ hn2); clear hK K hc9 hz9; try walk_nrm)
  replace hF := atRel_set hF ⟨w.heap.size + 1 + 1, 0, none⟩ (.pointer (some ⟨w.heap.size + 1, 0, none⟩))
  (refine opsW_nil T9 ?_; simp only [Exit.thenX])
  have hs4 : (W3.setCell ⟨w.heap.size + 1 + 1, 0, none⟩ (.pointer (some ⟨w.heap.size + 1, 0, none⟩))).heap.size = w.heap.size + 1 + 1 + 1 := by
    rw [(aside_setCell W3 _ _).size, ← hW3.out]
    simp only [World.size_alloc]
  generalize hW4 : W3.setCell ⟨w.heap.size + 1 + 1, 0, none⟩ (.pointer (some ⟨w.heap.size + 1, 0, none⟩)) = W4 at hF hs4
  replace hW4 : RowKit.Hid _ := hW4
  clear hc0 hz0
  (refine codeX_seq (codeX_of ?_); (refine codeW_region T9 ?_; simp only [List.size_toArray, List.length_cons, List.length_nil, Nat.reduceAdd, Nat.zero_add, List.range, List.range.loop]))
  (refine opsW_cons rfl (by rfl) ?_; intro _ hR K hK; replace hF := atRel_trans _ _ _ hF hR; clear hR; have hs9 := atRel_size hF; go_simp; refine hK _ _ ⟨?_, ?_⟩; (· rw [listed_nil (by simp [go_sem, *])]; exact dp0_nil); clear hK K hs9; try walk_nrm)
  replace hF := atRel_alloc hF (.cells #[.int .u64 0, .int .u32 0] 81)
  (refine opsW_nil T9 ?_; simp only [Exit.thenX])
  clear T9
  generalize hW5 : W4.alloc (.cells #[.int .u64 0, .int .u32 0] 81) = W5 at hF
  replace hW5 : RowKit.Hid _ := hW5
  have hp : Pre5 i w W5 := by
    have e3 := hW3.out
    have e4 := hW4.out
    have e5 := hW5.out
    subst e5 e4 e3
    have a := aside_setCell (((w.alloc (.cells #[.pointer i.vp] 35)).alloc (.cells (boardC 0 0) 70)).alloc (.cells #[.pointer none] 23)) ⟨w.heap.size + 1 + 1, 0, none⟩ (.pointer (some ⟨w.heap.size + 1, 0, none⟩))
    have low : ∀ (w : World) (ob : Obj) (g : Nat), g < w.heap.size → (w.alloc ob).heap[g]? = w.heap[g]? := fun w ob g hg => Below.heap_alloc _ _ _ hg
    refine ⟨?_, fun g hg => ?_, ?_, ?_, ?_, ?_, ?_⟩
    · simp only [World.size_alloc, hs4]
    · rw [low _ _ _ (by rw [hs4]; omega), a.block g (by show g ≠ w.heap.size + 1 + 1; omega), low _ _ _ (by simp only [World.size_alloc]; omega), low _ _ _ (by simp only [World.size_alloc]; omega), low _ _ _ hg]
    · rw [low _ _ _ (by rw [hs4]; omega), a.block _ (by show w.heap.size ≠ w.heap.size + 1 + 1; omega), low _ _ _ (by simp only [World.size_alloc]; omega), low _ _ _ (by simp only [World.size_alloc]; omega)]
      exact alloc_new _ _
    · rw [low _ _ _ (by rw [hs4]; omega), a.block _ (by show w.heap.size + 1 ≠ w.heap.size + 1 + 1; omega), low _ _ _ (by simp only [World.size_alloc]; omega)]
      have := alloc_new (w.alloc (.cells #[.pointer i.vp] 35)) (.cells (boardC 0 0) 70)
      simpa only [World.size_alloc] using this
    · rw [low _ _ _ (by rw [hs4]; omega)]
      exact box_set hb0
    · have := alloc_new ((((w.alloc (.cells #[.pointer i.vp] 35)).alloc (.cells (boardC 0 0) 70)).alloc (.cells #[.pointer none] 23)).setCell ⟨w.heap.size + 1 + 1, 0, none⟩ (.pointer (some ⟨w.heap.size + 1, 0, none⟩))) (.cells #[.int .u64 0, .int .u32 0] 81)
      rw [hs4] at this
      exact this
    · exact ⟨a.tape, a.os, a.output⟩
  clear hW3 hW4 hW5 hb0 hs4 hn2
  exact sweepTail h hp hF _ _ _ _ _ _ _ _ _ _ _ _ _ _ _ _ _
end Go.Proofs.Ytkcknoodcgmndaa

end
