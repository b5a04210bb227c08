import Derived.Test.YtkcknoodcgmndaaZPhU
import Derived.Test.YtkcknoodcgmndaaZPhW
import Derived.Test.YtkcknoodcgmndaaZPhY
import Derived.Conc.CompanyWords
import Derived.Conc.WgWords
import Derived.Test.YtkcknoodcgmndaaZTcC
import Derived.Conc.AppendWalk
import Derived.Laws.MakeOwn
section
/- tally.Sweep starts its workers: the loop, as the phase asks it. -/
namespace Go.Proofs.Ytkcknoodcgmndaa
open Go.Conc Go.RowKit Go.Conc.Lib Go.ConcR.Gen
open Go.ConcN (WgLive)
open Go.ConcR (KK wgBlock WgAt stA smA rd wr mk Payload)
set_option linter.unusedVariables false
set_option linter.unusedSimpArgs false
set_option linter.unusedSectionVars false
set_option maxRecDepth 100000
set_option maxHeartbeats 4000000














noncomputable def blk16 : Code := match (Try.f16.body.getD .skip) with
  | .seq _ (.seq _ (.seq _ (.seq (.seq _ (.block _ (.loop c))) _))) => c
  | _ => .skip
noncomputable def rest16 : Code := match (Try.f16.body.getD .skip) with
  | .seq _ (.seq _ (.seq _ (.seq (.seq _ (.block _ (.loop _))) r))) => r
  | _ => .skip
/-- what the starter is told of the list -/
structure SwL where
  w0 : World
  mB : Nat
  bB : Nat
  Mb : Nat
  cap : Nat
  lA : Option Addr
  lb : Nat
  lo : Nat
  lc : Nat
  pA : Nat → Option Addr
  pd : Nat → Nat
  po : Nat → Nat
  pc : Nat → Nat
def act16 (s : SwP) (z : SwL) (i : Nat) (v3 v8 v9 v14 v15 v16 v17 v18 v19 v20 v21 v22 v23 v24 : Value) : Act :=
  ⟨#[mkV s z.Mb, .slice z.lA s.l.length z.lc, .pointer (some ⟨z.mB, 0, none⟩), v3, .int .i64 0, .int .i64 0, .pointer (some ⟨z.bB, 0, none⟩), .pointer (some ⟨s.Wg, 0, none⟩), v8, v9, .pointer (some ⟨s.Bb, 0, none⟩), .slice z.lA s.l.length z.lc, .int .i64 (s.l.length : Int), .int .i64 (i : Int), v14, v15, v16, v17, v18, v19, v20, v21, v22, v23, v24], []⟩
def RdLow (s : SwP) (g : Nat) : Prop := g < s.H0 ∧ g ≠ s.Wg ∧ ¬ s.SB g ∧ ¬ s.dead g
theorem RdLow.ok {s : SwP} {C g : Nat} (h : RdLow s g) : RdOk s C g := ⟨.inr h.1, h.2⟩
/-- what never changes -/
structure SwSt (s : SwP) (z : SwL) : Prop where
  K : s.Ok
  no : s.has = false → s.nn = 0
  small : ∀ j, (s.l.getD j []).length < 4611686018427387904
  few : s.l.length < 4611686018427387904
  mb : RdLow s z.mB
  bb : RdLow s z.bB
  row : s.has = true → RdLow s z.Mb
  list : 0 < s.l.length → RdLow s z.lb
  lA : 0 < s.l.length → z.lA = some ⟨z.lb, z.lo, none⟩
  data : ∀ j, s.l.getD j [] ≠ [] → RdLow s (z.pd j) ∧ z.pA j = some ⟨z.pd j, z.po j, none⟩
  hi : ∀ b, s.H0 ≤ b → ¬ s.SB b ∧ b ≠ s.Wg ∧ ¬ s.dead b
/-- what the starter knows of the memory -/
structure SwF (s : SwP) (z : SwL) (lw : Nat) (w : World) : Prop where
  lwle : lw ≤ w.heap.size
  h0 : s.H0 ≤ lw
  mbox : w.heap[z.mB]? = some (.cells #[mkV s z.Mb] 35)
  bbox : w.heap[z.bB]? = some (.cells #[.pointer (some ⟨s.Bb, 0, none⟩)] 23)
  row : s.has = true → w.heap[z.Mb]? = some (.cells #[.int .i64 s.nn, .slice (some ⟨s.Wb, 0, none⟩) s.σ0.ws.length z.cap] 74)
  list : ∀ j, j < s.l.length → w.cell? ⟨z.lb, z.lo + j, none⟩ = some (.slice (z.pA j) (s.l.getD j []).length (z.pc j))
  data : ∀ j q x, (s.l.getD j [])[q]? = some x → w.cell? ⟨z.pd j, z.po j + q, none⟩ = some (.int .i64 x)
  old : ∀ g ob, (g < s.H0 ∧ g ≠ s.Wg ∧ ¬ s.SB g) → z.w0.heap[g]? = some ob → w.heap[g]? = some ob
  env : Env z.w0 w
def Low3 (s : SwP) (g : Nat) : Prop := g < s.H0 ∧ g ≠ s.Wg ∧ ¬ s.SB g
theorem RdLow.low {s : SwP} {g : Nat} (h : RdLow s g) : Low3 s g := ⟨h.1, h.2.1, h.2.2.1⟩
theorem SwF.of {s : SwP} {z : SwL} {lw : Nat} {w w₁ : World} (h : SwF s z lw w) (k : SwSt s z) (v : Env w w₁) (hs : w.heap.size ≤ w₁.heap.size) (e : ∀ g ob, Low3 s g → w.heap[g]? = some ob → w₁.heap[g]? = some ob) : SwF s z lw w₁ := by
  have ec : ∀ {g i : Nat} {v : Value}, RdLow s g → w.cell? ⟨g, i, none⟩ = some v → w₁.cell? ⟨g, i, none⟩ = some v := fun hg hv => by
    obtain ⟨ob, hob⟩ := cell_some hv
    rw [cell_same ((e _ _ hg.low hob).trans hob.symm)]
    exact hv
  exact ⟨Nat.le_trans h.lwle hs, h.h0, e _ _ k.mb.low h.mbox, e _ _ k.bb.low h.bbox, fun hh => e _ _ (k.row hh).low (h.row hh), fun j hj => ec (k.list (by omega)) (h.list j hj), fun j q x hx => ec (k.data j (fun hn => by rw [hn] at hx; simp at hx)).1 (h.data j q x hx),
    fun g ob hg e0 => e _ _ hg (h.old g ob hg e0), h.env.trans v⟩
theorem SwF.rely {s : SwP} {z : SwL} {lw : Nat} {w w₁ : World} (k : SwSt s z) (r : R0 (swCfg s) lw w w₁) (h : SwF s z lw w) : SwF s z lw w₁ :=
  h.of k r.env r.size fun g ob hg e => (r.same g (Array.getElem?_eq_some_iff.1 e).1 hg.2.2 hg.2.1 (.inr (.inr hg.1))).trans e
theorem env_setCell (w : World) (a : Addr) (v : Value) : Env w (w.setCell a v) := by
  have x := aside_setCell w a v
  exact ⟨x.tape, x.os, x.output⟩
theorem SwF.setWg {s : SwP} {z : SwL} {lw : Nat} {w : World} (k : SwSt s z) (a : Addr) (v : Value) (ha : a.block = s.Wg) (h : SwF s z lw w) : SwF s z lw (w.setCell a v) :=
  h.of k (env_setCell w a v) (Nat.le_of_eq (aside_setCell w a v).size.symm) fun g ob hg e => ((aside_setCell w a v).block g (fun e => hg.2.1 (e.trans ha))).trans e
theorem SwF.raise {s : SwP} {z : SwL} {lw : Nat} {w : World} (h : SwF s z lw w) : SwF s z w.heap.size w := ⟨Nat.le_refl _, Nat.le_trans h.h0 h.lwle, h.mbox, h.bbox, h.row, h.list, h.data, h.old, h.env⟩
theorem goes_imp {P : Program} {main : Bool} {R : World → World → Prop} {D : World → World → Array Event → Prop} {S1 S2 : Goroutine → World → Prop} (h : ∀ g w, S1 g w → S2 g w) : ∀ (n : Nat) (g : Goroutine) (w : World), Goes P main R D S1 n g w → Goes P main R D S2 n g w
  | 0, _, _, hg => fun w₁ h₁ => h _ _ (hg w₁ h₁)
  | n + 1, g, w, hg => by
    rcases hg with hg | ⟨hr, hg⟩
    · exact .inl fun w₁ h₁ => h _ _ (hg w₁ h₁)
    · refine .inr ⟨hr, fun w₁ h₁ => ?_⟩
      have := hg w₁ h₁
      revert this
      cases stepG P main g w₁ <;> simp only [GStep.goes, imp_self]
      exact fun ⟨d, x⟩ => ⟨d, goes_imp h n _ _ x⟩
noncomputable def ops9 : Array Oper := match rest16 with
  | .seq (.region _ o _) _ => o
  | _ => #[]
noncomputable def tail9 : Code := match rest16 with
  | .seq _ r => r
  | _ => .skip
/-- at the head of Wait's loop, called by Sweep -/
def AnchS (s : SwP) (z : SwL) (kk : List Item) (cs : List Frame) (lw : Nat) (g : Goroutine) (w : World) : Prop :=
  ∃ v3 v8 v9 v14 v15 v16 v17 v18 v19 v20 v21 v22 v23 v24 : Value, AnchP lnk (swCfg s) (SwF s z) ((base 16).at (act16 s z s.l.length v3 v8 v9 v14 v15 v16 v17 v18 v19 v20 v21 v22 v23 v24) (.inRegion ops9 [0] :: .code tail9 :: kk)) cs lw g w
theorem spawn0 {s : SwP} {z : SwL} (k : SwSt s z) {kk : List Item} {cs : List Frame} {lw : Nat} (v3 v8 v9 v14 v15 v16 v17 v18 v19 v20 v21 v22 v23 v24 : Value) (w : World) (hF : SwF s z lw w ∧ WgLive 81 s.Wg w) :
    ∃ m, Goes Try.prog true (R0 (swCfg s) lw) (D0 (swCfg s) lw) (AtKd Try.prog (swCfg s) lw (AnchS s z kk cs lw)) m
      (G ((base 16).at (act16 s z s.l.length v3 v8 v9 v14 v15 v16 v17 v18 v19 v20 v21 v22 v23 v24) (.code blk16 :: .inLoop blk16 :: .inBlock 0 :: .code rest16 :: kk)) cs) w := by
  have K := swOk k.K
  have rl9 : ∀ {w w₁ : World}, (SwF s z lw w ∧ WgLive 81 s.Wg w) → R0 (swCfg s) lw w w₁ → (SwF s z lw w₁ ∧ WgLive 81 s.Wg w₁) := fun h r => ⟨h.1.rely k r, r.live h.2⟩
  have e9 : decide ((s.l.length : Int) < (s.l.length : Int)) = false := decide_eq_false (by omega)
  refine ⟨300, ?_⟩
  rw [show blk16 = _ from (by unfold blk16; simp only [Try.f16, Option.getD_some]; try rfl)]
  unfold act16
  refine Goes.step rfl (fun _ h₁ => ?_); replace hF := rl9 hF h₁; clear h₁
  ((first | rw [stepG_seq] | rw [stepG_region_end] | rw [stepG_skip] | rw [stepG_block] | rw [stepG_loop] | rw [stepG_inBlock] | rw [stepG_inLoop] | rw [stepG_ret'] | rw [stepG_end]); simp only [goes_go]; refine ⟨(by refine d0_none ?_; intro e he; simp at he), ?_⟩)
  refine Goes.step rfl (fun _ h₁ => ?_); replace hF := rl9 hF h₁; clear h₁
  (rw [stepG_region]; simp only [goes_go, List.size_toArray, List.length_cons, List.length_nil, Nat.reduceAdd, Nat.zero_add, List.range, List.range.loop]; refine ⟨(by refine d0_none ?_; intro e he; simp at he), ?_⟩)
  refine Goes.step rfl (fun _ h₁ => ?_); replace hF := rl9 hF h₁; clear h₁
  (refine goes_oper_k rfl rfl (by k_ne) (fun K hK => ?_); go_simp; refine hK _ _ ⟨?_, ?_⟩; (· refine d0_none ?_; intro e he; have hm := mem_listed he; simp [go_sem, *] at hm); clear hK K; try w_num)
  refine Goes.step rfl (fun _ h₁ => ?_); replace hF := rl9 hF h₁; clear h₁
  ((first | rw [stepG_seq] | rw [stepG_region_end] | rw [stepG_skip] | rw [stepG_block] | rw [stepG_loop] | rw [stepG_inBlock] | rw [stepG_inLoop] | rw [stepG_ret'] | rw [stepG_end]); simp only [goes_go]; refine ⟨(by refine d0_none ?_; intro e he; simp at he), ?_⟩)
  refine Goes.step rfl (fun _ h₁ => ?_); replace hF := rl9 hF h₁; clear h₁
  ((first | rw [stepG_seq] | rw [stepG_region_end] | rw [stepG_skip] | rw [stepG_block] | rw [stepG_loop] | rw [stepG_inBlock] | rw [stepG_inLoop] | rw [stepG_ret'] | rw [stepG_end]); simp only [goes_go]; refine ⟨(by refine d0_none ?_; intro e he; simp at he), ?_⟩)
  refine Goes.step rfl (fun _ h₁ => ?_); replace hF := rl9 hF h₁; clear h₁
  ((first | rw [stepG_cond (t := true) rfl] | rw [stepG_cond (t := false) rfl] | rw [stepG_cond (t := false) (by simp [Act.eval]; omega)] | rw [stepG_cond (t := true) (by simp [Act.eval]; omega)]); simp only [goes_go, if_true, if_false, Bool.false_eq_true, ↓reduceIte]; refine ⟨(by refine d0_none ?_; intro e he; simp at he), ?_⟩)
  refine Goes.step rfl (fun _ h₁ => ?_); replace hF := rl9 hF h₁; clear h₁
  refine goes_exit rfl ⟨(by refine d0_none ?_; intro e he; simp at he), ?_⟩
  rw [show rest16 = _ from (by unfold rest16; simp only [Try.f16, Option.getD_some]; try rfl)]
  refine Goes.step rfl (fun _ h₁ => ?_); replace hF := rl9 hF h₁; clear h₁
  ((first | rw [stepG_seq] | rw [stepG_region_end] | rw [stepG_skip] | rw [stepG_block] | rw [stepG_loop] | rw [stepG_inBlock] | rw [stepG_inLoop] | rw [stepG_ret'] | rw [stepG_end]); simp only [goes_go]; refine ⟨(by refine d0_none ?_; intro e he; simp at he), ?_⟩)
  refine Goes.step rfl (fun _ h₁ => ?_); replace hF := rl9 hF h₁; clear h₁
  (rw [stepG_region]; simp only [goes_go, List.size_toArray, List.length_cons, List.length_nil, Nat.reduceAdd, Nat.zero_add, List.range, List.range.loop]; refine ⟨(by refine d0_none ?_; intro e he; simp at he), ?_⟩)
  refine Goes.step rfl (fun _ h₁ => ?_); replace hF := rl9 hF h₁; clear h₁
  refine goes_call rfl rfl (by k_ne) rfl wgLib.f_wait (nm_wait lnk) rfl ⟨(by refine d0_none ?_; intro e he; simp at he), ?_⟩
  have hW := waitStart (F := SwF s z) (cs := cs) (lw := lw) (b₀ := base 16) (a₀ := act16 s z s.l.length v3 v8 v9 (.bool false) v15 v16 v17 v18 v19 v20 v21 v22 v23 v24) (ops₀ := ops9) (i₀ := 0) (rest₀ := []) (k₀ := .code tail9 :: kk) wgLib K (fun w w' r h => h.rely k r) _ hF
  have o9 : ops9 = _ := (by unfold ops9 rest16; simp only [Try.f16, Option.getD_some]; try rfl)
  have t9 : tail9 = _ := (by unfold tail9 rest16; simp only [Try.f16, Option.getD_some]; try rfl)
  rw [o9, t9] at hW
  walk_nrmf waitFn
  simp only [body_wait, waitFn, Option.getD_some, act16, Act.put, Act.eval, List.map_toArray, List.map_cons, List.map_nil, Array.getD_eq_getD_getElem?, List.getElem?_toArray, List.getElem?_cons_succ, List.getElem?_cons_zero, Option.bind_some, List.size_toArray, List.length_cons, List.length_nil, Nat.reduceAdd, Nat.reduceSub, Array.replicate_succ, Array.replicate_zero, List.push_toArray, List.append_toArray, List.nil_append, List.cons_append] at hW
  have hI := goes_imp (S2 := AtKd Try.prog (swCfg s) lw (AnchS s z kk cs lw)) (fun g w h => by
    obtain ⟨h1, g', h2, m, h3⟩ := h
    refine ⟨h1, g', h2, m, goes_imp (fun g w h => ?_) m _ _ h3⟩
    unfold AnchS act16
    rw [o9, t9]
    exact ⟨_, _, _, _, _, _, _, _, _, _, _, _, _, _, h⟩) 200 _ _ hW
  exact Goes.mono hI (by omega)
end Go.Proofs.Ytkcknoodcgmndaa

end
section
/- tally.Sweep starts its workers: a round; all rounds. -/
namespace Go.Proofs.Ytkcknoodcgmndaa
open Go.Conc Go.RowKit Go.Conc.Lib Go.ConcR.Gen
open Go.ConcN (WgLive)
open Go.ConcR (KK wgBlock WgAt stA smA rd wr mk Payload)
set_option linter.unusedVariables false
set_option linter.unusedSimpArgs false
set_option linter.unusedSectionVars false
set_option maxRecDepth 100000
set_option maxHeartbeats 4000000















/-- what is asked of the starter where r workers are still to be started -/
theorem spawns_pre {P : Program} {c : Cfg} {Anch : Nat → Goroutine → World → Prop} {r lw : Nat} {g g' : Goroutine} {w : World} (h : Spawns P c Anch r lw g' w)
    (hs : ∀ (St : Goroutine → World → Prop) (m : Nat), Goes P true (R0 c lw) (D0 c lw) St m g' w → ∃ m', Goes P true (R0 c lw) (D0 c lw) St m' g w) : Spawns P c Anch r lw g w := by
  cases r with
  | zero => obtain ⟨m, hm⟩ := h; exact hs _ m hm
  | succ r => obtain ⟨m, hm⟩ := h; exact hs _ m hm
/-- what the starter knows where it has filled a box -/
structure SwB (s : SwP) (z : SwL) (lw C : Nat) (v : Value) (w : World) : Prop where
  f : SwF s z lw w
  box : w.heap[C]? = some (.cells #[v] 33)
  lo : lw ≤ C
theorem SwB.rely {s : SwP} {z : SwL} {lw C : Nat} {v : Value} {w w₁ : World} (k : SwSt s z) (r : R0 (swCfg s) lw w w₁) (h : SwB s z lw C v w) : SwB s z lw C v w₁ := by
  have h0 := h.f.h0
  have hC := h.lo
  obtain ⟨n1, n2, n3⟩ := k.hi C (by omega)
  exact ⟨h.f.rely k r, (r.same C (Array.getElem?_eq_some_iff.1 h.box).1 n1 n2 (.inl h.lo)).trans h.box, h.lo⟩
theorem SwB.setWg {s : SwP} {z : SwL} {lw C : Nat} {u : Value} {w : World} (k : SwSt s z) (a : Addr) (v : Value) (ha : a.block = s.Wg) (h : SwB s z lw C u w) : SwB s z lw C u (w.setCell a v) := by
  have h0 := h.f.h0
  have hC := h.lo
  obtain ⟨n1, n2, n3⟩ := k.hi C (by omega)
  exact ⟨h.f.setWg k a v ha, ((aside_setCell w a v).block C (fun e => n2 (e.trans ha))).trans h.box, h.lo⟩
theorem evS_read {s : SwP} {lw : Nat} {w : World} {a : Addr} (h : RdLow s a.block) : EvS (swCfg s) lw w ⟨.cell a, false, false⟩ := by
  refine ⟨fun x hx _ => ?_, by simp, by simp, by simp⟩
  simp only [ofEvent_cell0, MemAct.touch?, Option.some.injEq] at hx
  subst hx
  refine .inr ⟨?_, fun _ h => h, fun h => by cases h⟩
  rintro ⟨a', e, h'⟩
  injection e with e
  subst e
  rcases h' with h' | h' | h'
  · exact h.2.1 h'
  · exact h.2.2.1 h'
  · exact h.2.2.2 h'
theorem evS_box {s : SwP} {z : SwL} (k : SwSt s z) {lw C : Nat} {w : World} (h0 : s.H0 ≤ lw) (h : lw ≤ C) : EvS (swCfg s) lw w ⟨.cell ⟨C, 0, none⟩, true, false⟩ := by
  obtain ⟨n1, n2, n3⟩ := k.hi C (by omega)
  refine ⟨fun x hx _ => ?_, by simp, by simp, by simp⟩
  simp only [ofEvent_cell0, MemAct.touch?, Option.some.injEq] at hx
  subst hx
  refine .inr ⟨?_, fun _ h => h, fun _ => ⟨_, rfl, h, Nat.le_trans h0 h⟩⟩
  rintro ⟨a', e, h'⟩
  injection e with e
  subst e
  rcases h' with h' | h' | h'
  · exact n2 h'
  · exact n1 h'
  · exact n3 h'
theorem d0_evs {c : Cfg} {lw : Nat} {w : World} {es : Array Event} (h : ∀ e ∈ es, EvS c lw w e) : D0 c lw w w es := ⟨.refl w, Nat.le_refl _, fun _ _ _ => rfl, fun _ h => h, h⟩
theorem d0_alloc {c : Cfg} {lw : Nat} {w : World} {ob : Obj} {es : Array Event} (h : ∀ e ∈ es, False) : D0 c lw w (w.alloc ob) es := by
  refine ⟨⟨rfl, rfl, rfl⟩, by simp, fun b hb _ => Below.heap_alloc _ _ _ hb, fun b hb => ?_, fun e he => (h e he).elim⟩
  have hl := hb.lt
  exact hb.of_same (Below.heap_alloc _ _ _ hl)
theorem soft_set {w : World} {C : Nat} {v u : Value} (h : w.heap[C]? = some (.cells #[u] Payload.ety)) (b : Nat) (hb : Soft w b) : Soft (w.setCell ⟨C, 0, none⟩ v) b := by
  by_cases e : b = C
  · subst e
    exact ⟨v, by rw [setCell_eq_setRow w b 0 _ _ (0, 0) _ h, setRow_heap w b _ _ _ _ h]; rfl⟩
  · exact hb.of_same ((aside_setCell w ⟨C, 0, none⟩ v).block b e)
theorem d0_box {s : SwP} {z : SwL} (k : SwSt s z) {lw C : Nat} {w : World} {v u : Value} {es : Array Event} (h0 : s.H0 ≤ lw) (hC : lw ≤ C) (h : w.heap[C]? = some (.cells #[u] Payload.ety)) (he : ∀ e ∈ es, e = ⟨.cell ⟨C, 0, none⟩, true, false⟩) : D0 (swCfg s) lw w (w.setCell ⟨C, 0, none⟩ v) es := by
  have a := aside_setCell w ⟨C, 0, none⟩ v
  refine ⟨⟨a.tape, a.os, a.output⟩, Nat.le_of_eq a.size.symm, fun b hb hx => a.block b (fun e => ?_), fun b hb => soft_set h b hb, fun e hE => ?_⟩
  · have e : b = C := e
    subst e
    rcases hx with hx | hx | hx
    · omega
    · exact hx ⟨u, h⟩
    · exact absurd hx (by show ¬ b < s.H0; omega)
  · rw [he e hE]; exact evS_box k h0 hC
theorem SwF.alloc {s : SwP} {z : SwL} {lw : Nat} {w : World} (k : SwSt s z) (ob : Obj) (h : SwF s z lw w) : SwF s z lw (w.alloc ob) :=
  h.of k ⟨rfl, rfl, rfl⟩ (by simp) fun g ob' hg e => (Below.heap_alloc _ _ _ (Array.getElem?_eq_some_iff.1 e).1).trans e
theorem SwF.setBox {s : SwP} {z : SwL} {lw C : Nat} {w : World} (k : SwSt s z) (v : Value) (hC : lw ≤ C) (h : SwF s z lw w) : SwF s z lw (w.setCell ⟨C, 0, none⟩ v) :=
  h.of k (env_setCell w _ v) (Nat.le_of_eq (aside_setCell w ⟨C, 0, none⟩ v).size.symm) fun g ob hg e => ((aside_setCell w ⟨C, 0, none⟩ v).block g (fun e => by have := h.h0; have := hg.1; have e : g = C := e; omega)).trans e
theorem alloc_new (w : World) (ob : Obj) : (w.alloc ob).heap[w.heap.size]? = some ob := by
  show (w.heap.push ob)[w.heap.size]? = some ob
  exact Array.getElem?_push_size
theorem box_cell {w : World} {C : Nat} {u : Value} {T : TypeId} (h : w.heap[C]? = some (.cells #[u] T)) : w.cell? ⟨C, 0, none⟩ = some u := by simp [World.cell?, h]
theorem box_thaw {w : World} {C : Nat} {u : Value} {T : TypeId} (h : w.heap[C]? = some (.cells #[u] T)) : w.frozen? ⟨C, 0, none⟩ = false := by simp [World.frozen?, h]
theorem box_set {w : World} {C : Nat} {u v : Value} {T : TypeId} (h : w.heap[C]? = some (.cells #[u] T)) : (w.setCell ⟨C, 0, none⟩ v).heap[C]? = some (.cells #[v] T) := by
  rw [setCell_eq_setRow w C 0 _ _ (0, 0) _ h, setRow_heap w C _ _ _ _ h]; rfl
theorem live_alloc {w : World} {Wg : Nat} (ob : Obj) (h : WgLive 81 Wg w) : WgLive 81 Wg (w.alloc ob) := by
  obtain ⟨st, sm, h⟩ := h
  exact ⟨st, sm, (Below.heap_alloc _ _ _ (Array.getElem?_eq_some_iff.1 h).1).trans h⟩
theorem live_set {w : World} {Wg : Nat} {a : Addr} {v : Value} (hn : Wg ≠ a.block) (h : WgLive 81 Wg w) : WgLive 81 Wg (w.setCell a v) := by
  obtain ⟨st, sm, h⟩ := h
  exact ⟨st, sm, ((aside_setCell w a v).block _ hn).trans h⟩
noncomputable def ops6 : Array Oper := match blk16 with
  | .seq _ (.seq _ (.seq (.block _ (.seq _ (.seq (.region _ o _) _))) _)) => o
  | _ => #[]
noncomputable def tail6 : Code := match blk16 with
  | .seq _ (.seq _ (.seq (.block _ (.seq _ (.seq _ t))) _)) => t
  | _ => .skip
noncomputable def code8 : Code := match blk16 with
  | .seq _ (.seq _ (.seq _ t)) => t
  | _ => .skip
noncomputable def kk6 (kk : List Item) : List Item := .code tail6 :: .inBlock 1 :: .code code8 :: .inLoop blk16 :: .inBlock 0 :: .code rest16 :: kk
/-- from Add's return to the go -/
theorem goT {s : SwP} {z : SwL} (k : SwSt s z) {kk : List Item} {cs : List Frame} {r lw j C : Nat} (hj : j < s.l.length)
    (hN : ∀ (lw' : Nat) (w : World) (v3 v8 v9 v14 v15 v16 v17 v18 v19 v20 v21 v22 v23 v24 : Value), SwF s z lw' w ∧ WgLive 81 s.Wg w → Spawns Try.prog (swCfg s) (AnchS s z kk cs) r lw' (G ((base 16).at (act16 s z (j + 1) v3 v8 v9 v14 v15 v16 v17 v18 v19 v20 v21 v22 v23 v24) (.code blk16 :: .inLoop blk16 :: .inBlock 0 :: .code rest16 :: kk)) cs) w)
    (v3 v8 v14 v15 v16 v17 v18 v19 v20 v21 v22 v23 v24 : Value) (w : World) (hF : SwB s z lw C (.slice (z.pA j) (s.l.getD j []).length (z.pc j)) w ∧ WgLive 81 s.Wg w) :
    Goes Try.prog true (R0 (swCfg s) lw) (D0 (swCfg s) lw) (AtGoS Try.prog (swCfg s) lw j (Spawns Try.prog (swCfg s) (AnchS s z kk cs) r)) 60
      (G ((base 16).at (act16 s z j v3 v8 (.pointer (some ⟨C, 0, none⟩)) v14 v15 v16 v17 v18 v19 v20 v21 v22 v23 v24) (.inRegion ops6 [] :: kk6 kk)) cs) w := by
  have K := swOk k.K
  have hC := hF.1.lo
  obtain ⟨Lj, hLj⟩ : ∃ L, RowKit.Hid (L = s.l.getD j []) := ⟨_, rfl⟩
  rw [← hLj.out] at hF
  have rl9 : ∀ {v : Value} {w w₁ : World}, (SwB s z lw C v w ∧ WgLive 81 s.Wg w) → R0 (swCfg s) lw w w₁ → (SwB s z lw C v w₁ ∧ WgLive 81 s.Wg w₁) := fun h r => ⟨h.1.rely k r, r.live h.2⟩
  unfold kk6
  rw [show tail6 = _ from (by unfold tail6 blk16; simp only [Try.f16, Option.getD_some]; try rfl)]
  rw [show ops6 = _ from (by unfold ops6 blk16; simp only [Try.f16, Option.getD_some]; try rfl)]
  unfold act16
  refine Goes.step rfl (fun _ h₁ => ?_); replace hF := rl9 hF h₁; clear h₁
  ((first | rw [stepG_seq] | rw [stepG_region_end] | rw [stepG_skip] | rw [stepG_block] | rw [stepG_loop] | rw [stepG_inBlock] | rw [stepG_inLoop] | rw [stepG_ret'] | rw [stepG_end]); simp only [goes_go]; refine ⟨(by refine d0_none ?_; intro e he; simp at he), ?_⟩)
  refine Goes.step rfl (fun _ h₁ => ?_); replace hF := rl9 hF h₁; clear h₁
  (rw [stepG_region]; simp only [goes_go, List.size_toArray, List.length_cons, List.length_nil, Nat.reduceAdd, Nat.zero_add, List.range, List.range.loop]; refine ⟨(by refine d0_none ?_; intro e he; simp at he), ?_⟩)
  refine Goes.step rfl (fun _ h₁ => ?_); replace hF := rl9 hF h₁; clear h₁
  (refine goes_oper_k rfl rfl (by k_ne) (fun K hK => ?_); go_simp; refine hK _ _ ⟨?_, ?_⟩; (· refine d0_none ?_; intro e he; have hm := mem_listed he; simp [go_sem, *] at hm); clear hK K; try w_num)
  refine Goes.stop (fun xW h₁ => ?_)
  replace hF := rl9 hF h₁
  clear h₁
  have h0 := hF.1.f.h0
  have few := (hLj.out ▸ k.small j : Lj.length < 4611686018427387904)
  have hno : Lj ≠ [] → _ := (hLj.out ▸ k.data j)
  have ko : SwKo s C z.mB z.bB z.Mb (z.pd j) Lj := ⟨⟨.inl rfl, (k.hi C (by omega)).2.1, (k.hi C (by omega)).1, (k.hi C (by omega)).2.2⟩, k.mb.ok, k.bb.ok, fun hh => (k.row hh).ok, fun hn => (hno hn).1.ok⟩
  have hK : SwK s C z.mB z.bB z.Mb z.cap (z.pA j) (z.pd j) (z.po j) (z.pc j) Lj xW := ⟨hF.1.box, fun hn => (hno hn).2, hF.1.f.mbox, hF.1.f.bbox, hF.1.f.row, (hLj.out ▸ hF.1.f.data j), hF.2⟩
  have hS : Soft xW C := ⟨_, hF.1.box⟩
  refine ⟨rfl, _, born Try.prog (call35 s.Wg C z.mB z.bB), C, Eq.trans (stepG_spawn (f := .func 35) (c := #[.pointer (some ⟨s.Wg, 0, none⟩), .pointer (some ⟨C, 0, none⟩), .pointer (some ⟨z.mB, 0, none⟩), .pointer (some ⟨z.bB, 0, none⟩)]) rfl rfl ?_ (d := call35 s.Wg C z.mB z.bB) (w' := xW) (by simp [go_sem, call35, Deferred.ofValue]) rfl) rfl, rfl, hC, Nat.le_trans h0 hC, hS, ?_, ?_⟩
  · k_ne
  · intro N
    have := run35 (k := (swCfg s).N0 + j) k.K k.no ko few xW hK N
    rw [hLj.out] at this
    exact this
  · refine spawns_pre (hN xW.heap.size xW v3 v8 (.pointer (some ⟨C, 0, none⟩)) v14 v15 v16 v17 (.func (.func 35) #[] #[.pointer (some ⟨s.Wg, 0, none⟩), .pointer (some ⟨C, 0, none⟩), .pointer (some ⟨z.mB, 0, none⟩), .pointer (some ⟨z.bB, 0, none⟩)]) (.int .i64 (j + 1)) v20 v21 v22 v23 v24 ⟨hF.1.f.raise, hF.2⟩) ?_
    intro St m hG
    have fw := k.few
    replace hF : (SwF s z xW.heap.size xW ∧ WgLive 81 s.Wg xW) := ⟨hF.1.f.raise, hF.2⟩
    clear rl9 hS hK
    have c8 : code8 = _ := (by unfold code8 blk16; simp only [Try.f16, Option.getD_some]; try rfl)
    obtain ⟨C8, e8⟩ : ∃ C8, RowKit.Hid (C8 = code8) := ⟨_, rfl⟩
    obtain ⟨B8, b8⟩ : ∃ B8, RowKit.Hid (B8 = blk16) := ⟨_, rfl⟩
    rw [c8]
    refine ⟨m + 60, ?_⟩
    generalize hg9 : G _ _ = g9 at hG
    replace hF := And.intro hF hG
    clear hG
    replace hg9 : RowKit.Hid _ := hg9
    have rl9 : ∀ {g : Goroutine} {w w₁ : World}, ((SwF s z xW.heap.size w ∧ WgLive 81 s.Wg w) ∧ Goes Try.prog true (R0 (swCfg s) xW.heap.size) (D0 (swCfg s) xW.heap.size) St m g w) → R0 (swCfg s) xW.heap.size w w₁ → ((SwF s z xW.heap.size w₁ ∧ WgLive 81 s.Wg w₁) ∧ Goes Try.prog true (R0 (swCfg s) xW.heap.size) (D0 (swCfg s) xW.heap.size) St m g w₁) := fun h r => ⟨⟨h.1.1.rely k r, r.live h.1.2⟩, Goes.rely (fun _ _ _ a b => a.trans b) h.2 r⟩
    generalize xW.heap.size = lx at hF rl9 ⊢
    walk_nrm
    refine Goes.step rfl (fun _ h₁ => ?_); replace hF := rl9 hF h₁; clear h₁
    ((first | rw [stepG_seq] | rw [stepG_region_end] | rw [stepG_skip] | rw [stepG_block] | rw [stepG_loop] | rw [stepG_inBlock] | rw [stepG_inLoop] | rw [stepG_ret'] | rw [stepG_end]); simp only [goes_go]; refine ⟨(by refine d0_none ?_; intro e he; simp at he), ?_⟩)
    refine Goes.step rfl (fun _ h₁ => ?_); replace hF := rl9 hF h₁; clear h₁
    ((first | rw [stepG_seq] | rw [stepG_region_end] | rw [stepG_skip] | rw [stepG_block] | rw [stepG_loop] | rw [stepG_inBlock] | rw [stepG_inLoop] | rw [stepG_ret'] | rw [stepG_end]); simp only [goes_go]; refine ⟨(by refine d0_none ?_; intro e he; simp at he), ?_⟩)
    refine Goes.step rfl (fun _ h₁ => ?_); replace hF := rl9 hF h₁; clear h₁
    (rw [stepG_region]; simp only [goes_go, List.size_toArray, List.length_cons, List.length_nil, Nat.reduceAdd, Nat.zero_add, List.range, List.range.loop]; refine ⟨(by refine d0_none ?_; intro e he; simp at he), ?_⟩)
    refine Goes.step rfl (fun _ h₁ => ?_); replace hF := rl9 hF h₁; clear h₁
    (refine goes_oper_k rfl rfl (by k_ne) (fun K hK => ?_); go_simp; refine hK _ _ ⟨?_, ?_⟩; (· refine d0_none ?_; intro e he; have hm := mem_listed he; simp [go_sem, *] at hm); clear hK K; try w_num)
    refine Goes.step rfl (fun _ h₁ => ?_); replace hF := rl9 hF h₁; clear h₁
    (refine goes_oper_k rfl rfl (by k_ne) (fun K hK => ?_); go_simp; refine hK _ _ ⟨?_, ?_⟩; (· refine d0_none ?_; intro e he; have hm := mem_listed he; simp [go_sem, *] at hm); clear hK K; try w_num)
    refine Goes.step rfl (fun _ h₁ => ?_); replace hF := rl9 hF h₁; clear h₁
    ((first | rw [stepG_seq] | rw [stepG_region_end] | rw [stepG_skip] | rw [stepG_block] | rw [stepG_loop] | rw [stepG_inBlock] | rw [stepG_inLoop] | rw [stepG_ret'] | rw [stepG_end]); simp only [goes_go]; refine ⟨(by refine d0_none ?_; intro e he; simp at he), ?_⟩)
    refine Goes.step rfl (fun _ h₁ => ?_); replace hF := rl9 hF h₁; clear h₁
    ((first | rw [stepG_seq] | rw [stepG_region_end] | rw [stepG_skip] | rw [stepG_block] | rw [stepG_loop] | rw [stepG_inBlock] | rw [stepG_inLoop] | rw [stepG_ret'] | rw [stepG_end]); simp only [goes_go]; refine ⟨(by refine d0_none ?_; intro e he; simp at he), ?_⟩)
    have d7 : IntKind.i64.wrap ((j : Int) + 1) = (j : Int) + 1 := by
      rw [IntKind.wrap_i64]; omega
    rw [d7]
    have hG := hF.2
    rw [← hg9.out] at hG
    unfold act16 at hG
    rw [Int.natCast_add, Int.natCast_one] at hG
    exact hG.mono (by omega)
theorem spawnS {s : SwP} {z : SwL} (k : SwSt s z) {kk : List Item} {cs : List Frame} {r lw j : Nat} (hj : j < s.l.length) (hr : r + 1 + j = s.l.length)
    (hN : ∀ (lw' : Nat) (w : World) (v3 v8 v9 v14 v15 v16 v17 v18 v19 v20 v21 v22 v23 v24 : Value), SwF s z lw' w ∧ WgLive 81 s.Wg w → Spawns Try.prog (swCfg s) (AnchS s z kk cs) r lw' (G ((base 16).at (act16 s z (j + 1) v3 v8 v9 v14 v15 v16 v17 v18 v19 v20 v21 v22 v23 v24) (.code blk16 :: .inLoop blk16 :: .inBlock 0 :: .code rest16 :: kk)) cs) w)
    (v3 v8 v9 v14 v15 v16 v17 v18 v19 v20 v21 v22 v23 v24 : Value) (w : World) (hF : SwF s z lw w ∧ WgLive 81 s.Wg w) :
    ∃ m, Goes Try.prog true (R0 (swCfg s) lw) (D0 (swCfg s) lw) (AtKdS Try.prog (swCfg s) lw j (Spawns Try.prog (swCfg s) (AnchS s z kk cs) r)) m
      (G ((base 16).at (act16 s z j v3 v8 v9 v14 v15 v16 v17 v18 v19 v20 v21 v22 v23 v24) (.code blk16 :: .inLoop blk16 :: .inBlock 0 :: .code rest16 :: kk)) cs) w := by
  have K := swOk k.K
  have rl9 : ∀ {w w₁ : World}, (SwF s z lw w ∧ WgLive 81 s.Wg w) → R0 (swCfg s) lw w w₁ → (SwF s z lw w₁ ∧ WgLive 81 s.Wg w₁) := fun h r => ⟨h.1.rely k r, r.live h.2⟩
  have few := k.few
  have e9 : decide ((j : Int) < (s.l.length : Int)) = true := decide_eq_true (by omega)
  have q1 : (j : Int) < (s.l.length : Int) := by omega
  have hlA := k.lA (by omega)
  have ad9 : (if j = 0 then (⟨z.lb, z.lo, none⟩ : Addr) else ⟨z.lb, z.lo + j, none⟩) = ⟨z.lb, z.lo + j, none⟩ := by
    by_cases h : j = 0
    · subst h; rfl
    · exact if_neg h
  obtain ⟨Lj, hLj⟩ : ∃ L, RowKit.Hid (L = s.l.getD j []) := ⟨_, rfl⟩
  have hrd : RdLow s z.lb := k.list (by omega)
  refine ⟨500, ?_⟩
  rw [show blk16 = _ from (by unfold blk16; simp only [Try.f16, Option.getD_some]; try rfl)]
  unfold act16
  refine Goes.step rfl (fun _ h₁ => ?_); replace hF := rl9 hF h₁; clear h₁
  ((first | rw [stepG_seq] | rw [stepG_region_end] | rw [stepG_skip] | rw [stepG_block] | rw [stepG_loop] | rw [stepG_inBlock] | rw [stepG_inLoop] | rw [stepG_ret'] | rw [stepG_end]); simp only [goes_go]; refine ⟨(by refine d0_none ?_; intro e he; simp at he), ?_⟩)
  refine Goes.step rfl (fun _ h₁ => ?_); replace hF := rl9 hF h₁; clear h₁
  (rw [stepG_region]; simp only [goes_go, List.size_toArray, List.length_cons, List.length_nil, Nat.reduceAdd, Nat.zero_add, List.range, List.range.loop]; refine ⟨(by refine d0_none ?_; intro e he; simp at he), ?_⟩)
  refine Goes.step rfl (fun _ h₁ => ?_); replace hF := rl9 hF h₁; clear h₁
  (refine goes_oper_k rfl rfl (by k_ne) (fun K hK => ?_); go_simp; refine hK _ _ ⟨?_, ?_⟩; (· refine d0_none ?_; intro e he; have hm := mem_listed he; simp [go_sem, *] at hm); clear hK K; try w_num)
  refine Goes.step rfl (fun _ h₁ => ?_); replace hF := rl9 hF h₁; clear h₁
  ((first | rw [stepG_seq] | rw [stepG_region_end] | rw [stepG_skip] | rw [stepG_block] | rw [stepG_loop] | rw [stepG_inBlock] | rw [stepG_inLoop] | rw [stepG_ret'] | rw [stepG_end]); simp only [goes_go]; refine ⟨(by refine d0_none ?_; intro e he; simp at he), ?_⟩)
  refine Goes.step rfl (fun _ h₁ => ?_); replace hF := rl9 hF h₁; clear h₁
  ((first | rw [stepG_seq] | rw [stepG_region_end] | rw [stepG_skip] | rw [stepG_block] | rw [stepG_loop] | rw [stepG_inBlock] | rw [stepG_inLoop] | rw [stepG_ret'] | rw [stepG_end]); simp only [goes_go]; refine ⟨(by refine d0_none ?_; intro e he; simp at he), ?_⟩)
  refine Goes.step rfl (fun _ h₁ => ?_); replace hF := rl9 hF h₁; clear h₁
  ((first | rw [stepG_cond (t := true) rfl] | rw [stepG_cond (t := false) rfl] | rw [stepG_cond (t := false) (by simp [Act.eval]; omega)] | rw [stepG_cond (t := true) (by simp [Act.eval]; omega)]); simp only [goes_go, if_true, if_false, Bool.false_eq_true, ↓reduceIte]; refine ⟨(by refine d0_none ?_; intro e he; simp at he), ?_⟩)
  refine Goes.step rfl (fun _ h₁ => ?_); replace hF := rl9 hF h₁; clear h₁
  ((first | rw [stepG_seq] | rw [stepG_region_end] | rw [stepG_skip] | rw [stepG_block] | rw [stepG_loop] | rw [stepG_inBlock] | rw [stepG_inLoop] | rw [stepG_ret'] | rw [stepG_end]); simp only [goes_go]; refine ⟨(by refine d0_none ?_; intro e he; simp at he), ?_⟩)
  refine Goes.step rfl (fun _ h₁ => ?_); replace hF := rl9 hF h₁; clear h₁
  ((first | rw [stepG_seq] | rw [stepG_region_end] | rw [stepG_skip] | rw [stepG_block] | rw [stepG_loop] | rw [stepG_inBlock] | rw [stepG_inLoop] | rw [stepG_ret'] | rw [stepG_end]); simp only [goes_go]; refine ⟨(by refine d0_none ?_; intro e he; simp at he), ?_⟩)
  refine Goes.step rfl (fun _ h₁ => ?_); replace hF := rl9 hF h₁; clear h₁
  ((first | rw [stepG_seq] | rw [stepG_region_end] | rw [stepG_skip] | rw [stepG_block] | rw [stepG_loop] | rw [stepG_inBlock] | rw [stepG_inLoop] | rw [stepG_ret'] | rw [stepG_end]); simp only [goes_go]; refine ⟨(by refine d0_none ?_; intro e he; simp at he), ?_⟩)
  refine Goes.step rfl (fun _ h₁ => ?_); replace hF := rl9 hF h₁; clear h₁
  ((first | rw [stepG_seq] | rw [stepG_region_end] | rw [stepG_skip] | rw [stepG_block] | rw [stepG_loop] | rw [stepG_inBlock] | rw [stepG_inLoop] | rw [stepG_ret'] | rw [stepG_end]); simp only [goes_go]; refine ⟨(by refine d0_none ?_; intro e he; simp at he), ?_⟩)
  refine Goes.step rfl (fun _ h₁ => ?_); replace hF := rl9 hF h₁; clear h₁
  (rw [stepG_region]; simp only [goes_go, List.size_toArray, List.length_cons, List.length_nil, Nat.reduceAdd, Nat.zero_add, List.range, List.range.loop]; refine ⟨(by refine d0_none ?_; intro e he; simp at he), ?_⟩)
  refine Goes.step rfl (fun _ h₁ => ?_); replace hF := rl9 hF h₁; clear h₁
  (refine goes_oper_k rfl rfl (by k_ne) (fun K hK => ?_); go_simp; refine hK _ _ ⟨?_, ?_⟩; (· refine d0_none ?_; intro e he; have hm := mem_listed he; simp [go_sem, *] at hm); clear hK K; try w_num)
  refine Goes.step rfl (fun _ h₁ => ?_); replace hF := rl9 hF h₁; clear h₁
  have hl9 : World.cell? _ _ = _ := hF.1.list j hj
  rw [← hLj.out] at hl9
  (refine goes_oper_k rfl rfl (by k_ne) (fun K hK => ?_); go_simp; refine hK _ _ ⟨?_, ?_⟩; (· refine d0_evs ?_; intro e he; have hm := mem_listed he; simp [go_sem, hl9] at hm; rw [hm]; exact evS_read hrd); clear hK K; try w_num)
  clear hl9
  refine Goes.step rfl (fun xW h₁ => ?_); replace hF := rl9 hF h₁; clear h₁
  (refine goes_oper_k rfl rfl (by k_ne) (fun K hK => ?_); go_simp; refine hK _ _ ⟨?_, ?_⟩; (· refine d0_alloc ?_; intro e he; have hm := mem_listed he; simp [go_sem, *] at hm); clear hK K; try w_num)
  have hC : lw ≤ xW.heap.size := hF.1.lwle
  have hbx : (xW.alloc (Obj.cells #[Value.slice none 0 0] 33)).heap[xW.heap.size]? = some (.cells #[.slice none 0 0] 33) := alloc_new _ _
  have hWW : WgLive 81 s.Wg (xW.alloc (Obj.cells #[Value.slice none 0 0] 33)) := live_alloc _ hF.2
  have hF1 : SwF s z lw (xW.alloc (Obj.cells #[Value.slice none 0 0] 33)) := hF.1.alloc k _
  clear hF
  generalize hCC : xW.heap.size = C at hF1 hWW hbx hC ⊢
  clear hCC
  generalize xW.alloc (Obj.cells #[Value.slice none 0 0] 33) = w9 at hF1 hWW hbx ⊢
  have hF : SwB s z lw C (.slice none 0 0) w9 ∧ WgLive 81 s.Wg w9 := ⟨⟨hF1, hbx, hC⟩, hWW⟩
  clear hF1 hbx hWW rl9
  have rl9 : ∀ {v : Value} {w w₁ : World}, (SwB s z lw C v w ∧ WgLive 81 s.Wg w) → R0 (swCfg s) lw w w₁ → (SwB s z lw C v w₁ ∧ WgLive 81 s.Wg w₁) := fun h r => ⟨h.1.rely k r, r.live h.2⟩
  have hCW : s.Wg ≠ C := by
    have := hF.1.f.h0
    exact fun e => (k.hi C (by omega)).2.1 e.symm
  refine Goes.step rfl (fun xW h₁ => ?_); replace hF := rl9 hF h₁; clear h₁
  have hcl := box_cell hF.1.box
  have hfr := box_thaw hF.1.box
  (refine goes_oper_k rfl rfl (by k_ne) (fun K hK => ?_); go_simp; refine hK _ _ ⟨?_, ?_⟩; (· refine d0_box k hF.1.f.h0 hC hF.1.box ?_; intro e he; have hm := mem_listed he; simp [go_sem, storedEv, hcl] at hm; exact hm.2); clear hK K; try w_num)
  have hWW : WgLive 81 s.Wg (xW.setCell ⟨C, 0, none⟩ (.slice (z.pA j) Lj.length (z.pc j))) := live_set hCW hF.2
  have hF1 : SwB s z lw C (.slice (z.pA j) Lj.length (z.pc j)) (xW.setCell ⟨C, 0, none⟩ (.slice (z.pA j) Lj.length (z.pc j))) := ⟨hF.1.f.setBox k _ hC, box_set hF.1.box, hC⟩
  clear hF hcl hfr
  generalize xW.setCell ⟨C, 0, none⟩ (.slice (z.pA j) Lj.length (z.pc j)) = w8 at hF1 hWW ⊢
  have hF := And.intro hF1 hWW
  clear hF1 hWW
  refine Goes.step rfl (fun _ h₁ => ?_); replace hF := rl9 hF h₁; clear h₁
  ((first | rw [stepG_seq] | rw [stepG_region_end] | rw [stepG_skip] | rw [stepG_block] | rw [stepG_loop] | rw [stepG_inBlock] | rw [stepG_inLoop] | rw [stepG_ret'] | rw [stepG_end]); simp only [goes_go]; refine ⟨(by refine d0_none ?_; intro e he; simp at he), ?_⟩)
  refine Goes.step rfl (fun _ h₁ => ?_); replace hF := rl9 hF h₁; clear h₁
  ((first | rw [stepG_seq] | rw [stepG_region_end] | rw [stepG_skip] | rw [stepG_block] | rw [stepG_loop] | rw [stepG_inBlock] | rw [stepG_inLoop] | rw [stepG_ret'] | rw [stepG_end]); simp only [goes_go]; refine ⟨(by refine d0_none ?_; intro e he; simp at he), ?_⟩)
  refine Goes.step rfl (fun _ h₁ => ?_); replace hF := rl9 hF h₁; clear h₁
  (rw [stepG_region]; simp only [goes_go, List.size_toArray, List.length_cons, List.length_nil, Nat.reduceAdd, Nat.zero_add, List.range, List.range.loop]; refine ⟨(by refine d0_none ?_; intro e he; simp at he), ?_⟩)
  refine Goes.step rfl (fun _ h₁ => ?_); replace hF := rl9 hF h₁; clear h₁
  refine goes_call rfl rfl (by k_ne) rfl wgLib.f_add (nm_add lnk) rfl ⟨(by refine d0_none ?_; intro e he; simp at he), ?_⟩
  rw [hLj.out] at hF
  have hA := addPos (c := swCfg s) (lw := lw) (j := j) (Next := Spawns Try.prog (swCfg s) (AnchS s z kk cs) r) (F := SwB s z lw C (.slice (z.pA j) (s.l.getD j []).length (z.pc j))) (cs := cs) (b₀ := base 16) (a₀ := act16 s z j v3 v8 (.pointer (some ⟨C, 0, none⟩)) (.bool true) (.pointer (some ⟨z.lb, z.lo + j, none⟩)) (.slice (z.pA j) (s.l.getD j []).length (z.pc j)) v17 v18 v19 v20 v21 v22 v23 v24) (ops₀ := ops6) (i₀ := 0) (rest₀ := []) (k₀ := kk6 kk) wgLib K (fun w w' r h => h.rely k r) (fun w a v ha h => h.setWg k a v ha)
    (mT := 60) (fun w h1 h2 => by
      have o6 : ops6[0]?.bind (·.dst) = some 17 := (by unfold ops6 blk16; simp only [Try.f16, Option.getD_some]; try rfl)
      rw [o6]
      exact goT k hj hN _ _ _ _ _ _ _ _ _ _ _ _ _ w ⟨h1, h2⟩) _ hF
  unfold kk6 at hA
  rw [← hLj.out] at hA
  have o6 : ops6 = _ := (by unfold ops6 blk16; simp only [Try.f16, Option.getD_some]; try rfl)
  have t6 : tail6 = _ := (by unfold tail6 blk16; simp only [Try.f16, Option.getD_some]; try rfl)
  have c8 : code8 = _ := (by unfold code8 blk16; simp only [Try.f16, Option.getD_some]; try rfl)
  have b16 : blk16 = _ := (by unfold blk16; simp only [Try.f16, Option.getD_some]; try rfl)
  rw [o6, t6, c8, b16] at hA
  walk_nrmf addFn
  simp only [body_add, addFn, Option.getD_some, act16, Act.put, Act.eval, List.map_toArray, List.map_cons, List.map_nil, Array.getD_eq_getD_getElem?, List.getElem?_toArray, List.getElem?_cons_succ, List.getElem?_cons_zero, Option.bind_some, List.size_toArray, List.length_cons, List.length_nil, Nat.reduceAdd, Nat.reduceSub, Array.replicate_succ, Array.replicate_zero, List.push_toArray, List.append_toArray, List.nil_append, List.cons_append, hlA] at hA
  refine Goes.mono (?_ : Goes _ _ _ _ _ 200 _ _) (by omega)
  exact hA
/-- all rounds -/
theorem spawns16 {s : SwP} {z : SwL} (k : SwSt s z) {kk : List Item} {cs : List Frame} : ∀ (r j lw : Nat) (w : World) (v3 v8 v9 v14 v15 v16 v17 v18 v19 v20 v21 v22 v23 v24 : Value), r + j = s.l.length → SwF s z lw w ∧ WgLive 81 s.Wg w →
    Spawns Try.prog (swCfg s) (AnchS s z kk cs) r lw (G ((base 16).at (act16 s z j v3 v8 v9 v14 v15 v16 v17 v18 v19 v20 v21 v22 v23 v24) (.code blk16 :: .inLoop blk16 :: .inBlock 0 :: .code rest16 :: kk)) cs) w
  | 0, j, lw, w, v3, v8, v9, v14, v15, v16, v17, v18, v19, v20, v21, v22, v23, v24, hj, hF => by
    obtain rfl : j = s.l.length := by omega
    exact spawn0 k v3 v8 v9 v14 v15 v16 v17 v18 v19 v20 v21 v22 v23 v24 w hF
  | r + 1, j, lw, w, v3, v8, v9, v14, v15, v16, v17, v18, v19, v20, v21, v22, v23, v24, hj, hF => by
    have hr : (swCfg s).n - (r + 1) = j := by show s.l.length - (r + 1) = j; omega
    have := spawnS k (kk := kk) (cs := cs) (r := r) (by omega) (by omega) (fun lw' w v3 v8 v9 v14 v15 v16 v17 v18 v19 v20 v21 v22 v23 v24 h => spawns16 k r (j + 1) lw' w v3 v8 v9 v14 v15 v16 v17 v18 v19 v20 v21 v22 v23 v24 (by omega) h) v3 v8 v9 v14 v15 v16 v17 v18 v19 v20 v21 v22 v23 v24 w hF
    unfold Spawns
    rw [hr]
    exact this
end Go.Proofs.Ytkcknoodcgmndaa

end
section
/- tally's marks: NewMarks, Count. -/
namespace Go.Proofs.Ytkcknoodcgmndaa
open Go.Conc Go.RowKit
open Go.ConcN (sumTo)
set_option linter.unusedVariables false
set_option linter.unusedSimpArgs false
set_option maxRecDepth 100000
set_option maxHeartbeats 4000000













section
variable {Shun : Loc → Prop}
theorem info_parts {P : Program} {t : TypeId} {a : Option Value} {b c : Nat} (h : (P.info? t).map (fun i => (i.zero, i.size, i.bytes)) = some (a, b, c)) : ∃ i, P.info? t = some i ∧ i.zero = a ∧ i.size = b ∧ i.bytes = c := by
  cases e : P.info? t with
  | none => rw [e] at h; simp at h
  | some i =>
    rw [e] at h
    simp only [Option.map_some, Option.some.injEq, Prod.mk.injEq] at h
    exact ⟨i, rfl, h⟩
theorem u64Info : (Try.prog.info? 78).map (fun i => (i.zero, i.size, i.bytes)) = some (some (.agg #[.int .u64 0]), 1, 8) := by kernel_rfl
theorem ones7_W (w : World) : CW Shun 46 #[.int .u64 7] w (fun r w' => r = .int .i64 3 ∧ AtRel w w') := by
  have T9 := termsP Shun
  refine callsW_enter Try.func46 (by kernel_rfl) rfl ?_
  simp only [Try.ntmps46]
  walk_nrm
  have hF := atRel_refl w
  (repeat (first | (refine codeW_seq T9 ?_) | (refine codeW_region T9 ?_; simp only [List.size_toArray, List.length_cons, List.length_nil, Nat.reduceAdd, Nat.zero_add, List.range, List.range.loop]) | (refine opsW_nil T9 ?_; simp only [Exit.then]) | (refine codeW_skip T9 ?_; simp only [Exit.then]) | ((first | refine codeW_cond T9 (t := true) rfl ?_ | refine codeW_cond T9 (t := false) rfl ?_); simp only [if_true, if_false, Bool.false_eq_true, ↓reduceIte]) | (refine opsW_unwanted T9 rfl (by rfl) ?_; try walk_nrm) | (refine opsW_cons rfl (by rfl) ?_; intro _ hR K hK; replace hF := atRel_trans _ _ _ hF hR; clear hR; have hs9 := atRel_size hF; go_simp; refine hK _ _ ⟨?_, ?_⟩; (· rw [listed_nil (by simp [go_sem, *])]; exact dp0_nil); clear hK K hs9; try walk_nrm) | (refine codeW_block T9 ?_)))
  (refine codeW_ret T9 ?_)
  exact ⟨rfl, _, resultsC_tmp rfl _, rfl, hF⟩
theorem words45_W (Mb : Nat) (A : Option Addr) (l c : Nat) (w : World) (hc1 : w.cell? ⟨Mb, 1, none⟩ = some (.slice A l c)) (hS : ∀ o, ¬ Shun (.cell ⟨Mb, o, none⟩)) : CW Shun 45 #[.pointer (some ⟨Mb, 0, none⟩)] w (fun r w' => r = .int .i64 l ∧ AtRel w w') := by
  have T9 := termsP Shun
  have ev9 := fun (p : Option Addr) (w : World) => ev_eq_nil (P := Try.prog) Try.underlying35 p w
  refine callsW_enter Try.func45 (by kernel_rfl) rfl ?_
  simp only [Try.ntmps45]
  walk_nrm
  have hF := atRel_refl w
  (repeat (first | (refine codeW_seq T9 ?_) | (refine codeW_region T9 ?_; simp only [List.size_toArray, List.length_cons, List.length_nil, Nat.reduceAdd, Nat.zero_add, List.range, List.range.loop]) | (refine opsW_nil T9 ?_; simp only [Exit.then]) | (refine codeW_skip T9 ?_; simp only [Exit.then]) | ((first | refine codeW_cond T9 (t := true) rfl ?_ | refine codeW_cond T9 (t := false) rfl ?_); simp only [if_true, if_false, Bool.false_eq_true, ↓reduceIte]) | (refine opsW_unwanted T9 rfl (by rfl) ?_; try walk_nrm) | (refine opsW_cons rfl (by rfl) ?_; intro _ hR K hK; replace hF := atRel_trans _ _ _ hF hR; clear hR; have hs9 := atRel_size hF; go_simp; refine hK _ _ ⟨?_, ?_⟩; (· rw [listed_nil (by simp [go_sem, *])]; exact dp0_nil); clear hK K hs9; try walk_nrm) | (refine codeW_block T9 ?_)))
  (refine opsW_cons rfl (by rfl) ?_; intro _ hR K hK; replace hF := atRel_trans _ _ _ hF hR; clear hR; have hl9 := (atRel_cell hF _).trans hc1; go_simp; refine hK _ _ ⟨?_, ?_⟩; (· intro e he; have hm := mem_listed he; simp [go_sem, hl9] at hm; rw [hm]; exact evP_cell _ (hS _)); clear hK K hl9; try walk_nrm)
  (repeat (first | (refine codeW_seq T9 ?_) | (refine codeW_region T9 ?_; simp only [List.size_toArray, List.length_cons, List.length_nil, Nat.reduceAdd, Nat.zero_add, List.range, List.range.loop]) | (refine opsW_nil T9 ?_; simp only [Exit.then]) | (refine codeW_skip T9 ?_; simp only [Exit.then]) | ((first | refine codeW_cond T9 (t := true) rfl ?_ | refine codeW_cond T9 (t := false) rfl ?_); simp only [if_true, if_false, Bool.false_eq_true, ↓reduceIte]) | (refine opsW_unwanted T9 rfl (by rfl) ?_; try walk_nrm) | (refine opsW_cons rfl (by rfl) ?_; intro _ hR K hK; replace hF := atRel_trans _ _ _ hF hR; clear hR; have hs9 := atRel_size hF; go_simp; refine hK _ _ ⟨?_, ?_⟩; (· rw [listed_nil (by simp [go_sem, *])]; exact dp0_nil); clear hK K hs9; try walk_nrm) | (refine codeW_block T9 ?_)))
  (refine codeW_ret T9 ?_)
  exact ⟨rfl, _, resultsC_tmp rfl _, rfl, hF⟩
theorem newMarks_W (n : Nat) (hn : n ≤ 65536) (w : World) : CW Shun 13 #[.int .i64 n] w (fun r w' => r = .tuple #[.pointer (some ⟨w.heap.size + 1, 0, none⟩), .int .i64 0] ∧ AtRel ((w.alloc (.cells (Array.replicate ((n + 63) / 64) (.int .u64 0)) 78)).alloc (.cells #[.int .i64 n, .slice (some ⟨w.heap.size, 0, none⟩) ((n + 63) / 64) ((n + 63) / 64)] 74)) w') := by
  have T9 := termsP Shun
  have e8 : decide ((n : Int) < 0) = false := decide_eq_false (by omega)
  have e9 : decide ((65536 : Int) < n) = false := decide_eq_false (by omega)
  have e7 : IntKind.i64.wrap ((n : Int) + 64) = (n : Int) + 64 := by rw [IntKind.wrap_i64]; omega
  have e6 : IntKind.i64.wrap ((n : Int) + 64 - 1) = (n : Int) + 63 := by rw [IntKind.wrap_i64]; omega
  obtain ⟨k, hk⟩ : ∃ k, RowKit.Hid (k = (n + 63) / 64) := ⟨_, rfl⟩
  have e5 : IntKind.i64.wrap (((n : Int) + 63).tdiv 64) = (k : Int) := by
    rw [Int.tdiv_eq_ediv_of_nonneg (by omega), IntKind.wrap_i64, hk.out]
    omega
  have k1 : k ≤ 1025 := by rw [hk.out]; omega
  rw [← hk.out]
  refine callsW_enter Try.func13 (by kernel_rfl) rfl ?_
  simp only [Try.ntmps13]
  walk_nrm
  have hF := atRel_refl w
  (repeat (first | (refine codeW_seq T9 ?_) | (refine codeW_region T9 ?_; simp only [List.size_toArray, List.length_cons, List.length_nil, Nat.reduceAdd, Nat.zero_add, List.range, List.range.loop]) | (refine opsW_nil T9 ?_; simp only [Exit.then]) | (refine codeW_skip T9 ?_; simp only [Exit.then]) | ((first | refine codeW_cond T9 (t := true) rfl ?_ | refine codeW_cond T9 (t := false) rfl ?_); simp only [if_true, if_false, Bool.false_eq_true, ↓reduceIte]) | (refine opsW_unwanted T9 rfl (by rfl) ?_; try walk_nrm) | (refine opsW_cons rfl (by rfl) ?_; intro _ hR K hK; replace hF := atRel_trans _ _ _ hF hR; clear hR; have hs9 := atRel_size hF; go_simp; refine hK _ _ ⟨?_, ?_⟩; (· rw [listed_nil (by simp [go_sem, *])]; exact dp0_nil); clear hK K hs9; try walk_nrm) | (refine codeW_block T9 ?_)))
  have hmk : ∀ W : World, (Instr.makeSlice 72 (.int .i64 (k : Int)) (.int .i64 (k : Int))).run Try.prog W = .ok (.slice (some ⟨W.heap.size, 0, none⟩) k k) (W.alloc (.cells (Array.replicate k (.int .u64 0)) 78)) := fun W => by
    obtain ⟨i0, hi, hz0, hz1, hz2⟩ := info_parts u64Info
    have := run_makeSlice (P := Try.prog) W _ _ i0 _ Try.underlying72 hi hz0 .i64 .i64 k k (by omega) (by omega) (by rw [hz1]; omega) (by rw [hz2]; omega) (by omega)
    rw [this]
    have hc : madeCells (Value.cells (.agg #[.int .u64 0])) ((k : Int).toNat * i0.size) = Array.replicate k (Value.int .u64 0) := by
      rw [hz1, Int.toNat_natCast, Nat.mul_one]
      apply Array.ext
      · simp [madeCells]
      · intro q h1 h2
        simp [madeCells, Value.cells, Nat.mod_one]
    rw [hc]
    simp only [Int.toNat_natCast]
  have hme : ∀ W : World, (Instr.makeSlice 72 (.int .i64 (k : Int)) (.int .i64 (k : Int))).events Try.prog W #[] = #[] := fun W => by
    obtain ⟨i0, hi, hz0, hz1, hz2⟩ := info_parts u64Info
    exact events_make W _ _ i0 _ Try.underlying72 hi hz0 .i64 .i64 k k (by omega) (by omega) (by rw [hz2]; omega) (by omega) (by rw [hz2, Int.toNat_natCast]; omega) #[]
  have hbd : ∀ (W : World) (n : Int) (A : Option Addr) (l c : Nat), (Instr.build 74 #[(0, .int .i64 n), (1, .slice A l c)]).run Try.prog W = .ok (.agg #[.int .i64 n, .slice A l c]) W := fun W n A l c => by kernel_rfl
  have hbe : ∀ (W : World) (n : Int) (A : Option Addr) (l c : Nat), (Instr.build 74 #[(0, .int .i64 n), (1, .slice A l c)]).events Try.prog W #[] = #[] := fun W n A l c => by kernel_rfl
  (refine opsW_cons rfl (by rfl) ?_; intro _ hR K hK; replace hF := atRel_trans _ _ _ hF hR; clear hR; have hs9 := atRel_size hF; go_simp; refine hK _ _ ⟨?_, ?_⟩; (· rw [listed_nil (by simp [go_sem, *])]; exact dp0_nil); clear hK K hs9; try walk_nrm)
  replace hF := atRel_alloc hF (.cells (Array.replicate k (.int .u64 0)) 78)
  repeat (refine opsW_cons rfl (by rfl) ?_; intro _ hR K hK; replace hF := atRel_trans _ _ _ hF hR; clear hR; have hs9 := atRel_size hF; go_simp; refine hK _ _ ⟨?_, ?_⟩; (· rw [listed_nil (by simp [go_sem, *])]; exact dp0_nil); clear hK K hs9; try walk_nrm)
  replace hF := atRel_alloc hF (.cells #[.int .i64 n, .slice (some ⟨w.heap.size, 0, none⟩) k k] 74)
  (repeat (first | (refine codeW_seq T9 ?_) | (refine codeW_region T9 ?_; simp only [List.size_toArray, List.length_cons, List.length_nil, Nat.reduceAdd, Nat.zero_add, List.range, List.range.loop]) | (refine opsW_nil T9 ?_; simp only [Exit.then]) | (refine codeW_skip T9 ?_; simp only [Exit.then]) | ((first | refine codeW_cond T9 (t := true) rfl ?_ | refine codeW_cond T9 (t := false) rfl ?_); simp only [if_true, if_false, Bool.false_eq_true, ↓reduceIte]) | (refine opsW_unwanted T9 rfl (by rfl) ?_; try walk_nrm) | (refine opsW_cons rfl (by rfl) ?_; intro _ hR K hK; replace hF := atRel_trans _ _ _ hF hR; clear hR; have hs9 := atRel_size hF; go_simp; refine hK _ _ ⟨?_, ?_⟩; (· rw [listed_nil (by simp [go_sem, *])]; exact dp0_nil); clear hK K hs9; try walk_nrm) | (refine codeW_block T9 ?_)))
  (refine codeW_ret T9 ?_)
  exact ⟨rfl, _, resultsC_tmp2 rfl _, rfl, hF⟩
end
end Go.Proofs.Ytkcknoodcgmndaa

end
