/- tally.Sweep starts its workers: the loop, as the phase asks it. -/
import Derived.Test.YtkcknoodcgmndaaSwI
import Derived.Test.YtkcknoodcgmndaaPhW
import Derived.Test.YtkcknoodcgmndaaPhY
import Derived.Conc.CompanyWords
namespace Go.Proofs.Ytkcknoodcgmndaa
open Go.Conc Go.RowKit Go.Conc.Lib Go.ConcR.Gen
open Go.ConcN (WgLive)
open Go.ConcR (KK wgBlock WgAt stA smA rd wr mk Payload)
set_option linter.unusedVariables false
set_option linter.unusedSimpArgs false
set_option linter.unusedSectionVars false
set_option maxRecDepth 100000
set_option maxHeartbeats 4000000














noncomputable def blk16 : Code := match (Try.f16.body.getD .skip) with
  | .seq _ (.seq _ (.seq _ (.seq (.seq _ (.block _ (.loop c))) _))) => c
  | _ => .skip
noncomputable def rest16 : Code := match (Try.f16.body.getD .skip) with
  | .seq _ (.seq _ (.seq _ (.seq (.seq _ (.block _ (.loop _))) r))) => r
  | _ => .skip
/-- what the starter is told of the list -/
structure SwL where
  w0 : World
  mB : Nat
  bB : Nat
  Mb : Nat
  cap : Nat
  lA : Option Addr
  lb : Nat
  lo : Nat
  lc : Nat
  pA : Nat → Option Addr
  pd : Nat → Nat
  po : Nat → Nat
  pc : Nat → Nat
def act16 (s : SwP) (z : SwL) (i : Nat) (v3 v8 v9 v14 v15 v16 v17 v18 v19 v20 v21 v22 v23 v24 : Value) : Act :=
  ⟨#[mkV s z.Mb, .slice z.lA s.l.length z.lc, .pointer (some ⟨z.mB, 0, none⟩), v3, .int .i64 0, .int .i64 0, .pointer (some ⟨z.bB, 0, none⟩), .pointer (some ⟨s.Wg, 0, none⟩), v8, v9, .pointer (some ⟨s.Bb, 0, none⟩), .slice z.lA s.l.length z.lc, .int .i64 (s.l.length : Int), .int .i64 (i : Int), v14, v15, v16, v17, v18, v19, v20, v21, v22, v23, v24], []⟩
def RdLow (s : SwP) (g : Nat) : Prop := g < s.H0 ∧ g ≠ s.Wg ∧ ¬ s.SB g ∧ ¬ s.dead g
theorem RdLow.ok {s : SwP} {C g : Nat} (h : RdLow s g) : RdOk s C g := ⟨.inr h.1, h.2⟩
/-- what never changes -/
structure SwSt (s : SwP) (z : SwL) : Prop where
  K : s.Ok
  no : s.has = false → s.nn = 0
  small : ∀ j, (s.l.getD j []).length < 4611686018427387904
  few : s.l.length < 4611686018427387904
  mb : RdLow s z.mB
  bb : RdLow s z.bB
  row : s.has = true → RdLow s z.Mb
  list : 0 < s.l.length → RdLow s z.lb
  lA : 0 < s.l.length → z.lA = some ⟨z.lb, z.lo, none⟩
  data : ∀ j, s.l.getD j [] ≠ [] → RdLow s (z.pd j) ∧ z.pA j = some ⟨z.pd j, z.po j, none⟩
  hi : ∀ b, s.H0 ≤ b → ¬ s.SB b ∧ b ≠ s.Wg ∧ ¬ s.dead b
/-- what the starter knows of the memory -/
structure SwF (s : SwP) (z : SwL) (lw : Nat) (w : World) : Prop where
  lwle : lw ≤ w.heap.size
  h0 : s.H0 ≤ lw
  mbox : w.heap[z.mB]? = some (.cells #[mkV s z.Mb] 35)
  bbox : w.heap[z.bB]? = some (.cells #[.pointer (some ⟨s.Bb, 0, none⟩)] 23)
  row : s.has = true → w.heap[z.Mb]? = some (.cells #[.int .i64 s.nn, .slice (some ⟨s.Wb, 0, none⟩) s.σ0.ws.length z.cap] 74)
  list : ∀ j, j < s.l.length → w.cell? ⟨z.lb, z.lo + j, none⟩ = some (.slice (z.pA j) (s.l.getD j []).length (z.pc j))
  data : ∀ j q x, (s.l.getD j [])[q]? = some x → w.cell? ⟨z.pd j, z.po j + q, none⟩ = some (.int .i64 x)
  old : ∀ g ob, (g < s.H0 ∧ g ≠ s.Wg ∧ ¬ s.SB g) → z.w0.heap[g]? = some ob → w.heap[g]? = some ob
  env : Env z.w0 w
def Low3 (s : SwP) (g : Nat) : Prop := g < s.H0 ∧ g ≠ s.Wg ∧ ¬ s.SB g
theorem RdLow.low {s : SwP} {g : Nat} (h : RdLow s g) : Low3 s g := ⟨h.1, h.2.1, h.2.2.1⟩
theorem SwF.of {s : SwP} {z : SwL} {lw : Nat} {w w₁ : World} (h : SwF s z lw w) (k : SwSt s z) (v : Env w w₁) (hs : w.heap.size ≤ w₁.heap.size) (e : ∀ g ob, Low3 s g → w.heap[g]? = some ob → w₁.heap[g]? = some ob) : SwF s z lw w₁ := by
  have ec : ∀ {g i : Nat} {v : Value}, RdLow s g → w.cell? ⟨g, i, none⟩ = some v → w₁.cell? ⟨g, i, none⟩ = some v := fun hg hv => by
    obtain ⟨ob, hob⟩ := cell_some hv
    rw [cell_same ((e _ _ hg.low hob).trans hob.symm)]
    exact hv
  exact ⟨Nat.le_trans h.lwle hs, h.h0, e _ _ k.mb.low h.mbox, e _ _ k.bb.low h.bbox, fun hh => e _ _ (k.row hh).low (h.row hh), fun j hj => ec (k.list (by omega)) (h.list j hj), fun j q x hx => ec (k.data j (fun hn => by rw [hn] at hx; simp at hx)).1 (h.data j q x hx),
    fun g ob hg e0 => e _ _ hg (h.old g ob hg e0), h.env.trans v⟩
theorem SwF.rely {s : SwP} {z : SwL} {lw : Nat} {w w₁ : World} (k : SwSt s z) (r : R0 (swCfg s) lw w w₁) (h : SwF s z lw w) : SwF s z lw w₁ :=
  h.of k r.env r.size fun g ob hg e => (r.same g (Array.getElem?_eq_some_iff.1 e).1 hg.2.2 hg.2.1 (.inr (.inr hg.1))).trans e
theorem env_setCell (w : World) (a : Addr) (v : Value) : Env w (w.setCell a v) := by
  have x := aside_setCell w a v
  exact ⟨x.tape, x.os, x.output⟩
theorem SwF.setWg {s : SwP} {z : SwL} {lw : Nat} {w : World} (k : SwSt s z) (a : Addr) (v : Value) (ha : a.block = s.Wg) (h : SwF s z lw w) : SwF s z lw (w.setCell a v) :=
  h.of k (env_setCell w a v) (Nat.le_of_eq (aside_setCell w a v).size.symm) fun g ob hg e => ((aside_setCell w a v).block g (fun e => hg.2.1 (e.trans ha))).trans e
theorem SwF.raise {s : SwP} {z : SwL} {lw : Nat} {w : World} (h : SwF s z lw w) : SwF s z w.heap.size w := ⟨Nat.le_refl _, Nat.le_trans h.h0 h.lwle, h.mbox, h.bbox, h.row, h.list, h.data, h.old, h.env⟩
theorem goes_imp {P : Program} {main : Bool} {R : World → World → Prop} {D : World → World → Array Event → Prop} {S1 S2 : Goroutine → World → Prop} (h : ∀ g w, S1 g w → S2 g w) : ∀ (n : Nat) (g : Goroutine) (w : World), Goes P main R D S1 n g w → Goes P main R D S2 n g w
  | 0, _, _, hg => fun w₁ h₁ => h _ _ (hg w₁ h₁)
  | n + 1, g, w, hg => by
    rcases hg with hg | ⟨hr, hg⟩
    · exact .inl fun w₁ h₁ => h _ _ (hg w₁ h₁)
    · refine .inr ⟨hr, fun w₁ h₁ => ?_⟩
      have := hg w₁ h₁
      revert this
      cases stepG P main g w₁ <;> simp only [GStep.goes, imp_self]
      exact fun ⟨d, x⟩ => ⟨d, goes_imp h n _ _ x⟩
noncomputable def ops9 : Array Oper := match rest16 with
  | .seq (.region _ o _) _ => o
  | _ => #[]
noncomputable def tail9 : Code := match rest16 with
  | .seq _ r => r
  | _ => .skip
/-- at the head of Wait's loop, called by Sweep -/
def AnchS (s : SwP) (z : SwL) (kk : List Item) (cs : List Frame) (lw : Nat) (g : Goroutine) (w : World) : Prop :=
  ∃ v3 v8 v9 v14 v15 v16 v17 v18 v19 v20 v21 v22 v23 v24 : Value, AnchP lnk (swCfg s) (SwF s z) ((base 16).at (act16 s z s.l.length v3 v8 v9 v14 v15 v16 v17 v18 v19 v20 v21 v22 v23 v24) (.inRegion ops9 [0] :: .code tail9 :: kk)) cs lw g w
theorem spawn0 {s : SwP} {z : SwL} (k : SwSt s z) {kk : List Item} {cs : List Frame} {lw : Nat} (v3 v8 v9 v14 v15 v16 v17 v18 v19 v20 v21 v22 v23 v24 : Value) (w : World) (hF : SwF s z lw w ∧ WgLive 81 s.Wg w) :
    ∃ m, Goes Try.prog true (R0 (swCfg s) lw) (D0 (swCfg s) lw) (AtKd Try.prog (swCfg s) lw (AnchS s z kk cs lw)) m
      (G ((base 16).at (act16 s z s.l.length v3 v8 v9 v14 v15 v16 v17 v18 v19 v20 v21 v22 v23 v24) (.code blk16 :: .inLoop blk16 :: .inBlock 0 :: .code rest16 :: kk)) cs) w := by
  have K := swOk k.K
  have rl9 : ∀ {w w₁ : World}, (SwF s z lw w ∧ WgLive 81 s.Wg w) → R0 (swCfg s) lw w w₁ → (SwF s z lw w₁ ∧ WgLive 81 s.Wg w₁) := fun h r => ⟨h.1.rely k r, r.live h.2⟩
  have e9 : decide ((s.l.length : Int) < (s.l.length : Int)) = false := decide_eq_false (by omega)
  refine ⟨300, ?_⟩
  rw [show blk16 = _ from (by unfold blk16; simp only [Try.f16, Option.getD_some]; try rfl)]
  unfold act16
  refine Goes.step rfl (fun _ h₁ => ?_); replace hF := rl9 hF h₁; clear h₁
  ((first | rw [stepG_seq] | rw [stepG_region_end] | rw [stepG_skip] | rw [stepG_block] | rw [stepG_loop] | rw [stepG_inBlock] | rw [stepG_inLoop] | rw [stepG_ret'] | rw [stepG_end]); simp only [goes_go]; refine ⟨(by refine d0_none ?_; intro e he; simp at he), ?_⟩)
  refine Goes.step rfl (fun _ h₁ => ?_); replace hF := rl9 hF h₁; clear h₁
  (rw [stepG_region]; simp only [goes_go, List.size_toArray, List.length_cons, List.length_nil, Nat.reduceAdd, Nat.zero_add, List.range, List.range.loop]; refine ⟨(by refine d0_none ?_; intro e he; simp at he), ?_⟩)
  refine Goes.step rfl (fun _ h₁ => ?_); replace hF := rl9 hF h₁; clear h₁
  (refine goes_oper_k rfl rfl (by k_ne) (fun K hK => ?_); go_simp; refine hK _ _ ⟨?_, ?_⟩; (· refine d0_none ?_; intro e he; have hm := mem_listed he; simp [go_sem, *] at hm); clear hK K; try w_num)
  refine Goes.step rfl (fun _ h₁ => ?_); replace hF := rl9 hF h₁; clear h₁
  ((first | rw [stepG_seq] | rw [stepG_region_end] | rw [stepG_skip] | rw [stepG_block] | rw [stepG_loop] | rw [stepG_inBlock] | rw [stepG_inLoop] | rw [stepG_ret'] | rw [stepG_end]); simp only [goes_go]; refine ⟨(by refine d0_none ?_; intro e he; simp at he), ?_⟩)
  refine Goes.step rfl (fun _ h₁ => ?_); replace hF := rl9 hF h₁; clear h₁
  ((first | rw [stepG_seq] | rw [stepG_region_end] | rw [stepG_skip] | rw [stepG_block] | rw [stepG_loop] | rw [stepG_inBlock] | rw [stepG_inLoop] | rw [stepG_ret'] | rw [stepG_end]); simp only [goes_go]; refine ⟨(by refine d0_none ?_; intro e he; simp at he), ?_⟩)
  refine Goes.step rfl (fun _ h₁ => ?_); replace hF := rl9 hF h₁; clear h₁
  ((first | rw [stepG_cond (t := true) rfl] | rw [stepG_cond (t := false) rfl] | rw [stepG_cond (t := false) (by simp [Act.eval]; omega)] | rw [stepG_cond (t := true) (by simp [Act.eval]; omega)]); simp only [goes_go, if_true, if_false, Bool.false_eq_true, ↓reduceIte]; refine ⟨(by refine d0_none ?_; intro e he; simp at he), ?_⟩)
  refine Goes.step rfl (fun _ h₁ => ?_); replace hF := rl9 hF h₁; clear h₁
  refine goes_exit rfl ⟨(by refine d0_none ?_; intro e he; simp at he), ?_⟩
  rw [show rest16 = _ from (by unfold rest16; simp only [Try.f16, Option.getD_some]; try rfl)]
  refine Goes.step rfl (fun _ h₁ => ?_); replace hF := rl9 hF h₁; clear h₁
  ((first | rw [stepG_seq] | rw [stepG_region_end] | rw [stepG_skip] | rw [stepG_block] | rw [stepG_loop] | rw [stepG_inBlock] | rw [stepG_inLoop] | rw [stepG_ret'] | rw [stepG_end]); simp only [goes_go]; refine ⟨(by refine d0_none ?_; intro e he; simp at he), ?_⟩)
  refine Goes.step rfl (fun _ h₁ => ?_); replace hF := rl9 hF h₁; clear h₁
  (rw [stepG_region]; simp only [goes_go, List.size_toArray, List.length_cons, List.length_nil, Nat.reduceAdd, Nat.zero_add, List.range, List.range.loop]; refine ⟨(by refine d0_none ?_; intro e he; simp at he), ?_⟩)
  refine Goes.step rfl (fun _ h₁ => ?_); replace hF := rl9 hF h₁; clear h₁
  refine goes_call rfl rfl (by k_ne) rfl wgLib.f_wait (nm_wait lnk) rfl ⟨(by refine d0_none ?_; intro e he; simp at he), ?_⟩
  have hW := waitStart (F := SwF s z) (cs := cs) (lw := lw) (b₀ := base 16) (a₀ := act16 s z s.l.length v3 v8 v9 (.bool false) v15 v16 v17 v18 v19 v20 v21 v22 v23 v24) (ops₀ := ops9) (i₀ := 0) (rest₀ := []) (k₀ := .code tail9 :: kk) wgLib K (fun w w' r h => h.rely k r) _ hF
  have o9 : ops9 = _ := (by unfold ops9 rest16; simp only [Try.f16, Option.getD_some]; try rfl)
  have t9 : tail9 = _ := (by unfold tail9 rest16; simp only [Try.f16, Option.getD_some]; try rfl)
  rw [o9, t9] at hW
  walk_nrmf waitFn
  simp only [body_wait, waitFn, Option.getD_some, act16, Act.put, Act.eval, List.map_toArray, List.map_cons, List.map_nil, Array.getD_eq_getD_getElem?, List.getElem?_toArray, List.getElem?_cons_succ, List.getElem?_cons_zero, Option.bind_some, List.size_toArray, List.length_cons, List.length_nil, Nat.reduceAdd, Nat.reduceSub, Array.replicate_succ, Array.replicate_zero, List.push_toArray, List.append_toArray, List.nil_append, List.cons_append] at hW
  have hI := goes_imp (S2 := AtKd Try.prog (swCfg s) lw (AnchS s z kk cs lw)) (fun g w h => by
    obtain ⟨h1, g', h2, m, h3⟩ := h
    refine ⟨h1, g', h2, m, goes_imp (fun g w h => ?_) m _ _ h3⟩
    unfold AnchS act16
    rw [o9, t9]
    exact ⟨_, _, _, _, _, _, _, _, _, _, _, _, _, _, h⟩) 200 _ _ hW
  exact Goes.mono hI (by omega)
end Go.Proofs.Ytkcknoodcgmndaa
