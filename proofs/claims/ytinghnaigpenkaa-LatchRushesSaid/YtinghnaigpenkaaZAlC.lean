import Derived.Test.YtinghnaigpenkaaZClA
import Derived.Test.YtinghnaigpenkaaZWgL
import Derived.Test.YtinghnaigpenkaaZPhW
import Derived.Test.YtinghnaigpenkaaZPhY
import Derived.Conc.CompanyWords
import Derived.Conc.WgWords
import Derived.Test.YtinghnaigpenkaaZLwA
import Derived.Conc.DeferLaws
import Derived.Conc.WgGenN2
section
/- Seat 05: all starts its workers: what is asked; from the loop's end to Wait. -/
namespace Go.Proofs.Ytinghnaigpenkaa
open Go.Conc Go.RowKit Go.Conc.Lib Go.ConcR.Gen
open Go.ConcN (WgLive)
open Go.ConcR (KK wgBlock WgAt stA smA rd wr mk Payload)
set_option linter.unusedVariables false
set_option linter.unusedSimpArgs false
set_option linter.unusedSectionVars false
set_option maxRecDepth 100000
set_option maxHeartbeats 4000000














noncomputable def blk32 : Code := match (Try.f32.body.getD .skip) with
  | .seq _ (.seq _ (.seq (.seq _ (.block _ (.loop c))) _)) => c
  | _ => .skip
noncomputable def rest32 : Code := match (Try.f32.body.getD .skip) with
  | .seq _ (.seq _ (.seq (.seq _ (.block _ (.loop _))) r)) => r
  | _ => .skip
noncomputable def ops9 : Array Oper := match rest32 with
  | .region _ o _ => o
  | _ => #[]
def Low3c (c : Cfg) (g : Nat) : Prop := g < c.H0 ∧ g ≠ c.Wg ∧ ¬ c.SB g
def AlK (c : Cfg) (w0 w : World) : Prop := ∀ g ob, Low3c c g → w0.heap[g]? = some ob → w.heap[g]? = some ob
/-- what the starter knows of the memory -/
structure AlF (c : Cfg) (w0 : World) (lw : Nat) (w : World) : Prop where
  lwle : lw ≤ w.heap.size
  h0 : c.H0 ≤ lw
  old : AlK c w0 w
  env : Env w0 w
  rep : ∃ σ, c.Rep σ w
def call43 (Wg doB C : Nat) : Deferred := { target := .fn (.func 43) #[.pointer (some ⟨Wg, 0, none⟩), .pointer (some ⟨doB, 0, none⟩), .pointer (some ⟨C, 0, none⟩)], args := #[] }
/-- what never changes -/
structure AlSt (c : Cfg) (w0 : World) (doB : Nat) (fv : Value) : Prop where
  K : c.Ok
  ty : c.ty = 95
  do_ : Low3c c doB
  doC : w0.heap[doB]? = some (.cells #[fv] 79)
  hi : ∀ b, c.H0 ≤ b → ¬ c.SB b ∧ b ≠ c.Wg
  pl : ∀ a : Addr, (a.block = doB ∨ c.H0 ≤ a.block) → ¬ c.sh (.cell a) ∧ ¬ c.sp (.cell a)
  run : ∀ (j C : Nat) (w : World), j < c.n → c.H0 ≤ C → w.heap[C]? = some (.cells #[.int .i64 j] 3) → Live c.ty c.Wg w → AlK c w0 w → (∃ σ, c.Rep σ w) → ∀ N, RunU Try.prog c (c.N0 + j) C N (c.init j) (born Try.prog (call43 c.Wg doB C)) w
def act32 (c : Cfg) (doB : Nat) (fv : Value) (i : Nat) (v2 v5 v8 v9 v10 v11 v12 v13 : Value) : Act :=
  ⟨#[.int .i64 (c.n : Int), fv, v2, .pointer (some ⟨doB, 0, none⟩), .pointer (some ⟨c.Wg, 0, none⟩), v5, .int .i64 (c.n : Int), .int .i64 (i : Int), v8, v9, v10, v11, v12, v13], []⟩
section
variable {c : Cfg} {w0 : World} {doB : Nat} {fv : Value} {lw : Nat} {w w₁ : World}
theorem AlF.of (h : AlF c w0 lw w) (v : Env w w₁) (hs : w.heap.size ≤ w₁.heap.size) (e : AlK c w w₁) (hr : (∃ σ, c.Rep σ w) → ∃ σ, c.Rep σ w₁) : AlF c w0 lw w₁ := ⟨Nat.le_trans h.lwle hs, h.h0, fun g ob hg e0 => e g ob hg (h.old g ob hg e0), h.env.trans v, hr h.rep⟩
theorem AlF.rely (r : R0 c lw w w₁) (h : AlF c w0 lw w) : AlF c w0 lw w₁ :=
  h.of r.env r.size (fun g ob hg e => (r.same g (Array.getElem?_eq_some_iff.1 e).1 hg.2.2 hg.2.1 (.inr (.inr hg.1)) (.inr hg.1)).trans e) r.rep
theorem env_setCell (w : World) (a : Addr) (v : Value) : Env w (w.setCell a v) := by
  have x := aside_setCell w a v
  exact ⟨x.tape, by rw [x.os]; exact .refl _, x.output⟩
theorem AlF.setWg (K : c.Ok) (a : Addr) (v : Value) (ha : a.block = c.Wg) (h : AlF c w0 lw w) : AlF c w0 lw (w.setCell a v) :=
  h.of (env_setCell w a v) (Nat.le_of_eq (aside_setCell w a v).size.symm) (fun g ob hg e => ((aside_setCell w a v).block g (fun e => hg.2.1 (e.trans ha))).trans e) (fun ⟨σ, hr⟩ => ⟨σ, K.rep_same σ w _ hr (Nat.le_of_eq (aside_setCell w a v).size.symm) (fun b _ hb => (aside_setCell w a v).block b (fun e => by
    have hw := K.wgH0
    rcases hb with hb | hb
    · exact K.sbWg (by rw [← ha, ← e]; exact hb)
    · have : b = c.Wg := e.trans ha
      omega))⟩)
theorem AlF.raise (h : AlF c w0 lw w) : AlF c w0 w.heap.size w := ⟨Nat.le_refl _, Nat.le_trans h.h0 h.lwle, h.old, h.env, h.rep⟩
end
theorem goes_imp {P : Program} {main : Bool} {R : World → World → Prop} {D : World → World → Array Event → Prop} {S1 S2 : Goroutine → World → Prop} (h : ∀ g w, S1 g w → S2 g w) : ∀ (n : Nat) (g : Goroutine) (w : World), Goes P main R D S1 n g w → Goes P main R D S2 n g w
  | 0, _, _, hg => fun w₁ h₁ => h _ _ (hg w₁ h₁)
  | n + 1, g, w, hg => by
    rcases hg with hg | ⟨hr, hg⟩
    · exact .inl fun w₁ h₁ => h _ _ (hg w₁ h₁)
    · refine .inr ⟨hr, fun w₁ h₁ => ?_⟩
      have := hg w₁ h₁
      revert this
      cases stepG P main g w₁ <;> simp only [GStep.goes, imp_self]
      exact fun ⟨d, x⟩ => ⟨d, goes_imp h n _ _ x⟩
/-- at the head of Wait's loop, called by all -/
def AnchA (c : Cfg) (w0 : World) (doB : Nat) (fv : Value) (kk : List Item) (cs : List Frame) (lw : Nat) (g : Goroutine) (w : World) : Prop :=
  ∃ v2 v5 v8 v9 v10 v11 v12 v13 : Value, AnchP lnk c (AlF c w0) ((base 32).at (act32 c doB fv c.n v2 v5 v8 v9 v10 v11 v12 v13) (.inRegion ops9 [0] :: kk)) cs lw g w
theorem spawn0 {c : Cfg} {w0 : World} {doB : Nat} {fv : Value} (k : AlSt c w0 doB fv) {kk : List Item} {cs : List Frame} {lw : Nat} (v2 v5 v8 v9 v10 v11 v12 v13 : Value) (w : World) (hF : AlF c w0 lw w ∧ WgLive c.ty c.Wg w) :
    ∃ m, Goes Try.prog true (R0 c lw) (D0 c lw) (AtKd Try.prog c lw (AnchA c w0 doB fv kk cs lw)) m
      (G ((base 32).at (act32 c doB fv c.n v2 v5 v8 v9 v10 v11 v12 v13) (.code blk32 :: .inLoop blk32 :: .inBlock 0 :: .code rest32 :: kk)) cs) w := by
  have K := k.K
  have rl9 : ∀ {w w₁ : World}, (AlF c w0 lw w ∧ WgLive c.ty c.Wg w) → R0 c lw w w₁ → (AlF c w0 lw w₁ ∧ WgLive c.ty c.Wg w₁) := fun h r => ⟨h.1.rely r, r.live h.2⟩
  have e9 : decide ((c.n : Int) < (c.n : Int)) = false := decide_eq_false (by omega)
  refine ⟨300, ?_⟩
  rw [show blk32 = _ from (by unfold blk32; simp only [Try.f32, Option.getD_some]; try rfl)]
  unfold act32
  refine Goes.step rfl (fun _ h₁ => ?_); replace hF := rl9 hF h₁; clear h₁
  ((first | rw [stepG_seq] | rw [stepG_region_end] | rw [stepG_skip] | rw [stepG_block] | rw [stepG_loop] | rw [stepG_inBlock] | rw [stepG_inLoop] | rw [stepG_ret'] | rw [stepG_end]); simp only [goes_go]; refine ⟨(by refine d0_none ?_; intro e he; simp at he), ?_⟩)
  refine Goes.step rfl (fun _ h₁ => ?_); replace hF := rl9 hF h₁; clear h₁
  (rw [stepG_region]; simp only [goes_go, List.size_toArray, List.length_cons, List.length_nil, Nat.reduceAdd, Nat.zero_add, List.range, List.range.loop]; refine ⟨(by refine d0_none ?_; intro e he; simp at he), ?_⟩)
  refine Goes.step rfl (fun _ h₁ => ?_); replace hF := rl9 hF h₁; clear h₁
  (refine goes_oper_k rfl rfl (by k_ne) (fun K hK => ?_); go_simp; refine hK _ _ ⟨?_, ?_⟩; (· refine d0_none ?_; intro e he; have hm := mem_listed he; simp [go_sem, *] at hm); clear hK K; try w_num)
  refine Goes.step rfl (fun _ h₁ => ?_); replace hF := rl9 hF h₁; clear h₁
  ((first | rw [stepG_seq] | rw [stepG_region_end] | rw [stepG_skip] | rw [stepG_block] | rw [stepG_loop] | rw [stepG_inBlock] | rw [stepG_inLoop] | rw [stepG_ret'] | rw [stepG_end]); simp only [goes_go]; refine ⟨(by refine d0_none ?_; intro e he; simp at he), ?_⟩)
  refine Goes.step rfl (fun _ h₁ => ?_); replace hF := rl9 hF h₁; clear h₁
  ((first | rw [stepG_seq] | rw [stepG_region_end] | rw [stepG_skip] | rw [stepG_block] | rw [stepG_loop] | rw [stepG_inBlock] | rw [stepG_inLoop] | rw [stepG_ret'] | rw [stepG_end]); simp only [goes_go]; refine ⟨(by refine d0_none ?_; intro e he; simp at he), ?_⟩)
  refine Goes.step rfl (fun _ h₁ => ?_); replace hF := rl9 hF h₁; clear h₁
  ((first | rw [stepG_cond (t := true) rfl] | rw [stepG_cond (t := false) rfl] | rw [stepG_cond (t := false) (by simp [Act.eval]; omega)] | rw [stepG_cond (t := true) (by simp [Act.eval]; omega)]); simp only [goes_go, if_true, if_false, Bool.false_eq_true, ↓reduceIte]; refine ⟨(by refine d0_none ?_; intro e he; simp at he), ?_⟩)
  refine Goes.step rfl (fun _ h₁ => ?_); replace hF := rl9 hF h₁; clear h₁
  refine goes_exit rfl ⟨(by refine d0_none ?_; intro e he; simp at he), ?_⟩
  rw [show rest32 = _ from (by unfold rest32; simp only [Try.f32, Option.getD_some]; try rfl)]
  refine Goes.step rfl (fun _ h₁ => ?_); replace hF := rl9 hF h₁; clear h₁
  (rw [stepG_region]; simp only [goes_go, List.size_toArray, List.length_cons, List.length_nil, Nat.reduceAdd, Nat.zero_add, List.range, List.range.loop]; refine ⟨(by refine d0_none ?_; intro e he; simp at he), ?_⟩)
  refine Goes.step rfl (fun _ h₁ => ?_); replace hF := rl9 hF h₁; clear h₁
  refine goes_call rfl rfl (by k_ne) rfl wgLib.f_wait (nm_wait lnk) rfl ⟨(by refine d0_none ?_; intro e he; simp at he), ?_⟩
  have hW := waitStart (F := AlF c w0) (cs := cs) (lw := lw) (b₀ := base 32) (a₀ := act32 c doB fv c.n v2 v5 (.bool false) v9 v10 v11 v12 v13) (ops₀ := ops9) (i₀ := 0) (rest₀ := []) (k₀ := kk) wgLib K (fun w w' r h => h.rely r) _ hF
  have o9 : ops9 = _ := (by unfold ops9 rest32; simp only [Try.f32, Option.getD_some]; try rfl)
  rw [o9] at hW
  walk_nrmf waitFn
  simp only [body_wait, waitFn, Option.getD_some, act32, Act.put, Act.eval, List.map_toArray, List.map_cons, List.map_nil, Array.getD_eq_getD_getElem?, List.getElem?_toArray, List.getElem?_cons_succ, List.getElem?_cons_zero, Option.bind_some, List.size_toArray, List.length_cons, List.length_nil, Nat.reduceAdd, Nat.reduceSub, Array.replicate_succ, Array.replicate_zero, List.push_toArray, List.append_toArray, List.nil_append, List.cons_append] at hW
  have hI := goes_imp (S2 := AtKd Try.prog c lw (AnchA c w0 doB fv kk cs lw)) (fun g w h => by
    obtain ⟨h1, g', h2, m, h3⟩ := h
    refine ⟨h1, g', h2, m, goes_imp (fun g w h => ?_) m _ _ h3⟩
    unfold AnchA act32
    rw [o9]
    exact ⟨_, _, _, _, _, _, _, _, h⟩) 200 _ _ hW
  exact Goes.mono hI (by omega)
end Go.Proofs.Ytinghnaigpenkaa

end
section
/- Seat 05: all starts its workers: a round; all rounds. -/
namespace Go.Proofs.Ytinghnaigpenkaa
open Go.Conc Go.RowKit Go.Conc.Lib Go.ConcR.Gen
open Go.ConcN (WgLive)
open Go.ConcR (KK wgBlock WgAt stA smA rd wr mk Payload)
set_option linter.unusedVariables false
set_option linter.unusedSimpArgs false
set_option linter.unusedSectionVars false
set_option maxRecDepth 100000
set_option maxHeartbeats 4000000














/-- what is asked of the starter where r workers are still to be started -/
theorem spawns_pre {P : Program} {c : Cfg} {Anch : Nat → Goroutine → World → Prop} {r lw : Nat} {g g' : Goroutine} {w : World} (h : Spawns P c Anch r lw g' w)
    (hs : ∀ (St : Goroutine → World → Prop) (m : Nat), Goes P true (R0 c lw) (D0 c lw) St m g' w → ∃ m', Goes P true (R0 c lw) (D0 c lw) St m' g w) : Spawns P c Anch r lw g w := by
  cases r with
  | zero => obtain ⟨m, hm⟩ := h; exact hs _ m hm
  | succ r => obtain ⟨m, hm⟩ := h; exact hs _ m hm
/-- what the starter knows where it has filled a box -/
structure AlB (c : Cfg) (w0 : World) (lw C : Nat) (v : Value) (w : World) : Prop where
  f : AlF c w0 lw w
  box : w.heap[C]? = some (.cells #[v] 3)
  lo : lw ≤ C
section
variable {c : Cfg} {w0 : World} {doB : Nat} {fv : Value} {lw C : Nat} {v u : Value} {w w₁ : World}
theorem AlB.rely (k : AlSt c w0 doB fv) (r : R0 c lw w w₁) (h : AlB c w0 lw C v w) : AlB c w0 lw C v w₁ := by
  have h0 := h.f.h0
  have hC := h.lo
  obtain ⟨n1, n2⟩ := k.hi C (by omega)
  exact ⟨h.f.rely r, (r.same C (Array.getElem?_eq_some_iff.1 h.box).1 n1 n2 (.inl h.lo) (.inl (Soft.noF k.K ⟨_, h.box⟩))).trans h.box, h.lo⟩
theorem AlB.setWg (k : AlSt c w0 doB fv) (a : Addr) (v : Value) (ha : a.block = c.Wg) (h : AlB c w0 lw C u w) : AlB c w0 lw C u (w.setCell a v) := by
  have h0 := h.f.h0
  have hC := h.lo
  obtain ⟨n1, n2⟩ := k.hi C (by omega)
  exact ⟨h.f.setWg k.K a v ha, ((aside_setCell w a v).block C (fun e => n2 (e.trans ha))).trans h.box, h.lo⟩
theorem evS_box (k : AlSt c w0 doB fv) (h0 : c.H0 ≤ lw) (h : lw ≤ C) (hs : Soft w C) : EvS c lw w ⟨.cell ⟨C, 0, none⟩, true, false⟩ := by
  obtain ⟨n1, n2⟩ := k.pl ⟨C, 0, none⟩ (.inr (Nat.le_trans h0 h))
  refine ⟨fun x hx _ => ?_, by simp, by simp, by simp⟩
  simp only [ofEvent_cell0, MemAct.touch?, Option.some.injEq] at hx
  subst hx
  exact .inr ⟨n1, n2, _, rfl, .inl ⟨h, Nat.le_trans h0 h, hs⟩⟩
theorem d0_alloc {ob : Obj} {es : Array Event} (h : ∀ e ∈ es, False) : D0 c lw w (w.alloc ob) es := by
  refine ⟨⟨rfl, .refl _, rfl⟩, by simp, fun b hb _ => Below.heap_alloc _ _ _ hb, fun b hb => ?_, fun e he => (h e he).elim⟩
  have hl := hb.lt
  exact hb.of_same (Below.heap_alloc _ _ _ hl)
theorem soft_set {w : World} {C : Nat} {v u : Value} (h : w.heap[C]? = some (.cells #[u] Payload.ety)) (b : Nat) (hb : Soft w b) : Soft (w.setCell ⟨C, 0, none⟩ v) b := by
  by_cases e : b = C
  · subst e
    exact ⟨v, by rw [setCell_eq_setRow w b 0 _ _ (0, 0) _ h, setRow_heap w b _ _ _ _ h]; rfl⟩
  · exact hb.of_same ((aside_setCell w ⟨C, 0, none⟩ v).block b e)
theorem d0_box (k : AlSt c w0 doB fv) {es : Array Event} (h0 : c.H0 ≤ lw) (hC : lw ≤ C) (h : w.heap[C]? = some (.cells #[u] Payload.ety)) (he : ∀ e ∈ es, e = ⟨.cell ⟨C, 0, none⟩, true, false⟩) : D0 c lw w (w.setCell ⟨C, 0, none⟩ v) es := by
  have a := aside_setCell w ⟨C, 0, none⟩ v
  refine ⟨⟨a.tape, by rw [a.os]; exact .refl _, a.output⟩, Nat.le_of_eq a.size.symm, fun b hb hx => a.block b (fun e => ?_), fun b hb => soft_set h b hb, fun e hE => ?_⟩
  · have e : b = C := e
    subst e
    rcases hx with hx | hx | hx
    · omega
    · exact hx ⟨u, h⟩
    · exact absurd hx (by show ¬ b < c.H0; omega)
  · rw [he e hE]; exact evS_box k h0 hC (soft_set h C ⟨u, h⟩)
theorem AlF.alloc (K : c.Ok) (ob : Obj) (h : AlF c w0 lw w) : AlF c w0 lw (w.alloc ob) :=
  h.of ⟨rfl, .refl _, rfl⟩ (by simp) (fun g ob' hg e => (Below.heap_alloc _ _ _ (Array.getElem?_eq_some_iff.1 e).1).trans e) (fun ⟨σ, hr⟩ => ⟨σ, K.rep_same σ w _ hr (by simp) (fun b hb _ => Below.heap_alloc _ _ _ hb)⟩)
theorem AlF.setBox (K : c.Ok) (hs : Soft w C) (hn : ¬ c.SB C) (v : Value) (hC : lw ≤ C) (h : AlF c w0 lw w) : AlF c w0 lw (w.setCell ⟨C, 0, none⟩ v) :=
  h.of (env_setCell w _ v) (Nat.le_of_eq (aside_setCell w ⟨C, 0, none⟩ v).size.symm) (fun g ob hg e => ((aside_setCell w ⟨C, 0, none⟩ v).block g (fun e => by have := h.h0; have := hg.1; have e : g = C := e; omega)).trans e) (fun ⟨σ, hr⟩ => ⟨σ, K.rep_same σ w _ hr (Nat.le_of_eq (aside_setCell w ⟨C, 0, none⟩ v).size.symm) (fun b _ hb => (aside_setCell w ⟨C, 0, none⟩ v).block b (fun e => by
    have e : b = C := e
    subst e
    rcases hb with hb | hb
    · exact hn hb
    · exact hb.1.hard K hs))⟩)
theorem alloc_new (w : World) (ob : Obj) : (w.alloc ob).heap[w.heap.size]? = some ob := by
  show (w.heap.push ob)[w.heap.size]? = some ob
  exact Array.getElem?_push_size
theorem box_cell {w : World} {C : Nat} {u : Value} {T : TypeId} (h : w.heap[C]? = some (.cells #[u] T)) : w.cell? ⟨C, 0, none⟩ = some u := by simp [World.cell?, h]
theorem box_thaw {w : World} {C : Nat} {u : Value} {T : TypeId} (h : w.heap[C]? = some (.cells #[u] T)) : w.frozen? ⟨C, 0, none⟩ = false := by simp [World.frozen?, h]
theorem box_set {w : World} {C : Nat} {u v : Value} {T : TypeId} (h : w.heap[C]? = some (.cells #[u] T)) : (w.setCell ⟨C, 0, none⟩ v).heap[C]? = some (.cells #[v] T) := by
  rw [setCell_eq_setRow w C 0 _ _ (0, 0) _ h, setRow_heap w C _ _ _ _ h]; rfl
theorem live_alloc {ty Wg : Nat} (ob : Obj) (h : WgLive ty Wg w) : WgLive ty Wg (w.alloc ob) := by
  obtain ⟨st, sm, h⟩ := h
  exact ⟨st, sm, (Below.heap_alloc _ _ _ (Array.getElem?_eq_some_iff.1 h).1).trans h⟩
theorem live_set {ty Wg : Nat} {a : Addr} {v : Value} (hn : Wg ≠ a.block) (h : WgLive ty Wg w) : WgLive ty Wg (w.setCell a v) := by
  obtain ⟨st, sm, h⟩ := h
  exact ⟨st, sm, ((aside_setCell w a v).block _ hn).trans h⟩
end
noncomputable def ops6 : Array Oper := match blk32 with
  | .seq _ (.seq _ (.seq (.block _ (.seq _ (.seq (.region _ o _) _))) _)) => o
  | _ => #[]
noncomputable def tail6 : Code := match blk32 with
  | .seq _ (.seq _ (.seq (.block _ (.seq _ (.seq _ t))) _)) => t
  | _ => .skip
noncomputable def code8 : Code := match blk32 with
  | .seq _ (.seq _ (.seq _ t)) => t
  | _ => .skip
noncomputable def kk6 (kk : List Item) : List Item := .code tail6 :: .inBlock 1 :: .code code8 :: .inLoop blk32 :: .inBlock 0 :: .code rest32 :: kk
/-- from Add's return to the go -/
theorem goT {c : Cfg} {w0 : World} {doB : Nat} {fv : Value} (k : AlSt c w0 doB fv) {kk : List Item} {cs : List Frame} {r lw j C : Nat} (hj : j < c.n)
    (hN : ∀ (lw' : Nat) (w : World) (v2 v5 v8 v9 v10 v11 v12 v13 : Value), AlF c w0 lw' w ∧ WgLive c.ty c.Wg w → Spawns Try.prog c (AnchA c w0 doB fv kk cs) r lw' (G ((base 32).at (act32 c doB fv (j + 1) v2 v5 v8 v9 v10 v11 v12 v13) (.code blk32 :: .inLoop blk32 :: .inBlock 0 :: .code rest32 :: kk)) cs) w)
    (v2 v8 v9 v10 v11 v12 v13 : Value) (w : World) (hF : AlB c w0 lw C (.int .i64 j) w ∧ WgLive c.ty c.Wg w) :
    Goes Try.prog true (R0 c lw) (D0 c lw) (AtGoS Try.prog c lw j (Spawns Try.prog c (AnchA c w0 doB fv kk cs) r)) 60
      (G ((base 32).at (act32 c doB fv j v2 (.pointer (some ⟨C, 0, none⟩)) v8 v9 v10 v11 v12 v13) (.inRegion ops6 [] :: kk6 kk)) cs) w := by
  have K := k.K
  have hC := hF.1.lo
  have rl9 : ∀ {v : Value} {w w₁ : World}, (AlB c w0 lw C v w ∧ WgLive c.ty c.Wg w) → R0 c lw w w₁ → (AlB c w0 lw C v w₁ ∧ WgLive c.ty c.Wg w₁) := fun h r => ⟨h.1.rely k r, r.live h.2⟩
  unfold kk6
  rw [show tail6 = _ from (by unfold tail6 blk32; simp only [Try.f32, Option.getD_some]; try rfl)]
  rw [show ops6 = _ from (by unfold ops6 blk32; simp only [Try.f32, Option.getD_some]; try rfl)]
  unfold act32
  refine Goes.step rfl (fun _ h₁ => ?_); replace hF := rl9 hF h₁; clear h₁
  ((first | rw [stepG_seq] | rw [stepG_region_end] | rw [stepG_skip] | rw [stepG_block] | rw [stepG_loop] | rw [stepG_inBlock] | rw [stepG_inLoop] | rw [stepG_ret'] | rw [stepG_end]); simp only [goes_go]; refine ⟨(by refine d0_none ?_; intro e he; simp at he), ?_⟩)
  refine Goes.step rfl (fun _ h₁ => ?_); replace hF := rl9 hF h₁; clear h₁
  (rw [stepG_region]; simp only [goes_go, List.size_toArray, List.length_cons, List.length_nil, Nat.reduceAdd, Nat.zero_add, List.range, List.range.loop]; refine ⟨(by refine d0_none ?_; intro e he; simp at he), ?_⟩)
  refine Goes.step rfl (fun _ h₁ => ?_); replace hF := rl9 hF h₁; clear h₁
  (refine goes_oper_k rfl rfl (by k_ne) (fun K hK => ?_); go_simp; refine hK _ _ ⟨?_, ?_⟩; (· refine d0_none ?_; intro e he; have hm := mem_listed he; simp [go_sem, *] at hm); clear hK K; try w_num)
  refine Goes.stop (fun xW h₁ => ?_)
  replace hF := rl9 hF h₁
  clear h₁
  have h0 := hF.1.f.h0
  have hS : Soft xW C := ⟨_, hF.1.box⟩
  refine ⟨rfl, _, born Try.prog (call43 c.Wg doB C), C, Eq.trans (stepG_spawn (f := .func 43) (c := #[.pointer (some ⟨c.Wg, 0, none⟩), .pointer (some ⟨doB, 0, none⟩), .pointer (some ⟨C, 0, none⟩)]) rfl rfl ?_ (d := call43 c.Wg doB C) (w' := xW) (by simp [go_sem, call43, Deferred.ofValue]) rfl) rfl, rfl, hC, Nat.le_trans h0 hC, hS, ?_, ?_⟩
  · k_ne
  · exact k.run j C xW hj (Nat.le_trans h0 hC) hF.1.box hF.2 hF.1.f.old hF.1.f.rep
  · refine spawns_pre (hN xW.heap.size xW v2 (.pointer (some ⟨C, 0, none⟩)) v8 v9 v10 (.func (.func 43) #[] #[.pointer (some ⟨c.Wg, 0, none⟩), .pointer (some ⟨doB, 0, none⟩), .pointer (some ⟨C, 0, none⟩)]) (.int .i64 (j + 1)) v13 ⟨hF.1.f.raise, hF.2⟩) ?_
    intro St m hG
    have fw := k.K.hn
    replace hF : (AlF c w0 xW.heap.size xW ∧ WgLive c.ty c.Wg xW) := ⟨hF.1.f.raise, hF.2⟩
    clear rl9 hS
    have c8 : code8 = _ := (by unfold code8 blk32; simp only [Try.f32, Option.getD_some]; try rfl)
    rw [c8]
    refine ⟨m + 60, ?_⟩
    generalize hg9 : G _ _ = g9 at hG
    replace hF := And.intro hF hG
    clear hG
    replace hg9 : RowKit.Hid _ := hg9
    have rl9 : ∀ {g : Goroutine} {w w₁ : World}, ((AlF c w0 xW.heap.size w ∧ WgLive c.ty c.Wg w) ∧ Goes Try.prog true (R0 c xW.heap.size) (D0 c xW.heap.size) St m g w) → R0 c xW.heap.size w w₁ → ((AlF c w0 xW.heap.size w₁ ∧ WgLive c.ty c.Wg w₁) ∧ Goes Try.prog true (R0 c xW.heap.size) (D0 c xW.heap.size) St m g w₁) := fun h r => ⟨⟨h.1.1.rely r, r.live h.1.2⟩, Goes.rely (fun _ _ _ a b => a.trans b) h.2 r⟩
    generalize xW.heap.size = lx at hF rl9 ⊢
    walk_nrm
    refine Goes.step rfl (fun _ h₁ => ?_); replace hF := rl9 hF h₁; clear h₁
    ((first | rw [stepG_seq] | rw [stepG_region_end] | rw [stepG_skip] | rw [stepG_block] | rw [stepG_loop] | rw [stepG_inBlock] | rw [stepG_inLoop] | rw [stepG_ret'] | rw [stepG_end]); simp only [goes_go]; refine ⟨(by refine d0_none ?_; intro e he; simp at he), ?_⟩)
    refine Goes.step rfl (fun _ h₁ => ?_); replace hF := rl9 hF h₁; clear h₁
    ((first | rw [stepG_seq] | rw [stepG_region_end] | rw [stepG_skip] | rw [stepG_block] | rw [stepG_loop] | rw [stepG_inBlock] | rw [stepG_inLoop] | rw [stepG_ret'] | rw [stepG_end]); simp only [goes_go]; refine ⟨(by refine d0_none ?_; intro e he; simp at he), ?_⟩)
    refine Goes.step rfl (fun _ h₁ => ?_); replace hF := rl9 hF h₁; clear h₁
    (rw [stepG_region]; simp only [goes_go, List.size_toArray, List.length_cons, List.length_nil, Nat.reduceAdd, Nat.zero_add, List.range, List.range.loop]; refine ⟨(by refine d0_none ?_; intro e he; simp at he), ?_⟩)
    refine Goes.step rfl (fun _ h₁ => ?_); replace hF := rl9 hF h₁; clear h₁
    (refine goes_oper_k rfl rfl (by k_ne) (fun K hK => ?_); go_simp; refine hK _ _ ⟨?_, ?_⟩; (· refine d0_none ?_; intro e he; have hm := mem_listed he; simp [go_sem, *] at hm); clear hK K; try w_num)
    refine Goes.step rfl (fun _ h₁ => ?_); replace hF := rl9 hF h₁; clear h₁
    (refine goes_oper_k rfl rfl (by k_ne) (fun K hK => ?_); go_simp; refine hK _ _ ⟨?_, ?_⟩; (· refine d0_none ?_; intro e he; have hm := mem_listed he; simp [go_sem, *] at hm); clear hK K; try w_num)
    refine Goes.step rfl (fun _ h₁ => ?_); replace hF := rl9 hF h₁; clear h₁
    ((first | rw [stepG_seq] | rw [stepG_region_end] | rw [stepG_skip] | rw [stepG_block] | rw [stepG_loop] | rw [stepG_inBlock] | rw [stepG_inLoop] | rw [stepG_ret'] | rw [stepG_end]); simp only [goes_go]; refine ⟨(by refine d0_none ?_; intro e he; simp at he), ?_⟩)
    refine Goes.step rfl (fun _ h₁ => ?_); replace hF := rl9 hF h₁; clear h₁
    ((first | rw [stepG_seq] | rw [stepG_region_end] | rw [stepG_skip] | rw [stepG_block] | rw [stepG_loop] | rw [stepG_inBlock] | rw [stepG_inLoop] | rw [stepG_ret'] | rw [stepG_end]); simp only [goes_go]; refine ⟨(by refine d0_none ?_; intro e he; simp at he), ?_⟩)
    have d7 : IntKind.i64.wrap ((j : Int) + 1) = (j : Int) + 1 := by
      rw [IntKind.wrap_i64]; omega
    rw [d7]
    have hG := hF.2
    rw [← hg9.out] at hG
    unfold act32 at hG
    rw [Int.natCast_add, Int.natCast_one] at hG
    exact hG.mono (by omega)
theorem spawnS {c : Cfg} {w0 : World} {doB : Nat} {fv : Value} (k : AlSt c w0 doB fv) {kk : List Item} {cs : List Frame} {r lw j : Nat} (hj : j < c.n) (hr : r + 1 + j = c.n)
    (hN : ∀ (lw' : Nat) (w : World) (v2 v5 v8 v9 v10 v11 v12 v13 : Value), AlF c w0 lw' w ∧ WgLive c.ty c.Wg w → Spawns Try.prog c (AnchA c w0 doB fv kk cs) r lw' (G ((base 32).at (act32 c doB fv (j + 1) v2 v5 v8 v9 v10 v11 v12 v13) (.code blk32 :: .inLoop blk32 :: .inBlock 0 :: .code rest32 :: kk)) cs) w)
    (v2 v5 v8 v9 v10 v11 v12 v13 : Value) (w : World) (hF : AlF c w0 lw w ∧ WgLive c.ty c.Wg w) :
    ∃ m, Goes Try.prog true (R0 c lw) (D0 c lw) (AtKdS Try.prog c lw j (Spawns Try.prog c (AnchA c w0 doB fv kk cs) r)) m
      (G ((base 32).at (act32 c doB fv j v2 v5 v8 v9 v10 v11 v12 v13) (.code blk32 :: .inLoop blk32 :: .inBlock 0 :: .code rest32 :: kk)) cs) w := by
  have K := k.K
  have rl9 : ∀ {w w₁ : World}, (AlF c w0 lw w ∧ WgLive c.ty c.Wg w) → R0 c lw w w₁ → (AlF c w0 lw w₁ ∧ WgLive c.ty c.Wg w₁) := fun h r => ⟨h.1.rely r, r.live h.2⟩
  have few := k.K.hn
  have e9 : decide ((j : Int) < (c.n : Int)) = true := decide_eq_true (by omega)
  refine ⟨500, ?_⟩
  rw [show blk32 = _ from (by unfold blk32; simp only [Try.f32, Option.getD_some]; try rfl)]
  unfold act32
  refine Goes.step rfl (fun _ h₁ => ?_); replace hF := rl9 hF h₁; clear h₁
  ((first | rw [stepG_seq] | rw [stepG_region_end] | rw [stepG_skip] | rw [stepG_block] | rw [stepG_loop] | rw [stepG_inBlock] | rw [stepG_inLoop] | rw [stepG_ret'] | rw [stepG_end]); simp only [goes_go]; refine ⟨(by refine d0_none ?_; intro e he; simp at he), ?_⟩)
  refine Goes.step rfl (fun _ h₁ => ?_); replace hF := rl9 hF h₁; clear h₁
  (rw [stepG_region]; simp only [goes_go, List.size_toArray, List.length_cons, List.length_nil, Nat.reduceAdd, Nat.zero_add, List.range, List.range.loop]; refine ⟨(by refine d0_none ?_; intro e he; simp at he), ?_⟩)
  refine Goes.step rfl (fun _ h₁ => ?_); replace hF := rl9 hF h₁; clear h₁
  (refine goes_oper_k rfl rfl (by k_ne) (fun K hK => ?_); go_simp; refine hK _ _ ⟨?_, ?_⟩; (· refine d0_none ?_; intro e he; have hm := mem_listed he; simp [go_sem, *] at hm); clear hK K; try w_num)
  refine Goes.step rfl (fun _ h₁ => ?_); replace hF := rl9 hF h₁; clear h₁
  ((first | rw [stepG_seq] | rw [stepG_region_end] | rw [stepG_skip] | rw [stepG_block] | rw [stepG_loop] | rw [stepG_inBlock] | rw [stepG_inLoop] | rw [stepG_ret'] | rw [stepG_end]); simp only [goes_go]; refine ⟨(by refine d0_none ?_; intro e he; simp at he), ?_⟩)
  refine Goes.step rfl (fun _ h₁ => ?_); replace hF := rl9 hF h₁; clear h₁
  ((first | rw [stepG_seq] | rw [stepG_region_end] | rw [stepG_skip] | rw [stepG_block] | rw [stepG_loop] | rw [stepG_inBlock] | rw [stepG_inLoop] | rw [stepG_ret'] | rw [stepG_end]); simp only [goes_go]; refine ⟨(by refine d0_none ?_; intro e he; simp at he), ?_⟩)
  refine Goes.step rfl (fun _ h₁ => ?_); replace hF := rl9 hF h₁; clear h₁
  ((first | rw [stepG_cond (t := true) rfl] | rw [stepG_cond (t := false) rfl] | rw [stepG_cond (t := false) (by simp [Act.eval]; omega)] | rw [stepG_cond (t := true) (by simp [Act.eval]; omega)]); simp only [goes_go, if_true, if_false, Bool.false_eq_true, ↓reduceIte]; refine ⟨(by refine d0_none ?_; intro e he; simp at he), ?_⟩)
  refine Goes.step rfl (fun _ h₁ => ?_); replace hF := rl9 hF h₁; clear h₁
  ((first | rw [stepG_seq] | rw [stepG_region_end] | rw [stepG_skip] | rw [stepG_block] | rw [stepG_loop] | rw [stepG_inBlock] | rw [stepG_inLoop] | rw [stepG_ret'] | rw [stepG_end]); simp only [goes_go]; refine ⟨(by refine d0_none ?_; intro e he; simp at he), ?_⟩)
  refine Goes.step rfl (fun _ h₁ => ?_); replace hF := rl9 hF h₁; clear h₁
  ((first | rw [stepG_seq] | rw [stepG_region_end] | rw [stepG_skip] | rw [stepG_block] | rw [stepG_loop] | rw [stepG_inBlock] | rw [stepG_inLoop] | rw [stepG_ret'] | rw [stepG_end]); simp only [goes_go]; refine ⟨(by refine d0_none ?_; intro e he; simp at he), ?_⟩)
  refine Goes.step rfl (fun _ h₁ => ?_); replace hF := rl9 hF h₁; clear h₁
  ((first | rw [stepG_seq] | rw [stepG_region_end] | rw [stepG_skip] | rw [stepG_block] | rw [stepG_loop] | rw [stepG_inBlock] | rw [stepG_inLoop] | rw [stepG_ret'] | rw [stepG_end]); simp only [goes_go]; refine ⟨(by refine d0_none ?_; intro e he; simp at he), ?_⟩)
  refine Goes.step rfl (fun _ h₁ => ?_); replace hF := rl9 hF h₁; clear h₁
  ((first | rw [stepG_seq] | rw [stepG_region_end] | rw [stepG_skip] | rw [stepG_block] | rw [stepG_loop] | rw [stepG_inBlock] | rw [stepG_inLoop] | rw [stepG_ret'] | rw [stepG_end]); simp only [goes_go]; refine ⟨(by refine d0_none ?_; intro e he; simp at he), ?_⟩)
  refine Goes.step rfl (fun _ h₁ => ?_); replace hF := rl9 hF h₁; clear h₁
  (rw [stepG_region]; simp only [goes_go, List.size_toArray, List.length_cons, List.length_nil, Nat.reduceAdd, Nat.zero_add, List.range, List.range.loop]; refine ⟨(by refine d0_none ?_; intro e he; simp at he), ?_⟩)
  refine Goes.step rfl (fun _ h₁ => ?_); replace hF := rl9 hF h₁; clear h₁
  (refine goes_oper_k rfl rfl (by k_ne) (fun K hK => ?_); go_simp; refine hK _ _ ⟨?_, ?_⟩; (· refine d0_none ?_; intro e he; have hm := mem_listed he; simp [go_sem, *] at hm); clear hK K; try w_num)
  refine Goes.step rfl (fun xW h₁ => ?_); replace hF := rl9 hF h₁; clear h₁
  (refine goes_oper_k rfl rfl (by k_ne) (fun K hK => ?_); go_simp; refine hK _ _ ⟨?_, ?_⟩; (· refine d0_alloc ?_; intro e he; have hm := mem_listed he; simp [go_sem, *] at hm); clear hK K; try w_num)
  have hC : lw ≤ xW.heap.size := hF.1.lwle
  have hbx : (xW.alloc (Obj.cells #[Value.int .i64 0] 3)).heap[xW.heap.size]? = some (.cells #[.int .i64 0] 3) := alloc_new _ _
  have hWW : WgLive c.ty c.Wg (xW.alloc (Obj.cells #[Value.int .i64 0] 3)) := live_alloc _ hF.2
  have hF1 : AlF c w0 lw (xW.alloc (Obj.cells #[Value.int .i64 0] 3)) := hF.1.alloc K _
  clear hF
  generalize hCC : xW.heap.size = C at hF1 hWW hbx hC ⊢
  clear hCC
  generalize xW.alloc (Obj.cells #[Value.int .i64 0] 3) = w9 at hF1 hWW hbx ⊢
  have hF : AlB c w0 lw C (.int .i64 0) w9 ∧ WgLive c.ty c.Wg w9 := ⟨⟨hF1, hbx, hC⟩, hWW⟩
  clear hF1 hbx hWW rl9
  have rl9 : ∀ {v : Value} {w w₁ : World}, (AlB c w0 lw C v w ∧ WgLive c.ty c.Wg w) → R0 c lw w w₁ → (AlB c w0 lw C v w₁ ∧ WgLive c.ty c.Wg w₁) := fun h r => ⟨h.1.rely k r, r.live h.2⟩
  have hCW : c.Wg ≠ C := by
    have := hF.1.f.h0
    exact fun e => (k.hi C (by omega)).2 e.symm
  refine Goes.step rfl (fun xW h₁ => ?_); replace hF := rl9 hF h₁; clear h₁
  have hcl := box_cell hF.1.box
  have hfr := box_thaw hF.1.box
  (refine goes_oper_k rfl rfl (by k_ne) (fun K hK => ?_); go_simp; refine hK _ _ ⟨?_, ?_⟩; (· refine d0_box k hF.1.f.h0 hC hF.1.box ?_; intro e he; have hm := mem_listed he; simp [go_sem, storedEv, hcl] at hm; exact hm.2); clear hK K; try w_num)
  have hWW : WgLive c.ty c.Wg (xW.setCell ⟨C, 0, none⟩ (.int .i64 (j : Int))) := live_set hCW hF.2
  have hF1 : AlB c w0 lw C (.int .i64 (j : Int)) (xW.setCell ⟨C, 0, none⟩ (.int .i64 (j : Int))) := ⟨hF.1.f.setBox K ⟨_, hF.1.box⟩ (k.hi C (Nat.le_trans hF.1.f.h0 hC)).1 _ hC, box_set hF.1.box, hC⟩
  clear hF hcl hfr
  generalize xW.setCell ⟨C, 0, none⟩ (.int .i64 (j : Int)) = w8 at hF1 hWW ⊢
  have hF := And.intro hF1 hWW
  clear hF1 hWW
  refine Goes.step rfl (fun _ h₁ => ?_); replace hF := rl9 hF h₁; clear h₁
  ((first | rw [stepG_seq] | rw [stepG_region_end] | rw [stepG_skip] | rw [stepG_block] | rw [stepG_loop] | rw [stepG_inBlock] | rw [stepG_inLoop] | rw [stepG_ret'] | rw [stepG_end]); simp only [goes_go]; refine ⟨(by refine d0_none ?_; intro e he; simp at he), ?_⟩)
  refine Goes.step rfl (fun _ h₁ => ?_); replace hF := rl9 hF h₁; clear h₁
  ((first | rw [stepG_seq] | rw [stepG_region_end] | rw [stepG_skip] | rw [stepG_block] | rw [stepG_loop] | rw [stepG_inBlock] | rw [stepG_inLoop] | rw [stepG_ret'] | rw [stepG_end]); simp only [goes_go]; refine ⟨(by refine d0_none ?_; intro e he; simp at he), ?_⟩)
  refine Goes.step rfl (fun _ h₁ => ?_); replace hF := rl9 hF h₁; clear h₁
  (rw [stepG_region]; simp only [goes_go, List.size_toArray, List.length_cons, List.length_nil, Nat.reduceAdd, Nat.zero_add, List.range, List.range.loop]; refine ⟨(by refine d0_none ?_; intro e he; simp at he), ?_⟩)
  refine Goes.step rfl (fun _ h₁ => ?_); replace hF := rl9 hF h₁; clear h₁
  refine goes_call rfl rfl (by k_ne) rfl wgLib.f_add (nm_add lnk) rfl ⟨(by refine d0_none ?_; intro e he; simp at he), ?_⟩
  have hA := addPos (c := c) (lw := lw) (j := j) (Next := Spawns Try.prog c (AnchA c w0 doB fv kk cs) r) (F := AlB c w0 lw C (.int .i64 (j : Int))) (cs := cs) (b₀ := base 32) (a₀ := act32 c doB fv j v2 (.pointer (some ⟨C, 0, none⟩)) (.bool true) (.int .i64 (j : Int)) v10 v11 v12 v13) (ops₀ := ops6) (i₀ := 0) (rest₀ := []) (k₀ := kk6 kk) wgLib K (fun w w' r h => h.rely k r) (fun w a v ha h => h.setWg k a v ha)
    (mT := 60) (fun w h1 h2 => by
      have o6 : ops6[0]?.bind (·.dst) = some 10 := (by unfold ops6 blk32; simp only [Try.f32, Option.getD_some]; try rfl)
      rw [o6]
      exact goT k hj hN _ _ _ _ _ _ _ w ⟨h1, h2⟩) _ hF
  unfold kk6 at hA
  have o6 : ops6 = _ := (by unfold ops6 blk32; simp only [Try.f32, Option.getD_some]; try rfl)
  have t6 : tail6 = _ := (by unfold tail6 blk32; simp only [Try.f32, Option.getD_some]; try rfl)
  have c8 : code8 = _ := (by unfold code8 blk32; simp only [Try.f32, Option.getD_some]; try rfl)
  have b16 : blk32 = _ := (by unfold blk32; simp only [Try.f32, Option.getD_some]; try rfl)
  rw [o6, t6, c8, b16] at hA
  walk_nrmf addFn
  simp only [body_add, addFn, Option.getD_some, act32, Act.put, Act.eval, List.map_toArray, List.map_cons, List.map_nil, Array.getD_eq_getD_getElem?, List.getElem?_toArray, List.getElem?_cons_succ, List.getElem?_cons_zero, Option.bind_some, List.size_toArray, List.length_cons, List.length_nil, Nat.reduceAdd, Nat.reduceSub, Array.replicate_succ, Array.replicate_zero, List.push_toArray, List.append_toArray, List.nil_append, List.cons_append] at hA
  refine Goes.mono (?_ : Goes _ _ _ _ _ 200 _ _) (by omega)
  exact hA
/-- all rounds -/
theorem spawns32 {c : Cfg} {w0 : World} {doB : Nat} {fv : Value} (k : AlSt c w0 doB fv) {kk : List Item} {cs : List Frame} : ∀ (r j lw : Nat) (w : World) (v2 v5 v8 v9 v10 v11 v12 v13 : Value), r + j = c.n → AlF c w0 lw w ∧ WgLive c.ty c.Wg w →
    Spawns Try.prog c (AnchA c w0 doB fv kk cs) r lw (G ((base 32).at (act32 c doB fv j v2 v5 v8 v9 v10 v11 v12 v13) (.code blk32 :: .inLoop blk32 :: .inBlock 0 :: .code rest32 :: kk)) cs) w
  | 0, j, lw, w, v2, v5, v8, v9, v10, v11, v12, v13, hj, hF => by
    obtain rfl : j = c.n := by omega
    exact spawn0 k v2 v5 v8 v9 v10 v11 v12 v13 w hF
  | r + 1, j, lw, w, v2, v5, v8, v9, v10, v11, v12, v13, hj, hF => by
    have hr : c.n - (r + 1) = j := by omega
    have := spawnS k (kk := kk) (cs := cs) (r := r) (by omega) (by omega) (fun lw' w v2 v5 v8 v9 v10 v11 v12 v13 h => spawns32 k r (j + 1) lw' w v2 v5 v8 v9 v10 v11 v12 v13 (by omega) h) v2 v5 v8 v9 v10 v11 v12 v13 w hF
    unfold Spawns
    rw [hr]
    exact this
end Go.Proofs.Ytinghnaigpenkaa

end
section
/- Seat 05: a worker of all, from its birth to the group's Done. -/
namespace Go.Proofs.Ytinghnaigpenkaa
open Go.Conc Go.RowKit Go.Conc.Lib Go.ConcR.Gen
open Go.ConcN (WgLive Has)
open Go.ConcN.Gen (doneN)
open Go.ConcR (WgAt stA Payload)
set_option linter.unusedVariables false
set_option linter.unusedSimpArgs false
set_option maxRecDepth 100000
set_option maxHeartbeats 4000000



theorem opsV_defer {P : Program} {c : Cfg} {k C : Nat} {fn : FuncId} {N : Nat} {u : c.U} {Q : Nat → c.U → Exit → Act → World → Prop} {a : Act} {w : World} {ops : Array Oper} {i : Nat} {rest : List Nat} {o : Oper} {n : Nat} {f : FuncId} {as' : Array Operand} {ats : Array TypeId} (ho : ops[i]? = some o) (hw : Region.wanted o (yielded ops a.tmps) = true)
    (hop : o.op = .defer { callee := .value (.func f), args := as', argTypes := ats }) (h : OpsV P c k C fn ops rest n N u Q (Act.put ⟨a.tmps, dcall f (as'.map a.eval) :: a.defers⟩ o.dst undef) w) : OpsV P c k C fn ops (i :: rest) (n + 1) N u Q a w :=
  fun b kk cs m hb hk hc => Goes.step rfl fun w₁ h₁ => by rw [stepG_defer ho hw hk hop]; exact ⟨(termsW c C).idle _, (h b kk cs m hb hk hc).rely h₁⟩
theorem dw_read {c : Cfg} {C : Nat} {w : World} {es : Array Event} (h : ∀ e ∈ es, EvW c C w e) : DW c C w w es :=
  ⟨.refl w, Nat.le_refl _, fun _ _ => rfl, (DW.refl c C w).new, h⟩
theorem drawW (c : Cfg) (C : Nat) : LetsDraw (DW c C) := fun w => ⟨⟨rfl, .refl _, rfl⟩, Nat.le_refl _, fun _ _ => rfl, fun b h hs => absurd (show Soft w b from hs).lt (Nat.not_lt.2 h), by simp⟩
theorem RW.at {c : Cfg} (K : c.Ok) {C : Nat} (w : World) : RW c C w { w with drawn := w.drawn + 1 } := ⟨⟨rfl, .refl _, rfl⟩, Nat.le_refl _, fun _ _ _ _ _ _ => rfl, fun _ _ h => h, fun _ _ h => h, fun ⟨σ, h⟩ => ⟨σ, K.rep_same σ w _ h (Nat.le_refl _) (fun _ _ _ => rfl)⟩, id⟩
theorem evW_cell {c : Cfg} {C : Nat} {w : World} {a : Addr} (h : a.block = C ∨ a.block < c.H0) (hp : ¬ c.sh (.cell a) ∧ ¬ c.sp (.cell a)) : EvW c C w ⟨.cell a, false, false⟩ := by
  refine ⟨fun x hx _ => ?_, by simp, by simp, by simp⟩
  simp only [ofEvent_cell0, MemAct.touch?, Option.some.injEq] at hx
  subst hx
  exact ⟨a, rfl, rfl, by simp, hp.1, hp.2, h.imp id .inl⟩
/-- what a worker of all knows of the memory -/
structure WK (c : Cfg) (wb : World) (H : Nat) (fv : Value) (j C : Nat) (w : World) : Prop where
  box : w.heap[C]? = some (.cells #[.int .i64 j] 3)
  doC : w.heap[H]? = some (.cells #[fv] 79)
  live : Live c.ty c.Wg w
  old : ∀ g ob, g < H → ¬ c.SB g → wb.heap[g]? = some ob → w.heap[g]? = some ob
  rep : ∃ σ, c.Rep σ w
/-- where things lie -/
structure AlO (c : Cfg) (H : Nat) : Prop where
  K : c.Ok
  ty : c.ty = 95
  wg : c.Wg = H + 1
  h0 : c.H0 = H + 2
  lo : ∀ b, c.SB b → b < H
  pl : ∀ a : Addr, (a.block = H ∨ H + 2 ≤ a.block) → ¬ c.sh (.cell a) ∧ ¬ c.sp (.cell a)
section
variable {c : Cfg} {wb : World} {H : Nat} {fv : Value} {j C : Nat} {w w₁ : World}
theorem WK.rely (A : AlO c H) (hC : c.H0 ≤ C) (h : WK c wb H fv j C w) (r : RW c C w w₁) : WK c wb H fv j C w₁ := by
  have nC : ¬ c.SB C := fun hb => by have := A.lo C hb; have := A.h0; omega
  have nH : ¬ c.SB H := fun hb => by have := A.lo H hb; omega
  refine ⟨(r.same C (Array.getElem?_eq_some_iff.1 h.box).1 nC (by have := A.wg; have := A.h0; omega) (.inl rfl) (.inl (Soft.noF A.K ⟨_, h.box⟩))).trans h.box, (r.same H (Array.getElem?_eq_some_iff.1 h.doC).1 nH (by have := A.wg; omega) (.inr (.inr (by have := A.h0; omega))) (.inr (by have := A.h0; omega))).trans h.doC, r.live h.live, fun g ob hg hs e => ?_, r.rep h.rep⟩
  have e1 := h.old g ob hg hs e
  exact (r.same g (Array.getElem?_eq_some_iff.1 e1).1 hs (by have := A.wg; omega) (.inr (.inr (by have := A.h0; omega))) (.inr (by have := A.h0; omega))).trans e1
theorem WK.only (A : AlO c H) (hC : c.H0 ≤ C) (h : WK c wb H fv j C w) (r : OnlySB c w w₁) (hr : ∃ σ, c.Rep σ w₁) : WK c wb H fv j C w₁ := by
  have nC : ¬ c.SB C := fun hb => by have := A.lo C hb; have := A.h0; omega
  have nH : ¬ c.SB H := fun hb => by have := A.lo H hb; omega
  have nW : ¬ c.SB c.Wg := A.K.sbWg
  exact ⟨(r.old C (Array.getElem?_eq_some_iff.1 h.box).1 nC (.inl (Soft.noF A.K ⟨_, h.box⟩))).trans h.box, (r.old H (Array.getElem?_eq_some_iff.1 h.doC).1 nH (.inr (by have := A.h0; omega))).trans h.doC, h.live.of_same (r.old _ h.live.lt nW (.inl h.live.noF)), fun g ob hg hs e => (r.old g (Array.getElem?_eq_some_iff.1 (h.old g ob hg hs e)).1 hs (.inr (by have := A.h0; omega))).trans (h.old g ob hg hs e), hr⟩
theorem WK.alloc (K : c.Ok) (h : WK c wb H fv j C w) (ob : Obj) : WK c wb H fv j C (w.alloc ob) := by
  have up : ∀ {g : Nat} {o : Obj}, w.heap[g]? = some o → (w.alloc ob).heap[g]? = some o := fun e => (Below.heap_alloc _ _ _ (Array.getElem?_eq_some_iff.1 e).1).trans e
  refine ⟨up h.box, up h.doC, ?_, fun g o hg hs e => up (h.old g o hg hs e), let ⟨σ, hr⟩ := h.rep; ⟨σ, K.rep_same σ w _ hr (by simp) (fun b hb _ => Below.heap_alloc _ _ _ hb)⟩⟩
  obtain ⟨st, sm, hl⟩ := h.live
  exact ⟨st, sm, up hl⟩
theorem WK.draw (K : c.Ok) (h : WK c wb H fv j C w) (n : Nat) : WK c wb H fv j C { w with drawn := n } := ⟨h.box, h.doC, h.live, h.old, let ⟨σ, hr⟩ := h.rep; ⟨σ, K.rep_same σ w _ hr (Nat.le_refl _) (fun _ _ _ => rfl)⟩⟩
end
def Q43 (c : Cfg) (wb : World) (H : Nat) (fv : Value) (j C : Nat) : Nat → c.U → Exit → Act → World → Prop :=
  fun N' u' e a' w' => (e = .normal ∨ e = .ret) ∧ c.fin u' ∧ WK c wb H fv j C w' ∧ a'.defers = [dcall 44 #[.pointer (some ⟨c.Wg, 0, none⟩)]]
theorem body43_V {c : Cfg} {wb : World} {H : Nat} {f : FuncId} {cap : Array Value} {j C k N nf : Nat} (A : AlO c H) (hC : c.H0 ≤ C)
    (hdo' : ∀ w, WK c wb H (.func (.func f) #[] cap) j C w → CallsV Try.prog c k C f (#[.int .i64 j] ++ cap) nf N (c.init j) w (fun N' u' v w' => c.fin u' ∧ WK c wb H (.func (.func f) #[] cap) j C w'))
    (w : World) (hF : WK c wb H (.func (.func f) #[] cap) j C w) :
    CodeV Try.prog c k C 43 (Try.f43.body.getD .skip) (nf + 60) N (c.init j) (Q43 c wb H (.func (.func f) #[] cap) j C)
      ⟨#[.pointer (some ⟨c.Wg, 0, none⟩), .pointer (some ⟨H, 0, none⟩), .pointer (some ⟨C, 0, none⟩)] ++ Array.replicate 3 undef, []⟩ w := by
  have rl9 : ∀ {w w₁ : World}, WK c wb H (.func (.func f) #[] cap) j C w → RW c C w w₁ → WK c wb H (.func (.func f) #[] cap) j C w₁ := fun h r => h.rely A hC r
  have hP1 : ∀ w, WK c wb H (.func (.func f) #[] cap) j C w → w.cell? ⟨H, 0, none⟩ = some (.func (.func f) #[] cap) := fun w h => by simp [World.cell?, h.doC]
  have hP2 : ∀ w, WK c wb H (.func (.func f) #[] cap) j C w → w.cell? ⟨C, 0, none⟩ = some (.int .i64 j) := fun w h => by simp [World.cell?, h.box]
  have hpl : ∀ a : Addr, (a.block = H ∨ c.H0 ≤ a.block) → _ := fun a h => A.pl a (by rw [← A.h0]; exact h)
  have hdo : H < c.H0 := by have := A.h0; omega
  have T9 := termsW c C
  co_apply codeV_more
  · simp only [Try.f43, Option.getD_some]
    walk_nrm
    co_apply codeV_seq
    (co_apply codeV_region; simp only [List.size_toArray, List.length_cons, List.length_nil, Nat.reduceAdd, Nat.zero_add, List.range, List.range.loop])
    co_apply opsV_defer rfl (by rfl) rfl
    walk_nrm
    co_apply opsV_nil
    simp only [ThenV]
    (co_apply codeV_region; simp only [List.size_toArray, List.length_cons, List.length_nil, Nat.reduceAdd, Nat.zero_add, List.range, List.range.loop])
    (co_apply opsV_cons_k rfl (by rfl); intro _ hR K' hK; replace hF := rl9 hF hR; clear hR; have c1 := hP1 _ hF; have c2 := hP2 _ hF; go_simp; refine hK _ _ ⟨?_, ?_⟩; (· refine dw_read (fun e he => ?_); have hm := mem_listed he; simp [go_sem, *] at hm; subst hm; first | exact evW_cell (.inl rfl) (hpl _ (.inr hC)) | exact evW_cell (.inr hdo) (hpl _ (.inl rfl))); clear hK K' c1 c2; try walk_nrm)
    (co_apply opsV_cons_k rfl (by rfl); intro _ hR K' hK; replace hF := rl9 hF hR; clear hR; have c1 := hP1 _ hF; have c2 := hP2 _ hF; go_simp; refine hK _ _ ⟨?_, ?_⟩; (· refine dw_read (fun e he => ?_); have hm := mem_listed he; simp [go_sem, *] at hm; subst hm; first | exact evW_cell (.inl rfl) (hpl _ (.inr hC)) | exact evW_cell (.inr hdo) (hpl _ (.inl rfl))); clear hK K' c1 c2; try walk_nrm)
    co_apply opsV_callV rfl (by rfl) rfl rfl
    · have := hdo' _ hF
      simpa [Act.eval] using this
    rintro N2 u2 v w2 ⟨hf2, hF2⟩
    clear hF
    have hF := hF2
    clear hF2
    walk_nrm
    co_apply opsV_nil
    exact ⟨.inl rfl, hf2, hF, rfl⟩
  · omega
def b43 : Frame := baseD 43
noncomputable def bot43 : Frame := { (default : Frame) with fn := (Program.funcs Try.prog).size, defers := [], mode := .panicking [goexitEntry] }
/-- Done has left: the literal leaves. -/
theorem quits43 (T : Array Value) (todo : List Item) : QuitsD Try.prog 2 0 (G { b43.at ⟨T, []⟩ todo with mode := .returning } [bot43]) := by
  refine QuitsD.ctl (g' := G bot43 []) rfl (fun w => ?_) ?_
  · simp [G, stepG, unwind, doReturn, results, Frame.at, b43, baseD, bot43, Try.func43, Try.f43, seen, GStep.after, goexitEntry]
  refine QuitsD.ctl (g' := { G bot43 [] with status := .finished }) rfl (fun w => ?_) ⟨rfl, rfl⟩
  simp [G, stepG, unwind, bot43, goexitEntry, Frame.catches]
  rfl
theorem born43_step (Wg doB C : Nat) (w : World) : stepG Try.prog false (born Try.prog (call43 Wg doB C)) w =
    .go (G (b43.at ⟨#[.pointer (some ⟨Wg, 0, none⟩), .pointer (some ⟨doB, 0, none⟩), .pointer (some ⟨C, 0, none⟩)] ++ Array.replicate 3 undef, []⟩ [.code (Try.f43.body.getD .skip)]) [bot43]) w #[] := by
  simp [born, call43, stepG, unwind, callDeferred, invoke, callFunc, Try.func43, Try.f43, seen, GStep.after, G, Frame.enter, Frame.at, b43, baseD, bot43]
theorem done43 {c : Cfg} {wb : World} {H : Nat} {fv : Value} {j C : Nat} {T : Array Value} {todo : List Item} {w : World} (hty : c.ty = 95) (hF : WK c wb H fv j C w) :
    DoneW Try.prog c C (G ((baseD lnk.done).at ⟨#[.pointer (some ⟨c.Wg, 0, none⟩), undef, undef, undef], []⟩ [.code (body_done lnk)]) [{ b43.at ⟨T, []⟩ todo with mode := .returning }, bot43]) w := by
  have hH : Has C 0 (.int .i64 j) w := by simp [Has, World.cell?, hF.box]
  have hl := hF.live
  rw [hty] at hl
  unfold DoneW
  rw [hty]
  exact ⟨23, _, doneN wgLib (Own := E0) (Rd := E0) (Wg := c.Wg) (C := C) (n := 1) (Low := 0) (k := 1) (qt := 2) rfl (quits43 T todo) w ⟨hl, hH⟩⟩
theorem run43 {c : Cfg} {wb : World} {H : Nat} {f : FuncId} {cap : Array Value} {j C k : Nat} {nf : Nat → Nat} (A : AlO c H) (hC : c.H0 ≤ C)
    (hdo' : ∀ N w, WK c wb H (.func (.func f) #[] cap) j C w → CallsV Try.prog c k C f (#[.int .i64 j] ++ cap) (nf N) N (c.init j) w (fun N' u' v w' => c.fin u' ∧ WK c wb H (.func (.func f) #[] cap) j C w'))
    (w : World) (hF : WK c wb H (.func (.func f) #[] cap) j C w) : ∀ N, RunU Try.prog c k C N (c.init j) (born Try.prog (call43 c.Wg H C)) w := by
  have rl : ∀ {w w₁ : World}, WK c wb H (.func (.func f) #[] cap) j C w → RW c C w w₁ → WK c wb H (.func (.func f) #[] cap) j C w₁ := fun h r => h.rely A hC r
  intro N
  cases N with
  | zero => trivial
  | succ N =>
    have hB := body43_V (k := k) (N := N) A hC (hdo' N)
    have ret : ∀ (N' : Nat) (u' : c.U) (a' : Act) (w' : World) (todo : List Item), c.fin u' → WK c wb H (.func (.func f) #[] cap) j C w' → a'.defers = [dcall 44 #[.pointer (some ⟨c.Wg, 0, none⟩)]] →
        GV Try.prog c k C N' u' 3 (G { b43.at a' todo with mode := .returning } [bot43]) w' := by
      intro N' u' a' w' todo ht hK hd
      refine Goes.step rfl fun w₁ h₁ => ?_
      replace hK := rl hK h₁
      clear h₁
      rw [stepG_unwind_enter hd Try.func44 (by kernel_rfl) rfl]
      refine ⟨DW.refl _ _ _, Goes.stop fun w₂ h₂ => .inl ⟨ht, rfl, ?_⟩⟩
      exact done43 A.ty (rl hK h₂)
    refine ⟨4 + (nf N + 60) + 1, Goes.step rfl fun w₁ h₁ => ?_⟩
    rw [born43_step]
    refine ⟨DW.refl _ _ _, ?_⟩
    refine hB w₁ (rl hF h₁) b43 [] [bot43] 4 rfl (by simp [b43, baseD]) ?_
    rintro N' u' e a' w' ⟨he, ht, hK, hd⟩
    rcases he with rfl | rfl
    · refine Goes.step rfl fun w₂ h₂ => ?_
      rw [stepG_end]
      exact ⟨DW.refl _ _ _, (ret N' u' a' w' [] ht hK hd).rely h₂⟩
    · exact fun todo => (ret N' u' a' w' todo ht hK hd).mono (by omega)
end Go.Proofs.Ytinghnaigpenkaa

end
