/- Seat 05: all starts its workers: what is asked; from the loop's end to Wait. -/
import Derived.Test.YtinghnaigpenkaaClA
import Derived.Test.YtinghnaigpenkaaWgL
import Derived.Test.YtinghnaigpenkaaPhW
import Derived.Test.YtinghnaigpenkaaPhY
import Derived.Conc.CompanyWords
import Derived.Conc.WgWords
namespace Go.Proofs.Ytinghnaigpenkaa
open Go.Conc Go.RowKit Go.Conc.Lib Go.ConcR.Gen
open Go.ConcN (WgLive)
open Go.ConcR (KK wgBlock WgAt stA smA rd wr mk Payload)
set_option linter.unusedVariables false
set_option linter.unusedSimpArgs false
set_option linter.unusedSectionVars false
set_option maxRecDepth 100000
set_option maxHeartbeats 4000000














noncomputable def blk32 : Code := match (Try.f32.body.getD .skip) with
  | .seq _ (.seq _ (.seq (.seq _ (.block _ (.loop c))) _)) => c
  | _ => .skip
noncomputable def rest32 : Code := match (Try.f32.body.getD .skip) with
  | .seq _ (.seq _ (.seq (.seq _ (.block _ (.loop _))) r)) => r
  | _ => .skip
noncomputable def ops9 : Array Oper := match rest32 with
  | .region _ o _ => o
  | _ => #[]
def Low3c (c : Cfg) (g : Nat) : Prop := g < c.H0 ∧ g ≠ c.Wg ∧ ¬ c.SB g
def AlK (c : Cfg) (w0 w : World) : Prop := ∀ g ob, Low3c c g → w0.heap[g]? = some ob → w.heap[g]? = some ob
/-- what the starter knows of the memory -/
structure AlF (c : Cfg) (w0 : World) (lw : Nat) (w : World) : Prop where
  lwle : lw ≤ w.heap.size
  h0 : c.H0 ≤ lw
  old : AlK c w0 w
  env : Env w0 w
def call43 (Wg doB C : Nat) : Deferred := { target := .fn (.func 43) #[.pointer (some ⟨Wg, 0, none⟩), .pointer (some ⟨doB, 0, none⟩), .pointer (some ⟨C, 0, none⟩)], args := #[] }
/-- what never changes -/
structure AlSt (c : Cfg) (w0 : World) (doB : Nat) (fv : Value) : Prop where
  K : c.Ok
  ty : c.ty = 95
  do_ : Low3c c doB
  doC : w0.heap[doB]? = some (.cells #[fv] 79)
  hi : ∀ b, c.H0 ≤ b → ¬ c.SB b ∧ b ≠ c.Wg
  pl : ∀ a : Addr, (a.block = doB ∨ c.H0 ≤ a.block) → ¬ c.sh (.cell a) ∧ ∀ k, ¬ c.own k (.cell a)
  run : ∀ (j C : Nat) (w : World), j < c.n → c.H0 ≤ C → w.heap[C]? = some (.cells #[.int .i64 j] 3) → Live c.ty c.Wg w → AlK c w0 w → ∀ N, RunU Try.prog c (c.N0 + j) C N (c.init j) (born Try.prog (call43 c.Wg doB C)) w
def act32 (c : Cfg) (doB : Nat) (fv : Value) (i : Nat) (v2 v5 v8 v9 v10 v11 v12 v13 : Value) : Act :=
  ⟨#[.int .i64 (c.n : Int), fv, v2, .pointer (some ⟨doB, 0, none⟩), .pointer (some ⟨c.Wg, 0, none⟩), v5, .int .i64 (c.n : Int), .int .i64 (i : Int), v8, v9, v10, v11, v12, v13], []⟩
section
variable {c : Cfg} {w0 : World} {doB : Nat} {fv : Value} {lw : Nat} {w w₁ : World}
theorem AlF.of (h : AlF c w0 lw w) (v : Env w w₁) (hs : w.heap.size ≤ w₁.heap.size) (e : AlK c w w₁) : AlF c w0 lw w₁ := ⟨Nat.le_trans h.lwle hs, h.h0, fun g ob hg e0 => e g ob hg (h.old g ob hg e0), h.env.trans v⟩
theorem AlF.rely (r : R0 c lw w w₁) (h : AlF c w0 lw w) : AlF c w0 lw w₁ :=
  h.of r.env r.size fun g ob hg e => (r.same g (Array.getElem?_eq_some_iff.1 e).1 hg.2.2 hg.2.1 (.inr (.inr hg.1))).trans e
theorem env_setCell (w : World) (a : Addr) (v : Value) : Env w (w.setCell a v) := by
  have x := aside_setCell w a v
  exact ⟨x.tape, x.os, x.output⟩
theorem AlF.setWg (a : Addr) (v : Value) (ha : a.block = c.Wg) (h : AlF c w0 lw w) : AlF c w0 lw (w.setCell a v) :=
  h.of (env_setCell w a v) (Nat.le_of_eq (aside_setCell w a v).size.symm) fun g ob hg e => ((aside_setCell w a v).block g (fun e => hg.2.1 (e.trans ha))).trans e
theorem AlF.raise (h : AlF c w0 lw w) : AlF c w0 w.heap.size w := ⟨Nat.le_refl _, Nat.le_trans h.h0 h.lwle, h.old, h.env⟩
end
theorem goes_imp {P : Program} {main : Bool} {R : World → World → Prop} {D : World → World → Array Event → Prop} {S1 S2 : Goroutine → World → Prop} (h : ∀ g w, S1 g w → S2 g w) : ∀ (n : Nat) (g : Goroutine) (w : World), Goes P main R D S1 n g w → Goes P main R D S2 n g w
  | 0, _, _, hg => fun w₁ h₁ => h _ _ (hg w₁ h₁)
  | n + 1, g, w, hg => by
    rcases hg with hg | ⟨hr, hg⟩
    · exact .inl fun w₁ h₁ => h _ _ (hg w₁ h₁)
    · refine .inr ⟨hr, fun w₁ h₁ => ?_⟩
      have := hg w₁ h₁
      revert this
      cases stepG P main g w₁ <;> simp only [GStep.goes, imp_self]
      exact fun ⟨d, x⟩ => ⟨d, goes_imp h n _ _ x⟩
/-- at the head of Wait's loop, called by all -/
def AnchA (c : Cfg) (w0 : World) (doB : Nat) (fv : Value) (kk : List Item) (cs : List Frame) (lw : Nat) (g : Goroutine) (w : World) : Prop :=
  ∃ v2 v5 v8 v9 v10 v11 v12 v13 : Value, AnchP lnk c (AlF c w0) ((base 32).at (act32 c doB fv c.n v2 v5 v8 v9 v10 v11 v12 v13) (.inRegion ops9 [0] :: kk)) cs lw g w
theorem spawn0 {c : Cfg} {w0 : World} {doB : Nat} {fv : Value} (k : AlSt c w0 doB fv) {kk : List Item} {cs : List Frame} {lw : Nat} (v2 v5 v8 v9 v10 v11 v12 v13 : Value) (w : World) (hF : AlF c w0 lw w ∧ WgLive c.ty c.Wg w) :
    ∃ m, Goes Try.prog true (R0 c lw) (D0 c lw) (AtKd Try.prog c lw (AnchA c w0 doB fv kk cs lw)) m
      (G ((base 32).at (act32 c doB fv c.n v2 v5 v8 v9 v10 v11 v12 v13) (.code blk32 :: .inLoop blk32 :: .inBlock 0 :: .code rest32 :: kk)) cs) w := by
  have K := k.K
  have rl9 : ∀ {w w₁ : World}, (AlF c w0 lw w ∧ WgLive c.ty c.Wg w) → R0 c lw w w₁ → (AlF c w0 lw w₁ ∧ WgLive c.ty c.Wg w₁) := fun h r => ⟨h.1.rely r, r.live h.2⟩
  have e9 : decide ((c.n : Int) < (c.n : Int)) = false := decide_eq_false (by omega)
  refine ⟨300, ?_⟩
  rw [show blk32 = _ from (by unfold blk32; simp only [Try.f32, Option.getD_some]; try rfl)]
  unfold act32
  refine Goes.step rfl (fun _ h₁ => ?_); replace hF := rl9 hF h₁; clear h₁
  ((first | rw [stepG_seq] | rw [stepG_region_end] | rw [stepG_skip] | rw [stepG_block] | rw [stepG_loop] | rw [stepG_inBlock] | rw [stepG_inLoop] | rw [stepG_ret'] | rw [stepG_end]); simp only [goes_go]; refine ⟨(by refine d0_none ?_; intro e he; simp at he), ?_⟩)
  refine Goes.step rfl (fun _ h₁ => ?_); replace hF := rl9 hF h₁; clear h₁
  (rw [stepG_region]; simp only [goes_go, List.size_toArray, List.length_cons, List.length_nil, Nat.reduceAdd, Nat.zero_add, List.range, List.range.loop]; refine ⟨(by refine d0_none ?_; intro e he; simp at he), ?_⟩)
  refine Goes.step rfl (fun _ h₁ => ?_); replace hF := rl9 hF h₁; clear h₁
  (refine goes_oper_k rfl rfl (by k_ne) (fun K hK => ?_); go_simp; refine hK _ _ ⟨?_, ?_⟩; (· refine d0_none ?_; intro e he; have hm := mem_listed he; simp [go_sem, *] at hm); clear hK K; try w_num)
  refine Goes.step rfl (fun _ h₁ => ?_); replace hF := rl9 hF h₁; clear h₁
  ((first | rw [stepG_seq] | rw [stepG_region_end] | rw [stepG_skip] | rw [stepG_block] | rw [stepG_loop] | rw [stepG_inBlock] | rw [stepG_inLoop] | rw [stepG_ret'] | rw [stepG_end]); simp only [goes_go]; refine ⟨(by refine d0_none ?_; intro e he; simp at he), ?_⟩)
  refine Goes.step rfl (fun _ h₁ => ?_); replace hF := rl9 hF h₁; clear h₁
  ((first | rw [stepG_seq] | rw [stepG_region_end] | rw [stepG_skip] | rw [stepG_block] | rw [stepG_loop] | rw [stepG_inBlock] | rw [stepG_inLoop] | rw [stepG_ret'] | rw [stepG_end]); simp only [goes_go]; refine ⟨(by refine d0_none ?_; intro e he; simp at he), ?_⟩)
  refine Goes.step rfl (fun _ h₁ => ?_); replace hF := rl9 hF h₁; clear h₁
  ((first | rw [stepG_cond (t := true) rfl] | rw [stepG_cond (t := false) rfl] | rw [stepG_cond (t := false) (by simp [Act.eval]; omega)] | rw [stepG_cond (t := true) (by simp [Act.eval]; omega)]); simp only [goes_go, if_true, if_false, Bool.false_eq_true, ↓reduceIte]; refine ⟨(by refine d0_none ?_; intro e he; simp at he), ?_⟩)
  refine Goes.step rfl (fun _ h₁ => ?_); replace hF := rl9 hF h₁; clear h₁
  refine goes_exit rfl ⟨(by refine d0_none ?_; intro e he; simp at he), ?_⟩
  rw [show rest32 = _ from (by unfold rest32; simp only [Try.f32, Option.getD_some]; try rfl)]
  refine Goes.step rfl (fun _ h₁ => ?_); replace hF := rl9 hF h₁; clear h₁
  (rw [stepG_region]; simp only [goes_go, List.size_toArray, List.length_cons, List.length_nil, Nat.reduceAdd, Nat.zero_add, List.range, List.range.loop]; refine ⟨(by refine d0_none ?_; intro e he; simp at he), ?_⟩)
  refine Goes.step rfl (fun _ h₁ => ?_); replace hF := rl9 hF h₁; clear h₁
  refine goes_call rfl rfl (by k_ne) rfl wgLib.f_wait (nm_wait lnk) rfl ⟨(by refine d0_none ?_; intro e he; simp at he), ?_⟩
  have hW := waitStart (F := AlF c w0) (cs := cs) (lw := lw) (b₀ := base 32) (a₀ := act32 c doB fv c.n v2 v5 (.bool false) v9 v10 v11 v12 v13) (ops₀ := ops9) (i₀ := 0) (rest₀ := []) (k₀ := kk) wgLib K (fun w w' r h => h.rely r) _ hF
  have o9 : ops9 = _ := (by unfold ops9 rest32; simp only [Try.f32, Option.getD_some]; try rfl)
  rw [o9] at hW
  walk_nrmf waitFn
  simp only [body_wait, waitFn, Option.getD_some, act32, Act.put, Act.eval, List.map_toArray, List.map_cons, List.map_nil, Array.getD_eq_getD_getElem?, List.getElem?_toArray, List.getElem?_cons_succ, List.getElem?_cons_zero, Option.bind_some, List.size_toArray, List.length_cons, List.length_nil, Nat.reduceAdd, Nat.reduceSub, Array.replicate_succ, Array.replicate_zero, List.push_toArray, List.append_toArray, List.nil_append, List.cons_append] at hW
  have hI := goes_imp (S2 := AtKd Try.prog c lw (AnchA c w0 doB fv kk cs lw)) (fun g w h => by
    obtain ⟨h1, g', h2, m, h3⟩ := h
    refine ⟨h1, g', h2, m, goes_imp (fun g w h => ?_) m _ _ h3⟩
    unfold AnchA act32
    rw [o9]
    exact ⟨_, _, _, _, _, _, _, _, h⟩) 200 _ _ hW
  exact Goes.mono hI (by omega)
end Go.Proofs.Ytinghnaigpenkaa
