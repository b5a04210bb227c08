/- A phase (many workers started one by one, joined by a sync.WaitGroup): what is asked of each goroutine. -/
import Derived.Test.YtinghnaigpenkaaPhA
namespace Go.Proofs.Ytinghnaigpenkaa
open Go.Conc
open Go.ConcN (CTag phi isOpen isW3 isFin pend WD Vc Ssum Fsum cnt OpenSt AllQuit Mode RelBy sumTo upd)
open Go.ConcR (KK wgBlock WgAt stA smA rd wr mk Payload DC0 Bk)
set_option linter.unusedVariables false
set_option linter.unusedSimpArgs false
set_option linter.unusedSectionVars false

/-- the shape of a phase: the group, how many workers, the first one's number, how much there was when it began; the shared blocks; the places that are touched atomically alone, each worker's own; the workers' states and the shared state, and how they go on -/
structure Cfg where
  ty : TypeId
  Wg : Nat
  n : Nat
  N0 : Nat
  H0 : Nat
  SB : Nat → Prop
  sh : Loc → Prop
  own : Nat → Loc → Prop
  U : Type
  S : Type
  Rep : S → World → Prop
  Pre : U → S → Prop
  Tr : U → S → U → S → Prop
  fin : U → Prop
  init : Nat → U
  JU : S → (Nat → U) → Nat → Prop
  mu : S → (Nat → U) → Nat → Nat

variable [Payload]

/-- a box of one cell of the payload's type: the starter may be filling it, or a worker holds it -/
def Soft (w : World) (b : Nat) : Prop := ∃ v, w.heap[b]? = some (.cells #[v] Payload.ety)
structure Env (w w₁ : World) : Prop where
  tape : w₁.tape = w.tape
  os : w₁.os = w.os
  output : w₁.output = w.output
theorem Env.refl (w : World) : Env w w := ⟨rfl, rfl, rfl⟩
theorem Env.trans {a b c : World} (h : Env a b) (k : Env b c) : Env a c := ⟨k.tape.trans h.tape, k.os.trans h.os, k.output.trans h.output⟩
def Live (ty : TypeId) (Wg : Nat) (w : World) : Prop := ∃ st sm, WgAt ty Wg w st sm
def E0 : Nat → Loc → Prop := fun _ _ => False

section
variable (c : Cfg)
/-- what the starter suffers; 'lw': the boxes below it are out of its hands -/
structure R0 (lw : Nat) (w w₁ : World) : Prop where
  env : Env w w₁
  size : w.heap.size ≤ w₁.heap.size
  same : ∀ b, b < w.heap.size → ¬ c.SB b → b ≠ c.Wg → (lw ≤ b ∨ ¬ Soft w b ∨ b < c.H0) → w₁.heap[b]? = w.heap[b]?
  hard : ∀ b, b < w.heap.size → ¬ Soft w b → ¬ Soft w₁ b
  rep : (∃ σ, c.Rep σ w) → ∃ σ, c.Rep σ w₁
  live : Live c.ty c.Wg w → Live c.ty c.Wg w₁
/-- what a worker suffers; 'C': its box -/
structure RW (C : Nat) (w w₁ : World) : Prop where
  env : Env w w₁
  size : w.heap.size ≤ w₁.heap.size
  same : ∀ b, b < w.heap.size → ¬ c.SB b → b ≠ c.Wg → (b = C ∨ ¬ Soft w b ∨ b < c.H0) → w₁.heap[b]? = w.heap[b]?
  hard : ∀ b, b < w.heap.size → ¬ Soft w b → ¬ Soft w₁ b
  rep : (∃ σ, c.Rep σ w) → ∃ σ, c.Rep σ w₁
  live : Live c.ty c.Wg w → Live c.ty c.Wg w₁
/-- the marks that count, none of which an idle step lists -/
def Calm (e : Event) : Prop := e.loc ≠ .mark .disable ∧ e.loc ≠ .mark .enable ∧ e.loc ≠ .mark (.release (stA c.Wg))
def EvW (C : Nat) (w' : World) (e : Event) : Prop :=
  (∀ x, (MemAct.ofEvent e).touch? = some x → x.loc.isMemory = true → ∃ a, x.loc = .cell a ∧ x.write = false ∧ x.kind ≠ .atomic ∧ ¬ c.sh x.loc ∧ (∀ k, ¬ c.own k x.loc) ∧ (a.block = C ∨ a.block < c.H0 ∨ (c.H0 ≤ a.block ∧ a.block < w'.heap.size ∧ ¬ Soft w' a.block))) ∧ Calm c e
def EvS (lw : Nat) (w' : World) (e : Event) : Prop :=
  (∀ x, (MemAct.ofEvent e).touch? = some x → x.loc.isMemory = true → (c.sh x.loc ∧ x.kind ≠ .plain) ∨ (¬ c.sh x.loc ∧ (∀ k, ¬ c.own k x.loc) ∧ (x.write = true → ∃ a, x.loc = .cell a ∧ lw ≤ a.block ∧ c.H0 ≤ a.block ∧ Soft w' a.block))) ∧ Calm c e
/-- a step by which worker k acts on what is shared -/
def EvV (k : Nat) (e : Event) : Prop :=
  (∀ x, (MemAct.ofEvent e).touch? = some x → x.loc.isMemory = true → (c.sh x.loc ∧ x.kind = .atomic) ∨ (x.kind ≠ .atomic ∧ c.own k x.loc)) ∧ Calm c e
/-- the starter's idle step -/
structure D0 (lw : Nat) (w w' : World) (es : Array Event) : Prop where
  env : Env w w'
  size : w.heap.size ≤ w'.heap.size
  old : ∀ b, b < w.heap.size → (b < lw ∨ ¬ Soft w b ∨ b < c.H0) → w'.heap[b]? = w.heap[b]?
  soft : ∀ b, Soft w b → Soft w' b
  ev : ∀ e ∈ es, EvS c lw w' e
/-- a worker's idle step: it may make memory -/
structure DW (C : Nat) (w w' : World) (es : Array Event) : Prop where
  env : Env w w'
  size : w.heap.size ≤ w'.heap.size
  old : ∀ b, b < w.heap.size → w'.heap[b]? = w.heap[b]?
  new : ∀ b, w.heap.size ≤ b → ¬ Soft w' b
  ev : ∀ e ∈ es, EvW c C w' e
/-- at most the shared blocks turn -/
structure OnlySB (w w' : World) : Prop where
  env : Env w w'
  size : w'.heap.size = w.heap.size
  old : ∀ b, ¬ c.SB b → w'.heap[b]? = w.heap[b]?

structure Cfg.Ok : Prop where
  hn : c.n < 2147483648
  hN : 0 < c.N0
  rep_same : ∀ σ w w', c.Rep σ w → (∀ b, c.SB b → w'.heap[b]? = w.heap[b]?) → c.Rep σ w'
  sb_hard : ∀ σ w b, c.Rep σ w → c.SB b → ¬ Soft w b
  sb_lt : ∀ σ w b, c.Rep σ w → c.SB b → b < w.heap.size
  sbWg : ¬ c.SB c.Wg
  shWg : ∀ a : Addr, a.block = c.Wg → c.sh (.cell a)
  own_sh : ∀ k l, c.own k l → ¬ c.sh l
  own_one : ∀ k k' l, c.own k l → c.own k' l → k = k'
  own_mem : ∀ k l, c.own k l → l.isMemory = true
  spawn : ∀ σ us j, j < c.n → c.JU σ us j → c.JU σ (upd us j (c.init j)) (j + 1) ∧ c.mu σ (upd us j (c.init j)) (j + 1) ≤ c.mu σ us j
  step : ∀ σ us j i u' σ', i < j → c.JU σ us j → ¬ c.fin (us i) → c.Tr (us i) σ u' σ' → c.JU σ' (upd us i u') j ∧ c.mu σ' (upd us i u') j < c.mu σ us j
  pre : ∀ σ us j i, i < j → c.JU σ us j → ¬ c.fin (us i) → c.Pre (us i) σ
end

section
variable (P : Program) (c : Cfg)
/-- A WORKER (goroutine k, its box C): it acts on what is shared, .. -/
def Vis (k : Nat) (K : c.U → Goroutine → World → Prop) (u : c.U) (g : Goroutine) (w : World) : Prop :=
  g.status = .running ∧ ∀ σ, c.Rep σ w → c.Pre u σ → ∃ g' w' es u' σ', stepG P false g w = .go g' w' es ∧ c.Tr u σ u' σ' ∧ c.Rep σ' w' ∧ OnlySB c w w' ∧ (∀ e ∈ es, EvV c k e) ∧ K u' g' w'
/-- .. or has done, and is on its way into the group's Done -/
def DoneW (C : Nat) (g : Goroutine) (w : World) : Prop := ∃ m v, Goes P false (ConcN.RW c.ty c.Wg C 1 0 0) (ConcN.DWs c.Wg E0 E0 C 1 1) (ConcN.AtR0 P c.ty c.Wg C 1 0 1 v) m g w
def StopU (k C : Nat) (K : c.U → Goroutine → World → Prop) (u : c.U) (g : Goroutine) (w : World) : Prop := (c.fin u ∧ g.status = .running ∧ DoneW P c C g w) ∨ (¬ c.fin u ∧ Vis P c k K u g w)
/-- N visible steps long -/
def RunU (k C : Nat) : Nat → c.U → Goroutine → World → Prop
  | 0, _, _, _ => True
  | N + 1, u, g, w => ∃ m, Goes P false (RW c C) (DW c C) (StopU P c k C (RunU k C N) u) m g w
end

section
variable (P : Program) (c : Cfg) (lw : Nat) (Anch Fin : Goroutine → World → Prop)
/-! THE STARTER in Wait, from its end backwards -/
def AtAcq (g : Goroutine) (w : World) : Prop :=
  g.status = .running ∧ ∃ g', stepG P true g w = .go g' w #[mk (.acquire (stA c.Wg))] ∧ g'.status = .running ∧ Fin g' w
def AtKe (g : Goroutine) (w : World) : Prop :=
  g.status = .running ∧ ∃ g', stepG P true g w = .go g' w #[mk .enable] ∧ ∃ m, Goes P true (R0 c lw) (D0 c lw) (AtAcq P c Fin) m g' w
def AtW4 (g : Goroutine) (w : World) : Prop :=
  g.status = .running ∧ (WgAt c.ty c.Wg w 0 0 → ∃ g', stepG P true g w = .go g' w #[rd (stA c.Wg)] ∧ ∃ m, Goes P true (R0 c lw) (D0 c lw) (AtKe P c lw Fin) m g' w)
def AtW3 (g : Goroutine) (w : World) : Prop :=
  g.status = .running ∧ g.offers = none ∧
    ((∃ st, WgAt c.ty c.Wg w st 0) → stepG P true g w = .go { g with status := .blocked } w #[]) ∧
    (WgAt c.ty c.Wg w 0 1 → ∃ g', stepG P true g w = .go g' (w.setCell (smA c.Wg) (.int .u32 0)) (semEvents (smA c.Wg)) ∧ ∃ m, Goes P true (R0 c lw) (D0 c lw) (AtW4 P c lw Fin) m g' (w.setCell (smA c.Wg) (.int .u32 0)))
def AtW2 (vs : Nat) (g : Goroutine) (w : World) : Prop :=
  g.status = .running ∧ ∀ v : Nat, v < 2147483648 → WgAt c.ty c.Wg w (v * KK) 0 →
    (v = vs → ∃ g', stepG P true g w = .go g' (w.setCell (stA c.Wg) (.int .u64 (v * KK + 1))) #[rd (stA c.Wg), wr (stA c.Wg)] ∧ ∃ m, Goes P true (R0 c lw) (D0 c lw) (AtW3 P c lw Fin) m g' (w.setCell (stA c.Wg) (.int .u64 (v * KK + 1)))) ∧
    (v ≠ vs → ∃ g', stepG P true g w = .go g' w #[rd (stA c.Wg)] ∧ ∃ m, Goes P true (R0 c lw) (D0 c lw) Anch m g' w)
def AtW1 (g : Goroutine) (w : World) : Prop :=
  g.status = .running ∧ ∀ v : Nat, v < 2147483648 → WgAt c.ty c.Wg w (v * KK) 0 → ∃ g', stepG P true g w = .go g' w #[rd (stA c.Wg)] ∧
    (v = 0 → ∃ m, Goes P true (R0 c lw) (D0 c lw) (AtKe P c lw Fin) m g' w) ∧ (v ≠ 0 → ∃ m, Goes P true (R0 c lw) (D0 c lw) (AtW2 P c lw Anch Fin v) m g' w)
def AtKd (g : Goroutine) (w : World) : Prop :=
  g.status = .running ∧ ∃ g', stepG P true g w = .go g' w #[mk .disable] ∧ ∃ m, Goes P true (R0 c lw) (D0 c lw) Anch m g' w
end

section
variable (P : Program) (c : Cfg) (Anch : Nat → Goroutine → World → Prop)
/-! .. WHILE IT STARTS THEM: j are started -/
def AtGoS (lw j : Nat) (Next : Nat → Goroutine → World → Prop) (g : Goroutine) (w : World) : Prop :=
  g.status = .running ∧ ∃ g' child C, stepG P true g w = .spawn g' child w #[] ∧ child.status = .running ∧ lw ≤ C ∧ c.H0 ≤ C ∧ Soft w C ∧ (∀ N, RunU P c (c.N0 + j) C N (c.init j) child w) ∧ Next w.heap.size g' w
def AtKeS (lw j : Nat) (Next : Nat → Goroutine → World → Prop) (g : Goroutine) (w : World) : Prop :=
  g.status = .running ∧ ∃ g', stepG P true g w = .go g' w #[mk .enable] ∧ ∃ m, Goes P true (R0 c lw) (D0 c lw) (AtGoS P c lw j Next) m g' w
def AtA1 (lw j : Nat) (Next : Nat → Goroutine → World → Prop) (g : Goroutine) (w : World) : Prop :=
  g.status = .running ∧ ∀ v : Nat, v < 2147483647 → WgAt c.ty c.Wg w (v * KK) 0 →
    ∃ g', stepG P true g w = .go g' (w.setCell (stA c.Wg) (.int .u64 ((v + 1) * KK))) #[rd (stA c.Wg), wr (stA c.Wg)] ∧
      ∃ m, Goes P true (R0 c lw) (D0 c lw) (AtKeS P c lw j Next) m g' (w.setCell (stA c.Wg) (.int .u64 ((v + 1) * KK)))
def AtKdS (lw j : Nat) (Next : Nat → Goroutine → World → Prop) (g : Goroutine) (w : World) : Prop :=
  g.status = .running ∧ ∃ g', stepG P true g w = .go g' w #[mk .disable] ∧ ∃ m, Goes P true (R0 c lw) (D0 c lw) (AtA1 P c lw j Next) m g' w
/-- r workers are still to be started -/
def Spawns : Nat → Nat → Goroutine → World → Prop
  | 0, lw, g, w => ∃ m, Goes P true (R0 c lw) (D0 c lw) (AtKd P c lw (Anch lw)) m g w
  | r + 1, lw, g, w => ∃ m, Goes P true (R0 c lw) (D0 c lw) (AtKdS P c lw (c.n - (r + 1)) (Spawns r)) m g w
end
end Go.Proofs.Ytinghnaigpenkaa
