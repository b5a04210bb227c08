/- Seat 05: all, called: a phase. -/
import Derived.Test.YtinghnaigpenkaaAlC
namespace Go.Proofs.Ytinghnaigpenkaa
open Go.Conc Go.RowKit Go.Conc.Lib Go.ConcR.Gen
open Go.ConcN (WgLive sumTo)
open Go.ConcR (KK wgBlock WgAt stA smA rd wr mk Payload)
set_option linter.unusedVariables false
set_option linter.unusedSimpArgs false
set_option linter.unusedSectionVars false
set_option maxRecDepth 100000
set_option maxHeartbeats 4000000
section
variable {P : Program} {c : Cfg} {lw : Nat} {A A' : Goroutine → World → Prop} {Fin Fin' : Goroutine → World → Prop}
theorem atW1_mono (h : ∀ g w, A g w → A' g w) (g : Goroutine) (w : World) (x : AtW1 P c lw A Fin g w) : AtW1 P c lw A' Fin g w := by
  refine ⟨x.1, fun v hv hw => ?_⟩
  obtain ⟨g', e1, e2, e3⟩ := x.2 v hv hw
  refine ⟨g', e1, e2, fun hn => ?_⟩
  obtain ⟨m, hm⟩ := e3 hn
  refine ⟨m, goes_imp (fun g w y => ⟨y.1, fun v' h1 h2 => ⟨(y.2 v' h1 h2).1, fun hne => ?_⟩⟩) m _ _ hm⟩
  obtain ⟨g2, f1, m2, f2⟩ := (y.2 v' h1 h2).2 hne
  exact ⟨g2, f1, m2, goes_imp h m2 _ _ f2⟩
end
def DE (w w' : World) (es : Array Event) : Prop := w' = w ∧ ∀ e ∈ es, False
theorem goes_track {P : Program} {Sh : Loc → Prop} {Stp : Goroutine → World → Prop} : ∀ (m : Nat) (g : Goroutine) (w : World), Goes P true AtRel DE Stp m g w → GoesW P true AtRel (DP0 Sh) (fun g' w' => Stp g' w' ∧ AtRel w w') g w
  | 0, g, w, h => .stop fun w₁ h₁ => ⟨h w₁ h₁, h₁⟩
  | m + 1, g, w, h => by
    rcases h with h | ⟨hr, h⟩
    · exact .stop fun w₁ h₁ => ⟨h w₁ h₁, h₁⟩
    · refine GoesW.mk' hr fun w₁ h₁ => ?_
      have := h w₁ h₁
      revert this
      cases stepG P true g w₁ <;> simp only [GStep.goes, imp_self]
      rename_i g' w' es
      rintro ⟨⟨rfl, he⟩, y⟩
      exact ⟨fun e hm => (he e hm).elim, (goes_track m _ _ y).mono fun g2 w2 z => ⟨z.1, atRel_trans _ _ _ h₁ z.2⟩⟩
/-- a call of a function that goes across phases, from its plain frame -/
def CallB (P : Program) (Post : Value → World → Prop) (f : FuncId) (args : Array Value) (w : World) (x : XS) (Pos : Value → World → XS → Prop) : Prop :=
  ∃ fn cd, P.funcs[f]? = some fn ∧ (fn.name == "runtime.NumGoroutine") = false ∧ fn.body = some cd ∧ ∀ (c : Frame) (cs : List Frame), (∀ v w' x', Pos v w' x' → Win P Post x' (G (c.finish v) cs) w') →
    Win P Post x (G ((base f).at { tmps := args ++ Array.replicate (fn.ntmps - args.size) undef, defers := [] } [.code cd]) (c :: cs)) w
theorem callB_rely {P : Program} {Post : Value → World → Prop} {f : FuncId} {args : Array Value} {w w₁ : World} {x : XS} {Pos : Value → World → XS → Prop} (hr : AtRel w w₁) (h : CallB P Post f args w x Pos) : CallB P Post f args w₁ x Pos := by
  obtain ⟨fn, cd, h1, h2, h3, h4⟩ := h
  exact ⟨fn, cd, h1, h2, h3, fun c cs hc => (h4 c cs hc).rely hr⟩
theorem opsX_callB {P : Program} {Post : Value → World → Prop} {fn : FuncId} {Q : Exit → Act → World → XS → Prop} {a : Act} {w : World} {x : XS} {ops : Array Oper} {i : Nat} {rest : List Nat} {o : Oper} {f : FuncId} {args : Array Operand} {ats : Array TypeId} {Pos : Value → World → XS → Prop}
    (ho : ops[i]? = some o) (hw : Region.wanted o (yielded ops a.tmps) = true) (hop : o.op = .call { callee := .value (.func f), args, argTypes := ats })
    (hcall : CallB P Post f (args.map a.eval) w x Pos) (hnext : ∀ v w' x', Pos v w' x' → OpsX P Post fn ops rest Q (a.put o.dst v) w' x') : OpsX P Post fn ops (i :: rest) Q a w x := by
  intro b k cs hb hk hc
  obtain ⟨fnn, cd, hf, hname, hbody, hwp⟩ := hcall
  have hfin : ∀ v w' x', Pos v w' x' → Win P Post x' (G ((b.at a (.inRegion ops (i :: rest) :: k)).finish v) cs) w' := fun v w' x' hp => by
    have e : (b.at a (.inRegion ops (i :: rest) :: k)).finish v = b.at (a.put o.dst v) (.inRegion ops rest :: k) := by rw [Frame.finish_at, ho]; rfl
    rw [e]
    exact hnext v w' x' hp b k cs hb hk hc
  exact win_mk rfl fun w₁ h₁ => goes_call ho hw hk hop hf hname hbody ⟨dpX_nil, (hwp _ cs hfin).rely h₁⟩
/-- behind Wait -/
noncomputable def gWA (c : Cfg) (doB : Nat) (fv : Value) (kk : List Item) (cs : List Frame) (v2 v5 v8 v9 v10 v11 v12 v13 : Value) : Goroutine :=
  G ((base 32).at (act32 c doB fv c.n v2 v5 v8 v9 v10 v11 v12 v13) (.inRegion ops9 [] :: kk)) cs
def FinA (c : Cfg) (w0 : World) (doB : Nat) (fv : Value) (kk : List Item) (cs : List Frame) (g : Goroutine) (w : World) : Prop :=
  ∃ lw m, AlF c w0 lw w ∧ Goes Try.prog true AtRel DE (fun g' w' => ∃ v2 v5 v8 v9 v10 v11 v12 v13, g' = gWA c doB fv kk cs v2 v5 v8 v9 v10 v11 v12 v13) m g w
theorem dst9 : ops9[0]?.bind (·.dst) = some 13 := by unfold ops9 rest32; simp only [Try.f32, Option.getD_some]; try rfl
theorem waitA {c : Cfg} {w0 : World} {doB : Nat} {fv : Value} (k : AlSt c w0 doB fv) {kk : List Item} {cs : List Frame} (lw : Nat) (g : Goroutine) (w : World) (h : AnchA c w0 doB fv kk cs lw g w) :
    ∃ m, Goes Try.prog true (R0 c lw) (D0 c lw) (AtW1 Try.prog c lw (AnchA c w0 doB fv kk cs lw) (FinA c w0 doB fv kk cs)) m g w := by
  have K := k.K
  obtain ⟨v2, v5, v8, v9, v10, v11, v12, v13, h⟩ := h
  have hW := waitRound (F := AlF c w0) (DA := DE) (Stp := fun g' w' => ∃ v2 v5 v8 v9 v10 v11 v12 v13, g' = gWA c doB fv kk cs v2 v5 v8 v9 v10 v11 v12 v13) (Fin := FinA c w0 doB fv kk cs) (mT := 0) wgLib K k.K.hn (fun w w' r h => h.rely r) (fun w a v ha h => h.setWg a v ha) (fun w es he => ⟨rfl, he⟩) (fun g w hf hl m hg => ⟨lw, m, hf, hg⟩) (fun w hf hl w₁ h₁ => by
    rw [dst9]
    exact ⟨_, _, _, _, _, _, _, _, rfl⟩) g w h
  obtain ⟨m, hm⟩ := hW
  exact ⟨m, goes_imp (atW1_mono fun g w h => ⟨_, _, _, _, _, _, _, _, h⟩) m _ _ hm⟩
theorem anchA_run {c : Cfg} {w0 : World} {doB : Nat} {fv : Value} {kk : List Item} {cs : List Frame} (lw : Nat) (g : Goroutine) (w : World) (h : AnchA c w0 doB fv kk cs lw g w) : g.status = .running := by
  obtain ⟨v2, v5, v8, v9, v10, v11, v12, v13, T, rfl, _⟩ := h
  rfl
/-- ████ the phase of all ████ -/
theorem allPh {Post : Value → World → Prop} {c : Cfg} {w0 : World} {doB : Nat} {fv : Value} (k : AlSt c w0 doB fv) {kk : List Item} {cs : List Frame} {w : World} {x : XS} {σ : c.S} {us : Nat → c.U} (hx : x.n = c.N0) (hd : x.d = 0) (hS : ∀ l, x.S l → c.sh l) (hH0 : c.H0 ≤ w.heap.size)
    (hF : AlF c w0 w.heap.size w) (hwg : WgAt c.ty c.Wg w 0 0) (hrep : c.Rep σ w) (hju : c.JU σ us 0)
    (hend : ∀ (w' : World) (σ : c.S) (us : Nat → c.U) (v2 v5 v8 v9 v10 v11 v12 v13 : Value), (∃ lw, AlF c w0 lw w') → c.Rep σ w' → c.JU σ us c.n → (∀ i, i < c.n → c.fin (us i)) →
      Win Try.prog Post ⟨c.sh, c.N0 + c.n, 0⟩ (G ((base 32).at (act32 c doB fv c.n v2 v5 v8 v9 v10 v11 v12 v13) kk) cs) w')
    (v2 v5 v8 v9 v10 v11 v12 v13 : Value) :
    Win Try.prog Post x (G ((base 32).at (act32 c doB fv 0 v2 v5 v8 v9 v10 v11 v12 v13) (.code blk32 :: .inLoop blk32 :: .inBlock 0 :: .code rest32 :: kk)) cs) w := by
  have K := k.K
  refine win_phase (c := c) (Fin := FinA c w0 doB fv kk cs) (σ := σ) (us := us) hd K hS anchA_run (fun lw g w h => waitA k lw g w h) hx hH0 (fun w₁ h₁ => ?_) (Nat.le_refl _) hwg hrep hju ?_
  · obtain ⟨d, rfl⟩ := h₁
    exact spawns32 k (kk := kk) (cs := cs) c.n 0 w.heap.size (w.at d) v2 v5 v8 v9 v10 v11 v12 v13 (by omega) ⟨hF.rely (R0.at K w d), ⟨0, 0, hwg⟩⟩
  · intro a' w' σ' us' hr hfin h0 hw hrp hju hdone
    obtain ⟨lw, m, hf, hg⟩ := hfin
    refine win_of ((goes_track m _ _ hg).mono ?_)
    rintro g2 w2 ⟨⟨v2, v5, v8, v9, v10, v11, v12, v13, rfl⟩, hat⟩
    refine Win.rely ?_ hat
    refine win_mk rfl fun w₁ h₁ => ?_
    unfold gWA
    rw [stepG_region_end]
    refine ⟨fun e he => by simp at he, ?_⟩
    obtain ⟨d, rfl⟩ := h₁
    exact hend _ σ' us' _ _ _ _ _ _ _ _ ⟨lw, hf.rely (R0.at K _ d)⟩ (rep_at K hrp d) hju hdone
end Go.Proofs.Ytinghnaigpenkaa
