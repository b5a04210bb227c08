/- A call of a closure's value; a function that leaves with deferred calls: beside others, across phases; by a worker. -/
import Derived.Test.YtinghnaigpenkaaZSkX
import Derived.Test.YtinghnaigpenkaaZPhV
import Derived.Conc.DeferLaws
namespace Go.Proofs.Ytinghnaigpenkaa
open Go.Conc
set_option linter.unusedVariables false
set_option linter.unusedSimpArgs false
set_option linter.unusedSectionVars false
section
variable {P : Program} {main : Bool} {b : Frame} {a : Act} {k : List Item} {cs : List Frame} {w : World} {ops : Array Oper} {i : Nat} {rest : List Nat} {o : Oper} {xx : Operand} {args : Array Operand} {ats : Array TypeId} {g : FuncId} {fn : Func} {fst cap : Array Value}
theorem run_callV (hop : o.op = .call { callee := .value xx, args, argTypes := ats }) (hx : a.eval xx = .func (.func g) fst cap) (hf : P.funcs[g]? = some fn) (hname : (fn.name == "runtime.NumGoroutine") = false) (hb : fn.body.isNone = false) :
    (execOp a.eval o).run P w = .ok (.enter g (fst ++ args.map a.eval ++ cap)) w := by
  have h1 : ¬ fn.name = "runtime.NumGoroutine" := by simpa using hname
  have hb2 : ¬ fn.body = none := fun e => by rw [e] at hb; cases hb
  unfold execOp
  simp [hop, resolve, Deferred.ofValue, hx, invoke, callFunc, hf, h1, hb2]
theorem events_callV (hop : o.op = .call { callee := .value xx, args, argTypes := ats }) (hx : a.eval xx = .func (.func g) fst cap) (hf : P.funcs[g]? = some fn) (hname : (fn.name == "runtime.NumGoroutine") = false) (hb : fn.body.isNone = false) :
    (execOp a.eval o).events P w #[] = #[] := by
  have h1 : ¬ fn.name = "runtime.NumGoroutine" := by simpa using hname
  have hb2 : ¬ fn.body = none := fun e => by rw [e] at hb; cases hb
  unfold execOp
  simp [hop, resolve, Deferred.ofValue, hx, invoke, callFunc, hf, h1, hb2]
theorem goes_callV {c : Code} {K : Goroutine → World → Array Event → Prop} (ho : ops[i]? = some o) (hw : Region.wanted o (yielded ops a.tmps) = true) (hk : b.kind ≠ .early) (hop : o.op = .call { callee := .value xx, args, argTypes := ats }) (hx : a.eval xx = .func (.func g) fst cap)
    (hf : P.funcs[g]? = some fn) (hname : (fn.name == "runtime.NumGoroutine") = false) (hb : fn.body = some c)
    (h : K (G ((base g).at { tmps := (fst ++ args.map a.eval ++ cap) ++ Array.replicate (fn.ntmps - (fst ++ args.map a.eval ++ cap).size) undef, defers := [] } [.code c]) (b.at a (.inRegion ops (i :: rest) :: k) :: cs)) w #[]) :
    (stepG P main (G (b.at a (.inRegion ops (i :: rest) :: k)) cs) w).goes K := by
  have hb' : fn.body.isNone = false := by rw [hb]; rfl
  rw [stepG_enter ho hw hk (run_callV hop hx hf hname hb'), enter_at _ hf hb]
  have : listed P b.fn a o w = #[] := by unfold listed; rw [events_callV hop hx hf hname hb']; exact seen_none P _
  rw [this]
  exact h
end

/-! ### across phases -/
def DefX (P : Program) (Post : Value → World → Prop) (fn : Func) (tmps : Array Value) (Pos : Value → World → XS → Prop) : List (FuncId × Array Value) → World → XS → Prop
  | [], w, x => ∃ v, ResultsC P fn tmps v ∧ Pos v w x
  | (f, args) :: ds, w, x => CallX P Post f args w x fun _ w' x' => DefX P Post fn tmps Pos ds w' x'
/-- the body of a function that may defer -/
def bodyPostX (P : Program) (Post : Value → World → Prop) (fn : Func) (Pos : Value → World → XS → Prop) (e : Exit) (a : Act) (w : World) (x : XS) : Prop :=
  (e = .normal ∨ e = .ret) ∧ ∃ ds : List (FuncId × Array Value), a.defers = ds.map (fun y => dcall y.1 y.2) ∧ DefX P Post fn a.tmps Pos ds w x
def CallE (P : Program) (Post : Value → World → Prop) (f : FuncId) (args : Array Value) (w : World) (x : XS) (Pos : Value → World → XS → Prop) : Prop :=
  ∃ fn cd, P.funcs[f]? = some fn ∧ (fn.name == "runtime.NumGoroutine") = false ∧ fn.body = some cd ∧ CodeX P Post f cd (bodyPostX P Post fn Pos) { tmps := args ++ Array.replicate (fn.ntmps - args.size) undef, defers := [] } w x
section
variable {P : Program} {Post : Value → World → Prop} {fn : FuncId} {Q : Exit → Act → World → XS → Prop} {a : Act} {w : World} {x : XS}
theorem dpX_nil {S : Loc → Prop} {w w' : World} : DP0 S w w' #[] := fun e he => by simp at he
/-- the deferred calls run, the frame leaves -/
theorem unwindX {f : FuncId} {fnn : Func} (hf : P.funcs[f]? = some fnn) {Pos : Value → World → XS → Prop} {c : Frame} {cs : List Frame} (tmps : Array Value) (todo : List Item) (hfin : ∀ v w x, Pos v w x → Win P Post x (G (c.finish v) cs) w) :
    ∀ (ds : List (FuncId × Array Value)) (w : World) (x : XS), DefX P Post fnn tmps Pos ds w x → Win P Post x (G { (base f).at ⟨tmps, ds.map (fun y => dcall y.1 y.2)⟩ todo with mode := .returning } (c :: cs)) w
  | [], w, x, ⟨v, hr, hp⟩ => win_mk rfl fun w₁ h₁ => by
    rw [stepG_leave (b := base f) rfl rfl hf (hr w₁).1 (hr w₁).2]
    exact ⟨dpX_nil, (hfin v w x hp).rely h₁⟩
  | (g, args) :: ds, w, x, h => by
    obtain ⟨fg, cd, hg, hname, hbody, hwp⟩ := h
    have hret : ∀ (a' : Act) (w' : World) (x' : XS) (todo' : List Item), (a'.defers = [] ∧ ∃ v, ResultsC P fg a'.tmps v ∧ DefX P Post fnn tmps Pos ds w' x') →
        Win P Post x' (G { (baseD g).at a' todo' with mode := .returning } ({ (base f).at ⟨tmps, ds.map (fun y => dcall y.1 y.2)⟩ todo with mode := .returning } :: c :: cs)) w' := by
      rintro a' w' x' todo' ⟨hd, v, hr, hp⟩
      refine win_mk rfl fun w₁ h₁ => ?_
      rw [stepG_leave_deferred (b := baseD g) rfl hd hg (hr w₁).1 (hr w₁).2 rfl]
      exact ⟨dpX_nil, (unwindX hf tmps todo hfin ds w' x' hp).rely h₁⟩
    refine win_mk rfl fun w₁ h₁ => ?_
    rw [stepG_unwind_enter (b := base f) (a := ⟨tmps, ((g, args) :: ds).map (fun y => dcall y.1 y.2)⟩) (ds := ds.map (fun y => dcall y.1 y.2)) rfl hg hname hbody]
    refine ⟨dpX_nil, Win.rely (hwp (baseD g) [] _ rfl (by simp [baseD]) fun e a' w' x' q => ?_) h₁⟩
    cases e with
    | normal => exact win_mk rfl fun w₂ h₂ => by rw [stepG_end]; exact ⟨dpX_nil, (hret a' w' x' [] q).rely h₂⟩
    | ret => exact fun todo' => hret a' w' x' todo' q
    | exit id => exact q.elim
    | goto l => exact q.elim
    | panic ch => exact q.elim
    | outgrown => exact q.elim
theorem bodyE {f : FuncId} {fnn : Func} {cd : Code} (hf : P.funcs[f]? = some fnn) {Pos : Value → World → XS → Prop} {c : Frame} {cs : List Frame} (hfin : ∀ v w x, Pos v w x → Win P Post x (G (c.finish v) cs) w)
    {a₀ : Act} (h : CodeX P Post f cd (bodyPostX P Post fnn Pos) a₀ w x) : Win P Post x (G ((base f).at a₀ [.code cd]) (c :: cs)) w := by
  refine h (base f) [] _ rfl (kind_base f) fun e a' w' x' q => ?_
  obtain ⟨he, ds, hd, hq⟩ := q
  obtain ⟨tm, df⟩ := a'
  simp only at hd hq
  subst hd
  rcases he with rfl | rfl
  · exact win_mk rfl fun w₂ h₂ => by rw [stepG_end]; exact ⟨dpX_nil, (unwindX hf tm [] hfin ds w' x' hq).rely h₂⟩
  · exact fun todo => unwindX hf tm todo hfin ds w' x' hq
theorem opsX_callE {ops : Array Oper} {i : Nat} {rest : List Nat} {o : Oper} {f : FuncId} {args : Array Operand} {ats : Array TypeId} {Pos : Value → World → XS → Prop}
    (ho : ops[i]? = some o) (hw : Region.wanted o (yielded ops a.tmps) = true) (hop : o.op = .call { callee := .value (.func f), args, argTypes := ats })
    (hcall : CallE P Post f (args.map a.eval) w x Pos) (hnext : ∀ v w' x', Pos v w' x' → OpsX P Post fn ops rest Q (a.put o.dst v) w' x') : OpsX P Post fn ops (i :: rest) Q a w x := by
  intro b k cs hb hk hc
  obtain ⟨fnn, cd, hf, hname, hbody, hwp⟩ := hcall
  have hfin : ∀ v w' x', Pos v w' x' → Win P Post x' (G ((b.at a (.inRegion ops (i :: rest) :: k)).finish v) cs) w' := fun v w' x' hp => by
    have e : (b.at a (.inRegion ops (i :: rest) :: k)).finish v = b.at (a.put o.dst v) (.inRegion ops rest :: k) := by rw [Frame.finish_at, ho]; rfl
    rw [e]
    exact hnext v w' x' hp b k cs hb hk hc
  exact win_mk rfl fun w₁ h₁ => goes_call ho hw hk hop hf hname hbody ⟨dpX_nil, (bodyE hf hfin hwp).rely h₁⟩
/-- a call of a closure's value -/
theorem opsX_callV {ops : Array Oper} {i : Nat} {rest : List Nat} {o : Oper} {xx : Operand} {g : FuncId} {fst cap : Array Value} {args : Array Operand} {ats : Array TypeId} {Pos : Value → World → XS → Prop}
    (ho : ops[i]? = some o) (hw : Region.wanted o (yielded ops a.tmps) = true) (hop : o.op = .call { callee := .value xx, args, argTypes := ats }) (hx : a.eval xx = .func (.func g) fst cap)
    (hcall : CallX P Post g (fst ++ args.map a.eval ++ cap) w x Pos) (hnext : ∀ v w' x', Pos v w' x' → OpsX P Post fn ops rest Q (a.put o.dst v) w' x') : OpsX P Post fn ops (i :: rest) Q a w x := by
  intro b k cs hb hk hc
  obtain ⟨fnn, cd, hf, hname, hbody, hwp⟩ := hcall
  have hfin : ∀ v w' x', Pos v w' x' → Win P Post x' (G ((b.at a (.inRegion ops (i :: rest) :: k)).finish v) cs) w' := fun v w' x' hp => by
    have e : (b.at a (.inRegion ops (i :: rest) :: k)).finish v = b.at (a.put o.dst v) (.inRegion ops rest :: k) := by rw [Frame.finish_at, ho]; rfl
    rw [e]
    exact hnext v w' x' hp b k cs hb hk hc
  refine win_mk rfl fun w₁ h₁ => goes_callV ho hw hk hop hx hf hname hbody ⟨dpX_nil, Win.rely (bodyE hf hfin (codeX_mono hwp fun e a w x q => ?_)) h₁⟩
  cases e with
  | normal => exact ⟨.inl rfl, [], q.1, q.2⟩
  | ret => exact ⟨.inr rfl, [], q.1, q.2⟩
  | exit id => exact q.elim
  | goto l => exact q.elim
  | panic ch => exact q.elim
  | outgrown => exact q.elim
end

/-! ### by a worker -/
section
variable [Go.ConcR.Payload] {P : Program} {c : Cfg} {k C : Nat} {fn : FuncId} {N : Nat} {u : c.U} {Q : Nat → c.U → Exit → Act → World → Prop} {a : Act} {w : World}
theorem opsV_callV {ops : Array Oper} {i : Nat} {rest : List Nat} {o : Oper} {xx : Operand} {g : FuncId} {fst cap : Array Value} {args : Array Operand} {ats : Array TypeId} {nf n : Nat} {Post : Nat → c.U → Value → World → Prop}
    (ho : ops[i]? = some o) (hw : Region.wanted o (yielded ops a.tmps) = true) (hop : o.op = .call { callee := .value xx, args, argTypes := ats }) (hx : a.eval xx = .func (.func g) fst cap)
    (hcall : CallsV P c k C g (fst ++ args.map a.eval ++ cap) nf N u w Post) (hnext : ∀ N' u' v w', Post N' u' v w' → OpsV P c k C fn ops rest n N' u' Q (a.put o.dst v) w') : OpsV P c k C fn ops (i :: rest) (n + nf + 3) N u Q a w := by
  intro b kk cs m hb hk hc
  obtain ⟨fnn, cd, hf, hname, hbody, hwp⟩ := hcall
  have hfin : ∀ v, (b.at a (.inRegion ops (i :: rest) :: kk)).finish v = b.at (a.put o.dst v) (.inRegion ops rest :: kk) := fun v => by rw [Frame.finish_at, ho]; rfl
  have hleave : ∀ (N' : Nat) (u' : c.U) (a' : Act) (w' : World) (todo : List Item), (a'.defers = [] ∧ ∃ v, ResultsC P fnn a'.tmps v ∧ Post N' u' v w') →
      GV P c k C N' u' (m + n + 1) (G { (base g).at a' todo with mode := .returning } (b.at a (.inRegion ops (i :: rest) :: kk) :: cs)) w' := by
    rintro N' u' a' w' todo ⟨hd, v, hr, hp⟩
    refine Goes.step rfl fun w₁ h₁ => ?_
    rw [stepG_leave (b := base g) rfl hd hf (hr w₁).1 (hr w₁).2, hfin]
    exact ⟨(termsW c C).idle _, (hnext N' u' v w' hp b kk cs m hb hk hc).rely h₁⟩
  have hbodyG : GV P c k C N u (m + n + 2 + nf) (G ((base g).at { tmps := (fst ++ args.map a.eval ++ cap) ++ Array.replicate (fnn.ntmps - (fst ++ args.map a.eval ++ cap).size) undef, defers := [] } [.code cd]) (b.at a (.inRegion ops (i :: rest) :: kk) :: cs)) w := by
    refine hwp (base g) [] _ (m + n + 2) rfl (by simp [base]) fun N' u' e a' w' q => ?_
    cases e with
    | normal => exact Goes.step rfl fun w₁ h₁ => by rw [stepG_end]; exact ⟨(termsW c C).idle _, (hleave N' u' a' w' [] q).rely h₁⟩
    | ret => exact fun todo => (hleave N' u' a' w' todo q).more
    | exit id => exact q.elim
    | goto l => exact q.elim
    | panic ch => exact q.elim
    | outgrown => exact q.elim
  have e : m + (n + nf + 3) = (m + n + 2 + nf) + 1 := by omega
  rw [e]
  exact Goes.step rfl fun w₁ h₁ => goes_callV ho hw hk hop hx hf hname hbody ⟨(termsW c C).idle _, hbodyG.rely h₁⟩
end
end Go.Proofs.Ytinghnaigpenkaa
