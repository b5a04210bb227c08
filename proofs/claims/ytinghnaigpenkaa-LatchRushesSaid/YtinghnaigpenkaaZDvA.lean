/- A function that leaves with deferred calls, called by a worker. -/
import Derived.Test.YtinghnaigpenkaaZClA
namespace Go.Proofs.Ytinghnaigpenkaa
open Go.Conc
open Go.ConcR (Payload)
set_option linter.unusedVariables false
set_option linter.unusedSimpArgs false
set_option linter.unusedSectionVars false
section
variable [Payload] (P : Program) (c : Cfg) (k C : Nat)
def DefV (fn : Func) (tmps : Array Value) (Post : Nat → c.U → Value → World → Prop) : List (FuncId × Array Value) → Nat → Nat → c.U → World → Prop
  | [], _, N, u, w => ∃ v, ResultsC P fn tmps v ∧ Post N u v w
  | (f, args) :: ds, n, N, u, w => ∃ n1 n2, n1 + n2 + 4 ≤ n ∧ CallsV P c k C f args n1 N u w fun N' u' _ w' => DefV fn tmps Post ds n2 N' u' w'
/-- the body of a function that may defer; nd: the deferred calls' steps -/
def bodyPostEV (fn : Func) (nd : Nat) (Post : Nat → c.U → Value → World → Prop) (N : Nat) (u : c.U) (e : Exit) (a : Act) (w : World) : Prop :=
  (e = .normal ∨ e = .ret) ∧ ∃ ds : List (FuncId × Array Value), a.defers = ds.map (fun y => dcall y.1 y.2) ∧ DefV P c k C fn a.tmps Post ds nd N u w
def CallsEV (f : FuncId) (args : Array Value) (n nd N : Nat) (u : c.U) (w : World) (Post : Nat → c.U → Value → World → Prop) : Prop :=
  ∃ fn cd, P.funcs[f]? = some fn ∧ (fn.name == "runtime.NumGoroutine") = false ∧ fn.body = some cd ∧
    CodeV P c k C f cd n N u (bodyPostEV P c k C fn nd Post) { tmps := args ++ Array.replicate (fn.ntmps - args.size) undef, defers := [] } w
end
section
variable [Payload] {P : Program} {c : Cfg} {k C : Nat} {fn : FuncId} {N : Nat} {u : c.U} {Q : Nat → c.U → Exit → Act → World → Prop} {a : Act} {w : World}
theorem unwindV {f : FuncId} {fnn : Func} (hf : P.funcs[f]? = some fnn) {Post : Nat → c.U → Value → World → Prop} {b : Frame} {cs : List Frame} {m : Nat} (tmps : Array Value) (todo : List Item) (hfin : ∀ N u v w, Post N u v w → GV P c k C N u m (G (b.finish v) cs) w) :
    ∀ (ds : List (FuncId × Array Value)) (n N : Nat) (u : c.U) (w : World), DefV P c k C fnn tmps Post ds n N u w → GV P c k C N u (m + n + 1) (G { (base f).at ⟨tmps, ds.map (fun y => dcall y.1 y.2)⟩ todo with mode := .returning } (b :: cs)) w
  | [], n, N, u, w, ⟨v, hr, hp⟩ => GV.mono (m := m + 1) (Goes.step rfl fun w₁ h₁ => by
    rw [stepG_leave (b := base f) rfl rfl hf (hr w₁).1 (hr w₁).2]
    exact ⟨(termsW c C).idle _, (hfin N u v w hp).rely h₁⟩) (by omega)
  | (g, args) :: ds, n, N, u, w, ⟨n1, n2, hn, h⟩ => by
    obtain ⟨fg, cd, hg, hname, hbody, hwp⟩ := h
    have hret : ∀ (N' : Nat) (u' : c.U) (a' : Act) (w' : World) (todo' : List Item), (a'.defers = [] ∧ ∃ v, ResultsC P fg a'.tmps v ∧ DefV P c k C fnn tmps Post ds n2 N' u' w') →
        GV P c k C N' u' (m + n2 + 2) (G { (baseD g).at a' todo' with mode := .returning } ({ (base f).at ⟨tmps, ds.map (fun y => dcall y.1 y.2)⟩ todo with mode := .returning } :: b :: cs)) w' := by
      rintro N' u' a' w' todo' ⟨hd, v, hr, hp⟩
      refine Goes.step rfl fun w₁ h₁ => ?_
      rw [stepG_leave_deferred (b := baseD g) rfl hd hg (hr w₁).1 (hr w₁).2 rfl]
      exact ⟨(termsW c C).idle _, (unwindV hf tmps todo hfin ds n2 N' u' w' hp).rely h₁⟩
    refine GV.mono (m := (m + n2 + 3 + n1) + 1) (Goes.step rfl fun w₁ h₁ => ?_) (by omega)
    rw [stepG_unwind_enter (b := base f) (a := ⟨tmps, ((g, args) :: ds).map (fun y => dcall y.1 y.2)⟩) (ds := ds.map (fun y => dcall y.1 y.2)) rfl hg hname hbody]
    refine ⟨(termsW c C).idle _, GV.rely (hwp (baseD g) [] _ (m + n2 + 3) rfl (by simp [baseD]) fun N' u' e a' w' q => ?_) h₁⟩
    cases e with
    | normal => exact Goes.step rfl fun w₂ h₂ => by rw [stepG_end]; exact ⟨(termsW c C).idle _, (hret N' u' a' w' [] q).rely h₂⟩
    | ret => exact fun todo' => (hret N' u' a' w' todo' q).mono (by omega)
    | exit id => exact q.elim
    | goto l => exact q.elim
    | panic ch => exact q.elim
    | outgrown => exact q.elim
theorem opsV_callE {ops : Array Oper} {i : Nat} {rest : List Nat} {o : Oper} {f : FuncId} {args : Array Operand} {ats : Array TypeId} {nf nd n : Nat} {Post : Nat → c.U → Value → World → Prop}
    (ho : ops[i]? = some o) (hw : Region.wanted o (yielded ops a.tmps) = true) (hop : o.op = .call { callee := .value (.func f), args, argTypes := ats })
    (hcall : CallsEV P c k C f (args.map a.eval) nf nd N u w Post) (hnext : ∀ N' u' v w', Post N' u' v w' → OpsV P c k C fn ops rest n N' u' Q (a.put o.dst v) w') : OpsV P c k C fn ops (i :: rest) (n + nf + nd + 4) N u Q a w := by
  intro b kk cs m hb hk hc
  obtain ⟨fnn, cd, hf, hname, hbody, hwp⟩ := hcall
  have hfin : ∀ N' u' v w', Post N' u' v w' → GV P c k C N' u' (m + n) (G ((b.at a (.inRegion ops (i :: rest) :: kk)).finish v) cs) w' := fun N' u' v w' hp => by
    have e : (b.at a (.inRegion ops (i :: rest) :: kk)).finish v = b.at (a.put o.dst v) (.inRegion ops rest :: kk) := by rw [Frame.finish_at, ho]; rfl
    rw [e]
    exact hnext N' u' v w' hp b kk cs m hb hk hc
  have hbodyG : GV P c k C N u (m + n + nd + 2 + nf) (G ((base f).at { tmps := args.map a.eval ++ Array.replicate (fnn.ntmps - (args.map a.eval).size) undef, defers := [] } [.code cd]) (b.at a (.inRegion ops (i :: rest) :: kk) :: cs)) w := by
    refine hwp (base f) [] _ (m + n + nd + 2) rfl (by simp [base]) fun N' u' e a' w' q => ?_
    obtain ⟨he, ds, hd, hq⟩ := q
    obtain ⟨tm, df⟩ := a'
    simp only at hd hq
    subst hd
    rcases he with rfl | rfl
    · exact Goes.step rfl fun w₁ h₁ => by rw [stepG_end]; exact ⟨(termsW c C).idle _, (unwindV hf tm [] hfin ds nd N' u' w' hq).rely h₁⟩
    · exact fun todo => (unwindV hf tm todo hfin ds nd N' u' w' hq).mono (by omega)
  have e : m + (n + nf + nd + 4) = (m + n + nd + 2 + nf + 1) + 1 := by omega
  rw [e]
  exact Goes.step rfl fun w₁ h₁ => goes_call ho hw hk hop hf hname hbody ⟨(termsW c C).idle _, (hbodyG.rely h₁).mono (by omega)⟩
end
end Go.Proofs.Ytinghnaigpenkaa
