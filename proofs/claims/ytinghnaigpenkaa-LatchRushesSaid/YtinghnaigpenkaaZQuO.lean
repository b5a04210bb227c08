/- Seat 05: a slice of uint64, opened; from the judgement across phases to one good run (LatchRushes). -/
import Derived.Test.YtinghnaigpenkaaZQuH
import Derived.WalkKit
import Derived.WideShapes
import Derived.Deep.Slices
import Derived.Deep.Fields
namespace Go.Proofs.Ytinghnaigpenkaa
open Go.ChangeShapes Go.WideShapes Go.RowKit Go.Deep Go.Conc
set_option linter.unusedSimpArgs false
set_option linter.unusedVariables false
set_option maxHeartbeats 8000000
set_option maxRecDepth 100000
theorem stepG_ended {P : Program} {f : FuncId} {fn : Func} {a : Act} {todo : List Item} {v : Value} {w : World} (hI : P.inits.idxOf? f = none) (hd : a.defers = []) (hf : P.funcs[f]? = some fn) (hr : (results fn a.tmps).run P w = .ok v w) (he : (results fn a.tmps).events P w #[] = #[]) :
    stepG P true (G { (base f).at a todo with mode := .returning } []) w = .ended (.done v) w #[] := by
  simp [G, stepG, unwind, doReturn, Frame.at, base, hd, hf, hr, he, seen, GStep.after, hI]
theorem solo_runs {P : Program} {Post : Value → World → Prop} {f : FuncId} {args : Array Value} {w : World} (hI : P.inits.idxOf? f = none) (hP : ∀ v w w₁, AtRel w w₁ → Post v w → Post v w₁)
    (h : CallX P Post f args w ⟨fun _ => False, 1, 0⟩ (fun v w' x' => Post v w' ∧ x'.d = 0)) :
    ∃ N last o w' t', runNT P (N + 1) (solo (G (Frame.enter P f args .normal) []) w) #[] = (.ended o w', t') ∧ runN P N (solo (G (Frame.enter P f args .normal) []) w) = .next last ∧ step P last = .ended o w' ∧ Go.Conc.Good P Post last o w' t' := by
  obtain ⟨fn, cd, hf, hname, hb, hw⟩ := h
  have hend : ∀ (a : Act) (w : World) (x : XS) (todo : List Item), (a.defers = [] ∧ ∃ v, ResultsC P fn a.tmps v ∧ Post v w ∧ x.d = 0) → Win P Post x (G { (base f).at a todo with mode := .returning } []) w := by
    rintro a w x todo ⟨hd, v, hr, hp, hx⟩
    exact win_end hx (.stop fun w₁ h₁ => ⟨rfl, v, #[], stepG_ended hI hd hf (hr w₁).1 (hr w₁).2, fun e he => by simp at he, hP _ _ _ h₁ hp⟩)
  have hwin : Win P Post ⟨fun _ => False, 1, 0⟩ (G (Frame.enter P f args .normal) []) w := by
    rw [enter_at args hf hb]
    refine hw (base f) [] [] rfl (kind_base f) fun e a w' x q => ?_
    cases e with
    | normal => exact win_mk rfl fun w₁ h₁ => by rw [stepG_end]; exact ⟨fun e he => by simp at he, (hend a w' x [] q).rely h₁⟩
    | ret => exact fun todo => hend a w' x todo q
    | exit id => exact q.elim
    | goto l => exact q.elim
    | panic ch => exact q.elim
    | outgrown => exact q.elim
  have hF := frm_one P (G (Frame.enter P f args .normal) [])
  exact hwin w (atRel_refl w) #[_] none #[] (fun _ => 0) rfl rfl ⟨hF.L, hF.S.sub (fun l h => h.elim), hF.B⟩
end Go.Proofs.Ytinghnaigpenkaa
