/- Seat 05: a slice of uint64, opened; from the judgement across phases to one good run (LatchRaces). -/
import Derived.Test.YtinghnaigpenkaaZRaI
import Derived.WalkKit
import Derived.WideShapes
import Derived.Deep.Slices
import Derived.Deep.Fields
namespace Go.Proofs.Ytinghnaigpenkaa
open Go.ChangeShapes Go.WideShapes Go.RowKit Go.Deep Go.Conc
set_option linter.unusedSimpArgs false
set_option linter.unusedVariables false
set_option maxHeartbeats 8000000
set_option maxRecDepth 100000
theorem add_none9 (b o i : Nat) : (⟨b, o, none⟩ : Addr).add i = ⟨b, o + i, none⟩ := by simp [Addr.add]
theorem add_zero9 {a : Addr} : a.add 0 = a := by obtain ⟨b, o, s⟩ := a; cases s <;> simp [Addr.add]
theorem open_u64s {H : Type} {enc : TypeId × Value → H} {w : World} {base : Nat} {v : Value} {d : DataW H} {p : List MemPlace} (hv : Value.okWide Try.prog w .any base 44 v) (h : DataW.Trod enc Try.prog w 0 (fun _ => true) true 44 v d p) :
    ∃ (L : List Int) (pA : Option Addr) (pd po pc : Nat), v = .slice pA L.length pc ∧ (0 < L.length → pA = some ⟨pd, po, none⟩) ∧ ∀ q z, L[q]? = some z → w.cell? ⟨pd, po + q, none⟩ = some (.int .u64 z) := by
  obtain ⟨a0, len0, cap0, rfl⟩ := okWide_slice Try.underlying44 hv
  obtain ⟨fuel, hf⟩ := h
  rcases open_slice Try.underlying44 hf with ⟨hcs, _⟩ | ⟨a, len, cap, m, n, D, Pl, hcs, hb, hl, hm, hmm, hx, hi⟩
  · simp [Value.cells] at hcs
    obtain ⟨rfl, rfl, rfl⟩ := hcs
    exact ⟨[], none, 0, 0, 0, rfl, by simp, fun q z hq => by simp at hq⟩
  · simp [Value.cells] at hcs
    obtain ⟨rfl, rfl, rfl⟩ := hcs
    simp only [if_true] at hmm
    subst hmm
    have key : ∀ q, q < len0 → ∃ z : Int, w.cell? (a.add q) = some (.int .u64 z) := by
      intro q hq
      obtain ⟨cs', hc, ht⟩ := hi q (by omega)
      have hC : Try.prog.cellsOf 25 = 1 := by kernel_rfl
      rw [hC, Nat.mul_one] at hc
      obtain ⟨z, e, _, _⟩ := DataW.trod_int Try.underlying25 ht
      subst e
      obtain ⟨_, _, hat⟩ := World.cells?_some hc
      have := hat 0 (by omega)
      rw [add_zero9] at this
      exact ⟨z, this⟩
    by_cases hz : 0 < len0
    · have sp := World.cell?_spot (key 0 hz).choose_spec
      obtain ⟨b, off, spot⟩ := a
      have sp : spot = none := by simpa [Addr.add] using sp
      subst sp
      have hk : ∀ q, q < len0 → w.cell? ⟨b, off + q, none⟩ = some (.int .u64 (if h : q < len0 then (key q h).choose else 0)) := by
        intro q hq
        rw [dif_pos hq, ← add_none9 b off q]
        exact (key q hq).choose_spec
      refine ⟨(List.range len0).map fun q => if h : q < len0 then (key q h).choose else 0, some ⟨b, off, none⟩, b, off, _, by simp; rfl, fun _ => rfl, fun q z hq => ?_⟩
      have hq' : q < len0 := by
        have := (List.getElem?_eq_some_iff.1 hq).1
        simpa using this
      rw [hk q hq']
      simp only [List.getElem?_map, List.getElem?_range hq', Option.map_some, Option.some.injEq] at hq
      rw [hq]
    · obtain rfl : len0 = 0 := by omega
      exact ⟨[], some a, 0, 0, _, rfl, by simp, fun q z hq => by simp at hq⟩
theorem stepG_ended {P : Program} {f : FuncId} {fn : Func} {a : Act} {todo : List Item} {v : Value} {w : World} (hI : P.inits.idxOf? f = none) (hd : a.defers = []) (hf : P.funcs[f]? = some fn) (hr : (results fn a.tmps).run P w = .ok v w) (he : (results fn a.tmps).events P w #[] = #[]) :
    stepG P true (G { (base f).at a todo with mode := .returning } []) w = .ended (.done v) w #[] := by
  simp [G, stepG, unwind, doReturn, Frame.at, base, hd, hf, hr, he, seen, GStep.after, hI]
theorem solo_runs {P : Program} {Post : Value → World → Prop} {f : FuncId} {args : Array Value} {w : World} (hI : P.inits.idxOf? f = none) (hP : ∀ v w w₁, AtRel w w₁ → Post v w → Post v w₁)
    (h : CallX P Post f args w ⟨fun _ => False, 1, 0⟩ (fun v w' x' => Post v w' ∧ x'.d = 0)) :
    ∃ N last o w' t', runNT P (N + 1) (solo (G (Frame.enter P f args .normal) []) w) #[] = (.ended o w', t') ∧ runN P N (solo (G (Frame.enter P f args .normal) []) w) = .next last ∧ step P last = .ended o w' ∧ Go.Conc.Good P Post last o w' t' := by
  obtain ⟨fn, cd, hf, hname, hb, hw⟩ := h
  have hend : ∀ (a : Act) (w : World) (x : XS) (todo : List Item), (a.defers = [] ∧ ∃ v, ResultsC P fn a.tmps v ∧ Post v w ∧ x.d = 0) → Win P Post x (G { (base f).at a todo with mode := .returning } []) w := by
    rintro a w x todo ⟨hd, v, hr, hp, hx⟩
    exact win_end hx (.stop fun w₁ h₁ => ⟨rfl, v, #[], stepG_ended hI hd hf (hr w₁).1 (hr w₁).2, fun e he => by simp at he, hP _ _ _ h₁ hp⟩)
  have hwin : Win P Post ⟨fun _ => False, 1, 0⟩ (G (Frame.enter P f args .normal) []) w := by
    rw [enter_at args hf hb]
    refine hw (base f) [] [] rfl (kind_base f) fun e a w' x q => ?_
    cases e with
    | normal => exact win_mk rfl fun w₁ h₁ => by rw [stepG_end]; exact ⟨fun e he => by simp at he, (hend a w' x [] q).rely h₁⟩
    | ret => exact fun todo => hend a w' x todo q
    | exit id => exact q.elim
    | goto l => exact q.elim
    | panic ch => exact q.elim
    | outgrown => exact q.elim
  have hF := frm_one P (G (Frame.enter P f args .normal) [])
  exact hwin w (atRel_refl w) #[_] none #[] (fun _ => 0) rfl rfl ⟨hF.L, hF.S.sub (fun l h => h.elim), hF.B⟩
end Go.Proofs.Ytinghnaigpenkaa
