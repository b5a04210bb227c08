/- A loop over a range function beside other goroutines: the goroutine's own steps. -/
import Derived.Test.YtkcknoodcgmndaaSgX
import Derived.AtR
namespace Go.Proofs.Ytkcknoodcgmndaa
open Go.Conc
set_option linter.unusedVariables false
set_option linter.unusedSimpArgs false
set_option linter.unusedSectionVars false
def mark9 (r : Nat) : Deferred := { target := .collected r, args := #[] }
def putO (w : World) (l : Nat) (o : Obj) : World := { w with heap := w.heap.setIfInBounds l o }
def rw2 (l : Nat) : Array Event := #[⟨.obj l, false, false⟩, ⟨.obj l, true, false⟩]
section
variable {P : Program} {main : Bool} {b : Frame} {a : Act} {k : List Item} {cs : List Frame} {w : World}
theorem r_loop {l : Nat} {r : Loop} (h : w.heap[l]? = some (.loop r)) : (Instr.getLoop l).run P w = .ok r w := by
  unfold Instr.getLoop
  have : (getObj l).run P w = .ok (.loop r) w := by simp [getObj, Sem.run, h]
  simp [Sem.run_bind, this]
theorem e_loop {l : Nat} {r : Loop} (h : w.heap[l]? = some (.loop r)) (es : Array Event) : (Instr.getLoop l).events P w es = es.push ⟨.obj l, false, false⟩ := by
  unfold Instr.getLoop
  have h1 : (getObj l).run P w = .ok (.loop r) w := by simp [getObj, Sem.run, h]
  have h2 : (getObj l).events P w es = es.push ⟨.obj l, false, false⟩ := by simp [getObj, Sem.events, Sem.runT, h, Obj.isChan, -Sem.runT_eq]
  simp [Sem.events_bind, h1, h2]
theorem r_setL {l : Nat} {r r' : Loop} (h : w.heap[l]? = some (.loop r)) : (setObj l (.loop r')).run P w = .ok () (putO w l (.loop r')) := by simp [setObj, Sem.run, h, putO]
theorem e_setL {l : Nat} {r r' : Loop} (h : w.heap[l]? = some (.loop r)) (es : Array Event) : (setObj l (.loop r')).events P w es = es.push ⟨.obj l, true, false⟩ := by simp [setObj, Sem.events, Sem.runT, h, Obj.isChan, -Sem.runT_eq]
theorem r_take {r : Nat} {ds : List Deferred} (h : w.heap[r]? = some (.deferred (some ds))) : (Instr.takeDeferred r).run P w = .ok ds (putO w r (.deferred none)) := by
  unfold Instr.takeDeferred
  have h1 : (getObj r).run P w = .ok (.deferred (some ds)) w := by simp [getObj, Sem.run, h]
  have h2 : (setObj r (.deferred none)).run P w = .ok () (putO w r (.deferred none)) := by simp [setObj, Sem.run, h, putO]
  simp [Sem.run_bind, h1, h2]
theorem e_take {r : Nat} {ds : List Deferred} (h : w.heap[r]? = some (.deferred (some ds))) : (Instr.takeDeferred r).events P w #[] = rw2 r := by
  unfold Instr.takeDeferred
  have h1 : (getObj r).run P w = .ok (.deferred (some ds)) w := by simp [getObj, Sem.run, h]
  have h2 : (setObj r (.deferred none)).run P w = .ok () (putO w r (.deferred none)) := by simp [setObj, Sem.run, h, putO]
  have h3 : (getObj r).events P w #[] = #[⟨.obj r, false, false⟩] := by simp [getObj, Sem.events, Sem.runT, h, Obj.isChan, -Sem.runT_eq]
  have h4 : ∀ es, (setObj r (.deferred none)).events P w es = es.push ⟨.obj r, true, false⟩ := fun es => by simp [setObj, Sem.events, Sem.runT, h, Obj.isChan, -Sem.runT_eq]
  simp [Sem.events_bind, h1, h2, h3, h4, rw2]
theorem r_enter (f : FuncId) (tm : Array Value) (ps : Array Tmp) (as bd : Code) : (Instr.enterLoop f tm ps as bd none).run P w = .ok (w.heap.size + 1, [mark9 w.heap.size]) ((w.alloc (.deferred (some []))).alloc (.loop { state := .ready, pending := none, fn := f, tmps := tm, params := ps, assign := as, body := bd, defers := w.heap.size })) := by
  unfold Instr.enterLoop
  have h1 : ∀ (o : Obj) (w : World), (newObj o).run P w = .ok w.heap.size (w.alloc o) := fun o w => by simp [newObj, Sem.run]
  simp [Sem.run_bind, h1, mark9]
theorem e_enter (f : FuncId) (tm : Array Value) (ps : Array Tmp) (as bd : Code) : (Instr.enterLoop f tm ps as bd none).events P w #[] = #[] := by
  unfold Instr.enterLoop
  have h1 : ∀ (o : Obj) (w : World), (newObj o).run P w = .ok w.heap.size (w.alloc o) := fun o w => by simp [newObj, Sem.run]
  have h2 : ∀ (o : Obj) (w : World) (es : Array Event), (newObj o).events P w es = es := fun o w es => by simp [newObj, Sem.events, Sem.runT, -Sem.runT_eq]
  simp [Sem.events_bind, h1, h2]
theorem r_endLoop {l : Nat} {r : Loop} (h : w.heap[l]? = some (.loop r)) (hs : r.state ≠ .busy) : (Instr.endLoop l).run P w = .ok r.pending (putO w l (.loop { r with state := .exhausted })) := by
  have hs' : (r.state == LoopState.busy) = false := by cases h : r.state <;> simp_all
  unfold Instr.endLoop
  simp [Sem.run_bind, r_loop h, r_setL h, hs, hs']
theorem e_endLoop {l : Nat} {r : Loop} (h : w.heap[l]? = some (.loop r)) (hs : r.state ≠ .busy) : (Instr.endLoop l).events P w #[] = rw2 l := by
  have hs' : (r.state == LoopState.busy) = false := by cases h : r.state <;> simp_all
  unfold Instr.endLoop
  simp [Sem.events_bind, r_loop h, r_setL h, e_loop h, e_setL h, hs, hs', rw2]
theorem r_yield {l t : Nat} {r : Loop} {v : Value} (h : w.heap[l]? = some (.loop r)) (hp : r.params = #[t]) : (Instr.yield l #[v]).run P w = .ok (.round l r.fn (r.tmps.setIfInBounds t v) r.assign r.body) w := by
  unfold Instr.yield
  simp [Sem.run_bind, r_loop h, hp]
theorem e_yield {l t : Nat} {r : Loop} {v : Value} (h : w.heap[l]? = some (.loop r)) (hp : r.params = #[t]) : (Instr.yield l #[v]).events P w #[] = #[⟨.obj l, false, false⟩] := by
  unfold Instr.yield
  simp [Sem.events_bind, r_loop h, e_loop h, hp]
theorem r_begin {l : Nat} {r : Loop} (h : w.heap[l]? = some (.loop r)) (hs : r.state = .ready) : (Instr.beginRound l).run P w = .ok () (putO w l (.loop { r with state := .busy })) := by
  unfold Instr.beginRound
  simp [Sem.run_bind, r_loop h, r_setL h, hs]
theorem e_begin {l : Nat} {r : Loop} (h : w.heap[l]? = some (.loop r)) (hs : r.state = .ready) : (Instr.beginRound l).events P w #[] = rw2 l := by
  unfold Instr.beginRound
  simp [Sem.events_bind, r_loop h, r_setL h, e_loop h, e_setL h, hs, rw2]
theorem r_endRound {l : Nat} {r : Loop} (h : w.heap[l]? = some (.loop r)) : (Instr.endRound l none).run P w = .ok (.bool true) (putO w l (.loop { r with state := .ready, pending := none })) := by
  unfold Instr.endRound
  simp [Sem.run_bind, r_loop h, r_setL h]
theorem e_endRound {l : Nat} {r : Loop} (h : w.heap[l]? = some (.loop r)) : (Instr.endRound l none).events P w #[] = rw2 l := by
  unfold Instr.endRound
  simp [Sem.events_bind, r_loop h, r_setL h, e_loop h, e_setL h, rw2]
/-- the loop begins: its function is entered -/
theorem stepG_rangeFunc {x : Operand} {params : Array Tmp} {asg body : Code} {g : FuncId} {cap : Array Value} {fn : Func} {c : Code} (hx : a.eval x = .func (.func g) #[] cap) (hf : P.funcs[g]? = some fn) (hname : (fn.name == "runtime.NumGoroutine") = false) (hb : fn.body = some c) :
    stepG P main (G (b.at a (.code (.rangeFunc x params asg body) :: k)) cs) w =
      .go (G ((base g).at { tmps := #[.func (.yield (w.heap.size + 1)) #[] #[]] ++ cap ++ Array.replicate (fn.ntmps - (#[Value.func (.yield (w.heap.size + 1)) #[] #[]] ++ cap).size) undef, defers := [] } [.code c])
          (b.at ⟨a.tmps, mark9 w.heap.size :: a.defers⟩ (.inRangeFunc (w.heap.size + 1) :: k) :: cs))
        ((w.alloc (.deferred (some []))).alloc (.loop { state := .ready, pending := none, fn := b.fn, tmps := a.tmps, params := params, assign := asg, body := body, defers := w.heap.size })) #[] := by
  have hb' : fn.body.isNone = false := by rw [hb]; rfl
  have h1 : ¬ fn.name = "runtime.NumGoroutine" := by simpa using hname
  have he := Frame.eval_at b
  rw [← enter_at (f := g) _ hf hb]
  have ev : ∀ (a' : Act) (k' : List Item), a'.tmps = a.tmps → (b.at a' k').eval x = .func (.func g) #[] cap := by
    intro a' k' h
    rw [Frame.eval_at, ← hx]
    cases x <;> simp [Act.eval, h]
  have ev2 := ev ⟨a.tmps, mark9 w.heap.size :: a.defers⟩ (.inRangeFunc (w.heap.size + 1) :: k) rfl
  simp only [Frame.at, mark9] at ev2
  have ec : ∀ (args : Array Value) (w' : World), (callFunc g args).run P w' = .ok (.enter g args) w' := by
    intro args w'
    simp [callFunc, hf, h1, hb]
  have ee : ∀ (args : Array Value) (w' : World), (callFunc g args).events P w' #[] = #[] := by
    intro args w'
    simp [callFunc, hf, h1, hb]
  have r9 := r_enter (P := P) (w := w) b.fn a.tmps params asg body
  simp only [mark9] at r9
  have ek : ∀ (fr : Frame) (v : Value), fr.eval (.const v) = v := fun _ _ => rfl
  simp [G, stepG, stepG.exec, stepG.apply, Frame.at, r9, e_enter, GStep.after, resolve, Deferred.ofValue, invoke, ec, ee, seen_none, mark9, ev2, ek]
theorem finish_inRange {l : Nat} {v : Value} : (b.at a (.inRangeFunc l :: k)).finish v = b.at a (.endRangeFunc l :: k) := rfl
/-- the loop ends -/
theorem stepG_endRange {l : Nat} {r : Loop} (hl : w.heap[l]? = some (.loop r)) (hs : r.state ≠ .busy) (hp : r.pending = none) :
    stepG P main (G (b.at a (.endRangeFunc l :: k)) cs) w = .go (G (b.at a k) cs) (putO w l (.loop { r with state := .exhausted })) (seen P b.fn (rw2 l)) := by
  have er : (Instr.endLoop l).runT P w #[] = (.ok none (putO w l (.loop { r with state := .exhausted })), rw2 l) := by
    rw [Sem.runT_eq, r_endLoop hl hs, e_endLoop hl hs, hp]
  simp [G, stepG, stepG.exec, Frame.at, er, GStep.after, -Sem.runT_eq]
/-- the mark among the deferred calls -/
theorem stepG_unwind_collected {r : Nat} {ds : List Deferred} {todo : List Item} (hd : a.defers = mark9 r :: ds) (hr : w.heap[r]? = some (.deferred (some []))) :
    stepG P main (G { b.at a todo with mode := .returning } cs) w = .go (G { b.at ⟨a.tmps, ds⟩ todo with mode := .returning } cs) (putO w r (.deferred none)) (seen P b.fn (rw2 r)) := by
  have er : (Instr.takeDeferred r).runT P w #[] = (.ok [] (putO w r (.deferred none)), rw2 r) := by
    rw [Sem.runT_eq, r_take hr, e_take hr]
  simp [G, stepG, unwind, Frame.at, hd, mark9, er, GStep.after, -Sem.runT_eq]
/-- a round is begun by the iterator's call -/
theorem stepG_yield {ops : Array Oper} {i : Nat} {rest : List Nat} {o : Oper} {x y : Operand} {ats : Array TypeId} {l t : Nat} {r : Loop} (ho : ops[i]? = some o) (hw : Region.wanted o (yielded ops a.tmps) = true) (hk : b.kind ≠ .early)
    (hop : o.op = .call { callee := .value x, args := #[y], argTypes := ats }) (hx : a.eval x = .func (.yield l) #[] #[]) (hl : w.heap[l]? = some (.loop r)) (hp : r.params = #[t]) :
    stepG P main (G (b.at a (.inRegion ops (i :: rest) :: k)) cs) w = .go (G (Frame.round l r.fn (r.tmps.setIfInBounds t (a.eval y)) r.assign r.body .normal) (b.at a (.inRegion ops (i :: rest) :: k) :: cs)) w (seen P b.fn #[⟨.obj l, false, false⟩]) := by
  have hk' : (b.kind == CallKind.early) = false := by simpa using hk
  have hr : (execOp a.eval o).run P w = .ok (.round l r.fn (r.tmps.setIfInBounds t (a.eval y)) r.assign r.body) w := by
    unfold execOp
    simp [hop, resolve, Deferred.ofValue, hx, invoke, r_yield hl hp]
  have hev : (execOp a.eval o).events P w #[] = #[⟨.obj l, false, false⟩] := by
    unfold execOp
    simp [hop, resolve, Deferred.ofValue, hx, invoke, r_yield hl hp, e_yield hl hp]
  rw [stepG_oper ho hw]
  simp [stepG.apply, hr, hev, G, Frame.at, hk', GStep.after]
end
end Go.Proofs.Ytkcknoodcgmndaa
