/- A loop over a range function beside other goroutines: the judgements. -/
import Derived.Test.YtkcknoodcgmndaaRfB
import Derived.Test.YtkcknoodcgmndaaTcA
namespace Go.Proofs.Ytkcknoodcgmndaa
open Go.Conc
set_option linter.unusedVariables false
set_option linter.unusedSimpArgs false
set_option linter.unusedSectionVars false
def CodeR (P : Program) (S : Loc → Prop) (l : Nat) (f : FuncId) (c : Code) (Q : Act → World → Prop) (a : Act) (w : World) : Prop :=
  ∀ (k : List Item) (cs : List Frame) (Stop : Goroutine → World → Prop), (∀ a' w', Q a' w' → GoesW P true AtRel (DP0 S) Stop (G ((baseR l f).atR a' k) cs) w') → GoesW P true AtRel (DP0 S) Stop (G ((baseR l f).atR a (.code c :: k)) cs) w
def OpsR (P : Program) (S : Loc → Prop) (l : Nat) (f : FuncId) (ops : Array Oper) (todo : List Nat) (Q : Act → World → Prop) (a : Act) (w : World) : Prop :=
  ∀ (k : List Item) (cs : List Frame) (Stop : Goroutine → World → Prop), (∀ a' w', Q a' w' → GoesW P true AtRel (DP0 S) Stop (G ((baseR l f).atR a' k) cs) w') → GoesW P true AtRel (DP0 S) Stop (G ((baseR l f).atR a (.inRegion ops todo :: k)) cs) w
def CallsD (P : Program) (S : Loc → Prop) (f : FuncId) (args : Array Value) (w : World) (Pos : Value → World → Prop) : Prop :=
  ∃ fn cd, P.funcs[f]? = some fn ∧ (fn.name == "runtime.NumGoroutine") = false ∧ fn.body = some cd ∧
    CodeW P true AtRel (DP0 S) f cd (fun e a w => (e = .normal ∨ e = .ret) ∧ ∃ r, a.defers = [mark9 r] ∧ w.heap[r]? = some (.deferred (some [])) ∧ ∃ v, ResultsC P fn a.tmps v ∧ Pos v (putO w r (.deferred none))) { tmps := args ++ Array.replicate (fn.ntmps - args.size) undef, defers := [] } w
section
variable {P : Program} {S : Loc → Prop} {l : Nat} {f fn : FuncId} {Q : Act → World → Prop} {Q' : Exit → Act → World → Prop} {a : Act} {w : World}
theorem dp_idle {w w' : World} : DP0 S w w' #[] := fun e he => by simp at he
theorem atRel_putO {w w₁ : World} (h : AtRel w w₁) (r : Nat) (o : Obj) : AtRel (putO w r o) (putO w₁ r o) := by obtain ⟨q, rfl⟩ := h; exact ⟨q, rfl⟩
theorem atRel_obj {w w₁ : World} (h : AtRel w w₁) (r : Nat) : w₁.heap[r]? = w.heap[r]? := by obtain ⟨q, rfl⟩ := h; rfl
theorem evP_obj (hSo : ∀ r, ¬ S (.obj r)) (r : Nat) (wr : Bool) : EvP S ⟨.obj r, wr, false⟩ := by
  have e : MemAct.ofEvent ⟨.obj r, wr, false⟩ = .access ⟨.obj r, wr, false⟩ := by cases wr <;> rfl
  refine ⟨fun x hx hs => ?_, by simp, by simp⟩
  simp only [e, MemAct.touch?, Option.some.injEq] at hx
  subst hx
  exact absurd hs (hSo r)
theorem dp_rw2 (hSo : ∀ r, ¬ S (.obj r)) (g : FuncId) (r : Nat) {w w' : World} : DP0 S w w' (seen P g (rw2 r)) := by
  intro e he
  have := mem_seen he
  simp [rw2] at this
  rcases this with rfl | rfl <;> exact evP_obj hSo r _
theorem dp_r1 (hSo : ∀ r, ¬ S (.obj r)) (g : FuncId) (r : Nat) {w w' : World} : DP0 S w w' (seen P g #[⟨.obj r, false, false⟩]) := by
  intro e he
  have := mem_seen he
  simp at this
  subst this
  exact evP_obj hSo r _
theorem tr9 : ∀ a b c, AtRel a b → AtRel b c → AtRel a c := fun a b c h k => atRel_trans a b c h k
theorem codeR_seq {x y : Code} (h : CodeR P S l f x (fun a' w' => CodeR P S l f y Q a' w') a w) : CodeR P S l f (.seq x y) Q a w := fun k cs Stop hc =>
  GoesW.mk' rfl fun w₁ h₁ => by rw [stepGR_seq]; exact ⟨dp_idle, (h _ _ _ fun a' w' q => q k cs Stop hc).rely tr9 h₁⟩
theorem codeR_skip (h : Q a w) : CodeR P S l f .skip Q a w := fun k cs Stop hc => GoesW.mk' rfl fun w₁ h₁ => by rw [stepGR_skip]; exact ⟨dp_idle, (hc _ _ h).rely tr9 h₁⟩
theorem codeR_region {id : Nat} {ops : Array Oper} (h : OpsR P S l f ops (List.range ops.size) Q a w) : CodeR P S l f (.region id ops false) Q a w := fun k cs Stop hc =>
  GoesW.mk' rfl fun w₁ h₁ => by rw [stepGR_region]; exact ⟨dp_idle, (h k cs Stop hc).rely tr9 h₁⟩
theorem opsR_nil {ops : Array Oper} (h : Q a w) : OpsR P S l f ops [] Q a w := fun k cs Stop hc => GoesW.mk' rfl fun w₁ h₁ => by rw [stepGR_region_end]; exact ⟨dp_idle, (hc _ _ h).rely tr9 h₁⟩
theorem opsR_unwanted {ops : Array Oper} {i : Nat} {rest : List Nat} {o : Oper} (ho : ops[i]? = some o) (hw : Region.wanted o (yielded ops a.tmps) = false) (h : OpsR P S l f ops rest Q (a.put o.dst undef) w) : OpsR P S l f ops (i :: rest) Q a w :=
  fun k cs Stop hc => GoesW.mk' rfl fun w₁ h₁ => by rw [stepGR_unwanted ho hw]; exact ⟨dp_idle, (h k cs Stop hc).rely tr9 h₁⟩
theorem opsR_cons {ops : Array Oper} {i : Nat} {rest : List Nat} {o : Oper} (ho : ops[i]? = some o) (hw : Region.wanted o (yielded ops a.tmps) = true) (hd : ∀ c, o.op ≠ .defer c)
    (h : ∀ w₁, AtRel w w₁ → ∀ K : Act → World → Prop, (∀ a' w', DP0 S w₁ w' (listed P f a o w₁) ∧ OpsR P S l f ops rest Q a' w' → K a' w') → uponK o a K ((execOp a.eval o).run P w₁)) : OpsR P S l f ops (i :: rest) Q a w := by
  intro k cs Stop hc
  refine GoesW.mk' rfl fun w₁ h₁ => goes_operR ho hw hd ?_
  have := h w₁ h₁ _ fun _ _ x => x
  revert this
  cases (execOp a.eval o).run P w₁ with
  | ok x w' => cases x <;> first | exact fun ⟨d, g⟩ => ⟨d, g k cs Stop hc⟩ | exact id
  | halt _ _ => exact id
/-- the iterator calls the body -/
theorem opsW_yield (hSo : ∀ r, ¬ S (.obj r)) {ops : Array Oper} {i : Nat} {rest : List Nat} {o : Oper} {x y : Operand} {ats : Array TypeId} {t : Nat} {r : Loop} {Pos : World → Prop} (ho : ops[i]? = some o) (hw : Region.wanted o (yielded ops a.tmps) = true)
    (hop : o.op = .call { callee := .value x, args := #[y], argTypes := ats }) (hx : a.eval x = .func (.yield l) #[] #[]) (hl : w.heap[l]? = some (.loop r)) (hp : r.params = #[t]) (hst : r.state = .ready)
    (hround : CodeR P S l r.fn r.assign (fun a1 w1 => w1.heap[l]? = some (.loop r) ∧ CodeR P S l r.fn r.body (fun a2 w2 => ∃ r2, w2.heap[l]? = some (.loop r2) ∧ Pos (putO w2 l (.loop { r2 with state := .ready, pending := none }))) a1 (putO w1 l (.loop { r with state := .busy }))) ⟨r.tmps.setIfInBounds t (a.eval y), []⟩ w)
    (hnext : ∀ w', Pos w' → OpsW P true AtRel (DP0 S) fn ops rest Q' (a.put o.dst (.bool true)) w') : OpsW P true AtRel (DP0 S) fn ops (i :: rest) Q' a w := by
  intro b k cs Stop hb hk hc
  have hfin : ∀ v, (b.at a (.inRegion ops (i :: rest) :: k)).finish v = b.at (a.put o.dst v) (.inRegion ops rest :: k) := fun v => by rw [Frame.finish_at, ho]; rfl
  refine GoesW.mk' rfl fun w₁ h₁ => ?_
  rw [stepG_yield ho hw hk hop hx ((atRel_obj h₁ l).trans hl) hp, round_atR]
  refine ⟨dp_r1 hSo _ _, ?_⟩
  refine GoesW.rely tr9 (hround _ _ Stop fun a1 w1 ⟨g1, g2⟩ => ?_) h₁
  refine GoesW.mk' rfl fun w₂ h₂ => ?_
  rw [stepGR_begin ((atRel_obj h₂ l).trans g1) hst]
  refine ⟨dp_rw2 hSo _ _, GoesW.rely tr9 (g2 _ _ Stop fun a2 w2 ⟨r2, g3, g4⟩ => ?_) (atRel_putO h₂ _ _)⟩
  refine GoesW.mk' rfl fun w₃ h₃ => ?_
  rw [stepGR_end ((atRel_obj h₃ l).trans g3), hfin]
  exact ⟨dp_rw2 hSo _ _, GoesW.rely tr9 (hnext _ g4 b k cs Stop hb hk hc) (atRel_putO h₃ _ _)⟩
/-- the loop, whole -/
theorem codeW_rangeFunc (hSo : ∀ r, ¬ S (.obj r)) {x : Operand} {params : Array Tmp} {asg body : Code} {g : FuncId} {cap : Array Value} {Pos : World → Prop} (hx : a.eval x = .func (.func g) #[] cap)
    (hcall : ∀ w₁, AtRel w w₁ → CallsW P true AtRel (DP0 S) g (#[.func (.yield (w₁.heap.size + 1)) #[] #[]] ++ cap) ((w₁.alloc (.deferred (some []))).alloc (.loop { state := .ready, pending := none, fn := fn, tmps := a.tmps, params := params, assign := asg, body := body, defers := w₁.heap.size }))
      (fun v w' => ∃ r, w'.heap[w.heap.size + 1]? = some (.loop r) ∧ r.state ≠ .busy ∧ r.pending = none ∧ Pos (putO w' (w.heap.size + 1) (.loop { r with state := .exhausted }))))
    (hnext : ∀ w', Pos w' → Q' .normal ⟨a.tmps, mark9 w.heap.size :: a.defers⟩ w') : CodeW P true AtRel (DP0 S) fn (.rangeFunc x params asg body) Q' a w := by
  intro b k cs Stop hb hk hc
  refine GoesW.mk' rfl fun w₁ h₁ => ?_
  obtain ⟨fnn, cd, hf, hname, hbody, hwp⟩ := hcall w₁ h₁
  have hsz := atRel_size h₁
  rw [stepG_rangeFunc hx hf hname hbody, hb, hsz]
  rw [hsz] at hwp
  refine ⟨dp_idle, ?_⟩
  have hleave : ∀ (a' : Act) (w' : World) (todo : List Item), (a'.defers = [] ∧ ∃ v, ResultsC P fnn a'.tmps v ∧ ∃ r, w'.heap[w.heap.size + 1]? = some (.loop r) ∧ r.state ≠ .busy ∧ r.pending = none ∧ Pos (putO w' (w.heap.size + 1) (.loop { r with state := .exhausted }))) →
      GoesW P true AtRel (DP0 S) Stop (G { (base g).at a' todo with mode := .returning } (b.at ⟨a.tmps, mark9 w.heap.size :: a.defers⟩ (.inRangeFunc (w.heap.size + 1) :: k) :: cs)) w' := by
    rintro a' w' todo ⟨hd, v, hr, r, g1, g2, g3, g4⟩
    refine GoesW.mk' rfl fun w₂ h₂ => ?_
    rw [stepG_leave (b := base g) rfl hd hf (hr w₂).1 (hr w₂).2, finish_inRange]
    refine ⟨dp_idle, GoesW.rely tr9 (GoesW.mk' rfl fun w₃ h₃ => ?_) h₂⟩
    rw [stepG_endRange ((atRel_obj h₃ _).trans g1) g2 g3]
    exact ⟨dp_rw2 hSo _ _, GoesW.rely tr9 (hc .normal _ _ (hnext _ g4)) (atRel_putO h₃ _ _)⟩
  refine hwp (base g) [] _ Stop rfl (by simp [base]) fun e a' w' q => ?_
  cases e with
  | normal => exact GoesW.mk' rfl fun w₂ h₂ => by rw [stepG_end]; exact ⟨dp_idle, (hleave a' w' [] q).rely tr9 h₂⟩
  | ret => exact fun todo => hleave a' w' todo q
  | exit id => exact q.elim
  | goto l => exact q.elim
  | panic ch => exact q.elim
  | outgrown => exact q.elim
/-- a function that leaves with the loop's mark is called -/
theorem opsW_callD (hSo : ∀ r, ¬ S (.obj r)) {ops : Array Oper} {i : Nat} {rest : List Nat} {o : Oper} {g : FuncId} {args : Array Operand} {ats : Array TypeId} {Pos : Value → World → Prop}
    (ho : ops[i]? = some o) (hw : Region.wanted o (yielded ops a.tmps) = true) (hop : o.op = .call { callee := .value (.func g), args, argTypes := ats })
    (hcall : CallsD P S g (args.map a.eval) w Pos) (hnext : ∀ v w', Pos v w' → OpsW P true AtRel (DP0 S) fn ops rest Q' (a.put o.dst v) w') : OpsW P true AtRel (DP0 S) fn ops (i :: rest) Q' a w := by
  intro b k cs Stop hb hk hc
  obtain ⟨fnn, cd, hf, hname, hbody, hwp⟩ := hcall
  have hfin : ∀ v, (b.at a (.inRegion ops (i :: rest) :: k)).finish v = b.at (a.put o.dst v) (.inRegion ops rest :: k) := fun v => by rw [Frame.finish_at, ho]; rfl
  have hleave : ∀ (a' : Act) (w' : World) (todo : List Item), (∃ r, a'.defers = [mark9 r] ∧ w'.heap[r]? = some (.deferred (some [])) ∧ ∃ v, ResultsC P fnn a'.tmps v ∧ Pos v (putO w' r (.deferred none))) →
      GoesW P true AtRel (DP0 S) Stop (G { (base g).at a' todo with mode := .returning } (b.at a (.inRegion ops (i :: rest) :: k) :: cs)) w' := by
    rintro a' w' todo ⟨r, hd, h0, v, hr, hp⟩
    refine GoesW.mk' rfl fun w₁ h₁ => ?_
    rw [stepG_unwind_collected (b := base g) hd ((atRel_obj h₁ _).trans h0)]
    refine ⟨dp_rw2 hSo _ _, GoesW.rely tr9 (GoesW.mk' rfl fun w₂ h₂ => ?_) (atRel_putO h₁ _ _)⟩
    rw [stepG_leave (b := base g) (a := ⟨a'.tmps, []⟩) rfl rfl hf (hr w₂).1 (hr w₂).2, hfin]
    exact ⟨dp_idle, (hnext v _ hp b k cs Stop hb hk hc).rely tr9 h₂⟩
  have hbodyG : GoesW P true AtRel (DP0 S) Stop (G ((base g).at { tmps := args.map a.eval ++ Array.replicate (fnn.ntmps - (args.map a.eval).size) undef, defers := [] } [.code cd]) (b.at a (.inRegion ops (i :: rest) :: k) :: cs)) w := by
    refine hwp (base g) [] _ Stop rfl (by simp [base]) fun e a' w' q => ?_
    obtain ⟨he, q⟩ := q
    rcases he with rfl | rfl
    · exact GoesW.mk' rfl fun w₁ h₁ => by rw [stepG_end]; exact ⟨dp_idle, (hleave a' w' [] q).rely tr9 h₁⟩
    · exact fun todo => hleave a' w' todo q
  exact GoesW.mk' rfl fun w₁ h₁ => goes_call ho hw hk hop hf hname hbody ⟨dp_idle, hbodyG.rely tr9 h₁⟩
end
end Go.Proofs.Ytkcknoodcgmndaa
