import Derived.Test.YtkcknoodcgmndaaZRfB
import Derived.Test.YtkcknoodcgmndaaZWgK
import Derived.ProofKit
import Derived.Conc.CompanyMem
import Derived.Conc.AtomicLaws2
import Derived.Conc.AppendWalk
import Derived.Deep.Upon
section
/- Atomic cells and a clock, by goroutine 0 between phases. -/
namespace Go.Proofs.Ytkcknoodcgmndaa
open Go.Conc Go.RowKit
open Go.ConcR (WgAt stA)
set_option linter.unusedVariables false
set_option linter.unusedSimpArgs false
set_option maxRecDepth 100000
set_option maxHeartbeats 4000000
abbrev CW (Shun : Loc → Prop) (f : FuncId) (args : Array Value) (w : World) (Post : Value → World → Prop) : Prop := CallsW Try.prog true AtRel (DP0 Shun) f args w Post
theorem atRel_cell {W w : World} (h : AtRel W w) (p : Addr) : w.cell? p = W.cell? p := by obtain ⟨d, rfl⟩ := h; rfl
theorem atRel_frozen {W w : World} (h : AtRel W w) (p : Addr) : w.frozen? p = W.frozen? p := by obtain ⟨d, rfl⟩ := h; rfl
theorem atRel_size {W w : World} (h : AtRel W w) : w.heap.size = W.heap.size := by obtain ⟨d, rfl⟩ := h; rfl
theorem atRel_heap {W w : World} (h : AtRel W w) : w.heap = W.heap := by obtain ⟨d, rfl⟩ := h; rfl
theorem atRel_set {W w : World} (h : AtRel W w) (p : Addr) (v : Value) : AtRel (W.setCell p v) (w.setCell p v) := by obtain ⟨d, rfl⟩ := h; exact ⟨d, rfl⟩
theorem atRel_alloc {W w : World} (h : AtRel W w) (o : Obj) : AtRel (W.alloc o) (w.alloc o) := by obtain ⟨d, rfl⟩ := h; exact ⟨d, rfl⟩
theorem evP_sync (Shun : Loc → Prop) (a : Addr) (wr : Bool) : EvP Shun ⟨.cell a, wr, true⟩ := by
  refine ⟨fun x hx _ => ?_, by simp, by simp⟩
  simp only [ofEvent_cell0, MemAct.touch?, Option.some.injEq] at hx
  subst hx
  simp
theorem evP_cell {Shun : Loc → Prop} {a : Addr} (wr : Bool) (h : ¬ Shun (.cell a)) : EvP Shun ⟨.cell a, wr, false⟩ := by
  refine ⟨fun x hx hs => ?_, by simp, by simp⟩
  simp only [ofEvent_cell0, MemAct.touch?, Option.some.injEq] at hx
  subst hx
  exact absurd hs h
theorem dp0_nil {Shun : Loc → Prop} {w w' : World} : DP0 Shun w w' #[] := fun e he => by simp at he







section
variable {Shun : Loc → Prop}
theorem load42_W (g o : Nat) (v : Int) (w : World) (hc : w.cell? ⟨g, o, none⟩ = some (.int .u64 v)) : CW Shun 42 #[.pointer (some ⟨g, o, none⟩)] w (fun r w' => r = .int .u64 v ∧ AtRel w w') := by
  have T9 := termsP Shun
  refine callsW_enter Try.func42 (by kernel_rfl) rfl ?_
  simp only [Try.ntmps42]
  walk_nrm
  have hF := atRel_refl w
  ((refine codeW_seq T9 ?_); (refine codeW_region T9 ?_; simp only [List.size_toArray, List.length_cons, List.length_nil, Nat.reduceAdd, Nat.zero_add, List.range, List.range.loop]); (repeat (refine opsW_cons rfl (by rfl) ?_; intro _ hR K hK; replace hF := atRel_trans _ _ _ hF hR; clear hR; have hs9 := atRel_size hF; go_simp; refine hK _ _ ⟨?_, ?_⟩; (· rw [listed_nil (by simp [go_sem, *])]; exact dp0_nil); clear hK K hs9; try walk_nrm)); (refine opsW_nil T9 ?_; simp only [Exit.then]))
  (refine codeW_seq T9 ?_)
  (refine codeW_region T9 ?_; simp only [List.size_toArray, List.length_cons, List.length_nil, Nat.reduceAdd, Nat.zero_add, List.range, List.range.loop])
  repeat (refine opsW_cons rfl (by rfl) ?_; intro _ hR K hK; replace hF := atRel_trans _ _ _ hF hR; clear hR; have hs9 := atRel_size hF; go_simp; refine hK _ _ ⟨?_, ?_⟩; (· rw [listed_nil (by simp [go_sem, *])]; exact dp0_nil); clear hK K hs9; try walk_nrm)
  refine opsW_step rfl (fun w₁ h₁ => ?_)
  replace hF := atRel_trans _ _ _ hF h₁
  clear h₁
  refine ⟨_, _, _, fun b k cs hb hk => stepG_load_atomic rfl rfl hk rfl wgLib.f_loadU64 (Go.ConcR.Gen.x_loadU64_n lnk) (Go.ConcR.Gen.x_loadU64_b lnk) (Go.ConcR.Gen.x_loadU64_x lnk) .u64 (Go.ConcR.Gen.x_loadU64_f lnk) rfl ((atRel_cell hF _).trans hc), ?_, ?_⟩
  · intro e he
    simp at he
    subst he
    exact evP_sync _ _ _
  walk_nrm
  (refine opsW_cons rfl (by rfl) ?_; intro _ hR K hK; replace hF := atRel_trans _ _ _ hF hR; clear hR; have hs9 := atRel_size hF; go_simp; refine hK _ _ ⟨?_, ?_⟩; (· rw [listed_nil (by simp [go_sem, *])]; exact dp0_nil); clear hK K hs9; try walk_nrm)
  (refine opsW_nil T9 ?_; simp only [Exit.then])
  (refine codeW_ret T9 ?_)
  exact ⟨rfl, _, resultsC_tmp rfl _, rfl, hF⟩
theorem cas43_W (g o : Nat) (v old n : Int) (w : World) (hc : w.cell? ⟨g, o, none⟩ = some (.int .u64 v)) (hz : w.frozen? ⟨g, o, none⟩ = false) : CW Shun 43 #[.pointer (some ⟨g, o, none⟩), .int .u64 old, .int .u64 n] w (fun r w' => (v = old ∧ r = .bool true ∧ AtRel (w.setCell ⟨g, o, none⟩ (.int .u64 n)) w') ∨ (v ≠ old ∧ r = .bool false ∧ AtRel w w')) := by
  have T9 := termsP Shun
  refine callsW_enter Try.func43 (by kernel_rfl) rfl ?_
  simp only [Try.ntmps43]
  walk_nrm
  have hF := atRel_refl w
  ((refine codeW_seq T9 ?_); (refine codeW_region T9 ?_; simp only [List.size_toArray, List.length_cons, List.length_nil, Nat.reduceAdd, Nat.zero_add, List.range, List.range.loop]); (repeat (refine opsW_cons rfl (by rfl) ?_; intro _ hR K hK; replace hF := atRel_trans _ _ _ hF hR; clear hR; have hs9 := atRel_size hF; go_simp; refine hK _ _ ⟨?_, ?_⟩; (· rw [listed_nil (by simp [go_sem, *])]; exact dp0_nil); clear hK K hs9; try walk_nrm)); (refine opsW_nil T9 ?_; simp only [Exit.then]))
  (refine codeW_seq T9 ?_)
  (refine codeW_region T9 ?_; simp only [List.size_toArray, List.length_cons, List.length_nil, Nat.reduceAdd, Nat.zero_add, List.range, List.range.loop])
  repeat (refine opsW_cons rfl (by rfl) ?_; intro _ hR K hK; replace hF := atRel_trans _ _ _ hF hR; clear hR; have hs9 := atRel_size hF; go_simp; refine hK _ _ ⟨?_, ?_⟩; (· rw [listed_nil (by simp [go_sem, *])]; exact dp0_nil); clear hK K hs9; try walk_nrm)
  by_cases he : v = old
  · subst he
    refine opsW_step rfl (fun w₁ h₁ => ?_)
    replace hF := atRel_trans _ _ _ hF h₁
    clear h₁
    refine ⟨_, _, _, fun b k cs hb hk => stepG_cas_hit rfl rfl hk rfl wgLib.f_casU64 (Go.ConcR.Gen.x_casU64_n lnk) (Go.ConcR.Gen.x_casU64_b lnk) (Go.ConcR.Gen.x_casU64_x lnk) .u64 (Go.ConcR.Gen.x_casU64_f lnk) rfl rfl rfl ((atRel_cell hF _).trans hc) ((atRel_frozen hF _).trans hz), ?_, ?_⟩
    · intro e he
      simp at he
      rcases he with rfl | rfl <;> exact evP_sync _ _ _
    replace hF := atRel_set hF ⟨g, o, none⟩ (.int .u64 n)
    walk_nrm
    (refine opsW_cons rfl (by rfl) ?_; intro _ hR K hK; replace hF := atRel_trans _ _ _ hF hR; clear hR; have hs9 := atRel_size hF; go_simp; refine hK _ _ ⟨?_, ?_⟩; (· rw [listed_nil (by simp [go_sem, *])]; exact dp0_nil); clear hK K hs9; try walk_nrm)
    (refine opsW_nil T9 ?_; simp only [Exit.then])
    (refine codeW_ret T9 ?_)
    exact ⟨rfl, _, resultsC_tmp rfl _, .inl ⟨by trivial, rfl, hF⟩⟩
  · refine opsW_step rfl (fun w₁ h₁ => ?_)
    replace hF := atRel_trans _ _ _ hF h₁
    clear h₁
    refine ⟨_, _, _, fun b k cs hb hk => stepG_cas_miss rfl rfl hk rfl wgLib.f_casU64 (Go.ConcR.Gen.x_casU64_n lnk) (Go.ConcR.Gen.x_casU64_b lnk) (Go.ConcR.Gen.x_casU64_x lnk) .u64 (Go.ConcR.Gen.x_casU64_f lnk) rfl rfl rfl ((atRel_cell hF _).trans hc) ((atRel_frozen hF _).trans hz) he, ?_, ?_⟩
    · intro e he
      simp at he
      subst he
      exact evP_sync _ _ _
    walk_nrm
    (refine opsW_cons rfl (by rfl) ?_; intro _ hR K hK; replace hF := atRel_trans _ _ _ hF hR; clear hR; have hs9 := atRel_size hF; go_simp; refine hK _ _ ⟨?_, ?_⟩; (· rw [listed_nil (by simp [go_sem, *])]; exact dp0_nil); clear hK K hs9; try walk_nrm)
    (refine opsW_nil T9 ?_; simp only [Exit.then])
    (refine codeW_ret T9 ?_)
    exact ⟨rfl, _, resultsC_tmp rfl _, .inr ⟨he, rfl, hF⟩⟩
end
end Go.Proofs.Ytkcknoodcgmndaa

end
section
/- A loop over a range function beside other goroutines: the judgements. -/
namespace Go.Proofs.Ytkcknoodcgmndaa
open Go.Conc
set_option linter.unusedVariables false
set_option linter.unusedSimpArgs false
set_option linter.unusedSectionVars false
def CodeR (P : Program) (S : Loc → Prop) (l : Nat) (f : FuncId) (c : Code) (Q : Act → World → Prop) (a : Act) (w : World) : Prop :=
  ∀ (k : List Item) (cs : List Frame) (Stop : Goroutine → World → Prop), (∀ a' w', Q a' w' → GoesW P true AtRel (DP0 S) Stop (G ((baseR l f).atR a' k) cs) w') → GoesW P true AtRel (DP0 S) Stop (G ((baseR l f).atR a (.code c :: k)) cs) w
def OpsR (P : Program) (S : Loc → Prop) (l : Nat) (f : FuncId) (ops : Array Oper) (todo : List Nat) (Q : Act → World → Prop) (a : Act) (w : World) : Prop :=
  ∀ (k : List Item) (cs : List Frame) (Stop : Goroutine → World → Prop), (∀ a' w', Q a' w' → GoesW P true AtRel (DP0 S) Stop (G ((baseR l f).atR a' k) cs) w') → GoesW P true AtRel (DP0 S) Stop (G ((baseR l f).atR a (.inRegion ops todo :: k)) cs) w
def CallsD (P : Program) (S : Loc → Prop) (f : FuncId) (args : Array Value) (w : World) (Pos : Value → World → Prop) : Prop :=
  ∃ fn cd, P.funcs[f]? = some fn ∧ (fn.name == "runtime.NumGoroutine") = false ∧ fn.body = some cd ∧
    CodeW P true AtRel (DP0 S) f cd (fun e a w => (e = .normal ∨ e = .ret) ∧ ∃ r, a.defers = [mark9 r] ∧ w.heap[r]? = some (.deferred (some [])) ∧ ∃ v, ResultsC P fn a.tmps v ∧ Pos v (putO w r (.deferred none))) { tmps := args ++ Array.replicate (fn.ntmps - args.size) undef, defers := [] } w
section
variable {P : Program} {S : Loc → Prop} {l : Nat} {f fn : FuncId} {Q : Act → World → Prop} {Q' : Exit → Act → World → Prop} {a : Act} {w : World}
theorem dp_idle {w w' : World} : DP0 S w w' #[] := fun e he => by simp at he
theorem atRel_putO {w w₁ : World} (h : AtRel w w₁) (r : Nat) (o : Obj) : AtRel (putO w r o) (putO w₁ r o) := by obtain ⟨q, rfl⟩ := h; exact ⟨q, rfl⟩
theorem atRel_obj {w w₁ : World} (h : AtRel w w₁) (r : Nat) : w₁.heap[r]? = w.heap[r]? := by obtain ⟨q, rfl⟩ := h; rfl
theorem evP_obj (hSo : ∀ r, ¬ S (.obj r)) (r : Nat) (wr : Bool) : EvP S ⟨.obj r, wr, false⟩ := by
  have e : MemAct.ofEvent ⟨.obj r, wr, false⟩ = .access ⟨.obj r, wr, false⟩ := by cases wr <;> rfl
  refine ⟨fun x hx hs => ?_, by simp, by simp⟩
  simp only [e, MemAct.touch?, Option.some.injEq] at hx
  subst hx
  exact absurd hs (hSo r)
theorem dp_rw2 (hSo : ∀ r, ¬ S (.obj r)) (g : FuncId) (r : Nat) {w w' : World} : DP0 S w w' (seen P g (rw2 r)) := by
  intro e he
  have := mem_seen he
  simp [rw2] at this
  rcases this with rfl | rfl <;> exact evP_obj hSo r _
theorem dp_r1 (hSo : ∀ r, ¬ S (.obj r)) (g : FuncId) (r : Nat) {w w' : World} : DP0 S w w' (seen P g #[⟨.obj r, false, false⟩]) := by
  intro e he
  have := mem_seen he
  simp at this
  subst this
  exact evP_obj hSo r _
theorem tr9 : ∀ a b c, AtRel a b → AtRel b c → AtRel a c := fun a b c h k => atRel_trans a b c h k
theorem codeR_region {id : Nat} {ops : Array Oper} (h : OpsR P S l f ops (List.range ops.size) Q a w) : CodeR P S l f (.region id ops false) Q a w := fun k cs Stop hc =>
  GoesW.mk' rfl fun w₁ h₁ => by rw [stepGR_region]; exact ⟨dp_idle, (h k cs Stop hc).rely tr9 h₁⟩
theorem opsR_nil {ops : Array Oper} (h : Q a w) : OpsR P S l f ops [] Q a w := fun k cs Stop hc => GoesW.mk' rfl fun w₁ h₁ => by rw [stepGR_region_end]; exact ⟨dp_idle, (hc _ _ h).rely tr9 h₁⟩
theorem opsR_cons {ops : Array Oper} {i : Nat} {rest : List Nat} {o : Oper} (ho : ops[i]? = some o) (hw : Region.wanted o (yielded ops a.tmps) = true) (hd : ∀ c, o.op ≠ .defer c)
    (h : ∀ w₁, AtRel w w₁ → ∀ K : Act → World → Prop, (∀ a' w', DP0 S w₁ w' (listed P f a o w₁) ∧ OpsR P S l f ops rest Q a' w' → K a' w') → uponK o a K ((execOp a.eval o).run P w₁)) : OpsR P S l f ops (i :: rest) Q a w := by
  intro k cs Stop hc
  refine GoesW.mk' rfl fun w₁ h₁ => goes_operR ho hw hd ?_
  have := h w₁ h₁ _ fun _ _ x => x
  revert this
  cases (execOp a.eval o).run P w₁ with
  | ok x w' => cases x <;> first | exact fun ⟨d, g⟩ => ⟨d, g k cs Stop hc⟩ | exact id
  | halt _ _ => exact id
/-- the iterator calls the body -/
theorem opsW_yield (hSo : ∀ r, ¬ S (.obj r)) {ops : Array Oper} {i : Nat} {rest : List Nat} {o : Oper} {x y : Operand} {ats : Array TypeId} {t : Nat} {r : Loop} {Pos : World → Prop} (ho : ops[i]? = some o) (hw : Region.wanted o (yielded ops a.tmps) = true)
    (hop : o.op = .call { callee := .value x, args := #[y], argTypes := ats }) (hx : a.eval x = .func (.yield l) #[] #[]) (hl : w.heap[l]? = some (.loop r)) (hp : r.params = #[t]) (hst : r.state = .ready)
    (hround : CodeR P S l r.fn r.assign (fun a1 w1 => w1.heap[l]? = some (.loop r) ∧ CodeR P S l r.fn r.body (fun a2 w2 => ∃ r2, w2.heap[l]? = some (.loop r2) ∧ Pos (putO w2 l (.loop { r2 with state := .ready, pending := none }))) a1 (putO w1 l (.loop { r with state := .busy }))) ⟨r.tmps.setIfInBounds t (a.eval y), []⟩ w)
    (hnext : ∀ w', Pos w' → OpsW P true AtRel (DP0 S) fn ops rest Q' (a.put o.dst (.bool true)) w') : OpsW P true AtRel (DP0 S) fn ops (i :: rest) Q' a w := by
  intro b k cs Stop hb hk hc
  have hfin : ∀ v, (b.at a (.inRegion ops (i :: rest) :: k)).finish v = b.at (a.put o.dst v) (.inRegion ops rest :: k) := fun v => by rw [Frame.finish_at, ho]; rfl
  refine GoesW.mk' rfl fun w₁ h₁ => ?_
  rw [stepG_yield ho hw hk hop hx ((atRel_obj h₁ l).trans hl) hp, round_atR]
  refine ⟨dp_r1 hSo _ _, ?_⟩
  refine GoesW.rely tr9 (hround _ _ Stop fun a1 w1 ⟨g1, g2⟩ => ?_) h₁
  refine GoesW.mk' rfl fun w₂ h₂ => ?_
  rw [stepGR_begin ((atRel_obj h₂ l).trans g1) hst]
  refine ⟨dp_rw2 hSo _ _, GoesW.rely tr9 (g2 _ _ Stop fun a2 w2 ⟨r2, g3, g4⟩ => ?_) (atRel_putO h₂ _ _)⟩
  refine GoesW.mk' rfl fun w₃ h₃ => ?_
  rw [stepGR_end ((atRel_obj h₃ l).trans g3), hfin]
  exact ⟨dp_rw2 hSo _ _, GoesW.rely tr9 (hnext _ g4 b k cs Stop hb hk hc) (atRel_putO h₃ _ _)⟩
/-- the loop, whole -/
theorem codeW_rangeFunc (hSo : ∀ r, ¬ S (.obj r)) {x : Operand} {params : Array Tmp} {asg body : Code} {g : FuncId} {cap : Array Value} {Pos : World → Prop} (hx : a.eval x = .func (.func g) #[] cap)
    (hcall : ∀ w₁, AtRel w w₁ → CallsW P true AtRel (DP0 S) g (#[.func (.yield (w₁.heap.size + 1)) #[] #[]] ++ cap) ((w₁.alloc (.deferred (some []))).alloc (.loop { state := .ready, pending := none, fn := fn, tmps := a.tmps, params := params, assign := asg, body := body, defers := w₁.heap.size }))
      (fun v w' => ∃ r, w'.heap[w.heap.size + 1]? = some (.loop r) ∧ r.state ≠ .busy ∧ r.pending = none ∧ Pos (putO w' (w.heap.size + 1) (.loop { r with state := .exhausted }))))
    (hnext : ∀ w', Pos w' → Q' .normal ⟨a.tmps, mark9 w.heap.size :: a.defers⟩ w') : CodeW P true AtRel (DP0 S) fn (.rangeFunc x params asg body) Q' a w := by
  intro b k cs Stop hb hk hc
  refine GoesW.mk' rfl fun w₁ h₁ => ?_
  obtain ⟨fnn, cd, hf, hname, hbody, hwp⟩ := hcall w₁ h₁
  have hsz := atRel_size h₁
  rw [stepG_rangeFunc hx hf hname hbody, hb, hsz]
  rw [hsz] at hwp
  refine ⟨dp_idle, ?_⟩
  have hleave : ∀ (a' : Act) (w' : World) (todo : List Item), (a'.defers = [] ∧ ∃ v, ResultsC P fnn a'.tmps v ∧ ∃ r, w'.heap[w.heap.size + 1]? = some (.loop r) ∧ r.state ≠ .busy ∧ r.pending = none ∧ Pos (putO w' (w.heap.size + 1) (.loop { r with state := .exhausted }))) →
      GoesW P true AtRel (DP0 S) Stop (G { (base g).at a' todo with mode := .returning } (b.at ⟨a.tmps, mark9 w.heap.size :: a.defers⟩ (.inRangeFunc (w.heap.size + 1) :: k) :: cs)) w' := by
    rintro a' w' todo ⟨hd, v, hr, r, g1, g2, g3, g4⟩
    refine GoesW.mk' rfl fun w₂ h₂ => ?_
    rw [stepG_leave (b := base g) rfl hd hf (hr w₂).1 (hr w₂).2, finish_inRange]
    refine ⟨dp_idle, GoesW.rely tr9 (GoesW.mk' rfl fun w₃ h₃ => ?_) h₂⟩
    rw [stepG_endRange ((atRel_obj h₃ _).trans g1) g2 g3]
    exact ⟨dp_rw2 hSo _ _, GoesW.rely tr9 (hc .normal _ _ (hnext _ g4)) (atRel_putO h₃ _ _)⟩
  refine hwp (base g) [] _ Stop rfl (by simp [base]) fun e a' w' q => ?_
  cases e with
  | normal => exact GoesW.mk' rfl fun w₂ h₂ => by rw [stepG_end]; exact ⟨dp_idle, (hleave a' w' [] q).rely tr9 h₂⟩
  | ret => exact fun todo => hleave a' w' todo q
  | exit id => exact q.elim
  | goto l => exact q.elim
  | panic ch => exact q.elim
  | outgrown => exact q.elim
/-- a function that leaves with the loop's mark is called -/
theorem opsW_callD (hSo : ∀ r, ¬ S (.obj r)) {ops : Array Oper} {i : Nat} {rest : List Nat} {o : Oper} {g : FuncId} {args : Array Operand} {ats : Array TypeId} {Pos : Value → World → Prop}
    (ho : ops[i]? = some o) (hw : Region.wanted o (yielded ops a.tmps) = true) (hop : o.op = .call { callee := .value (.func g), args, argTypes := ats })
    (hcall : CallsD P S g (args.map a.eval) w Pos) (hnext : ∀ v w', Pos v w' → OpsW P true AtRel (DP0 S) fn ops rest Q' (a.put o.dst v) w') : OpsW P true AtRel (DP0 S) fn ops (i :: rest) Q' a w := by
  intro b k cs Stop hb hk hc
  obtain ⟨fnn, cd, hf, hname, hbody, hwp⟩ := hcall
  have hfin : ∀ v, (b.at a (.inRegion ops (i :: rest) :: k)).finish v = b.at (a.put o.dst v) (.inRegion ops rest :: k) := fun v => by rw [Frame.finish_at, ho]; rfl
  have hleave : ∀ (a' : Act) (w' : World) (todo : List Item), (∃ r, a'.defers = [mark9 r] ∧ w'.heap[r]? = some (.deferred (some [])) ∧ ∃ v, ResultsC P fnn a'.tmps v ∧ Pos v (putO w' r (.deferred none))) →
      GoesW P true AtRel (DP0 S) Stop (G { (base g).at a' todo with mode := .returning } (b.at a (.inRegion ops (i :: rest) :: k) :: cs)) w' := by
    rintro a' w' todo ⟨r, hd, h0, v, hr, hp⟩
    refine GoesW.mk' rfl fun w₁ h₁ => ?_
    rw [stepG_unwind_collected (b := base g) hd ((atRel_obj h₁ _).trans h0)]
    refine ⟨dp_rw2 hSo _ _, GoesW.rely tr9 (GoesW.mk' rfl fun w₂ h₂ => ?_) (atRel_putO h₁ _ _)⟩
    rw [stepG_leave (b := base g) (a := ⟨a'.tmps, []⟩) rfl rfl hf (hr w₂).1 (hr w₂).2, hfin]
    exact ⟨dp_idle, (hnext v _ hp b k cs Stop hb hk hc).rely tr9 h₂⟩
  have hbodyG : GoesW P true AtRel (DP0 S) Stop (G ((base g).at { tmps := args.map a.eval ++ Array.replicate (fnn.ntmps - (args.map a.eval).size) undef, defers := [] } [.code cd]) (b.at a (.inRegion ops (i :: rest) :: k) :: cs)) w := by
    refine hwp (base g) [] _ Stop rfl (by simp [base]) fun e a' w' q => ?_
    obtain ⟨he, q⟩ := q
    rcases he with rfl | rfl
    · exact GoesW.mk' rfl fun w₁ h₁ => by rw [stepG_end]; exact ⟨dp_idle, (hleave a' w' [] q).rely tr9 h₁⟩
    · exact fun todo => hleave a' w' todo q
  exact GoesW.mk' rfl fun w₁ h₁ => goes_call ho hw hk hop hf hname hbody ⟨dp_idle, hbodyG.rely tr9 h₁⟩
end
end Go.Proofs.Ytkcknoodcgmndaa

end
section
/- append of ints beside other goroutines; a block in a round. -/
namespace Go.Proofs.Ytkcknoodcgmndaa
open Go.Conc
set_option linter.unusedVariables false
set_option linter.unusedSimpArgs false
set_option linter.unusedSectionVars false
section
variable {P : Program} {main : Bool} {l : Nat} {f : FuncId} {a : Act} {k : List Item} {cs : List Frame} {w : World}
theorem stepGR_block {id : Nat} {c : Code} : stepG P main (G ((baseR l f).atR a (.code (.block id c) :: k)) cs) w = .go (G ((baseR l f).atR a (.code c :: .inBlock id :: k)) cs) w := by simp [G, stepG, stepG.exec, Frame.atR]
theorem stepGR_inBlock {id : Nat} : stepG P main (G ((baseR l f).atR a (.inBlock id :: k)) cs) w = .go (G ((baseR l f).atR a k) cs) w := by simp [G, stepG, stepG.exec, Frame.atR]
theorem codeR_block {S : Loc → Prop} {Q : Act → World → Prop} {id : Nat} {c : Code} (h : CodeR P S l f c Q a w) : CodeR P S l f (.block id c) Q a w := fun k cs Stop hc =>
  GoesW.mk' rfl fun w₁ h₁ => by
    rw [stepGR_block]
    exact ⟨dp_idle, (h (.inBlock id :: k) cs Stop fun a' w' q => GoesW.mk' rfl fun w₂ h₂ => by rw [stepGR_inBlock]; exact ⟨dp_idle, (hc _ _ q).rely tr9 h₂⟩).rely tr9 h₁⟩
end
theorem intInfo : (Try.prog.info? 3).map (fun i => (i.zero, i.size, i.bytes)) = some (some (.int .i64 0), 1, 8) := by kernel_rfl
theorem intInfo' : ∃ i, Try.prog.info? 3 = some i ∧ i.zero = some (.int .i64 0) ∧ i.size = 1 ∧ i.bytes = 8 := by
  have h := intInfo
  cases hi : Try.prog.info? 3 with
  | none => rw [hi] at h; simp at h
  | some i =>
    rw [hi] at h
    simp at h
    exact ⟨i, rfl, h.1, h.2.1, h.2.2⟩
theorem ownsRow_at {w w₁ : World} (h : AtRel w w₁) {base : Nat} {e : TypeId} {size : Nat} {v : Value} {n : Nat} {xs : List Value} (ho : w.ownsRow base e size v n xs) : w₁.ownsRow base e size v n xs := by
  obtain ⟨q, rfl⟩ := h
  exact ho
theorem grownBy_at {w w₁ w' : World} (h : AtRel w w₁) {r : Option Nat} (hg : w₁.grownBy w' r) : w.grownBy w' r := by
  obtain ⟨q, rfl⟩ := h
  exact ⟨hg.os, hg.tape, hg.output, hg.size, hg.block⟩
/-- what an append of one's own row does, whoever stands beside -/
theorem append_int {S : Loc → Prop} {w : World} {o : Oper} {a : Act} {fn : FuncId} {K : Act → World → Prop} {s x : Operand} {base : Nat} {v : Value} {n : Nat} {xs : List Value} {ad : Addr} {m c : Nat} {news : List Value}
    (ho : o.op = .call { callee := .builtin .append, args := #[s, x], argTypes := #[33, 33] }) (hs : a.eval s = v) (hx : a.eval x = .slice (some ad) m c)
    (hown : w.ownsRow base 3 1 v n xs) (hl : news.length = m) (hnews : ∀ j u, news[j]? = some u → w.cell? (ad.add j) = some u) (h1 : ∀ u ∈ news, u.oneCell' = true)
    (h63 : n + m ≤ 1000000) (hbase : base ≤ w.heap.size) (hSn : ∀ a : Addr, base ≤ a.block → ¬ S (.cell a)) (hSr : ∀ a : Addr, a.block = ad.block → ¬ S (.cell a))
    (w₁ : World) (hr : AtRel w w₁)
    (hK : ∀ v' w', w'.ownsRow base 3 1 v' (n + m) (xs ++ news) → w.grownBy w' v.ownBlock → DP0 S w₁ w' (listed Try.prog fn a o w₁) → K (a.put o.dst v') w') :
    uponK o a K ((execOp a.eval o).run Try.prog w₁) := by
  obtain ⟨i, hi, hz, hsz, hby⟩ := intInfo'
  obtain ⟨v', w', h2, h3, h4, _⟩ := run_append_own (P := Try.prog) (w := w₁) base 33 o.type 3 i (.int .i64 0) 1 8 Try.underlying33 hi hz hsz hby rfl (by decide) v n xs (ownsRow_at hr hown) ad m c news (by omega)
    (fun j u hu => (atRel_cell hr _).trans (hnews j u hu)) h1 (by unfold maxLen; omega) (by omega) (by rw [atRel_size hr]; exact hbase)
  refine uponK_append s x 33 ho hs hx h2 (hK v' w' h3 (grownBy_at hr h4) ?_)
  intro e he
  have hm := mem_listed he
  rw [events_append_op s x 33 ho hs hx] at hm
  rcases events_append_where (P := Try.prog) w₁ base 33 o.type 3 i (.int .i64 0) 1 8 Try.underlying33 hi hz hsz hby v n xs (ownsRow_at hr hown) ad m c news (by omega)
    (fun j u hu => (atRel_cell hr _).trans (hnews j u hu)) h1 (by unfold maxLen; omega) (by omega) e hm with ⟨ad', h5, h6⟩ | ⟨mk, rfl, hn⟩
  · have hns : ¬ S (.cell ad') := by
      rcases h6 with ⟨_, h6⟩ | h6
      · exact hSr _ h6
      · exact hSn _ ((hown.lt _ h6.symm).1)
    obtain ⟨loc, wr, sy⟩ := e
    simp only at h5
    subst h5
    cases sy
    · exact evP_cell _ hns
    · exact evP_sync _ _ _
  · refine ⟨fun x hx _ => ?_, fun h => hn.ne_disable (by injection h), fun h => hn.ne_enable (by injection h)⟩
    have : MemAct.ofEvent ⟨.mark mk, false, true⟩ = .mark mk := rfl
    rw [this, hn.touch] at hx
    cases hx
/-- nothing is appended -/
theorem append_nothing {S : Loc → Prop} {w : World} {o : Oper} {a : Act} {fn : FuncId} {K : Act → World → Prop} {s x : Operand} {b b' : Option Addr} {n c c' : Nat}
    (ho : o.op = .call { callee := .builtin .append, args := #[s, x], argTypes := #[33, 33] }) (hs : a.eval s = .slice b n c) (hx : a.eval x = .slice b' 0 c') (hle : n ≤ c)
    (w₁ : World) (hr : AtRel w w₁) (hK : DP0 S w₁ w₁ (listed Try.prog fn a o w₁) → K (a.put o.dst (.slice b n c)) w₁) :
    uponK o a K ((execOp a.eval o).run Try.prog w₁) := by
  obtain ⟨i, hi, hz, hsz, hby⟩ := intInfo'
  have hr1 : (Builtin.append_ #[33, 33] o.type #[.slice b n c, .slice b' 0 c']).run Try.prog w₁ = .ok (.slice b n c) w₁ := by
    cases b <;> cases b' <;> simp [Builtin.append_, run_underlying Try.underlying33, sizeOf, typeInfo, hi, hle, storeCells, Builtin.lenOf, Builtin.firstCells, loadCells, loadCellsFrom, hsz]
  have he1 : (Builtin.append_ #[33, 33] o.type #[.slice b n c, .slice b' 0 c']).events Try.prog w₁ #[] = #[] := by
    cases b <;> cases b' <;> simp [Builtin.append_, run_underlying Try.underlying33, sizeOf, typeInfo, hi, hle, storeCells, Builtin.lenOf, Builtin.firstCells, loadCells, loadCellsFrom, hsz]
  refine uponK_append s x 33 ho hs hx hr1 (hK ?_)
  intro e he
  have hm := mem_listed he
  rw [events_append_op s x 33 ho hs hx, he1] at hm
  simp at hm
end Go.Proofs.Ytkcknoodcgmndaa

end
