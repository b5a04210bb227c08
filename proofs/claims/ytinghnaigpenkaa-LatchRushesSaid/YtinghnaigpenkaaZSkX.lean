import Derived.Test.YtinghnaigpenkaaZPhH
import Derived.Conc.CompanyWords
import Derived.Conc.CompanyDraw
import Derived.Conc.DeferLaws
section
/- A goroutine's walk without counts: the judgement, its rules; a segment between two phases. -/
namespace Go.Proofs.Ytinghnaigpenkaa
open Go.Conc
open Go.ConcN (sumTo upd sumTo_upd upd_same upd_ne get_map_set get_map_set_same)
open Go.ConcR (g_of_ofEvents Payload)
set_option linter.unusedVariables false
set_option linter.unusedSimpArgs false
set_option linter.unusedSectionVars false

/-- on its way to a stop -/
inductive GoesW (P : Program) (main : Bool) (R : World → World → Prop) (D : World → World → Array Event → Prop) (Stop : Goroutine → World → Prop) : Goroutine → World → Prop
  | stop {g : Goroutine} {w : World} : (∀ w₁, R w w₁ → Stop g w₁) → GoesW P main R D Stop g w
  | step {g : Goroutine} {w : World} (f : World → Goroutine × World × Array Event) : g.status = .running → (∀ w₁, R w w₁ → stepG P main g w₁ = .go (f w₁).1 (f w₁).2.1 (f w₁).2.2 ∧ D w₁ (f w₁).2.1 (f w₁).2.2) →
      (∀ w₁, R w w₁ → GoesW P main R D Stop (f w₁).1 (f w₁).2.1) → GoesW P main R D Stop g w
section
variable {P : Program} {main : Bool} {R : World → World → Prop} {D : World → World → Array Event → Prop} {Stop : Goroutine → World → Prop}
theorem GoesW.mk' {g : Goroutine} {w : World} (hs : g.status = .running) (h : ∀ w₁, R w w₁ → (stepG P main g w₁).goes fun g' w' es => D w₁ w' es ∧ GoesW P main R D Stop g' w') : GoesW P main R D Stop g w := by
  have hx : ∀ w₁, ∃ y : Goroutine × World × Array Event, R w w₁ → stepG P main g w₁ = .go y.1 y.2.1 y.2.2 ∧ D w₁ y.2.1 y.2.2 ∧ GoesW P main R D Stop y.1 y.2.1 := fun w₁ => by
    by_cases hr : R w w₁
    · obtain ⟨g', w', es, h1, h2, h3⟩ := goes_elim (h w₁ hr)
      exact ⟨(g', w', es), fun _ => ⟨h1, h2, h3⟩⟩
    · exact ⟨(g, w, #[]), fun h => absurd h hr⟩
  obtain ⟨f, hf⟩ := Classical.axiomOfChoice hx
  exact .step f hs (fun w₁ h₁ => ⟨(hf w₁ h₁).1, (hf w₁ h₁).2.1⟩) (fun w₁ h₁ => (hf w₁ h₁).2.2)
theorem GoesW.rely (trans : ∀ a b c, R a b → R b c → R a c) {g : Goroutine} {w w₁ : World} (h : GoesW P main R D Stop g w) (hr : R w w₁) : GoesW P main R D Stop g w₁ := by
  cases h with
  | stop h => exact .stop fun w₂ h₂ => h w₂ (trans _ _ _ hr h₂)
  | step f hs h1 h2 => exact .step f hs (fun w₂ h₂ => h1 w₂ (trans _ _ _ hr h₂)) (fun w₂ h₂ => h2 w₂ (trans _ _ _ hr h₂))
theorem GoesW.mono {Stop' : Goroutine → World → Prop} {g : Goroutine} {w : World} (h : GoesW P main R D Stop' g w) (hs : ∀ g w, Stop' g w → Stop g w) : GoesW P main R D Stop g w := by
  induction h with
  | stop h => exact .stop fun w₁ h₁ => hs _ _ (h w₁ h₁)
  | step f hr h1 h2 ih => exact .step f hr h1 ih
/-- where the walk goes on behind a piece of code -/
def AfterW (P : Program) (main : Bool) (R : World → World → Prop) (D : World → World → Array Event → Prop) (Stop : Goroutine → World → Prop) (b : Frame) (k : List Item) (cs : List Frame) : Exit → Act → World → Prop
  | .normal, a, w => GoesW P main R D Stop (G (b.at a k) cs) w
  | .exit id, a, w => ∃ k', exitTo id k = some k' ∧ GoesW P main R D Stop (G (b.at a k') cs) w
  | .ret, a, w => ∀ todo, GoesW P main R D Stop (G { b.at a todo with mode := .returning } cs) w
  | _, _, _ => False
theorem AfterW.push {b : Frame} {x : Item} {k : List Item} {cs : List Frame} {e : Exit} {a : Act} {w : World} (hx : x.plain = true) (he : e ≠ .normal) (h : AfterW P main R D Stop b k cs e a w) : AfterW P main R D Stop b (x :: k) cs e a w := by
  cases e with
  | normal => exact absurd rfl he
  | exit id => obtain ⟨k', hk, hg⟩ := h; exact ⟨k', by cases x <;> simp_all [exitTo, Item.plain], hg⟩
  | ret => exact h
  | goto l => exact h
  | panic ch => exact h
  | outgrown => exact h
end

/-- ████ THE JUDGEMENT ████ -/
def CodeW (P : Program) (main : Bool) (R : World → World → Prop) (D : World → World → Array Event → Prop) (fn : FuncId) (c : Code) (Q : Exit → Act → World → Prop) (a : Act) (w : World) : Prop :=
  ∀ (b : Frame) (k : List Item) (cs : List Frame) (Stop : Goroutine → World → Prop), b.fn = fn → b.kind ≠ .early → (∀ e a' w', Q e a' w' → AfterW P main R D Stop b k cs e a' w') → GoesW P main R D Stop (G (b.at a (.code c :: k)) cs) w
def OpsW (P : Program) (main : Bool) (R : World → World → Prop) (D : World → World → Array Event → Prop) (fn : FuncId) (ops : Array Oper) (todo : List Nat) (Q : Exit → Act → World → Prop) (a : Act) (w : World) : Prop :=
  ∀ (b : Frame) (k : List Item) (cs : List Frame) (Stop : Goroutine → World → Prop), b.fn = fn → b.kind ≠ .early → (∀ e a' w', Q e a' w' → AfterW P main R D Stop b k cs e a' w') → GoesW P main R D Stop (G (b.at a (.inRegion ops todo :: k)) cs) w
def CallsW (P : Program) (main : Bool) (R : World → World → Prop) (D : World → World → Array Event → Prop) (f : FuncId) (args : Array Value) (w : World) (Post : Value → World → Prop) : Prop :=
  ∃ fn cd, P.funcs[f]? = some fn ∧ (fn.name == "runtime.NumGoroutine") = false ∧ fn.body = some cd ∧ CodeW P main R D f cd (bodyPostC P fn Post) { tmps := args ++ Array.replicate (fn.ntmps - args.size) undef, defers := [] } w
section
variable {P : Program} {main : Bool} {R : World → World → Prop} {D : World → World → Array Event → Prop} {fn : FuncId} {Q : Exit → Act → World → Prop} {a : Act} {w : World}
theorem codeW_mono {c : Code} {Q' : Exit → Act → World → Prop} (h : CodeW P main R D fn c Q a w) (hq : ∀ e a w, Q e a w → Q' e a w) : CodeW P main R D fn c Q' a w := fun b k cs Stop hb hk hc => h b k cs Stop hb hk fun e a' w' q => hc e a' w' (hq _ _ _ q)
theorem codeW_rely (T : Terms R D) {c : Code} {w₁ : World} (h : CodeW P main R D fn c Q a w) (hr : R w w₁) : CodeW P main R D fn c Q a w₁ := fun b k cs Stop hb hk hc => (h b k cs Stop hb hk hc).rely T.trans hr
theorem codeW_skip (T : Terms R D) (h : Q .normal a w) : CodeW P main R D fn .skip Q a w := fun b k cs Stop _ _ hc => GoesW.mk' rfl fun w₁ h₁ => by rw [stepG_skip]; exact ⟨T.idle _, GoesW.rely T.trans (hc _ _ _ h) h₁⟩
theorem codeW_ret (T : Terms R D) (h : Q .ret a w) : CodeW P main R D fn .ret Q a w := fun b k cs Stop _ _ hc => GoesW.mk' rfl fun w₁ h₁ => by rw [stepG_ret']; exact ⟨T.idle _, GoesW.rely T.trans (hc _ _ _ h _) h₁⟩
theorem codeW_exit (T : Terms R D) {id : Nat} (h : Q (.exit id) a w) : CodeW P main R D fn (.exit id) Q a w := fun b k cs Stop _ _ hc => by
  obtain ⟨k', hk, hg⟩ := hc _ _ _ h
  exact GoesW.mk' rfl fun w₁ h₁ => by rw [stepG_exit hk]; exact ⟨T.idle _, GoesW.rely T.trans hg h₁⟩
theorem codeW_seq (T : Terms R D) {x y : Code} (h : CodeW P main R D fn x (Exit.then (fun a' w' => CodeW P main R D fn y Q a' w') Q) a w) : CodeW P main R D fn (.seq x y) Q a w := by
  intro b k cs Stop hb hk hc
  have hx : GoesW P main R D Stop (G (b.at a (.code x :: .code y :: k)) cs) w := by
    refine h b (.code y :: k) cs Stop hb hk fun e a' w' q => ?_
    by_cases he : e = .normal
    · subst he; exact q b k cs Stop hb hk hc
    · have q' : Q e a' w' := by cases e <;> first | exact absurd rfl he | exact q
      exact (hc _ _ _ q').push (x := .code y) rfl he
  exact GoesW.mk' rfl fun w₁ h₁ => by rw [stepG_seq]; exact ⟨T.idle _, hx.rely T.trans h₁⟩
theorem codeW_cond (T : Terms R D) {cc : Operand} {x y : Code} {t : Bool} (hc : a.eval cc = .bool t) (h : CodeW P main R D fn (if t then x else y) Q a w) : CodeW P main R D fn (.cond cc x y) Q a w :=
  fun b k cs Stop hb hk hq => GoesW.mk' rfl fun w₁ h₁ => by rw [stepG_cond hc]; exact ⟨T.idle _, (h b k cs Stop hb hk hq).rely T.trans h₁⟩
theorem codeW_block (T : Terms R D) {id : Nat} {c : Code} (h : CodeW P main R D fn c (Exit.inBlock id Q) a w) : CodeW P main R D fn (.block id c) Q a w := by
  intro b k cs Stop hb hk hc
  have hx : GoesW P main R D Stop (G (b.at a (.code c :: .inBlock id :: k)) cs) w := by
    refine h b (.inBlock id :: k) cs Stop hb hk fun e a' w' q => ?_
    cases e with
    | normal => exact GoesW.mk' rfl fun w₁ h₁ => by rw [stepG_inBlock]; exact ⟨T.idle _, GoesW.rely T.trans (hc _ _ _ q) h₁⟩
    | exit id' =>
      by_cases hid : id' = id
      · simp only [Exit.inBlock, hid, if_true] at q
        exact ⟨k, by simp [exitTo, hid], hc _ _ _ q⟩
      · simp only [Exit.inBlock, hid, if_false] at q
        obtain ⟨k', hk', hg⟩ := hc _ _ _ q
        have : (id == id') = false := by simp; exact fun h => hid h.symm
        exact ⟨k', by simp [exitTo, this, hk'], hg⟩
    | ret => exact fun todo => hc _ _ _ q todo
    | goto l => exact hc _ _ _ q
    | panic ch => exact hc _ _ _ q
    | outgrown => exact hc _ _ _ q
  exact GoesW.mk' rfl fun w₁ h₁ => by rw [stepG_block]; exact ⟨T.idle _, hx.rely T.trans h₁⟩
theorem codeW_loop (T : Terms R D) {cd : Code} (I : Act → World → Prop) (μ : Act → World → Nat) (h₀ : I a w)
    (round : ∀ a w, I a w → CodeW P main R D fn cd (Exit.then (fun a' w' => I a' w' ∧ μ a' w' < μ a w) Q) a w) : CodeW P main R D fn (.loop cd) Q a w := by
  intro b k cs Stop hb hk hc
  have key : ∀ M a w, μ a w ≤ M → I a w → GoesW P main R D Stop (G (b.at a (.code cd :: .inLoop cd :: k)) cs) w := by
    intro M
    induction M with
    | zero =>
      intro a w hμ hI
      refine round a w hI b (.inLoop cd :: k) cs Stop hb hk fun e a' w' q => ?_
      by_cases he : e = .normal
      · subst he; exact absurd q.2 (by omega)
      · have q' : Q e a' w' := by cases e <;> first | exact absurd rfl he | exact q
        exact (hc _ _ _ q').push (x := .inLoop cd) rfl he
    | succ M ih =>
      intro a w hμ hI
      refine round a w hI b (.inLoop cd :: k) cs Stop hb hk fun e a' w' q => ?_
      by_cases he : e = .normal
      · subst he
        exact GoesW.mk' rfl fun w₁ h₁ => by rw [stepG_inLoop]; exact ⟨T.idle _, (ih a' w' (by have := q.2; omega) q.1).rely T.trans h₁⟩
      · have q' : Q e a' w' := by cases e <;> first | exact absurd rfl he | exact q
        exact (hc _ _ _ q').push (x := .inLoop cd) rfl he
  exact GoesW.mk' rfl fun w₁ h₁ => by rw [stepG_loop]; exact ⟨T.idle _, (key _ a w (Nat.le_refl _) h₀).rely T.trans h₁⟩
theorem codeW_region (T : Terms R D) {id : Nat} {ops : Array Oper} (h : OpsW P main R D fn ops (List.range ops.size) Q a w) : CodeW P main R D fn (.region id ops false) Q a w :=
  fun b k cs Stop hb hk hc => GoesW.mk' rfl fun w₁ h₁ => by rw [stepG_region]; exact ⟨T.idle _, (h b k cs Stop hb hk hc).rely T.trans h₁⟩
theorem opsW_nil (T : Terms R D) {ops : Array Oper} (h : Q .normal a w) : OpsW P main R D fn ops [] Q a w := fun b k cs Stop _ _ hc => GoesW.mk' rfl fun w₁ h₁ => by rw [stepG_region_end]; exact ⟨T.idle _, GoesW.rely T.trans (hc _ _ _ h) h₁⟩
theorem opsW_cons {ops : Array Oper} {i : Nat} {rest : List Nat} {o : Oper} (ho : ops[i]? = some o) (hw : Region.wanted o (yielded ops a.tmps) = true)
    (h : ∀ w₁, R w w₁ → ∀ K : Act → World → Prop, (∀ a' w', D w₁ w' (listed P fn a o w₁) ∧ OpsW P main R D fn ops rest Q a' w' → K a' w') → uponK o a K ((execOp a.eval o).run P w₁)) : OpsW P main R D fn ops (i :: rest) Q a w := by
  intro b k cs Stop hb hk hc
  refine GoesW.mk' rfl fun w₁ h₁ => goes_oper ho hw hk ?_
  have := h w₁ h₁ _ fun _ _ x => x
  revert this
  cases (execOp a.eval o).run P w₁ with
  | ok x w' => cases x <;> first | exact fun ⟨d, g⟩ => ⟨hb ▸ d, g b k cs Stop hb hk hc⟩ | exact id
  | halt _ _ => exact id
theorem opsW_unwanted (T : Terms R D) {ops : Array Oper} {i : Nat} {rest : List Nat} {o : Oper} (ho : ops[i]? = some o) (hw : Region.wanted o (yielded ops a.tmps) = false) (h : OpsW P main R D fn ops rest Q (a.put o.dst undef) w) : OpsW P main R D fn ops (i :: rest) Q a w :=
  fun b k cs Stop hb hk hc => GoesW.mk' rfl fun w₁ h₁ => by rw [stepG_unwanted ho hw]; exact ⟨T.idle _, (h b k cs Stop hb hk hc).rely T.trans h₁⟩
/-- a step whose law is known -/
theorem opsW_step {ops : Array Oper} {i : Nat} {rest : List Nat} {o : Oper} (ho : ops[i]? = some o)
    (h : ∀ w₁, R w w₁ → ∃ v w' es, (∀ (b : Frame) (k : List Item) (cs : List Frame), b.fn = fn → b.kind ≠ .early → stepG P main (G (b.at a (.inRegion ops (i :: rest) :: k)) cs) w₁ = .go (G (b.at (a.put o.dst v) (.inRegion ops rest :: k)) cs) w' es) ∧
      D w₁ w' es ∧ OpsW P main R D fn ops rest Q (a.put o.dst v) w') : OpsW P main R D fn ops (i :: rest) Q a w := by
  intro b k cs Stop hb hk hc
  refine GoesW.mk' rfl fun w₁ h₁ => ?_
  obtain ⟨v, w', es, hst, hd, hnext⟩ := h w₁ h₁
  rw [hst b k cs hb hk]
  exact ⟨hd, hnext b k cs Stop hb hk hc⟩
theorem opsW_call (T : Terms R D) {ops : Array Oper} {i : Nat} {rest : List Nat} {o : Oper} {f : FuncId} {args : Array Operand} {ats : Array TypeId} {Post : Value → World → Prop}
    (ho : ops[i]? = some o) (hw : Region.wanted o (yielded ops a.tmps) = true) (hop : o.op = .call { callee := .value (.func f), args, argTypes := ats })
    (hcall : CallsW P main R D f (args.map a.eval) w Post) (hnext : ∀ v w', Post v w' → OpsW P main R D fn ops rest Q (a.put o.dst v) w') : OpsW P main R D fn ops (i :: rest) Q a w := by
  intro b k cs Stop hb hk hc
  obtain ⟨fnn, cd, hf, hname, hbody, hwp⟩ := hcall
  have hfin : ∀ v, (b.at a (.inRegion ops (i :: rest) :: k)).finish v = b.at (a.put o.dst v) (.inRegion ops rest :: k) := fun v => by rw [Frame.finish_at, ho]; rfl
  have hleave : ∀ (a' : Act) (w' : World) (todo : List Item), (a'.defers = [] ∧ ∃ v, ResultsC P fnn a'.tmps v ∧ Post v w') →
      GoesW P main R D Stop (G { (base f).at a' todo with mode := .returning } (b.at a (.inRegion ops (i :: rest) :: k) :: cs)) w' := by
    rintro a' w' todo ⟨hd, v, hr, hp⟩
    refine GoesW.mk' rfl fun w₁ h₁ => ?_
    rw [stepG_leave (b := base f) rfl hd hf (hr w₁).1 (hr w₁).2, hfin]
    exact ⟨T.idle _, (hnext v w' hp b k cs Stop hb hk hc).rely T.trans h₁⟩
  have hbodyG : GoesW P main R D Stop (G ((base f).at { tmps := args.map a.eval ++ Array.replicate (fnn.ntmps - (args.map a.eval).size) undef, defers := [] } [.code cd]) (b.at a (.inRegion ops (i :: rest) :: k) :: cs)) w := by
    refine hwp (base f) [] _ Stop rfl (by simp [base]) fun e a' w' q => ?_
    cases e with
    | normal => exact GoesW.mk' rfl fun w₁ h₁ => by rw [stepG_end]; exact ⟨T.idle _, (hleave a' w' [] q).rely T.trans h₁⟩
    | ret => exact fun todo => hleave a' w' todo q
    | exit id => exact q.elim
    | goto l => exact q.elim
    | panic ch => exact q.elim
    | outgrown => exact q.elim
  exact GoesW.mk' rfl fun w₁ h₁ => goes_call ho hw hk hop hf hname hbody ⟨T.idle _, hbodyG.rely T.trans h₁⟩
theorem callsW_enter {f : FuncId} {fn : Func} {c : Code} {args : Array Value} {Post : Value → World → Prop} (hf : P.funcs[f]? = some fn) (hname : (fn.name == "runtime.NumGoroutine") = false) (hb : fn.body = some c)
    (h : CodeW P main R D f c (bodyPostC P fn Post) { tmps := args ++ Array.replicate (fn.ntmps - args.size) undef, defers := [] } w) : CallsW P main R D f args w Post := ⟨fn, c, hf, hname, hb, h⟩
theorem CallsW.mono {f : FuncId} {args : Array Value} {Post Post' : Value → World → Prop} (h : CallsW P main R D f args w Post) (hp : ∀ v w, Post v w → Post' v w) : CallsW P main R D f args w Post' := by
  obtain ⟨fn, c, hf, hn, hb, hw⟩ := h
  refine ⟨fn, c, hf, hn, hb, codeW_mono hw fun e a w q => ?_⟩
  cases e <;> first | exact ⟨q.1, q.2.choose, q.2.choose_spec.1, hp _ _ q.2.choose_spec.2⟩ | exact q
theorem CallsW.rely (T : Terms R D) {f : FuncId} {args : Array Value} {w₁ : World} {Post : Value → World → Prop} (h : CallsW P main R D f args w Post) (hr : R w w₁) : CallsW P main R D f args w₁ Post := by
  obtain ⟨fn, c, hf, hn, hb, hw⟩ := h
  exact ⟨fn, c, hf, hn, hb, codeW_rely T hw hr⟩
end

section
variable {P : Program} {Shun : Loc → Prop} {D : World → World → Array Event → Prop} {Stop : Goroutine → World → Prop}
theorem termsP (Shun : Loc → Prop) : Terms AtRel (DP0 Shun) := ⟨fun _ _ _ h k => atRel_trans _ _ _ h k, fun _ => fun e he => by simp at he⟩
/-- ████ A SEGMENT ████ -/
theorem segW {dd : Nat} (hD : ∀ w w' es, D w w' es → ∀ e ∈ es, EvP Shun e) {a : Goroutine} {w : World} (h : GoesW P true AtRel D Stop a w) : ∀ (gs : Array Goroutine) (sl : Option (Nat × Nat)) (t : Trace) (q : Nat → Nat), gs[0]? = some a → FrmD dd P Shun gs t q →
    ∃ (N : Nat) (gs' : Array Goroutine) (a' : Goroutine) (w' : World) (sl' : Option (Nat × Nat)) (t' : Trace) (q' : Nat → Nat),
      runNT P N (crowd gs w sl) t = (.next (crowd gs' w' sl'), t') ∧ gs'.size = gs.size ∧ gs'[0]? = some a' ∧ (∀ w₁, AtRel w' w₁ → Stop a' w₁) ∧ FrmD dd P Shun gs' t' q' := by
  induction h with
  | stop h => exact fun gs sl t q h0 hF => ⟨0, gs, _, _, sl, t, q, rfl, rfl, h0, h, hF⟩
  | step f hr hst hgo ih =>
    rename_i a w
    have key : ∀ (M : Nat) (w₂ : World) (gs : Array Goroutine) (sl : Option (Nat × Nat)) (t : Trace) (q : Nat → Nat), AtRel w w₂ → sumTo gs.size q ≤ M → gs[0]? = some a → FrmD dd P Shun gs t q →
        ∃ (N : Nat) (gs' : Array Goroutine) (a' : Goroutine) (w' : World) (sl' : Option (Nat × Nat)) (t' : Trace) (q' : Nat → Nat),
          runNT P N (crowd gs w₂ sl) t = (.next (crowd gs' w' sl'), t') ∧ gs'.size = gs.size ∧ gs'[0]? = some a' ∧ (∀ w₁, AtRel w' w₁ → Stop a' w₁) ∧ FrmD dd P Shun gs' t' q' := by
      intro M
      induction M with
      | zero =>
        intro w₂ gs sl t q hw hM h0 hF
        rcases seg_pick (w := w₂) (sl := sl) hF h0 hr with ⟨d, sl', hs⟩ | ⟨i, g, k, g', es, d, sl', hi0, hgi, hqi, hm, hq', hs⟩
        · obtain ⟨h1, h2⟩ := hst _ (atRel_trans _ _ _ hw ⟨d, rfl⟩)
          have hrun := runT_crowd_go (P := P) (sl := sl') (i := 0) h0 (by simpa using h1)
          have hsz : ((gs.map (woken P a (f (w₂.at d)).1 (f (w₂.at d)).2.1)).setIfInBounds 0 (f (w₂.at d)).1).size = gs.size := by simp
          have h0' : 0 < gs.size := (Array.getElem?_eq_some_iff.1 h0).1
          obtain ⟨N, gs', a'', w'', sl'', t', q', e1, e2, e3, e4, e5⟩ := ih _ (atRel_trans _ _ _ hw ⟨d, rfl⟩) _ sl' _ q (by simp [h0']) (hF.step0 (a' := (f (w₂.at d)).1) (w' := (f (w₂.at d)).2.1) h0 (hD _ _ _ h2))
          exact ⟨N + 1, gs', a'', w'', sl'', t', q', by simp only [runNT, hs, hrun]; exact e1, e2.trans hsz, e3, e4, e5⟩
        · have hlt : i < gs.size := (Array.getElem?_eq_some_iff.1 hgi).1
          have := ConcN.le_sumTo (f := q) hlt
          omega
      | succ M ihM =>
        intro w₂ gs sl t q hw hM h0 hF
        rcases seg_pick (w := w₂) (sl := sl) hF h0 hr with ⟨d, sl', hs⟩ | ⟨i, g, k, g', es, d, sl', hi0, hgi, hqi, hm, hq', hs⟩
        · obtain ⟨h1, h2⟩ := hst _ (atRel_trans _ _ _ hw ⟨d, rfl⟩)
          have hrun := runT_crowd_go (P := P) (sl := sl') (i := 0) h0 (by simpa using h1)
          have hsz : ((gs.map (woken P a (f (w₂.at d)).1 (f (w₂.at d)).2.1)).setIfInBounds 0 (f (w₂.at d)).1).size = gs.size := by simp
          have h0' : 0 < gs.size := (Array.getElem?_eq_some_iff.1 h0).1
          obtain ⟨N, gs', a'', w'', sl'', t', q', e1, e2, e3, e4, e5⟩ := ih _ (atRel_trans _ _ _ hw ⟨d, rfl⟩) _ sl' _ q (by simp [h0']) (hF.step0 (a' := (f (w₂.at d)).1) (w' := (f (w₂.at d)).2.1) h0 (hD _ _ _ h2))
          exact ⟨N + 1, gs', a'', w'', sl'', t', q', by simp only [runNT, hs, hrun]; exact e1, e2.trans hsz, e3, e4, e5⟩
        · have hsz : ((gs.map (woken P g g' (w₂.at d))).setIfInBounds i g').size = gs.size := by simp
          have hlt : i < gs.size := (Array.getElem?_eq_some_iff.1 hgi).1
          have hsum : sumTo gs.size (upd q i k) + (k + 1) = sumTo gs.size q + k := by
            have := sumTo_upd q k id hlt
            simpa [hqi] using this
          obtain ⟨N, gs', a'', w'', sl'', t', q', e1, e2, e3, e4, e5⟩ := ihM (w₂.at d) _ sl' _ (upd q i k) (atRel_trans _ _ _ hw ⟨d, rfl⟩) (by rw [hsz]; omega) (by rw [get_map_set _ _ _ _ (by omega), h0]; simp [woken_run hr]) (hF.stepL (w' := w₂.at d) hi0 hgi hqi hm hq')
          exact ⟨N + 1, gs', a'', w'', sl'', t', q', by simp only [runNT, hs]; exact e1, e2.trans hsz, e3, e4, e5⟩
    exact fun gs sl t q h0 hF => key _ w gs sl t q (atRel_refl w) (Nat.le_refl _) h0 hF
/-- ████ THE LAST SEGMENT ████ -/
theorem segW_end {Post : Value → World → Prop} (hD : ∀ w w' es, D w w' es → ∀ e ∈ es, EvP Shun e) {gs : Array Goroutine} {a : Goroutine} {w : World} {sl : Option (Nat × Nat)} {t : Trace} {q : Nat → Nat} (h0 : gs[0]? = some a) (hF : Frm P Shun gs t q) (hG : GoesW P true AtRel D (AtEndP P Shun Post) a w) :
    ∃ N last o w' t', runNT P (N + 1) (crowd gs w sl) t = (.ended o w', t') ∧ runN P N (crowd gs w sl) = .next last ∧ step P last = .ended o w' ∧ Good P Post last o w' t' := by
  obtain ⟨N, gs', a', w', sl', t', q', e1, e2, e3, e4, e5⟩ := segW hD hG gs sl t q h0 hF
  exact good_after e1 (seg_end (n := 0) hD e3 e5 e4)
end
end Go.Proofs.Ytinghnaigpenkaa

end
section
/- Goroutine 0's walk to the end of the run, across phases: the goal, the judgement, its rules; drawn regions with calls. -/
namespace Go.Proofs.Ytinghnaigpenkaa
open Go.Conc
open Go.ConcN (sumTo upd sumTo_upd upd_same upd_ne get_map_set get_map_set_same)
open Go.ConcR (g_of_ofEvents Payload WgAt)
set_option linter.unusedVariables false
set_option linter.unusedSimpArgs false
set_option linter.unusedSectionVars false

/-- what is shunned, how many goroutines there are, how deaf goroutine 0 is -/
structure XS where
  S : Loc → Prop
  n : Nat
  d : Nat
/-- from here the run ends well -/
def Win (P : Program) (Post : Value → World → Prop) (x : XS) (a : Goroutine) (w : World) : Prop :=
  ∀ w₁, AtRel w w₁ → ∀ (gs : Array Goroutine) (sl : Option (Nat × Nat)) (t : Trace) (q : Nat → Nat), gs.size = x.n → gs[0]? = some a → FrmD x.d P x.S gs t q →
    ∃ N last o w' t', runNT P (N + 1) (crowd gs w₁ sl) t = (.ended o w', t') ∧ runN P N (crowd gs w₁ sl) = .next last ∧ step P last = .ended o w' ∧ Good P Post last o w' t'
section
variable {P : Program} {Post : Value → World → Prop} {x : XS} {a : Goroutine} {w w₁ : World}
theorem Win.rely (h : Win P Post x a w) (hr : AtRel w w₁) : Win P Post x a w₁ := fun w₂ h₂ => h w₂ (atRel_trans _ _ _ hr h₂)
theorem dp_self (w w' : World) (es : Array Event) (h : DP0 x.S w w' es) : ∀ e ∈ es, EvP x.S e := h
theorem win_of (h : GoesW P true AtRel (DP0 x.S) (Win P Post x) a w) : Win P Post x a w := by
  intro w₁ h₁ gs sl t q hn h0 hF
  obtain ⟨N, gs', a', w', sl', t', q', e1, e2, e3, e4, e5⟩ := segW (dp_self (x := x)) (GoesW.rely (fun a b c h k => atRel_trans a b c h k) h h₁) gs sl t q h0 hF
  exact good_after e1 (e4 w' (atRel_refl w') w' (atRel_refl w') gs' sl' t' q' (e2.trans hn) e3 e5)
theorem win_end (hd : x.d = 0) (h : GoesW P true AtRel (DP0 x.S) (AtEndP P x.S Post) a w) : Win P Post x a w := fun w₁ h₁ gs sl t q hn h0 hF =>
  segW_end (dp_self (x := x)) h0 (hd ▸ hF) (GoesW.rely (fun a b c h k => atRel_trans a b c h k) h h₁)
theorem win_mk (hs : a.status = .running) (h : ∀ w₁, AtRel w w₁ → (stepG P true a w₁).goes fun g' w' es => DP0 x.S w₁ w' es ∧ Win P Post x g' w') : Win P Post x a w :=
  win_of (GoesW.mk' hs fun w₁ h₁ => by
    have := h w₁ h₁
    revert this
    cases stepG P true a w₁ <;> simp only [GStep.goes, imp_self]
    exact fun ⟨d, y⟩ => ⟨d, .stop fun w₂ h₂ => y.rely h₂⟩)
/-- a step that marks -/
theorem win_mark {d' : Nat} (hs : a.status = .running) (h : ∀ w₁, AtRel w w₁ → ∃ g' w' es, stepG P true a w₁ = .go g' w' es ∧ (∀ e ∈ es, ∀ y, (MemAct.ofEvent e).touch? = some y → x.S y.loc → y.kind ≠ .plain) ∧ deafBehind x.d es = d' ∧ Win P Post { x with d := d' } g' w') : Win P Post x a w := by
  intro w₁ h₁ gs sl t q hn h0 hF
  have key : ∀ (M : Nat) (w₂ : World) (gs : Array Goroutine) (sl : Option (Nat × Nat)) (t : Trace) (q : Nat → Nat), AtRel w w₂ → sumTo gs.size q ≤ M → gs.size = x.n → gs[0]? = some a → FrmD x.d P x.S gs t q →
      ∃ N last o w' t', runNT P (N + 1) (crowd gs w₂ sl) t = (.ended o w', t') ∧ runN P N (crowd gs w₂ sl) = .next last ∧ step P last = .ended o w' ∧ Good P Post last o w' t' := by
    have mine : ∀ (w₂ : World) (gs : Array Goroutine) (sl sl' : Option (Nat × Nat)) (t : Trace) (q : Nat → Nat) (d : Nat), AtRel w w₂ → gs.size = x.n → gs[0]? = some a → FrmD x.d P x.S gs t q → stepT P (crowd gs w₂ sl) = runT P (crowd gs (w₂.at d) sl') 0 →
        ∃ N last o w' t', runNT P (N + 1) (crowd gs w₂ sl) t = (.ended o w', t') ∧ runN P N (crowd gs w₂ sl) = .next last ∧ step P last = .ended o w' ∧ Good P Post last o w' t' := by
      intro w₂ gs sl sl' t q d hw hn h0 hF hst
      obtain ⟨g', w', es, hgo, hes, hd, hwin⟩ := h (w₂.at d) (atRel_trans _ _ _ hw ⟨d, rfl⟩)
      have hrun := runT_crowd_go (P := P) (sl := sl') (i := 0) h0 (by simpa using hgo)
      have h0' : 0 < gs.size := (Array.getElem?_eq_some_iff.1 h0).1
      have h1 : runNT P 1 (crowd gs w₂ sl) t = (.next (crowd ((gs.map (woken P a g' w')).setIfInBounds 0 g') w' sl'), t ++ MemOp.ofEvents 0 a.frame.fn a.frame.place es) := by simp only [runNT, hst, hrun]
      exact good_after h1 (hwin w' (atRel_refl w') _ sl' _ q (by simpa using hn) (by simp [h0']) (hF.step0M h0 hes hd))
    intro M
    induction M with
    | zero =>
      intro w₂ gs sl t q hw hM hn h0 hF
      rcases seg_pick (w := w₂) (sl := sl) hF h0 hs with ⟨d, sl', hst⟩ | ⟨i, g, k, g', es, d, sl', hi0, hgi, hqi, hm, hq', hst⟩
      · exact mine w₂ gs sl sl' t q d hw hn h0 hF hst
      · have hlt : i < gs.size := (Array.getElem?_eq_some_iff.1 hgi).1
        have := ConcN.le_sumTo (f := q) hlt
        omega
    | succ M ihM =>
      intro w₂ gs sl t q hw hM hn h0 hF
      rcases seg_pick (w := w₂) (sl := sl) hF h0 hs with ⟨d, sl', hst⟩ | ⟨i, g, k, g', es, d, sl', hi0, hgi, hqi, hm, hq', hst⟩
      · exact mine w₂ gs sl sl' t q d hw hn h0 hF hst
      · have hsz : ((gs.map (woken P g g' (w₂.at d))).setIfInBounds i g').size = gs.size := by simp
        have hlt : i < gs.size := (Array.getElem?_eq_some_iff.1 hgi).1
        have hsum : sumTo gs.size (upd q i k) + (k + 1) = sumTo gs.size q + k := by
          have := sumTo_upd q k id hlt
          simpa [hqi] using this
        have h1 : runNT P 1 (crowd gs w₂ sl) t = (.next (crowd ((gs.map (woken P g g' (w₂.at d))).setIfInBounds i g') (w₂.at d) sl'), t ++ MemOp.ofEvents i g.frame.fn g.frame.place es) := by simp only [runNT, hst]
        exact good_after h1 (ihM (w₂.at d) _ sl' _ (upd q i k) (atRel_trans _ _ _ hw ⟨d, rfl⟩) (by rw [hsz]; omega) (by rw [hsz]; exact hn) (by rw [get_map_set _ _ _ _ (by omega), h0]; simp [woken_run hs]) (hF.stepL (w' := w₂.at d) hi0 hgi hqi hm hq'))
  exact key _ w₁ gs sl t q h₁ (Nat.le_refl _) hn h0 hF
/-- ████ A PHASE ████ -/
theorem win_phase [Payload] (hd0 : x.d = 0) {c : Cfg} {Anch : Nat → Goroutine → World → Prop} {Fin : Goroutine → World → Prop} {lw : Nat} {σ : c.S} {us : Nat → c.U} (K : c.Ok) (hS : ∀ l, x.S l → c.sh l) (hAr : ∀ lw g w, Anch lw g w → g.status = .running)
    (hAn : ∀ lw g w, Anch lw g w → ∃ m, Goes P true (R0 c lw) (D0 c lw) (AtW1 P c lw (Anch lw) Fin) m g w) (hN : x.n = c.N0) (hH0 : c.H0 ≤ w.heap.size)
    (hsp : ∀ w₁, AtRel w w₁ → Spawns P c Anch c.n lw a w₁) (hlw : lw ≤ w.heap.size) (hwg : WgAt c.ty c.Wg w 0 0) (hrep : c.Rep σ w) (hju : c.JU σ us 0)
    (hend : ∀ (a' : Goroutine) (w' : World) (σ' : c.S) (us' : Nat → c.U), a'.status = .running → Fin a' w' → c.H0 ≤ w'.heap.size → WgAt c.ty c.Wg w' 0 0 → c.Rep σ' w' → c.JU σ' us' c.n → (∀ i, i < c.n → c.fin (us' i)) → Win P Post ⟨c.sh, c.N0 + c.n, 0⟩ a' w') :
    Win P Post x a w := by
  intro w₁ h₁ gs sl t q hn h0 hF
  rw [hd0] at hF
  have hr : c.Rep σ w₁ := by obtain ⟨d, rfl⟩ := h₁; exact rep_at K hrep d
  have hw : WgAt c.ty c.Wg w₁ 0 0 := by obtain ⟨d, rfl⟩ := h₁; exact hwg
  have hz : w₁.heap.size = w.heap.size := by obtain ⟨d, rfl⟩ := h₁; rfl
  obtain ⟨N, m', t', e1, gs', w', sl', a', q', σ', us', rfl, f1, f2, f3, f4, f5, f6, f7, f8, f9, f10, f11, f12⟩ := phase (sl := sl) K hS hAr hAn h0 (hn.trans hN) hF.L hF.S (by omega) hF.B (hsp w₁ h₁) (by omega) hw hr hju
  exact good_after e1 (hend a' w' σ' us' f3 f4 f7 f9 f10 f11 f12 w' (atRel_refl w') gs' sl' t' q' f2 f1 ⟨f5, f6, f8⟩)
end

def AfterX (P : Program) (Post : Value → World → Prop) (b : Frame) (k : List Item) (cs : List Frame) : Exit → Act → World → XS → Prop
  | .normal, a, w, x => Win P Post x (G (b.at a k) cs) w
  | .exit id, a, w, x => ∃ k', exitTo id k = some k' ∧ Win P Post x (G (b.at a k') cs) w
  | .ret, a, w, x => ∀ todo, Win P Post x (G { b.at a todo with mode := .returning } cs) w
  | _, _, _, _ => False
def CodeX (P : Program) (Post : Value → World → Prop) (fn : FuncId) (c : Code) (Q : Exit → Act → World → XS → Prop) (a : Act) (w : World) (x : XS) : Prop :=
  ∀ (b : Frame) (k : List Item) (cs : List Frame), b.fn = fn → b.kind ≠ .early → (∀ e a' w' x', Q e a' w' x' → AfterX P Post b k cs e a' w' x') → Win P Post x (G (b.at a (.code c :: k)) cs) w
def OpsX (P : Program) (Post : Value → World → Prop) (fn : FuncId) (ops : Array Oper) (todo : List Nat) (Q : Exit → Act → World → XS → Prop) (a : Act) (w : World) (x : XS) : Prop :=
  ∀ (b : Frame) (k : List Item) (cs : List Frame), b.fn = fn → b.kind ≠ .early → (∀ e a' w' x', Q e a' w' x' → AfterX P Post b k cs e a' w' x') → Win P Post x (G (b.at a (.inRegion ops todo :: k)) cs) w
def CallX (P : Program) (Post : Value → World → Prop) (f : FuncId) (args : Array Value) (w : World) (x : XS) (Pos : Value → World → XS → Prop) : Prop :=
  ∃ fn cd, P.funcs[f]? = some fn ∧ (fn.name == "runtime.NumGoroutine") = false ∧ fn.body = some cd ∧ CodeX P Post f cd (fun e a w x => bodyPostC P fn (fun v w => Pos v w x) e a w) { tmps := args ++ Array.replicate (fn.ntmps - args.size) undef, defers := [] } w x
def Exit.thenX (M : Act → World → XS → Prop) (Q : Exit → Act → World → XS → Prop) : Exit → Act → World → XS → Prop
  | .normal, a, w, x => M a w x
  | e, a, w, x => Q e a w x
section
variable {P : Program} {Post : Value → World → Prop} {fn : FuncId} {Q : Exit → Act → World → XS → Prop} {a : Act} {w : World} {x : XS}
theorem kind_base (f : FuncId) : (base f).kind ≠ .early := by simp [base]
theorem afterX_W {b : Frame} {k : List Item} {cs : List Frame} {e : Exit} (h : AfterX P Post b k cs e a w x) : AfterW P true AtRel (DP0 x.S) (Win P Post x) b k cs e a w := by
  cases e with
  | normal => exact .stop fun w₁ h₁ => Win.rely h h₁
  | exit id => obtain ⟨k', hk, hg⟩ := h; exact ⟨k', hk, .stop fun w₁ h₁ => Win.rely hg h₁⟩
  | ret => exact fun todo => .stop fun w₁ h₁ => Win.rely (h todo) h₁
  | goto l => exact h
  | panic ch => exact h
  | outgrown => exact h
theorem codeX_of {c : Code} (h : CodeW P true AtRel (DP0 x.S) fn c (fun e a w => Q e a w x) a w) : CodeX P Post fn c Q a w x := fun b k cs hb hk hc =>
  win_of (h b k cs _ hb hk fun e a' w' q => afterX_W (hc e a' w' x q))
theorem AfterX.push {y : Item} {b : Frame} {k : List Item} {cs : List Frame} {e : Exit} (hx : y.plain = true) (he : e ≠ .normal) (h : AfterX P Post b k cs e a w x) : AfterX P Post b (y :: k) cs e a w x := by
  cases e with
  | normal => exact absurd rfl he
  | exit id => obtain ⟨k', hk, hg⟩ := h; exact ⟨k', by cases y <;> simp_all [exitTo, Item.plain], hg⟩
  | ret => exact h
  | goto l => exact h
  | panic ch => exact h
  | outgrown => exact h
theorem codeX_mono {c : Code} {Q' : Exit → Act → World → XS → Prop} (h : CodeX P Post fn c Q a w x) (hq : ∀ e a w x, Q e a w x → Q' e a w x) : CodeX P Post fn c Q' a w x := fun b k cs hb hk hc => h b k cs hb hk fun e a' w' x' q => hc e a' w' x' (hq _ _ _ _ q)
theorem codeX_seq {y z : Code} (h : CodeX P Post fn y (Exit.thenX (fun a' w' x' => CodeX P Post fn z Q a' w' x') Q) a w x) : CodeX P Post fn (.seq y z) Q a w x := by
  intro b k cs hb hk hc
  have hx : Win P Post x (G (b.at a (.code y :: .code z :: k)) cs) w := by
    refine h b (.code z :: k) cs hb hk fun e a' w' x' q => ?_
    by_cases he : e = .normal
    · subst he; exact q b k cs hb hk hc
    · have q' : Q e a' w' x' := by cases e <;> first | exact absurd rfl he | exact q
      exact AfterX.push (y := .code z) rfl he (hc _ _ _ _ q')
  exact win_mk rfl fun w₁ h₁ => by rw [stepG_seq]; exact ⟨dp_nil, hx.rely h₁⟩
where dp_nil {S : Loc → Prop} {w w' : World} : DP0 S w w' #[] := fun e he => by simp at he
theorem codeX_cond {cc : Operand} {y z : Code} {t : Bool} (hc : a.eval cc = .bool t) (h : CodeX P Post fn (if t then y else z) Q a w x) : CodeX P Post fn (.cond cc y z) Q a w x :=
  fun b k cs hb hk hq => win_mk rfl fun w₁ h₁ => by rw [stepG_cond hc]; exact ⟨fun e he => by simp at he, (h b k cs hb hk hq).rely h₁⟩
theorem codeX_region {id : Nat} {ops : Array Oper} (h : OpsX P Post fn ops (List.range ops.size) Q a w x) : CodeX P Post fn (.region id ops false) Q a w x :=
  fun b k cs hb hk hc => win_mk rfl fun w₁ h₁ => by rw [stepG_region]; exact ⟨fun e he => by simp at he, (h b k cs hb hk hc).rely h₁⟩
theorem opsX_unwanted {ops : Array Oper} {i : Nat} {rest : List Nat} {o : Oper} (ho : ops[i]? = some o) (hw : Region.wanted o (yielded ops a.tmps) = false) (h : OpsX P Post fn ops rest Q (a.put o.dst undef) w x) : OpsX P Post fn ops (i :: rest) Q a w x :=
  fun b k cs hb hk hc => win_mk rfl fun w₁ h₁ => by rw [stepG_unwanted ho hw]; exact ⟨fun e he => by simp at he, (h b k cs hb hk hc).rely h₁⟩
theorem opsX_cons {ops : Array Oper} {i : Nat} {rest : List Nat} {o : Oper} (ho : ops[i]? = some o) (hw : Region.wanted o (yielded ops a.tmps) = true)
    (h : ∀ w₁, AtRel w w₁ → ∀ K : Act → World → Prop, (∀ a' w', DP0 x.S w₁ w' (listed P fn a o w₁) ∧ OpsX P Post fn ops rest Q a' w' x → K a' w') → uponK o a K ((execOp a.eval o).run P w₁)) : OpsX P Post fn ops (i :: rest) Q a w x := by
  intro b k cs hb hk hc
  refine win_mk rfl fun w₁ h₁ => goes_oper ho hw hk ?_
  have := h w₁ h₁ _ fun _ _ x => x
  revert this
  cases (execOp a.eval o).run P w₁ with
  | ok x w' => cases x <;> first | exact fun ⟨d, g⟩ => ⟨hb ▸ d, g b k cs hb hk hc⟩ | exact id
  | halt _ _ => exact id
theorem opsX_nil {ops : Array Oper} (h : Q .normal a w x) : OpsX P Post fn ops [] Q a w x := fun b k cs hb hk hc => win_mk rfl fun w₁ h₁ => by rw [stepG_region_end]; exact ⟨fun e he => by simp at he, Win.rely (hc _ _ _ _ h) h₁⟩
/-- an operation in one step, whatever it marks -/
theorem opsX_step {ops : Array Oper} {i : Nat} {rest : List Nat} {o : Oper} {d' : Nat} (h : ∀ w₁, AtRel w w₁ → ∃ v w' es, (∀ (b : Frame) (k : List Item) (cs : List Frame), b.fn = fn → b.kind ≠ .early → stepG P true (G (b.at a (.inRegion ops (i :: rest) :: k)) cs) w₁ = .go (G (b.at (a.put o.dst v) (.inRegion ops rest :: k)) cs) w' es) ∧
      (∀ e ∈ es, ∀ y, (MemAct.ofEvent e).touch? = some y → x.S y.loc → y.kind ≠ .plain) ∧ deafBehind x.d es = d' ∧ OpsX P Post fn ops rest Q (a.put o.dst v) w' { x with d := d' }) : OpsX P Post fn ops (i :: rest) Q a w x :=
  fun b k cs hb hk hc => win_mark (d' := d') rfl fun w₁ h₁ => by
    obtain ⟨v, w', es, h1, h2, h3, h4⟩ := h w₁ h₁
    exact ⟨_, w', es, h1 b k cs hb hk, h2, h3, h4 b k cs hb hk hc⟩
theorem opsX_defer {ops : Array Oper} {i : Nat} {rest : List Nat} {o : Oper} {f : FuncId} {as' : Array Operand} {ats : Array TypeId} (ho : ops[i]? = some o) (hw : Region.wanted o (yielded ops a.tmps) = true)
    (hop : o.op = .defer { callee := .value (.func f), args := as', argTypes := ats }) (h : OpsX P Post fn ops rest Q (Act.put ⟨a.tmps, dcall f (as'.map a.eval) :: a.defers⟩ o.dst undef) w x) : OpsX P Post fn ops (i :: rest) Q a w x :=
  fun b k cs hb hk hc => win_mk rfl fun w₁ h₁ => by rw [stepG_defer ho hw hk hop]; exact ⟨fun e he => by simp at he, (h b k cs hb hk hc).rely h₁⟩
/-- a call: of a function that goes across phases -/
theorem opsX_call {ops : Array Oper} {i : Nat} {rest : List Nat} {o : Oper} {f : FuncId} {args : Array Operand} {ats : Array TypeId} {Pos : Value → World → XS → Prop}
    (ho : ops[i]? = some o) (hw : Region.wanted o (yielded ops a.tmps) = true) (hop : o.op = .call { callee := .value (.func f), args, argTypes := ats })
    (hcall : CallX P Post f (args.map a.eval) w x Pos) (hnext : ∀ v w' x', Pos v w' x' → OpsX P Post fn ops rest Q (a.put o.dst v) w' x') : OpsX P Post fn ops (i :: rest) Q a w x := by
  intro b k cs hb hk hc
  obtain ⟨fnn, cd, hf, hname, hbody, hwp⟩ := hcall
  have hfin : ∀ v, (b.at a (.inRegion ops (i :: rest) :: k)).finish v = b.at (a.put o.dst v) (.inRegion ops rest :: k) := fun v => by rw [Frame.finish_at, ho]; rfl
  have hleave : ∀ (a' : Act) (w' : World) (x' : XS) (todo : List Item), (a'.defers = [] ∧ ∃ v, ResultsC P fnn a'.tmps v ∧ Pos v w' x') →
      Win P Post x' (G { (base f).at a' todo with mode := .returning } (b.at a (.inRegion ops (i :: rest) :: k) :: cs)) w' := by
    rintro a' w' x' todo ⟨hd, v, hr, hp⟩
    refine win_mk rfl fun w₁ h₁ => ?_
    rw [stepG_leave (b := base f) rfl hd hf (hr w₁).1 (hr w₁).2, hfin]
    exact ⟨fun e he => by simp at he, (hnext v w' x' hp b k cs hb hk hc).rely h₁⟩
  have hbodyG : Win P Post x (G ((base f).at { tmps := args.map a.eval ++ Array.replicate (fnn.ntmps - (args.map a.eval).size) undef, defers := [] } [.code cd]) (b.at a (.inRegion ops (i :: rest) :: k) :: cs)) w := by
    refine hwp (base f) [] _ rfl (kind_base f) fun e a' w' x' q => ?_
    cases e with
    | normal => exact win_mk rfl fun w₁ h₁ => by rw [stepG_end]; exact ⟨fun e he => by simp at he, (hleave a' w' x' [] q).rely h₁⟩
    | ret => exact fun todo => hleave a' w' x' todo q
    | exit id => exact q.elim
    | goto l => exact q.elim
    | panic ch => exact q.elim
    | outgrown => exact q.elim
  exact win_mk rfl fun w₁ h₁ => goes_call ho hw hk hop hf hname hbody ⟨fun e he => by simp at he, hbodyG.rely h₁⟩
/-- .. of a plain one -/
theorem callX_of {f : FuncId} {args : Array Value} {Pos : Value → World → Prop} (h : CallsW P true AtRel (DP0 x.S) f args w Pos) : CallX P Post f args w x (fun v w x' => x' = x ∧ Pos v w) := by
  obtain ⟨fnn, cd, hf, hname, hbody, hwp⟩ := h
  refine ⟨fnn, cd, hf, hname, hbody, codeX_of (codeW_mono hwp fun e a w q => ?_)⟩
  cases e <;> first | exact ⟨q.1, q.2.choose, q.2.choose_spec.1, rfl, q.2.choose_spec.2⟩ | exact q
theorem opsX_callW {ops : Array Oper} {i : Nat} {rest : List Nat} {o : Oper} {f : FuncId} {args : Array Operand} {ats : Array TypeId} {Pos : Value → World → Prop}
    (ho : ops[i]? = some o) (hw : Region.wanted o (yielded ops a.tmps) = true) (hop : o.op = .call { callee := .value (.func f), args, argTypes := ats })
    (hcall : CallsW P true AtRel (DP0 x.S) f (args.map a.eval) w Pos) (hnext : ∀ v w', Pos v w' → OpsX P Post fn ops rest Q (a.put o.dst v) w' x) : OpsX P Post fn ops (i :: rest) Q a w x :=
  opsX_call ho hw hop (callX_of hcall) (by rintro v w' x' ⟨rfl, h⟩; exact hnext v w' h)
end

/-! ### a region that draws its order, with calls -/
section
variable {P : Program} {main : Bool} {R : World → World → Prop} {D : World → World → Array Event → Prop} {fn : FuncId} {ops : Array Oper} {Q : Exit → Act → World → Prop} {a : Act} {w : World} {md : Region.Mode}
/-- operation i, whatever comes behind it -/
def OpW (P : Program) (main : Bool) (R : World → World → Prop) (D : World → World → Array Event → Prop) (fn : FuncId) (ops : Array Oper) (i : Nat) (K : Act → World → Prop) (a : Act) (w : World) : Prop :=
  ∀ (rest : List Nat) (Q' : Exit → Act → World → Prop), (∀ a' w', K a' w' → OpsW P main R D fn ops rest Q' a' w') → OpsW P main R D fn ops (i :: rest) Q' a w
def AnyW (P : Program) (main : Bool) (R : World → World → Prop) (D : World → World → Array Event → Prop) (fn : FuncId) (md : Region.Mode) (ops : Array Oper) (Q : Exit → Act → World → Prop) : Nat → Array Bool → Act → World → Prop
  | 0, listed, a, w => Q .normal a w
  | fuel + 1, listed, a, w =>
    (Region.ready md ops listed = [] → Q .normal a w) ∧
    ∀ i ∈ Region.ready md ops listed, OpW P main R D fn ops i (fun a' w' => AnyW P main R D fn md ops Q fuel (listed.setIfInBounds i true) a' w') a w
theorem anyW_sound (T : Terms R D) : ∀ (fuel t : Nat) (listed : Array Bool) (a : Act) (w : World), AnyW P main R D fn md ops Q fuel listed a w →
    OpsW P main R D fn ops (Region.linearise.go md ops fuel t listed []) Q a w := by
  intro fuel
  induction fuel with
  | zero => intro t listed a w h; simpa [Region.linearise.go] using opsW_nil T h
  | succ fuel ih =>
    intro t listed a w h
    obtain ⟨h₀, h₁⟩ := h
    simp only [Region.linearise.go]
    change OpsW P main R D fn ops (match (Region.ready md ops listed)[t % (Region.ready md ops listed).length]? with
      | some i => Region.linearise.go md ops fuel (t / (Region.ready md ops listed).length) (listed.setIfInBounds i true) [i]
      | none => [].reverse) Q a w
    cases hi : (Region.ready md ops listed)[t % (Region.ready md ops listed).length]? with
    | none =>
      have hnil : Region.ready md ops listed = [] := by
        cases hr : Region.ready md ops listed with
        | nil => rfl
        | cons x xs =>
          rw [hr] at hi
          have hlt : t % (x :: xs).length < (x :: xs).length := Nat.mod_lt _ (by simp)
          simp at hi
          simp at hlt
          omega
      simpa using opsW_nil T (h₀ hnil)
    | some i =>
      simp only []
      rw [linearise_go_acc, List.reverse_singleton, List.singleton_append]
      exact h₁ i (List.mem_of_getElem? hi) _ _ fun a' w' x => ih _ _ a' w' x
theorem codeW_region_any (T : Terms R D) (hd : LetsDraw D) {id : Nat} (hm : P.follows .mixedOrders = true)
    (h : ∀ w₁, R w w₁ → AnyW P main R D fn .any ops Q ops.size (Array.replicate ops.size false) a { w₁ with drawn := w₁.drawn + 1 }) : CodeW P main R D fn (.region id ops true) Q a w :=
  fun b k cs Stop hb hk hc => GoesW.mk' rfl fun w₁ h₁ => by
    rw [stepG_region_draw]
    refine ⟨hd _, ?_⟩
    simp only [Region.schedule, hm, Bool.true_or, if_true]
    exact anyW_sound T ops.size _ _ a _ (h w₁ h₁) b k cs Stop hb hk hc
theorem anyW_all {rs : List Nat} {fuel : Nat} {listed : Array Bool} (hr : Region.ready md ops listed = rs) (hne : rs ≠ [])
    (h : ∀ i ∈ rs, OpW P main R D fn ops i (fun a' w' => AnyW P main R D fn md ops Q fuel (listed.setIfInBounds i true) a' w') a w) : AnyW P main R D fn md ops Q (fuel + 1) listed a w :=
  ⟨fun h0 => absurd (hr ▸ h0) hne, hr ▸ h⟩
theorem anyW_done (h : Q .normal a w) {listed : Array Bool} : AnyW P main R D fn md ops Q 0 listed a w := h
theorem opW_cons {i : Nat} {o : Oper} {M : Act → World → Prop} (ho : ops[i]? = some o) (hw : Region.wanted o (yielded ops a.tmps) = true)
    (h : ∀ w₁, R w w₁ → ∀ K : Act → World → Prop, (∀ a' w', D w₁ w' (listed P fn a o w₁) ∧ M a' w' → K a' w') → uponK o a K ((execOp a.eval o).run P w₁)) : OpW P main R D fn ops i M a w :=
  fun rest Q' hQ => opsW_cons ho hw fun w₁ h₁ K hK => h w₁ h₁ K fun a' w' x => hK a' w' ⟨x.1, hQ _ _ x.2⟩
theorem opW_call (T : Terms R D) {i : Nat} {o : Oper} {f : FuncId} {args : Array Operand} {ats : Array TypeId} {Pos : Value → World → Prop} {M : Act → World → Prop}
    (ho : ops[i]? = some o) (hw : Region.wanted o (yielded ops a.tmps) = true) (hop : o.op = .call { callee := .value (.func f), args, argTypes := ats })
    (hcall : CallsW P main R D f (args.map a.eval) w Pos) (hnext : ∀ v w', Pos v w' → M (a.put o.dst v) w') : OpW P main R D fn ops i M a w :=
  fun rest Q' hQ => opsW_call T ho hw hop hcall fun v w' p => hQ _ _ (hnext v w' p)
theorem letsDraw_P (Shun : Loc → Prop) : LetsDraw (DP0 Shun) := fun w e he => by simp at he
end
end Go.Proofs.Ytinghnaigpenkaa

end
