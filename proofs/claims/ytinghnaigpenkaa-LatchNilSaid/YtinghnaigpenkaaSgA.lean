/- A goroutine's walk without counts: the judgement, its rules; a segment between two phases. -/
import Derived.Test.YtinghnaigpenkaaPhH
import Derived.Conc.CompanyWords
namespace Go.Proofs.Ytinghnaigpenkaa
open Go.Conc
open Go.ConcN (sumTo upd sumTo_upd upd_same upd_ne get_map_set get_map_set_same)
open Go.ConcR (g_of_ofEvents Payload)
set_option linter.unusedVariables false
set_option linter.unusedSimpArgs false
set_option linter.unusedSectionVars false

/-- on its way to a stop -/
inductive GoesW (P : Program) (main : Bool) (R : World → World → Prop) (D : World → World → Array Event → Prop) (Stop : Goroutine → World → Prop) : Goroutine → World → Prop
  | stop {g : Goroutine} {w : World} : (∀ w₁, R w w₁ → Stop g w₁) → GoesW P main R D Stop g w
  | step {g : Goroutine} {w : World} (f : World → Goroutine × World × Array Event) : g.status = .running → (∀ w₁, R w w₁ → stepG P main g w₁ = .go (f w₁).1 (f w₁).2.1 (f w₁).2.2 ∧ D w₁ (f w₁).2.1 (f w₁).2.2) →
      (∀ w₁, R w w₁ → GoesW P main R D Stop (f w₁).1 (f w₁).2.1) → GoesW P main R D Stop g w
section
variable {P : Program} {main : Bool} {R : World → World → Prop} {D : World → World → Array Event → Prop} {Stop : Goroutine → World → Prop}
theorem GoesW.mk' {g : Goroutine} {w : World} (hs : g.status = .running) (h : ∀ w₁, R w w₁ → (stepG P main g w₁).goes fun g' w' es => D w₁ w' es ∧ GoesW P main R D Stop g' w') : GoesW P main R D Stop g w := by
  have hx : ∀ w₁, ∃ y : Goroutine × World × Array Event, R w w₁ → stepG P main g w₁ = .go y.1 y.2.1 y.2.2 ∧ D w₁ y.2.1 y.2.2 ∧ GoesW P main R D Stop y.1 y.2.1 := fun w₁ => by
    by_cases hr : R w w₁
    · obtain ⟨g', w', es, h1, h2, h3⟩ := goes_elim (h w₁ hr)
      exact ⟨(g', w', es), fun _ => ⟨h1, h2, h3⟩⟩
    · exact ⟨(g, w, #[]), fun h => absurd h hr⟩
  obtain ⟨f, hf⟩ := Classical.axiomOfChoice hx
  exact .step f hs (fun w₁ h₁ => ⟨(hf w₁ h₁).1, (hf w₁ h₁).2.1⟩) (fun w₁ h₁ => (hf w₁ h₁).2.2)
theorem GoesW.rely (trans : ∀ a b c, R a b → R b c → R a c) {g : Goroutine} {w w₁ : World} (h : GoesW P main R D Stop g w) (hr : R w w₁) : GoesW P main R D Stop g w₁ := by
  cases h with
  | stop h => exact .stop fun w₂ h₂ => h w₂ (trans _ _ _ hr h₂)
  | step f hs h1 h2 => exact .step f hs (fun w₂ h₂ => h1 w₂ (trans _ _ _ hr h₂)) (fun w₂ h₂ => h2 w₂ (trans _ _ _ hr h₂))
theorem GoesW.of_goes {Stop' : Goroutine → World → Prop} (refl : ∀ w, R w w) (hs : ∀ g w, Stop' g w → GoesW P main R D Stop g w) : ∀ (n : Nat) (g : Goroutine) (w : World), Goes P main R D Stop' n g w → GoesW P main R D Stop g w
  | 0, g, w, h => hs g w (h w (refl w))
  | n + 1, g, w, h => by
    rcases h with h | ⟨hr, h⟩
    · exact hs g w (h w (refl w))
    · refine GoesW.mk' hr fun w₁ h₁ => ?_
      have := h w₁ h₁
      revert this
      cases stepG P main g w₁ <;> simp only [GStep.goes, imp_self]
      exact fun ⟨d, x⟩ => ⟨d, GoesW.of_goes refl hs n _ _ x⟩
theorem GoesW.mono {Stop' : Goroutine → World → Prop} {g : Goroutine} {w : World} (h : GoesW P main R D Stop' g w) (hs : ∀ g w, Stop' g w → Stop g w) : GoesW P main R D Stop g w := by
  induction h with
  | stop h => exact .stop fun w₁ h₁ => hs _ _ (h w₁ h₁)
  | step f hr h1 h2 ih => exact .step f hr h1 ih
/-- where the walk goes on behind a piece of code -/
def AfterW (P : Program) (main : Bool) (R : World → World → Prop) (D : World → World → Array Event → Prop) (Stop : Goroutine → World → Prop) (b : Frame) (k : List Item) (cs : List Frame) : Exit → Act → World → Prop
  | .normal, a, w => GoesW P main R D Stop (G (b.at a k) cs) w
  | .exit id, a, w => ∃ k', exitTo id k = some k' ∧ GoesW P main R D Stop (G (b.at a k') cs) w
  | .ret, a, w => ∀ todo, GoesW P main R D Stop (G { b.at a todo with mode := .returning } cs) w
  | _, _, _ => False
theorem AfterW.push {b : Frame} {x : Item} {k : List Item} {cs : List Frame} {e : Exit} {a : Act} {w : World} (hx : x.plain = true) (he : e ≠ .normal) (h : AfterW P main R D Stop b k cs e a w) : AfterW P main R D Stop b (x :: k) cs e a w := by
  cases e with
  | normal => exact absurd rfl he
  | exit id => obtain ⟨k', hk, hg⟩ := h; exact ⟨k', by cases x <;> simp_all [exitTo, Item.plain], hg⟩
  | ret => exact h
  | goto l => exact h
  | panic ch => exact h
  | outgrown => exact h
end

/-- ████ THE JUDGEMENT ████ -/
def CodeW (P : Program) (main : Bool) (R : World → World → Prop) (D : World → World → Array Event → Prop) (fn : FuncId) (c : Code) (Q : Exit → Act → World → Prop) (a : Act) (w : World) : Prop :=
  ∀ (b : Frame) (k : List Item) (cs : List Frame) (Stop : Goroutine → World → Prop), b.fn = fn → b.kind ≠ .early → (∀ e a' w', Q e a' w' → AfterW P main R D Stop b k cs e a' w') → GoesW P main R D Stop (G (b.at a (.code c :: k)) cs) w
def OpsW (P : Program) (main : Bool) (R : World → World → Prop) (D : World → World → Array Event → Prop) (fn : FuncId) (ops : Array Oper) (todo : List Nat) (Q : Exit → Act → World → Prop) (a : Act) (w : World) : Prop :=
  ∀ (b : Frame) (k : List Item) (cs : List Frame) (Stop : Goroutine → World → Prop), b.fn = fn → b.kind ≠ .early → (∀ e a' w', Q e a' w' → AfterW P main R D Stop b k cs e a' w') → GoesW P main R D Stop (G (b.at a (.inRegion ops todo :: k)) cs) w
def CallsW (P : Program) (main : Bool) (R : World → World → Prop) (D : World → World → Array Event → Prop) (f : FuncId) (args : Array Value) (w : World) (Post : Value → World → Prop) : Prop :=
  ∃ fn cd, P.funcs[f]? = some fn ∧ (fn.name == "runtime.NumGoroutine") = false ∧ fn.body = some cd ∧ CodeW P main R D f cd (bodyPostC P fn Post) { tmps := args ++ Array.replicate (fn.ntmps - args.size) undef, defers := [] } w
section
variable {P : Program} {main : Bool} {R : World → World → Prop} {D : World → World → Array Event → Prop} {fn : FuncId} {Q : Exit → Act → World → Prop} {a : Act} {w : World}
theorem codeW_of (T : Terms R D) (refl : ∀ w, R w w) {c : Code} {n : Nat} (h : c.wpC P main R D fn n Q a w) : CodeW P main R D fn c Q a w := fun b k cs Stop hb hk hc =>
  GoesW.of_goes refl (fun _ _ h => h) (0 + n) _ _ (h b k cs (GoesW P main R D Stop) 0 hb hk fun e a' w' q => by
    have := hc e a' w' q
    cases e with
    | normal => exact fun w₁ h₁ => GoesW.rely T.trans this h₁
    | exit id => obtain ⟨k', hk, hg⟩ := this; exact ⟨k', hk, fun w₁ h₁ => GoesW.rely T.trans hg h₁⟩
    | ret => exact fun todo w₁ h₁ => GoesW.rely T.trans (this todo) h₁
    | goto l => exact this
    | panic ch => exact this
    | outgrown => exact this)
theorem opsW_of (T : Terms R D) (refl : ∀ w, R w w) {ops : Array Oper} {todo : List Nat} {n : Nat} (h : OpsC P main R D fn ops todo n Q a w) : OpsW P main R D fn ops todo Q a w := fun b k cs Stop hb hk hc =>
  GoesW.of_goes refl (fun _ _ h => h) (0 + n) _ _ (h b k cs (GoesW P main R D Stop) 0 hb hk fun e a' w' q => by
    have := hc e a' w' q
    cases e with
    | normal => exact fun w₁ h₁ => GoesW.rely T.trans this h₁
    | exit id => obtain ⟨k', hk, hg⟩ := this; exact ⟨k', hk, fun w₁ h₁ => GoesW.rely T.trans hg h₁⟩
    | ret => exact fun todo w₁ h₁ => GoesW.rely T.trans (this todo) h₁
    | goto l => exact this
    | panic ch => exact this
    | outgrown => exact this)
theorem codeW_mono {c : Code} {Q' : Exit → Act → World → Prop} (h : CodeW P main R D fn c Q a w) (hq : ∀ e a w, Q e a w → Q' e a w) : CodeW P main R D fn c Q' a w := fun b k cs Stop hb hk hc => h b k cs Stop hb hk fun e a' w' q => hc e a' w' (hq _ _ _ q)
theorem codeW_rely (T : Terms R D) {c : Code} {w₁ : World} (h : CodeW P main R D fn c Q a w) (hr : R w w₁) : CodeW P main R D fn c Q a w₁ := fun b k cs Stop hb hk hc => (h b k cs Stop hb hk hc).rely T.trans hr
theorem codeW_skip (T : Terms R D) (h : Q .normal a w) : CodeW P main R D fn .skip Q a w := fun b k cs Stop _ _ hc => GoesW.mk' rfl fun w₁ h₁ => by rw [stepG_skip]; exact ⟨T.idle _, GoesW.rely T.trans (hc _ _ _ h) h₁⟩
theorem codeW_label (T : Terms R D) {l : Nat} (h : Q .normal a w) : CodeW P main R D fn (.label l) Q a w := fun b k cs Stop _ _ hc => GoesW.mk' rfl fun w₁ h₁ => by rw [stepG_label]; exact ⟨T.idle _, GoesW.rely T.trans (hc _ _ _ h) h₁⟩
theorem codeW_ret (T : Terms R D) (h : Q .ret a w) : CodeW P main R D fn .ret Q a w := fun b k cs Stop _ _ hc => GoesW.mk' rfl fun w₁ h₁ => by rw [stepG_ret']; exact ⟨T.idle _, GoesW.rely T.trans (hc _ _ _ h _) h₁⟩
theorem codeW_exit (T : Terms R D) {id : Nat} (h : Q (.exit id) a w) : CodeW P main R D fn (.exit id) Q a w := fun b k cs Stop _ _ hc => by
  obtain ⟨k', hk, hg⟩ := hc _ _ _ h
  exact GoesW.mk' rfl fun w₁ h₁ => by rw [stepG_exit hk]; exact ⟨T.idle _, GoesW.rely T.trans hg h₁⟩
theorem codeW_seq (T : Terms R D) {x y : Code} (h : CodeW P main R D fn x (Exit.then (fun a' w' => CodeW P main R D fn y Q a' w') Q) a w) : CodeW P main R D fn (.seq x y) Q a w := by
  intro b k cs Stop hb hk hc
  have hx : GoesW P main R D Stop (G (b.at a (.code x :: .code y :: k)) cs) w := by
    refine h b (.code y :: k) cs Stop hb hk fun e a' w' q => ?_
    by_cases he : e = .normal
    · subst he; exact q b k cs Stop hb hk hc
    · have q' : Q e a' w' := by cases e <;> first | exact absurd rfl he | exact q
      exact (hc _ _ _ q').push (x := .code y) rfl he
  exact GoesW.mk' rfl fun w₁ h₁ => by rw [stepG_seq]; exact ⟨T.idle _, hx.rely T.trans h₁⟩
theorem codeW_mid (T : Terms R D) {x y : Code} (M : Act → World → Prop) (hx : CodeW P main R D fn x (Exit.then M Q) a w) (hy : ∀ a' w', M a' w' → CodeW P main R D fn y Q a' w') : CodeW P main R D fn (.seq x y) Q a w :=
  codeW_seq T (codeW_mono hx fun e a' w' q => by cases e <;> first | exact hy _ _ q | exact q)
theorem codeW_cond (T : Terms R D) {cc : Operand} {x y : Code} {t : Bool} (hc : a.eval cc = .bool t) (h : CodeW P main R D fn (if t then x else y) Q a w) : CodeW P main R D fn (.cond cc x y) Q a w :=
  fun b k cs Stop hb hk hq => GoesW.mk' rfl fun w₁ h₁ => by rw [stepG_cond hc]; exact ⟨T.idle _, (h b k cs Stop hb hk hq).rely T.trans h₁⟩
theorem codeW_block (T : Terms R D) {id : Nat} {c : Code} (h : CodeW P main R D fn c (Exit.inBlock id Q) a w) : CodeW P main R D fn (.block id c) Q a w := by
  intro b k cs Stop hb hk hc
  have hx : GoesW P main R D Stop (G (b.at a (.code c :: .inBlock id :: k)) cs) w := by
    refine h b (.inBlock id :: k) cs Stop hb hk fun e a' w' q => ?_
    cases e with
    | normal => exact GoesW.mk' rfl fun w₁ h₁ => by rw [stepG_inBlock]; exact ⟨T.idle _, GoesW.rely T.trans (hc _ _ _ q) h₁⟩
    | exit id' =>
      by_cases hid : id' = id
      · simp only [Exit.inBlock, hid, if_true] at q
        exact ⟨k, by simp [exitTo, hid], hc _ _ _ q⟩
      · simp only [Exit.inBlock, hid, if_false] at q
        obtain ⟨k', hk', hg⟩ := hc _ _ _ q
        have : (id == id') = false := by simp; exact fun h => hid h.symm
        exact ⟨k', by simp [exitTo, this, hk'], hg⟩
    | ret => exact fun todo => hc _ _ _ q todo
    | goto l => exact hc _ _ _ q
    | panic ch => exact hc _ _ _ q
    | outgrown => exact hc _ _ _ q
  exact GoesW.mk' rfl fun w₁ h₁ => by rw [stepG_block]; exact ⟨T.idle _, hx.rely T.trans h₁⟩
theorem codeW_loop (T : Terms R D) {cd : Code} (I : Act → World → Prop) (μ : Act → World → Nat) (h₀ : I a w)
    (round : ∀ a w, I a w → CodeW P main R D fn cd (Exit.then (fun a' w' => I a' w' ∧ μ a' w' < μ a w) Q) a w) : CodeW P main R D fn (.loop cd) Q a w := by
  intro b k cs Stop hb hk hc
  have key : ∀ M a w, μ a w ≤ M → I a w → GoesW P main R D Stop (G (b.at a (.code cd :: .inLoop cd :: k)) cs) w := by
    intro M
    induction M with
    | zero =>
      intro a w hμ hI
      refine round a w hI b (.inLoop cd :: k) cs Stop hb hk fun e a' w' q => ?_
      by_cases he : e = .normal
      · subst he; exact absurd q.2 (by omega)
      · have q' : Q e a' w' := by cases e <;> first | exact absurd rfl he | exact q
        exact (hc _ _ _ q').push (x := .inLoop cd) rfl he
    | succ M ih =>
      intro a w hμ hI
      refine round a w hI b (.inLoop cd :: k) cs Stop hb hk fun e a' w' q => ?_
      by_cases he : e = .normal
      · subst he
        exact GoesW.mk' rfl fun w₁ h₁ => by rw [stepG_inLoop]; exact ⟨T.idle _, (ih a' w' (by have := q.2; omega) q.1).rely T.trans h₁⟩
      · have q' : Q e a' w' := by cases e <;> first | exact absurd rfl he | exact q
        exact (hc _ _ _ q').push (x := .inLoop cd) rfl he
  exact GoesW.mk' rfl fun w₁ h₁ => by rw [stepG_loop]; exact ⟨T.idle _, (key _ a w (Nat.le_refl _) h₀).rely T.trans h₁⟩
theorem codeW_region (T : Terms R D) {id : Nat} {ops : Array Oper} (h : OpsW P main R D fn ops (List.range ops.size) Q a w) : CodeW P main R D fn (.region id ops false) Q a w :=
  fun b k cs Stop hb hk hc => GoesW.mk' rfl fun w₁ h₁ => by rw [stepG_region]; exact ⟨T.idle _, (h b k cs Stop hb hk hc).rely T.trans h₁⟩
theorem opsW_nil (T : Terms R D) {ops : Array Oper} (h : Q .normal a w) : OpsW P main R D fn ops [] Q a w := fun b k cs Stop _ _ hc => GoesW.mk' rfl fun w₁ h₁ => by rw [stepG_region_end]; exact ⟨T.idle _, GoesW.rely T.trans (hc _ _ _ h) h₁⟩
theorem opsW_cons {ops : Array Oper} {i : Nat} {rest : List Nat} {o : Oper} (ho : ops[i]? = some o) (hw : Region.wanted o (yielded ops a.tmps) = true)
    (h : ∀ w₁, R w w₁ → ∀ K : Act → World → Prop, (∀ a' w', D w₁ w' (listed P fn a o w₁) ∧ OpsW P main R D fn ops rest Q a' w' → K a' w') → uponK o a K ((execOp a.eval o).run P w₁)) : OpsW P main R D fn ops (i :: rest) Q a w := by
  intro b k cs Stop hb hk hc
  refine GoesW.mk' rfl fun w₁ h₁ => goes_oper ho hw hk ?_
  have := h w₁ h₁ _ fun _ _ x => x
  revert this
  cases (execOp a.eval o).run P w₁ with
  | ok x w' => cases x <;> first | exact fun ⟨d, g⟩ => ⟨hb ▸ d, g b k cs Stop hb hk hc⟩ | exact id
  | halt _ _ => exact id
theorem opsW_unwanted (T : Terms R D) {ops : Array Oper} {i : Nat} {rest : List Nat} {o : Oper} (ho : ops[i]? = some o) (hw : Region.wanted o (yielded ops a.tmps) = false) (h : OpsW P main R D fn ops rest Q (a.put o.dst undef) w) : OpsW P main R D fn ops (i :: rest) Q a w :=
  fun b k cs Stop hb hk hc => GoesW.mk' rfl fun w₁ h₁ => by rw [stepG_unwanted ho hw]; exact ⟨T.idle _, (h b k cs Stop hb hk hc).rely T.trans h₁⟩
/-- a step whose law is known -/
theorem opsW_step {ops : Array Oper} {i : Nat} {rest : List Nat} {o : Oper} (ho : ops[i]? = some o)
    (h : ∀ w₁, R w w₁ → ∃ v w' es, (∀ (b : Frame) (k : List Item) (cs : List Frame), b.fn = fn → b.kind ≠ .early → stepG P main (G (b.at a (.inRegion ops (i :: rest) :: k)) cs) w₁ = .go (G (b.at (a.put o.dst v) (.inRegion ops rest :: k)) cs) w' es) ∧
      D w₁ w' es ∧ OpsW P main R D fn ops rest Q (a.put o.dst v) w') : OpsW P main R D fn ops (i :: rest) Q a w := by
  intro b k cs Stop hb hk hc
  refine GoesW.mk' rfl fun w₁ h₁ => ?_
  obtain ⟨v, w', es, hst, hd, hnext⟩ := h w₁ h₁
  rw [hst b k cs hb hk]
  exact ⟨hd, hnext b k cs Stop hb hk hc⟩
theorem opsW_call (T : Terms R D) {ops : Array Oper} {i : Nat} {rest : List Nat} {o : Oper} {f : FuncId} {args : Array Operand} {ats : Array TypeId} {Post : Value → World → Prop}
    (ho : ops[i]? = some o) (hw : Region.wanted o (yielded ops a.tmps) = true) (hop : o.op = .call { callee := .value (.func f), args, argTypes := ats })
    (hcall : CallsW P main R D f (args.map a.eval) w Post) (hnext : ∀ v w', Post v w' → OpsW P main R D fn ops rest Q (a.put o.dst v) w') : OpsW P main R D fn ops (i :: rest) Q a w := by
  intro b k cs Stop hb hk hc
  obtain ⟨fnn, cd, hf, hname, hbody, hwp⟩ := hcall
  have hfin : ∀ v, (b.at a (.inRegion ops (i :: rest) :: k)).finish v = b.at (a.put o.dst v) (.inRegion ops rest :: k) := fun v => by rw [Frame.finish_at, ho]; rfl
  have hleave : ∀ (a' : Act) (w' : World) (todo : List Item), (a'.defers = [] ∧ ∃ v, ResultsC P fnn a'.tmps v ∧ Post v w') →
      GoesW P main R D Stop (G { (base f).at a' todo with mode := .returning } (b.at a (.inRegion ops (i :: rest) :: k) :: cs)) w' := by
    rintro a' w' todo ⟨hd, v, hr, hp⟩
    refine GoesW.mk' rfl fun w₁ h₁ => ?_
    rw [stepG_leave (b := base f) rfl hd hf (hr w₁).1 (hr w₁).2, hfin]
    exact ⟨T.idle _, (hnext v w' hp b k cs Stop hb hk hc).rely T.trans h₁⟩
  have hbodyG : GoesW P main R D Stop (G ((base f).at { tmps := args.map a.eval ++ Array.replicate (fnn.ntmps - (args.map a.eval).size) undef, defers := [] } [.code cd]) (b.at a (.inRegion ops (i :: rest) :: k) :: cs)) w := by
    refine hwp (base f) [] _ Stop rfl (by simp [base]) fun e a' w' q => ?_
    cases e with
    | normal => exact GoesW.mk' rfl fun w₁ h₁ => by rw [stepG_end]; exact ⟨T.idle _, (hleave a' w' [] q).rely T.trans h₁⟩
    | ret => exact fun todo => hleave a' w' todo q
    | exit id => exact q.elim
    | goto l => exact q.elim
    | panic ch => exact q.elim
    | outgrown => exact q.elim
  exact GoesW.mk' rfl fun w₁ h₁ => goes_call ho hw hk hop hf hname hbody ⟨T.idle _, hbodyG.rely T.trans h₁⟩
theorem callsW_of (T : Terms R D) (refl : ∀ w, R w w) {f : FuncId} {args : Array Value} {n : Nat} {Post : Value → World → Prop} (h : CallsC P main R D f args n w Post) : CallsW P main R D f args w Post := by
  obtain ⟨fn, c, hf, hn, hb, hw⟩ := h
  exact ⟨fn, c, hf, hn, hb, codeW_of T refl hw⟩
theorem callsW_enter {f : FuncId} {fn : Func} {c : Code} {args : Array Value} {Post : Value → World → Prop} (hf : P.funcs[f]? = some fn) (hname : (fn.name == "runtime.NumGoroutine") = false) (hb : fn.body = some c)
    (h : CodeW P main R D f c (bodyPostC P fn Post) { tmps := args ++ Array.replicate (fn.ntmps - args.size) undef, defers := [] } w) : CallsW P main R D f args w Post := ⟨fn, c, hf, hname, hb, h⟩
theorem CallsW.mono {f : FuncId} {args : Array Value} {Post Post' : Value → World → Prop} (h : CallsW P main R D f args w Post) (hp : ∀ v w, Post v w → Post' v w) : CallsW P main R D f args w Post' := by
  obtain ⟨fn, c, hf, hn, hb, hw⟩ := h
  refine ⟨fn, c, hf, hn, hb, codeW_mono hw fun e a w q => ?_⟩
  cases e <;> first | exact ⟨q.1, q.2.choose, q.2.choose_spec.1, hp _ _ q.2.choose_spec.2⟩ | exact q
theorem CallsW.rely (T : Terms R D) {f : FuncId} {args : Array Value} {w₁ : World} {Post : Value → World → Prop} (h : CallsW P main R D f args w Post) (hr : R w w₁) : CallsW P main R D f args w₁ Post := by
  obtain ⟨fn, c, hf, hn, hb, hw⟩ := h
  exact ⟨fn, c, hf, hn, hb, codeW_rely T hw hr⟩
end

section
variable {P : Program} {Shun : Loc → Prop} {D : World → World → Array Event → Prop} {Stop : Goroutine → World → Prop}
theorem termsP (Shun : Loc → Prop) : Terms AtRel (DP0 Shun) := ⟨fun _ _ _ h k => atRel_trans _ _ _ h k, fun _ => fun e he => by simp at he⟩
/-- ████ A SEGMENT ████ -/
theorem segW {dd : Nat} (hD : ∀ w w' es, D w w' es → ∀ e ∈ es, EvP Shun e) {a : Goroutine} {w : World} (h : GoesW P true AtRel D Stop a w) : ∀ (gs : Array Goroutine) (sl : Option (Nat × Nat)) (t : Trace) (q : Nat → Nat), gs[0]? = some a → FrmD dd P Shun gs t q →
    ∃ (N : Nat) (gs' : Array Goroutine) (a' : Goroutine) (w' : World) (sl' : Option (Nat × Nat)) (t' : Trace) (q' : Nat → Nat),
      runNT P N (crowd gs w sl) t = (.next (crowd gs' w' sl'), t') ∧ gs'.size = gs.size ∧ gs'[0]? = some a' ∧ (∀ w₁, AtRel w' w₁ → Stop a' w₁) ∧ FrmD dd P Shun gs' t' q' := by
  induction h with
  | stop h => exact fun gs sl t q h0 hF => ⟨0, gs, _, _, sl, t, q, rfl, rfl, h0, h, hF⟩
  | step f hr hst hgo ih =>
    rename_i a w
    have key : ∀ (M : Nat) (w₂ : World) (gs : Array Goroutine) (sl : Option (Nat × Nat)) (t : Trace) (q : Nat → Nat), AtRel w w₂ → sumTo gs.size q ≤ M → gs[0]? = some a → FrmD dd P Shun gs t q →
        ∃ (N : Nat) (gs' : Array Goroutine) (a' : Goroutine) (w' : World) (sl' : Option (Nat × Nat)) (t' : Trace) (q' : Nat → Nat),
          runNT P N (crowd gs w₂ sl) t = (.next (crowd gs' w' sl'), t') ∧ gs'.size = gs.size ∧ gs'[0]? = some a' ∧ (∀ w₁, AtRel w' w₁ → Stop a' w₁) ∧ FrmD dd P Shun gs' t' q' := by
      intro M
      induction M with
      | zero =>
        intro w₂ gs sl t q hw hM h0 hF
        rcases seg_pick (w := w₂) (sl := sl) hF h0 hr with ⟨d, sl', hs⟩ | ⟨i, g, k, g', es, d, sl', hi0, hgi, hqi, hm, hq', hs⟩
        · obtain ⟨h1, h2⟩ := hst _ (atRel_trans _ _ _ hw ⟨d, rfl⟩)
          have hrun := runT_crowd_go (P := P) (sl := sl') (i := 0) h0 (by simpa using h1)
          have hsz : ((gs.map (woken P a (f (w₂.at d)).1 (f (w₂.at d)).2.1)).setIfInBounds 0 (f (w₂.at d)).1).size = gs.size := by simp
          have h0' : 0 < gs.size := (Array.getElem?_eq_some_iff.1 h0).1
          obtain ⟨N, gs', a'', w'', sl'', t', q', e1, e2, e3, e4, e5⟩ := ih _ (atRel_trans _ _ _ hw ⟨d, rfl⟩) _ sl' _ q (by simp [h0']) (hF.step0 (a' := (f (w₂.at d)).1) (w' := (f (w₂.at d)).2.1) h0 (hD _ _ _ h2))
          exact ⟨N + 1, gs', a'', w'', sl'', t', q', by simp only [runNT, hs, hrun]; exact e1, e2.trans hsz, e3, e4, e5⟩
        · have hlt : i < gs.size := (Array.getElem?_eq_some_iff.1 hgi).1
          have := ConcN.le_sumTo (f := q) hlt
          omega
      | succ M ihM =>
        intro w₂ gs sl t q hw hM h0 hF
        rcases seg_pick (w := w₂) (sl := sl) hF h0 hr with ⟨d, sl', hs⟩ | ⟨i, g, k, g', es, d, sl', hi0, hgi, hqi, hm, hq', hs⟩
        · obtain ⟨h1, h2⟩ := hst _ (atRel_trans _ _ _ hw ⟨d, rfl⟩)
          have hrun := runT_crowd_go (P := P) (sl := sl') (i := 0) h0 (by simpa using h1)
          have hsz : ((gs.map (woken P a (f (w₂.at d)).1 (f (w₂.at d)).2.1)).setIfInBounds 0 (f (w₂.at d)).1).size = gs.size := by simp
          have h0' : 0 < gs.size := (Array.getElem?_eq_some_iff.1 h0).1
          obtain ⟨N, gs', a'', w'', sl'', t', q', e1, e2, e3, e4, e5⟩ := ih _ (atRel_trans _ _ _ hw ⟨d, rfl⟩) _ sl' _ q (by simp [h0']) (hF.step0 (a' := (f (w₂.at d)).1) (w' := (f (w₂.at d)).2.1) h0 (hD _ _ _ h2))
          exact ⟨N + 1, gs', a'', w'', sl'', t', q', by simp only [runNT, hs, hrun]; exact e1, e2.trans hsz, e3, e4, e5⟩
        · have hsz : ((gs.map (woken P g g' (w₂.at d))).setIfInBounds i g').size = gs.size := by simp
          have hlt : i < gs.size := (Array.getElem?_eq_some_iff.1 hgi).1
          have hsum : sumTo gs.size (upd q i k) + (k + 1) = sumTo gs.size q + k := by
            have := sumTo_upd q k id hlt
            simpa [hqi] using this
          obtain ⟨N, gs', a'', w'', sl'', t', q', e1, e2, e3, e4, e5⟩ := ihM (w₂.at d) _ sl' _ (upd q i k) (atRel_trans _ _ _ hw ⟨d, rfl⟩) (by rw [hsz]; omega) (by rw [get_map_set _ _ _ _ (by omega), h0]; simp [woken_run hr]) (hF.stepL (w' := w₂.at d) hi0 hgi hqi hm hq')
          exact ⟨N + 1, gs', a'', w'', sl'', t', q', by simp only [runNT, hs]; exact e1, e2.trans hsz, e3, e4, e5⟩
    exact fun gs sl t q h0 hF => key _ w gs sl t q (atRel_refl w) (Nat.le_refl _) h0 hF
/-- ████ THE LAST SEGMENT ████ -/
theorem segW_end {Post : Value → World → Prop} (hD : ∀ w w' es, D w w' es → ∀ e ∈ es, EvP Shun e) {gs : Array Goroutine} {a : Goroutine} {w : World} {sl : Option (Nat × Nat)} {t : Trace} {q : Nat → Nat} (h0 : gs[0]? = some a) (hF : Frm P Shun gs t q) (hG : GoesW P true AtRel D (AtEndP P Shun Post) a w) :
    ∃ N last o w' t', runNT P (N + 1) (crowd gs w sl) t = (.ended o w', t') ∧ runN P N (crowd gs w sl) = .next last ∧ step P last = .ended o w' ∧ Good P Post last o w' t' := by
  obtain ⟨N, gs', a', w', sl', t', q', e1, e2, e3, e4, e5⟩ := segW hD hG gs sl t q h0 hF
  exact good_after e1 (seg_end (n := 0) hD e3 e5 e4)
end
end Go.Proofs.Ytinghnaigpenkaa
