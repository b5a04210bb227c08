/- A worker's walk, with the steps by which it acts on what is shared: the judgement and its rules. -/
import Derived.Test.YtinghnaigpenkaaZPhD
import Derived.Conc.CompanyMem
namespace Go.Proofs.Ytinghnaigpenkaa
open Go.Conc
open Go.ConcR (Payload)
set_option linter.unusedVariables false
set_option linter.unusedSimpArgs false
set_option linter.unusedSectionVars false
variable [Payload]

theorem DW.refl (c : Cfg) (C : Nat) (w : World) : DW c C w w #[] := ⟨.refl w, Nat.le_refl _, fun _ _ => rfl, fun b h hs => absurd hs.lt (Nat.not_lt.2 h), by simp⟩
theorem termsW (c : Cfg) (C : Nat) : Terms (RW c C) (DW c C) := ⟨fun _ _ _ h k => h.trans k, DW.refl c C⟩

section
variable (P : Program) (c : Cfg) (k C : Nat)
/-- m own steps at most to the next act on what is shared (N of these are followed, at most), or to the end -/
def GV (N : Nat) (u : c.U) (m : Nat) (g : Goroutine) (w : World) : Prop := Goes P false (RW c C) (DW c C) (StopU P c k C (RunU P c k C N) u) m g w
def AfterV (N : Nat) (u : c.U) (m : Nat) (b : Frame) (kk : List Item) (cs : List Frame) (e : Exit) (a : Act) (w : World) : Prop :=
  After P false (RW c C) (DW c C) (StopU P c k C (RunU P c k C N) u) m b kk cs e a w
def CodeV (fn : FuncId) (cd : Code) (n N : Nat) (u : c.U) (Q : Nat → c.U → Exit → Act → World → Prop) (a : Act) (w : World) : Prop :=
  ∀ (b : Frame) (kk : List Item) (cs : List Frame) (m : Nat), b.fn = fn → b.kind ≠ .early → (∀ N' u' e a' w', Q N' u' e a' w' → AfterV P c k C N' u' m b kk cs e a' w') → GV P c k C N u (m + n) (G (b.at a (.code cd :: kk)) cs) w
def OpsV (fn : FuncId) (ops : Array Oper) (todo : List Nat) (n N : Nat) (u : c.U) (Q : Nat → c.U → Exit → Act → World → Prop) (a : Act) (w : World) : Prop :=
  ∀ (b : Frame) (kk : List Item) (cs : List Frame) (m : Nat), b.fn = fn → b.kind ≠ .early → (∀ N' u' e a' w', Q N' u' e a' w' → AfterV P c k C N' u' m b kk cs e a' w') → GV P c k C N u (m + n) (G (b.at a (.inRegion ops todo :: kk)) cs) w
def bodyPostV (fn : Func) (Post : Nat → c.U → Value → World → Prop) (N : Nat) (u : c.U) : Exit → Act → World → Prop
  | .normal, a, w | .ret, a, w => a.defers = [] ∧ ∃ v, ResultsC P fn a.tmps v ∧ Post N u v w
  | _, _, _ => False
def CallsV (f : FuncId) (args : Array Value) (n N : Nat) (u : c.U) (w : World) (Post : Nat → c.U → Value → World → Prop) : Prop :=
  ∃ fn cd, P.funcs[f]? = some fn ∧ (fn.name == "runtime.NumGoroutine") = false ∧ fn.body = some cd ∧
    CodeV P c k C f cd n N u (bodyPostV P c fn Post) { tmps := args ++ Array.replicate (fn.ntmps - args.size) undef, defers := [] } w
def ThenV (M : Nat → c.U → Act → World → Prop) (Q : Nat → c.U → Exit → Act → World → Prop) (N : Nat) (u : c.U) : Exit → Act → World → Prop
  | .normal, a, w => M N u a w
  | e, a, w => Q N u e a w
def InBlockV (id : Nat) (Q : Nat → c.U → Exit → Act → World → Prop) (N : Nat) (u : c.U) (e : Exit) (a : Act) (w : World) : Prop := Exit.inBlock id (Q N u) e a w
end

section
variable {P : Program} {c : Cfg} {k C : Nat} {fn : FuncId} {N : Nat} {u : c.U} {Q : Nat → c.U → Exit → Act → World → Prop} {a : Act} {w : World}
theorem GV.mono {m m' : Nat} {g : Goroutine} (h : GV P c k C N u m g w) (hm : m ≤ m') : GV P c k C N u m' g w := Goes.mono h hm
theorem AfterV.mono {m m' : Nat} {b : Frame} {kk : List Item} {cs : List Frame} {e : Exit} (h : AfterV P c k C N u m b kk cs e a w) (hm : m ≤ m') : AfterV P c k C N u m' b kk cs e a w := After.mono h hm
theorem GV.rely {m : Nat} {g : Goroutine} {w₁ : World} (h : GV P c k C N u m g w) (hr : RW c C w w₁) : GV P c k C N u m g w₁ := Goes.rely (termsW c C).trans h hr
theorem AfterV.push {m : Nat} {b : Frame} {x : Item} {kk : List Item} {cs : List Frame} {e : Exit} (hx : x.plain = true) (he : e ≠ .normal) (h : AfterV P c k C N u m b kk cs e a w) : AfterV P c k C N u m b (x :: kk) cs e a w := After.push hx he h

/-- a silent piece, by the kit's own judgement -/
theorem codeV_of {cd : Code} {n : Nat} (h : cd.wpC P false (RW c C) (DW c C) fn n (fun e a w => Q N u e a w) a w) : CodeV P c k C fn cd n N u Q a w :=
  fun b kk cs m hb hk hc => h b kk cs _ m hb hk fun e a' w' q => hc N u e a' w' q
theorem opsV_of {ops : Array Oper} {todo : List Nat} {n : Nat} (h : OpsC P false (RW c C) (DW c C) fn ops todo n (fun e a w => Q N u e a w) a w) : OpsV P c k C fn ops todo n N u Q a w :=
  fun b kk cs m hb hk hc => h b kk cs _ m hb hk fun e a' w' q => hc N u e a' w' q
theorem codeV_more {cd : Code} {n n' : Nat} (h : CodeV P c k C fn cd n N u Q a w) (hn : n ≤ n') : CodeV P c k C fn cd n' N u Q a w := fun b kk cs m hb hk hc => (h b kk cs m hb hk hc).mono (by omega)
theorem codeV_mono {cd : Code} {n : Nat} {Q' : Nat → c.U → Exit → Act → World → Prop} (h : CodeV P c k C fn cd n N u Q a w) (hq : ∀ N u e a w, Q N u e a w → Q' N u e a w) : CodeV P c k C fn cd n N u Q' a w :=
  fun b kk cs m hb hk hc => h b kk cs m hb hk fun N' u' e a' w' q => hc N' u' e a' w' (hq _ _ _ _ _ q)
theorem codeV_seq {x y : Code} {n₁ n₂ : Nat} (h : CodeV P c k C fn x n₁ N u (ThenV c (fun N' u' a' w' => CodeV P c k C fn y n₂ N' u' Q a' w') Q) a w) : CodeV P c k C fn (.seq x y) (n₁ + n₂ + 1) N u Q a w := by
  intro b kk cs m hb hk hc
  have hx : GV P c k C N u (m + n₂ + n₁) (G (b.at a (.code x :: .code y :: kk)) cs) w := by
    refine h b (.code y :: kk) cs (m + n₂) hb hk fun N' u' e a' w' q => ?_
    by_cases he : e = .normal
    · subst he; exact q b kk cs m hb hk hc
    · have q' : Q N' u' e a' w' := by cases e <;> first | exact absurd rfl he | exact q
      exact ((hc _ _ _ _ _ q').mono (Nat.le_add_right _ _)).push (x := .code y) rfl he
  have e : m + (n₁ + n₂ + 1) = (m + n₂ + n₁) + 1 := by omega
  rw [e]
  exact Goes.step rfl fun w₁ h₁ => by rw [stepG_seq]; exact ⟨(termsW c C).idle _, hx.rely h₁⟩
theorem codeV_cond {cc : Operand} {x y : Code} {t : Bool} {n : Nat} (hc : a.eval cc = .bool t) (h : CodeV P c k C fn (if t then x else y) n N u Q a w) : CodeV P c k C fn (.cond cc x y) (n + 1) N u Q a w :=
  fun b kk cs m hb hk hq => Goes.step rfl fun w₁ h₁ => by rw [stepG_cond hc]; exact ⟨(termsW c C).idle _, (h b kk cs m hb hk hq).rely h₁⟩
theorem codeV_block {id : Nat} {cd : Code} {n : Nat} (h : CodeV P c k C fn cd n N u (InBlockV c id Q) a w) : CodeV P c k C fn (.block id cd) (n + 2) N u Q a w := by
  intro b kk cs m hb hk hc
  have hx : GV P c k C N u (m + 1 + n) (G (b.at a (.code cd :: .inBlock id :: kk)) cs) w := by
    refine h b (.inBlock id :: kk) cs (m + 1) hb hk fun N' u' e a' w' q => ?_
    cases e with
    | normal => exact Goes.step rfl fun w₁ h₁ => by rw [stepG_inBlock]; exact ⟨(termsW c C).idle _, Goes.rely (termsW c C).trans (hc _ _ _ _ _ q) h₁⟩
    | exit id' =>
      by_cases hid : id' = id
      · simp only [InBlockV, Exit.inBlock, hid, if_true] at q
        exact ⟨kk, by simp [exitTo, hid], Goes.more (hc _ _ _ _ _ q)⟩
      · simp only [InBlockV, Exit.inBlock, hid, if_false] at q
        obtain ⟨k', hk', hg⟩ := hc _ _ _ _ _ q
        have : (id == id') = false := by simp; exact fun h => hid h.symm
        exact ⟨k', by simp [exitTo, this, hk'], hg.more⟩
    | ret => exact fun todo => (hc _ _ _ _ _ q todo).more
    | goto l => exact hc _ _ _ _ _ q
    | panic ch => exact hc _ _ _ _ _ q
    | outgrown => exact hc _ _ _ _ _ q
  have e : m + (n + 2) = (m + 1 + n) + 1 := by omega
  rw [e]
  exact Goes.step rfl fun w₁ h₁ => by rw [stepG_block]; exact ⟨(termsW c C).idle _, hx.rely h₁⟩
/-- A LOOP: what each round lowers may be the number of shared steps that are still followed -/
theorem codeV_loop {cd : Code} (I : Nat → c.U → Act → World → Prop) (μ : Nat → c.U → Act → World → Nat) (r M : Nat) (h₀ : I N u a w) (hM : μ N u a w ≤ M)
    (round : ∀ N u a w, I N u a w → CodeV P c k C fn cd r N u (ThenV c (fun N' u' a' w' => I N' u' a' w' ∧ μ N' u' a' w' < μ N u a w) Q) a w) : CodeV P c k C fn (.loop cd) ((M + 1) * (r + 1) + 1) N u Q a w := by
  intro b kk cs m hb hk hc
  have key : ∀ M N u a w, μ N u a w ≤ M → I N u a w → GV P c k C N u (m + (M + 1) * (r + 1)) (G (b.at a (.code cd :: .inLoop cd :: kk)) cs) w := by
    intro M
    induction M with
    | zero =>
      intro N u a w hμ hI
      have := round N u a w hI b (.inLoop cd :: kk) cs (m + 1) hb hk fun N' u' e a' w' q => by
        by_cases he : e = .normal
        · subst he; exact absurd q.2 (by omega)
        · have q' : Q N' u' e a' w' := by cases e <;> first | exact absurd rfl he | exact q
          exact ((hc _ _ _ _ _ q').mono (Nat.le_add_right _ _)).push (x := .inLoop cd) rfl he
      exact this.mono (by simp; omega)
    | succ M ih =>
      intro N u a w hμ hI
      have := round N u a w hI b (.inLoop cd :: kk) cs (m + (M + 1) * (r + 1) + 1) hb hk fun N' u' e a' w' q => by
        by_cases he : e = .normal
        · subst he
          exact Goes.step rfl fun w₁ h₁ => by rw [stepG_inLoop]; exact ⟨(termsW c C).idle _, (ih N' u' a' w' (by have := q.2; omega) q.1).rely h₁⟩
        · have q' : Q N' u' e a' w' := by cases e <;> first | exact absurd rfl he | exact q
          exact ((hc _ _ _ _ _ q').mono (by omega)).push (x := .inLoop cd) rfl he
      refine this.mono ?_
      have : (M + 1 + 1) * (r + 1) = (M + 1) * (r + 1) + (r + 1) := by rw [Nat.succ_mul]
      omega
  have e : m + ((M + 1) * (r + 1) + 1) = (m + (M + 1) * (r + 1)) + 1 := by omega
  rw [e]
  exact Goes.step rfl fun w₁ h₁ => by rw [stepG_loop]; exact ⟨(termsW c C).idle _, (key M N u a w hM h₀).rely h₁⟩
theorem codeV_region {id : Nat} {ops : Array Oper} {n : Nat} (h : OpsV P c k C fn ops (List.range ops.size) n N u Q a w) : CodeV P c k C fn (.region id ops false) (n + 1) N u Q a w :=
  fun b kk cs m hb hk hc => Goes.step rfl fun w₁ h₁ => by rw [stepG_region]; exact ⟨(termsW c C).idle _, (h b kk cs m hb hk hc).rely h₁⟩
theorem opsV_nil {ops : Array Oper} (h : Q N u .normal a w) : OpsV P c k C fn ops [] 1 N u Q a w := opsV_of (opsC_nil (termsW c C) h)
theorem opsV_cons_k {ops : Array Oper} {i : Nat} {rest : List Nat} {o : Oper} {n : Nat} (ho : ops[i]? = some o) (hw : Region.wanted o (yielded ops a.tmps) = true)
    (h : ∀ w₁, RW c C w w₁ → ∀ K : Act → World → Prop, (∀ a' w', DW c C w₁ w' (listed P fn a o w₁) ∧ OpsV P c k C fn ops rest n N u Q a' w' → K a' w') → uponK o a K ((execOp a.eval o).run P w₁)) : OpsV P c k C fn ops (i :: rest) (n + 1) N u Q a w := by
  intro b kk cs m hb hk hc
  refine Goes.step rfl fun w₁ h₁ => goes_oper ho hw hk ?_
  have := h w₁ h₁ _ fun _ _ x => x
  revert this
  cases (execOp a.eval o).run P w₁ with
  | ok x w' => cases x <;> first | exact fun ⟨d, g⟩ => ⟨hb ▸ d, g b kk cs m hb hk hc⟩ | exact id
  | halt _ _ => exact id
theorem opsV_unwanted {ops : Array Oper} {i : Nat} {rest : List Nat} {o : Oper} {n : Nat} (ho : ops[i]? = some o) (hw : Region.wanted o (yielded ops a.tmps) = false)
    (h : OpsV P c k C fn ops rest n N u Q (a.put o.dst undef) w) : OpsV P c k C fn ops (i :: rest) (n + 1) N u Q a w :=
  fun b kk cs m hb hk hc => Goes.step rfl fun w₁ h₁ => by rw [stepG_unwanted ho hw]; exact ⟨(termsW c C).idle _, (h b kk cs m hb hk hc).rely h₁⟩
/-- what an act on what is shared does -/
structure ActV (P : Program) (c : Cfg) (k : Nat) (u : c.U) (σ : c.S) (w : World) (u' : c.U) (σ' : c.S) (w' : World) (es : Array Event) : Prop where
  tr : c.Tr u σ u' σ'
  rep : c.Rep σ' w'
  only : OnlySB c w w'
  ev : ∀ e ∈ es, EvV c k u e
  deaf : deafBehind (c.dn u) es = c.dn u'
  pub : PubV c k u σ u' σ' es
  own : ∀ l, c.own u' k l → c.own u k l ∨ c.sp l ∨ ∃ a : Addr, l = .cell a ∧ w.heap.size ≤ a.block
/-- AN ACT ON WHAT IS SHARED: it may have to wait; 'mw': it lets those try again who wait -/
theorem opsV_vis {ops : Array Oper} {i : Nat} {rest : List Nat} {o : Oper} (ho : ops[i]? = some o) (hnf : ¬ c.fin u)
    (h : ∀ w₁, RW c C w w₁ → ∀ σ, c.Rep σ w₁ → c.Pre u σ →
      (c.blk u σ → ∀ (b : Frame) (kk : List Item) (cs : List Frame), b.fn = fn → b.kind ≠ .early → stepG P false (G (b.at a (.inRegion ops (i :: rest) :: kk)) cs) w₁ = .go { G (b.at a (.inRegion ops (i :: rest) :: kk)) cs with status := .blocked } w₁ #[]) ∧
      (¬ c.blk u σ → ∃ v w' es u' σ',
      (∀ (b : Frame) (kk : List Item) (cs : List Frame), b.fn = fn → b.kind ≠ .early → stepG P false (G (b.at a (.inRegion ops (i :: rest) :: kk)) cs) w₁ = .go (G (b.at (a.put o.dst v) (.inRegion ops rest :: kk)) cs) w' es) ∧
      ActV P c k u σ w₁ u' σ' w' es ∧ ((∀ v, c.blk v σ → c.blk v σ') ∨ ∀ (b : Frame) (kk : List Item) (cs : List Frame), b.fn = fn → mayWake P (G (b.at a (.inRegion ops (i :: rest) :: kk)) cs) = true) ∧
      ∀ N1, N = N1 + 1 → ∃ n2, OpsV P c k C fn ops rest n2 N1 u' Q (a.put o.dst v) w')) : OpsV P c k C fn ops (i :: rest) 0 N u Q a w := by
  intro b kk cs m hb hk hc
  refine Goes.stop fun w₁ h₁ => .inr ⟨hnf, rfl, rfl, fun σ hr hp => ?_⟩
  obtain ⟨hbl, hgo⟩ := h w₁ h₁ σ hr hp
  refine ⟨fun hb' => hbl hb' b kk cs hb hk, fun hb' => ?_⟩
  obtain ⟨v, w', es, u', σ', hst, hA, hmw, hnext⟩ := hgo hb'
  refine ⟨_, w', es, u', σ', hst b kk cs hb hk, hA.tr, hA.rep, hA.only, hA.ev, hA.pub, hA.deaf, hA.own, hmw.imp id (fun x => ⟨x b kk cs hb, rfl⟩), ?_⟩
  cases hN : N with
  | zero => trivial
  | succ N1 =>
    obtain ⟨n2, h2⟩ := hnext N1 hN
    exact ⟨m + n2, h2 b kk cs m hb hk hc⟩
theorem opsV_call {ops : Array Oper} {i : Nat} {rest : List Nat} {o : Oper} {f : FuncId} {args : Array Operand} {ats : Array TypeId} {nf n : Nat} {Post : Nat → c.U → Value → World → Prop}
    (ho : ops[i]? = some o) (hw : Region.wanted o (yielded ops a.tmps) = true) (hop : o.op = .call { callee := .value (.func f), args, argTypes := ats })
    (hcall : CallsV P c k C f (args.map a.eval) nf N u w Post) (hnext : ∀ N' u' v w', Post N' u' v w' → OpsV P c k C fn ops rest n N' u' Q (a.put o.dst v) w') : OpsV P c k C fn ops (i :: rest) (n + nf + 3) N u Q a w := by
  intro b kk cs m hb hk hc
  obtain ⟨fnn, cd, hf, hname, hbody, hwp⟩ := hcall
  have hfin : ∀ v, (b.at a (.inRegion ops (i :: rest) :: kk)).finish v = b.at (a.put o.dst v) (.inRegion ops rest :: kk) := fun v => by rw [Frame.finish_at, ho]; rfl
  have hleave : ∀ (N' : Nat) (u' : c.U) (a' : Act) (w' : World) (todo : List Item), (a'.defers = [] ∧ ∃ v, ResultsC P fnn a'.tmps v ∧ Post N' u' v w') →
      GV P c k C N' u' (m + n + 1) (G { (base f).at a' todo with mode := .returning } (b.at a (.inRegion ops (i :: rest) :: kk) :: cs)) w' := by
    rintro N' u' a' w' todo ⟨hd, v, hr, hp⟩
    refine Goes.step rfl fun w₁ h₁ => ?_
    rw [stepG_leave (b := base f) rfl hd hf (hr w₁).1 (hr w₁).2, hfin]
    exact ⟨(termsW c C).idle _, (hnext N' u' v w' hp b kk cs m hb hk hc).rely h₁⟩
  have hbodyG : GV P c k C N u (m + n + 2 + nf) (G ((base f).at { tmps := args.map a.eval ++ Array.replicate (fnn.ntmps - (args.map a.eval).size) undef, defers := [] } [.code cd]) (b.at a (.inRegion ops (i :: rest) :: kk) :: cs)) w := by
    refine hwp (base f) [] _ (m + n + 2) rfl (by simp [base]) fun N' u' e a' w' q => ?_
    cases e with
    | normal => exact Goes.step rfl fun w₁ h₁ => by rw [stepG_end]; exact ⟨(termsW c C).idle _, (hleave N' u' a' w' [] q).rely h₁⟩
    | ret => exact fun todo => (hleave N' u' a' w' todo q).more
    | exit id => exact q.elim
    | goto l => exact q.elim
    | panic ch => exact q.elim
    | outgrown => exact q.elim
  have e : m + (n + nf + 3) = (m + n + 2 + nf) + 1 := by omega
  rw [e]
  exact Goes.step rfl fun w₁ h₁ => goes_call ho hw hk hop hf hname hbody ⟨(termsW c C).idle _, hbodyG.rely h₁⟩
end
end Go.Proofs.Ytinghnaigpenkaa
