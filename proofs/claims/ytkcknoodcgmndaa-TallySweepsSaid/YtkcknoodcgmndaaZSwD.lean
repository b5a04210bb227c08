import Derived.Test.YtkcknoodcgmndaaZPhD
import Derived.Conc.CompanyMem
import Derived.Test.YtkcknoodcgmndaaZSwB
import Derived.ProofKit
section
/- A worker's walk, with the steps by which it acts on what is shared: the judgement and its rules. -/
namespace Go.Proofs.Ytkcknoodcgmndaa
open Go.Conc
open Go.ConcR (Payload)
set_option linter.unusedVariables false
set_option linter.unusedSimpArgs false
set_option linter.unusedSectionVars false
variable [Payload]

theorem DW.refl (c : Cfg) (C : Nat) (w : World) : DW c C w w #[] := ⟨.refl w, Nat.le_refl _, fun _ _ => rfl, fun b h hs => absurd hs.lt (Nat.not_lt.2 h), by simp⟩
theorem termsW (c : Cfg) (C : Nat) : Terms (RW c C) (DW c C) := ⟨fun _ _ _ h k => h.trans k, DW.refl c C⟩

section
variable (P : Program) (c : Cfg) (k C : Nat)
/-- m own steps at most to the next act on what is shared (N of these are followed, at most), or to the end -/
def GV (N : Nat) (u : c.U) (m : Nat) (g : Goroutine) (w : World) : Prop := Goes P false (RW c C) (DW c C) (StopU P c k C (RunU P c k C N) u) m g w
def AfterV (N : Nat) (u : c.U) (m : Nat) (b : Frame) (kk : List Item) (cs : List Frame) (e : Exit) (a : Act) (w : World) : Prop :=
  After P false (RW c C) (DW c C) (StopU P c k C (RunU P c k C N) u) m b kk cs e a w
def CodeV (fn : FuncId) (cd : Code) (n N : Nat) (u : c.U) (Q : Nat → c.U → Exit → Act → World → Prop) (a : Act) (w : World) : Prop :=
  ∀ (b : Frame) (kk : List Item) (cs : List Frame) (m : Nat), b.fn = fn → b.kind ≠ .early → (∀ N' u' e a' w', Q N' u' e a' w' → AfterV P c k C N' u' m b kk cs e a' w') → GV P c k C N u (m + n) (G (b.at a (.code cd :: kk)) cs) w
def OpsV (fn : FuncId) (ops : Array Oper) (todo : List Nat) (n N : Nat) (u : c.U) (Q : Nat → c.U → Exit → Act → World → Prop) (a : Act) (w : World) : Prop :=
  ∀ (b : Frame) (kk : List Item) (cs : List Frame) (m : Nat), b.fn = fn → b.kind ≠ .early → (∀ N' u' e a' w', Q N' u' e a' w' → AfterV P c k C N' u' m b kk cs e a' w') → GV P c k C N u (m + n) (G (b.at a (.inRegion ops todo :: kk)) cs) w
def bodyPostV (fn : Func) (Post : Nat → c.U → Value → World → Prop) (N : Nat) (u : c.U) : Exit → Act → World → Prop
  | .normal, a, w | .ret, a, w => a.defers = [] ∧ ∃ v, ResultsC P fn a.tmps v ∧ Post N u v w
  | _, _, _ => False
def CallsV (f : FuncId) (args : Array Value) (n N : Nat) (u : c.U) (w : World) (Post : Nat → c.U → Value → World → Prop) : Prop :=
  ∃ fn cd, P.funcs[f]? = some fn ∧ (fn.name == "runtime.NumGoroutine") = false ∧ fn.body = some cd ∧
    CodeV P c k C f cd n N u (bodyPostV P c fn Post) { tmps := args ++ Array.replicate (fn.ntmps - args.size) undef, defers := [] } w
def ThenV (M : Nat → c.U → Act → World → Prop) (Q : Nat → c.U → Exit → Act → World → Prop) (N : Nat) (u : c.U) : Exit → Act → World → Prop
  | .normal, a, w => M N u a w
  | e, a, w => Q N u e a w
def InBlockV (id : Nat) (Q : Nat → c.U → Exit → Act → World → Prop) (N : Nat) (u : c.U) (e : Exit) (a : Act) (w : World) : Prop := Exit.inBlock id (Q N u) e a w
end

section
variable {P : Program} {c : Cfg} {k C : Nat} {fn : FuncId} {N : Nat} {u : c.U} {Q : Nat → c.U → Exit → Act → World → Prop} {a : Act} {w : World}
theorem GV.mono {m m' : Nat} {g : Goroutine} (h : GV P c k C N u m g w) (hm : m ≤ m') : GV P c k C N u m' g w := Goes.mono h hm
theorem AfterV.mono {m m' : Nat} {b : Frame} {kk : List Item} {cs : List Frame} {e : Exit} (h : AfterV P c k C N u m b kk cs e a w) (hm : m ≤ m') : AfterV P c k C N u m' b kk cs e a w := After.mono h hm
theorem GV.rely {m : Nat} {g : Goroutine} {w₁ : World} (h : GV P c k C N u m g w) (hr : RW c C w w₁) : GV P c k C N u m g w₁ := Goes.rely (termsW c C).trans h hr
theorem AfterV.push {m : Nat} {b : Frame} {x : Item} {kk : List Item} {cs : List Frame} {e : Exit} (hx : x.plain = true) (he : e ≠ .normal) (h : AfterV P c k C N u m b kk cs e a w) : AfterV P c k C N u m b (x :: kk) cs e a w := After.push hx he h

/-- a silent piece, by the kit's own judgement -/
theorem codeV_of {cd : Code} {n : Nat} (h : cd.wpC P false (RW c C) (DW c C) fn n (fun e a w => Q N u e a w) a w) : CodeV P c k C fn cd n N u Q a w :=
  fun b kk cs m hb hk hc => h b kk cs _ m hb hk fun e a' w' q => hc N u e a' w' q
theorem opsV_of {ops : Array Oper} {todo : List Nat} {n : Nat} (h : OpsC P false (RW c C) (DW c C) fn ops todo n (fun e a w => Q N u e a w) a w) : OpsV P c k C fn ops todo n N u Q a w :=
  fun b kk cs m hb hk hc => h b kk cs _ m hb hk fun e a' w' q => hc N u e a' w' q
theorem codeV_more {cd : Code} {n n' : Nat} (h : CodeV P c k C fn cd n N u Q a w) (hn : n ≤ n') : CodeV P c k C fn cd n' N u Q a w := fun b kk cs m hb hk hc => (h b kk cs m hb hk hc).mono (by omega)
theorem codeV_rely {cd : Code} {n : Nat} {w₁ : World} (h : CodeV P c k C fn cd n N u Q a w) (hr : RW c C w w₁) : CodeV P c k C fn cd n N u Q a w₁ := fun b kk cs m hb hk hc => (h b kk cs m hb hk hc).rely hr
theorem codeV_seq {x y : Code} {n₁ n₂ : Nat} (h : CodeV P c k C fn x n₁ N u (ThenV c (fun N' u' a' w' => CodeV P c k C fn y n₂ N' u' Q a' w') Q) a w) : CodeV P c k C fn (.seq x y) (n₁ + n₂ + 1) N u Q a w := by
  intro b kk cs m hb hk hc
  have hx : GV P c k C N u (m + n₂ + n₁) (G (b.at a (.code x :: .code y :: kk)) cs) w := by
    refine h b (.code y :: kk) cs (m + n₂) hb hk fun N' u' e a' w' q => ?_
    by_cases he : e = .normal
    · subst he; exact q b kk cs m hb hk hc
    · have q' : Q N' u' e a' w' := by cases e <;> first | exact absurd rfl he | exact q
      exact ((hc _ _ _ _ _ q').mono (Nat.le_add_right _ _)).push (x := .code y) rfl he
  have e : m + (n₁ + n₂ + 1) = (m + n₂ + n₁) + 1 := by omega
  rw [e]
  exact Goes.step rfl fun w₁ h₁ => by rw [stepG_seq]; exact ⟨(termsW c C).idle _, hx.rely h₁⟩
theorem codeV_cond {cc : Operand} {x y : Code} {t : Bool} {n : Nat} (hc : a.eval cc = .bool t) (h : CodeV P c k C fn (if t then x else y) n N u Q a w) : CodeV P c k C fn (.cond cc x y) (n + 1) N u Q a w :=
  fun b kk cs m hb hk hq => Goes.step rfl fun w₁ h₁ => by rw [stepG_cond hc]; exact ⟨(termsW c C).idle _, (h b kk cs m hb hk hq).rely h₁⟩
theorem codeV_block {id : Nat} {cd : Code} {n : Nat} (h : CodeV P c k C fn cd n N u (InBlockV c id Q) a w) : CodeV P c k C fn (.block id cd) (n + 2) N u Q a w := by
  intro b kk cs m hb hk hc
  have hx : GV P c k C N u (m + 1 + n) (G (b.at a (.code cd :: .inBlock id :: kk)) cs) w := by
    refine h b (.inBlock id :: kk) cs (m + 1) hb hk fun N' u' e a' w' q => ?_
    cases e with
    | normal => exact Goes.step rfl fun w₁ h₁ => by rw [stepG_inBlock]; exact ⟨(termsW c C).idle _, Goes.rely (termsW c C).trans (hc _ _ _ _ _ q) h₁⟩
    | exit id' =>
      by_cases hid : id' = id
      · simp only [InBlockV, Exit.inBlock, hid, if_true] at q
        exact ⟨kk, by simp [exitTo, hid], Goes.more (hc _ _ _ _ _ q)⟩
      · simp only [InBlockV, Exit.inBlock, hid, if_false] at q
        obtain ⟨k', hk', hg⟩ := hc _ _ _ _ _ q
        have : (id == id') = false := by simp; exact fun h => hid h.symm
        exact ⟨k', by simp [exitTo, this, hk'], hg.more⟩
    | ret => exact fun todo => (hc _ _ _ _ _ q todo).more
    | goto l => exact hc _ _ _ _ _ q
    | panic ch => exact hc _ _ _ _ _ q
    | outgrown => exact hc _ _ _ _ _ q
  have e : m + (n + 2) = (m + 1 + n) + 1 := by omega
  rw [e]
  exact Goes.step rfl fun w₁ h₁ => by rw [stepG_block]; exact ⟨(termsW c C).idle _, hx.rely h₁⟩
/-- A LOOP: what each round lowers may be the number of shared steps that are still followed -/
theorem codeV_loop {cd : Code} (I : Nat → c.U → Act → World → Prop) (μ : Nat → c.U → Act → World → Nat) (r M : Nat) (h₀ : I N u a w) (hM : μ N u a w ≤ M)
    (round : ∀ N u a w, I N u a w → CodeV P c k C fn cd r N u (ThenV c (fun N' u' a' w' => I N' u' a' w' ∧ μ N' u' a' w' < μ N u a w) Q) a w) : CodeV P c k C fn (.loop cd) ((M + 1) * (r + 1) + 1) N u Q a w := by
  intro b kk cs m hb hk hc
  have key : ∀ M N u a w, μ N u a w ≤ M → I N u a w → GV P c k C N u (m + (M + 1) * (r + 1)) (G (b.at a (.code cd :: .inLoop cd :: kk)) cs) w := by
    intro M
    induction M with
    | zero =>
      intro N u a w hμ hI
      have := round N u a w hI b (.inLoop cd :: kk) cs (m + 1) hb hk fun N' u' e a' w' q => by
        by_cases he : e = .normal
        · subst he; exact absurd q.2 (by omega)
        · have q' : Q N' u' e a' w' := by cases e <;> first | exact absurd rfl he | exact q
          exact ((hc _ _ _ _ _ q').mono (Nat.le_add_right _ _)).push (x := .inLoop cd) rfl he
      exact this.mono (by simp; omega)
    | succ M ih =>
      intro N u a w hμ hI
      have := round N u a w hI b (.inLoop cd :: kk) cs (m + (M + 1) * (r + 1) + 1) hb hk fun N' u' e a' w' q => by
        by_cases he : e = .normal
        · subst he
          exact Goes.step rfl fun w₁ h₁ => by rw [stepG_inLoop]; exact ⟨(termsW c C).idle _, (ih N' u' a' w' (by have := q.2; omega) q.1).rely h₁⟩
        · have q' : Q N' u' e a' w' := by cases e <;> first | exact absurd rfl he | exact q
          exact ((hc _ _ _ _ _ q').mono (by omega)).push (x := .inLoop cd) rfl he
      refine this.mono ?_
      have : (M + 1 + 1) * (r + 1) = (M + 1) * (r + 1) + (r + 1) := by rw [Nat.succ_mul]
      omega
  have e : m + ((M + 1) * (r + 1) + 1) = (m + (M + 1) * (r + 1)) + 1 := by omega
  rw [e]
  exact Goes.step rfl fun w₁ h₁ => by rw [stepG_loop]; exact ⟨(termsW c C).idle _, (key M N u a w hM h₀).rely h₁⟩
theorem codeV_region {id : Nat} {ops : Array Oper} {n : Nat} (h : OpsV P c k C fn ops (List.range ops.size) n N u Q a w) : CodeV P c k C fn (.region id ops false) (n + 1) N u Q a w :=
  fun b kk cs m hb hk hc => Goes.step rfl fun w₁ h₁ => by rw [stepG_region]; exact ⟨(termsW c C).idle _, (h b kk cs m hb hk hc).rely h₁⟩
theorem opsV_nil {ops : Array Oper} (h : Q N u .normal a w) : OpsV P c k C fn ops [] 1 N u Q a w := opsV_of (opsC_nil (termsW c C) h)
theorem opsV_cons_k {ops : Array Oper} {i : Nat} {rest : List Nat} {o : Oper} {n : Nat} (ho : ops[i]? = some o) (hw : Region.wanted o (yielded ops a.tmps) = true)
    (h : ∀ w₁, RW c C w w₁ → ∀ K : Act → World → Prop, (∀ a' w', DW c C w₁ w' (listed P fn a o w₁) ∧ OpsV P c k C fn ops rest n N u Q a' w' → K a' w') → uponK o a K ((execOp a.eval o).run P w₁)) : OpsV P c k C fn ops (i :: rest) (n + 1) N u Q a w := by
  intro b kk cs m hb hk hc
  refine Goes.step rfl fun w₁ h₁ => goes_oper ho hw hk ?_
  have := h w₁ h₁ _ fun _ _ x => x
  revert this
  cases (execOp a.eval o).run P w₁ with
  | ok x w' => cases x <;> first | exact fun ⟨d, g⟩ => ⟨hb ▸ d, g b kk cs m hb hk hc⟩ | exact id
  | halt _ _ => exact id
/-- AN ACT ON WHAT IS SHARED -/
theorem opsV_vis {ops : Array Oper} {i : Nat} {rest : List Nat} {o : Oper} (ho : ops[i]? = some o) (hnf : ¬ c.fin u)
    (h : ∀ w₁, RW c C w w₁ → ∀ σ, c.Rep σ w₁ → c.Pre u σ → ∃ v w' es u' σ',
      (∀ (b : Frame) (kk : List Item) (cs : List Frame), b.fn = fn → b.kind ≠ .early → stepG P false (G (b.at a (.inRegion ops (i :: rest) :: kk)) cs) w₁ = .go (G (b.at (a.put o.dst v) (.inRegion ops rest :: kk)) cs) w' es) ∧
      c.Tr u σ u' σ' ∧ c.Rep σ' w' ∧ OnlySB c w₁ w' ∧ (∀ e ∈ es, EvV c k e) ∧ ∀ N1, N = N1 + 1 → ∃ n2, OpsV P c k C fn ops rest n2 N1 u' Q (a.put o.dst v) w') : OpsV P c k C fn ops (i :: rest) 0 N u Q a w := by
  intro b kk cs m hb hk hc
  refine Goes.stop fun w₁ h₁ => .inr ⟨hnf, rfl, fun σ hr hp => ?_⟩
  obtain ⟨v, w', es, u', σ', hst, htr, hrep, hsb, hev, hnext⟩ := h w₁ h₁ σ hr hp
  refine ⟨_, w', es, u', σ', hst b kk cs hb hk, htr, hrep, hsb, hev, ?_⟩
  cases hN : N with
  | zero => trivial
  | succ N1 =>
    obtain ⟨n2, h2⟩ := hnext N1 hN
    exact ⟨m + n2, h2 b kk cs m hb hk hc⟩
theorem opsV_call_silent {ops : Array Oper} {i : Nat} {rest : List Nat} {o : Oper} {f : FuncId} {args : Array Operand} {ats : Array TypeId} {nf n : Nat} {Post : Value → World → Prop}
    (ho : ops[i]? = some o) (hw : Region.wanted o (yielded ops a.tmps) = true) (hop : o.op = .call { callee := .value (.func f), args, argTypes := ats })
    (hcall : CallsC P false (RW c C) (DW c C) f (args.map a.eval) nf w Post) (hnext : ∀ v w', Post v w' → OpsV P c k C fn ops rest n N u Q (a.put o.dst v) w') : OpsV P c k C fn ops (i :: rest) (n + nf + 3) N u Q a w := by
  intro b kk cs m hb hk hc
  have := Goes.call (Stop := StopU P c k C (RunU P c k C N) u) (m := m + n) (b := b) (k := kk) (cs := cs) (termsW c C) ho hw hk hop hcall fun v w' hp => hnext v w' hp b kk cs m hb hk hc
  exact GV.mono this (by omega)
theorem opsV_call {ops : Array Oper} {i : Nat} {rest : List Nat} {o : Oper} {f : FuncId} {args : Array Operand} {ats : Array TypeId} {nf n : Nat} {Post : Nat → c.U → Value → World → Prop}
    (ho : ops[i]? = some o) (hw : Region.wanted o (yielded ops a.tmps) = true) (hop : o.op = .call { callee := .value (.func f), args, argTypes := ats })
    (hcall : CallsV P c k C f (args.map a.eval) nf N u w Post) (hnext : ∀ N' u' v w', Post N' u' v w' → OpsV P c k C fn ops rest n N' u' Q (a.put o.dst v) w') : OpsV P c k C fn ops (i :: rest) (n + nf + 3) N u Q a w := by
  intro b kk cs m hb hk hc
  obtain ⟨fnn, cd, hf, hname, hbody, hwp⟩ := hcall
  have hfin : ∀ v, (b.at a (.inRegion ops (i :: rest) :: kk)).finish v = b.at (a.put o.dst v) (.inRegion ops rest :: kk) := fun v => by rw [Frame.finish_at, ho]; rfl
  have hleave : ∀ (N' : Nat) (u' : c.U) (a' : Act) (w' : World) (todo : List Item), (a'.defers = [] ∧ ∃ v, ResultsC P fnn a'.tmps v ∧ Post N' u' v w') →
      GV P c k C N' u' (m + n + 1) (G { (base f).at a' todo with mode := .returning } (b.at a (.inRegion ops (i :: rest) :: kk) :: cs)) w' := by
    rintro N' u' a' w' todo ⟨hd, v, hr, hp⟩
    refine Goes.step rfl fun w₁ h₁ => ?_
    rw [stepG_leave (b := base f) rfl hd hf (hr w₁).1 (hr w₁).2, hfin]
    exact ⟨(termsW c C).idle _, (hnext N' u' v w' hp b kk cs m hb hk hc).rely h₁⟩
  have hbodyG : GV P c k C N u (m + n + 2 + nf) (G ((base f).at { tmps := args.map a.eval ++ Array.replicate (fnn.ntmps - (args.map a.eval).size) undef, defers := [] } [.code cd]) (b.at a (.inRegion ops (i :: rest) :: kk) :: cs)) w := by
    refine hwp (base f) [] _ (m + n + 2) rfl (by simp [base]) fun N' u' e a' w' q => ?_
    cases e with
    | normal => exact Goes.step rfl fun w₁ h₁ => by rw [stepG_end]; exact ⟨(termsW c C).idle _, (hleave N' u' a' w' [] q).rely h₁⟩
    | ret => exact fun todo => (hleave N' u' a' w' todo q).more
    | exit id => exact q.elim
    | goto l => exact q.elim
    | panic ch => exact q.elim
    | outgrown => exact q.elim
  have e : m + (n + nf + 3) = (m + n + 2 + nf) + 1 := by omega
  rw [e]
  exact Goes.step rfl fun w₁ h₁ => goes_call ho hw hk hop hf hname hbody ⟨(termsW c C).idle _, hbodyG.rely h₁⟩
/-- a region that draws its order, ahead of a piece with acts: number i first -/
theorem anyV_take {md : Region.Mode} {ops : Array Oper} {S : World → Prop} {y : Code} {n : Nat} (hSR : ∀ x z, S x → RW c C x z → S z) {i : Nat} {oi : Oper} {v : Value} {fuel : Nat} {listed : Array Bool} (hi : ops[i]? = some oi)
    (hs : Region.noSelect ops = true) (hf : Region.free md ops listed i = true) (hr : (Region.ready md ops listed).contains i = true) (hy : YieldsIfC P (DW c C) fn ops S oi v a) (hS : S w)
    (h : AnyCH P (RW c C) (DW c C) fn md ops (fun e a w => ThenV c (fun N' u' a' w' => CodeV P c k C fn y n N' u' Q a' w') Q N u e a w) S fuel (listed.setIfInBounds i true) (a.put oi.dst v) w) :
    AnyCH P (RW c C) (DW c C) fn md ops (fun e a w => ThenV c (fun N' u' a' w' => CodeV P c k C fn y n N' u' Q a' w') Q N u e a w) S (fuel + 1) listed a w :=
  anyCH_take (termsW c C) hSR (fun _ _ _ h r => codeV_rely (show CodeV P c k C fn y n N u Q _ _ from h) r) hi hs hf hr hy hS h
end
end Go.Proofs.Ytkcknoodcgmndaa

end
section
/- What a sweep's worker does to a word of marks: Load, CompareAndSwap; to a count: Add. -/
namespace Go.Proofs.Ytkcknoodcgmndaa
open Go.Conc Go.RowKit
open Go.ConcR (WgAt stA)
set_option linter.unusedVariables false
set_option linter.unusedSimpArgs false
set_option maxRecDepth 100000
set_option maxHeartbeats 4000000



theorem OnlySB.refl (c : Cfg) (w : World) : OnlySB c w w := ⟨.refl w, rfl, fun _ _ => rfl⟩
theorem SwRep.word {s : SwP} {σ : SS} {w : World} (h : SwRep s σ w) (hh : s.has = true) {q : Nat} (hq : q < σ.ws.length) : w.cell? ⟨s.Wb, q, none⟩ = some (.int .u64 ((σ.ws.getD q 0 : Nat) : Int)) := by
  simp [World.cell?, h.m hh, List.getElem?_eq_getElem hq]
theorem SwRep.thawM {s : SwP} {σ : SS} {w : World} (h : SwRep s σ w) (hh : s.has = true) (q : Nat) : w.frozen? ⟨s.Wb, q, none⟩ = false := by
  simp [World.frozen?, h.m hh]
theorem evV_cell {s : SwP} {k : Nat} {a : Addr} (wr : Bool) (ha : s.SB a.block) : EvV (swCfg s) k ⟨.cell a, wr, true⟩ := by
  refine ⟨fun x hx _ => ?_, by simp, by simp, by simp⟩
  simp only [ofEvent_cell0, MemAct.touch?, Option.some.injEq] at hx
  subst hx
  exact .inl ⟨⟨a, rfl, .inr (.inl ha)⟩, rfl⟩
theorem SwRep.setW {s : SwP} {σ : SS} {w : World} (K : s.Ok) (h : SwRep s σ w) (hh : s.has = true) (q v : Nat) : SwRep s { σ with ws := σ.ws.set q v } (w.setCell ⟨s.Wb, q, none⟩ (.int .u64 (v : Int))) := by
  refine ⟨((aside_setCell w ⟨s.Wb, q, none⟩ _).block s.Bb (fun e => K.mb hh e.symm)).trans h.b, fun _ => ?_⟩
  rw [setCell_eq_setRow w s.Wb q _ _ (0, 0) _ (h.m hh), setRow_heap w s.Wb _ _ _ _ (h.m hh)]
  simp [List.map_set]
theorem SwRep.setB {s : SwP} {σ : SS} {w : World} (K : s.Ok) (h : SwRep s σ w) (b : Bool) : SwRep s (if b then { σ with won := σ.won + 1 } else { σ with lost := σ.lost + 1 }) (w.setCell ⟨s.Bb, if b then 0 else 1, none⟩ (.int .i64 (((if b then σ.won else σ.lost) + 1 : Nat) : Int))) := by
  refine ⟨?_, fun hh => ?_⟩
  · rw [setCell_eq_setRow w s.Bb _ _ _ (0, 0) _ h.b, setRow_heap w s.Bb _ _ _ _ h.b]
    cases b <;> simp [boardC]
  · refine ((aside_setCell w ⟨s.Bb, _, none⟩ _).block s.Wb (K.mb hh)).trans ?_
    cases b <;> exact h.m hh
theorem SwRep.count {s : SwP} {σ : SS} {w : World} (h : SwRep s σ w) (b : Bool) : w.cell? ⟨s.Bb, if b then 0 else 1, none⟩ = some (.int .i64 ((if b then σ.won else σ.lost : Nat) : Int)) := by
  cases b <;> simp [World.cell?, h.b, boardC]
theorem SwRep.thawB {s : SwP} {σ : SS} {w : World} (h : SwRep s σ w) (q : Nat) : w.frozen? ⟨s.Bb, q, none⟩ = false := by
  simp [World.frozen?, h.b]
theorem onlySB_set {s : SwP} (w : World) (a : Addr) (v : Value) (ha : s.SB a.block) : OnlySB (swCfg s) w (w.setCell a v) :=
  ⟨⟨(aside_setCell w a v).tape, (aside_setCell w a v).os, (aside_setCell w a v).output⟩, (aside_setCell w a v).size, fun b hb => (aside_setCell w a v).block b (fun e => hb (e ▸ ha))⟩
theorem load42_V {s : SwP} {k C N : Nat} {x : Int} {r : List Int} {F : World → Prop} (hFR : ∀ w w₁, RW (swCfg s) C w w₁ → F w → F w₁) (hFS : ∀ w w₁, OnlySB (swCfg s) w w₁ → F w → F w₁)
    (K : s.Ok) (hh : s.has = true) (w : World) (hF : F w) :
    CallsV Try.prog (swCfg s) k C 42 #[.pointer (some ⟨s.Wb, x.toNat / 64, none⟩)] 100 N (⟨x :: r, .idle⟩ : SU) w
      (fun N' u' v w' => N' < N ∧ F w' ∧ ∃ g : Nat, v = .int .u64 g ∧ g < 2 ^ 64 ∧ ((g.testBit (x.toNat % 64) = true ∧ u' = ⟨x :: r, .done false⟩) ∨ (g.testBit (x.toNat % 64) = false ∧ u' = ⟨x :: r, .got g⟩))) := by
  have rl9 : ∀ {w w₁ : World}, F w → RW (swCfg s) C w w₁ → F w₁ := fun h r => hFR _ _ r h
  refine ⟨_, _, Try.func42, by kernel_rfl, rfl, ?_⟩
  co_apply codeV_more
  · simp only [Try.ntmps42]
    walk_nrm
    co_apply codeV_seq
    (co_apply codeV_region; simp only [List.size_toArray, List.length_cons, List.length_nil, Nat.reduceAdd, Nat.zero_add, List.range, List.range.loop])
    (co_apply opsV_cons_k rfl (by rfl); intro _ hR K hK; replace hF := rl9 hF hR; clear hR; go_simp; refine hK _ _ ⟨?_, ?_⟩; (· rw [listed_nil (by simp [go_sem])]; exact DW.refl _ _ _); clear hK K; try walk_nrm)
    co_apply opsV_nil
    simp only [ThenV]
    co_apply codeV_seq
    (co_apply codeV_region; simp only [List.size_toArray, List.length_cons, List.length_nil, Nat.reduceAdd, Nat.zero_add, List.range, List.range.loop])
    (co_apply opsV_cons_k rfl (by rfl); intro _ hR K hK; replace hF := rl9 hF hR; clear hR; go_simp; refine hK _ _ ⟨?_, ?_⟩; (· rw [listed_nil (by simp [go_sem])]; exact DW.refl _ _ _); clear hK K; try walk_nrm)
    (co_apply opsV_cons_k rfl (by rfl); intro _ hR K hK; replace hF := rl9 hF hR; clear hR; go_simp; refine hK _ _ ⟨?_, ?_⟩; (· rw [listed_nil (by simp [go_sem])]; exact DW.refl _ _ _); clear hK K; try walk_nrm)
    (co_apply opsV_cons_k rfl (by rfl); intro _ hR K hK; replace hF := rl9 hF hR; clear hR; go_simp; refine hK _ _ ⟨?_, ?_⟩; (· rw [listed_nil (by simp [go_sem])]; exact DW.refl _ _ _); clear hK K; try walk_nrm)
    co_apply opsV_vis rfl
    · simp [swCfg]
    intro w₁ h₁ σ hr hp
    replace hF := rl9 hF h₁
    clear h₁
    obtain ⟨hp1, hp2, hp3, hp4⟩ := hp
    have hv : 0 ≤ x ∧ x < (s.nn : Int) := hp4
    have hq : x.toNat / 64 < σ.ws.length := by have := K.room; omega
    refine ⟨.int .u64 ((σ.ws.getD (x.toNat / 64) 0 : Nat) : Int), w₁, _, (nxt s.nn ⟨x :: r, .idle⟩ σ).1, (nxt s.nn ⟨x :: r, .idle⟩ σ).2, fun b kk cs hb hk => stepG_load_atomic rfl rfl hk rfl wgLib.f_loadU64 (Go.ConcR.Gen.x_loadU64_n lnk) (Go.ConcR.Gen.x_loadU64_b lnk) (Go.ConcR.Gen.x_loadU64_x lnk) .u64 (Go.ConcR.Gen.x_loadU64_f lnk) rfl (SwRep.word hr hh hq), rfl, ?_, OnlySB.refl _ _, ?_, ?_⟩
    · have : (nxt s.nn ⟨x :: r, .idle⟩ σ).2 = σ := by simp only [nxt]; split <;> rfl
      rw [this]; exact hr
    · intro e he
      simp at he
      subst he
      exact evV_cell _ (.inr ⟨hh, rfl⟩)
    · rintro N1 rfl
      have hlt : σ.ws.getD (x.toNat / 64) 0 < 2 ^ 64 := by
        rw [List.getD_eq_getElem?_getD, List.getElem?_eq_getElem hq, Option.getD_some]
        exact hp3 _ (List.getElem_mem hq)
      have hor : ((σ.ws.getD (x.toNat / 64) 0).testBit (x.toNat % 64) = true ∧ (nxt s.nn ⟨x :: r, .idle⟩ σ).1 = ⟨x :: r, .done false⟩) ∨ ((σ.ws.getD (x.toNat / 64) 0).testBit (x.toNat % 64) = false ∧ (nxt s.nn ⟨x :: r, .idle⟩ σ).1 = ⟨x :: r, .got (σ.ws.getD (x.toNat / 64) 0)⟩) := by
        simp only [nxt]
        split
        · rename_i h; exact .inl ⟨h, rfl⟩
        · rename_i h; exact .inr ⟨by simpa [bitW] using h, rfl⟩
      generalize (nxt s.nn ⟨x :: r, .idle⟩ σ).1 = u' at hor ⊢
      generalize σ.ws.getD (x.toNat / 64) 0 = g at hlt hor ⊢
      clear hr hp1 hp2 hp3 hp4 hq
      co_apply Exists.intro
      walk_nrm
      (co_apply opsV_cons_k rfl (by rfl); intro _ hR K hK; replace hF := rl9 hF hR; clear hR; go_simp; refine hK _ _ ⟨?_, ?_⟩; (· rw [listed_nil (by simp [go_sem])]; exact DW.refl _ _ _); clear hK K; try walk_nrm)
      co_apply opsV_nil
      simp only [ThenV]
      refine codeV_of (wpC_ret (termsW _ _) ?_)
      exact ⟨rfl, _, resultsC_tmp rfl _, Nat.lt_succ_self _, hF, g, rfl, hlt, hor⟩
  · decide

theorem cas43_V {s : SwP} {k C N : Nat} {x : Int} {r : List Int} {g : Nat} {F : World → Prop} (hFR : ∀ w w₁, RW (swCfg s) C w w₁ → F w → F w₁) (hFS : ∀ w w₁, OnlySB (swCfg s) w w₁ → F w → F w₁)
    (K : s.Ok) (hh : s.has = true) (w : World) (hF : F w) :
    CallsV Try.prog (swCfg s) k C 43 #[.pointer (some ⟨s.Wb, x.toNat / 64, none⟩), .int .u64 (g : Int), .int .u64 ((g ^^^ 2 ^ (x.toNat % 64) : Nat) : Int)] 100 N (⟨x :: r, .got g⟩ : SU) w
      (fun N' u' v w' => N' < N ∧ F w' ∧ ((v = .bool true ∧ u' = ⟨x :: r, .done true⟩) ∨ (v = .bool false ∧ u' = ⟨x :: r, .idle⟩))) := by
  have rl9 : ∀ {w w₁ : World}, F w → RW (swCfg s) C w w₁ → F w₁ := fun h r => hFR _ _ r h
  refine ⟨_, _, Try.func43, by kernel_rfl, rfl, ?_⟩
  co_apply codeV_more
  · simp only [Try.ntmps43]
    walk_nrm
    co_apply codeV_seq
    (co_apply codeV_region; simp only [List.size_toArray, List.length_cons, List.length_nil, Nat.reduceAdd, Nat.zero_add, List.range, List.range.loop])
    (co_apply opsV_cons_k rfl (by rfl); intro _ hR K hK; replace hF := rl9 hF hR; clear hR; go_simp; refine hK _ _ ⟨?_, ?_⟩; (· rw [listed_nil (by simp [go_sem])]; exact DW.refl _ _ _); clear hK K; try walk_nrm)
    co_apply opsV_nil
    simp only [ThenV]
    co_apply codeV_seq
    (co_apply codeV_region; simp only [List.size_toArray, List.length_cons, List.length_nil, Nat.reduceAdd, Nat.zero_add, List.range, List.range.loop])
    (co_apply opsV_cons_k rfl (by rfl); intro _ hR K hK; replace hF := rl9 hF hR; clear hR; go_simp; refine hK _ _ ⟨?_, ?_⟩; (· rw [listed_nil (by simp [go_sem])]; exact DW.refl _ _ _); clear hK K; try walk_nrm)
    (co_apply opsV_cons_k rfl (by rfl); intro _ hR K hK; replace hF := rl9 hF hR; clear hR; go_simp; refine hK _ _ ⟨?_, ?_⟩; (· rw [listed_nil (by simp [go_sem])]; exact DW.refl _ _ _); clear hK K; try walk_nrm)
    (co_apply opsV_cons_k rfl (by rfl); intro _ hR K hK; replace hF := rl9 hF hR; clear hR; go_simp; refine hK _ _ ⟨?_, ?_⟩; (· rw [listed_nil (by simp [go_sem])]; exact DW.refl _ _ _); clear hK K; try walk_nrm)
    (co_apply opsV_cons_k rfl (by rfl); intro _ hR K hK; replace hF := rl9 hF hR; clear hR; go_simp; refine hK _ _ ⟨?_, ?_⟩; (· rw [listed_nil (by simp [go_sem])]; exact DW.refl _ _ _); clear hK K; try walk_nrm)
    (co_apply opsV_cons_k rfl (by rfl); intro _ hR K hK; replace hF := rl9 hF hR; clear hR; go_simp; refine hK _ _ ⟨?_, ?_⟩; (· rw [listed_nil (by simp [go_sem])]; exact DW.refl _ _ _); clear hK K; try walk_nrm)
    co_apply opsV_vis rfl
    · simp [swCfg]
    intro w₁ h₁ σ hr hp
    replace hF := rl9 hF h₁
    clear h₁
    obtain ⟨hp1, hp2, hp3, hp4⟩ := hp
    have hv : 0 ≤ x ∧ x < (s.nn : Int) := hp4.1
    have hq : x.toNat / 64 < σ.ws.length := by have := K.room; omega
    clear hp1 hp2 hp3 hp4
    by_cases he : σ.ws.getD (x.toNat / 64) 0 = g
    · refine ⟨.bool true, w₁.setCell ⟨s.Wb, x.toNat / 64, none⟩ (.int .u64 ((g ^^^ 2 ^ (x.toNat % 64) : Nat) : Int)), _, ⟨x :: r, .done true⟩, { σ with ws := σ.ws.set (x.toNat / 64) (g ^^^ 2 ^ (x.toNat % 64)) }, fun b kk cs hb hk => stepG_cas_hit rfl rfl hk rfl wgLib.f_casU64 (Go.ConcR.Gen.x_casU64_n lnk) (Go.ConcR.Gen.x_casU64_b lnk) (Go.ConcR.Gen.x_casU64_x lnk) .u64 (Go.ConcR.Gen.x_casU64_f lnk) rfl rfl rfl (he ▸ SwRep.word hr hh hq) (SwRep.thawM hr hh _), ?_, SwRep.setW K hr hh _ _, onlySB_set _ _ _ (.inr ⟨hh, rfl⟩), ?_, ?_⟩
      · show nxt s.nn ⟨x :: r, .got g⟩ σ = _
        simp only [nxt, if_pos he]
      · intro e hee
        simp at hee
        rcases hee with rfl | rfl <;> exact evV_cell _ (.inr ⟨hh, rfl⟩)
      · rintro N1 rfl
        replace hF := hFS _ _ (onlySB_set w₁ ⟨s.Wb, x.toNat / 64, none⟩ (.int .u64 ((g ^^^ 2 ^ (x.toNat % 64) : Nat) : Int)) (.inr ⟨hh, rfl⟩)) hF
        clear hr hq he
        co_apply Exists.intro
        walk_nrm
        (co_apply opsV_cons_k rfl (by rfl); intro _ hR K hK; replace hF := rl9 hF hR; clear hR; go_simp; refine hK _ _ ⟨?_, ?_⟩; (· rw [listed_nil (by simp [go_sem])]; exact DW.refl _ _ _); clear hK K; try walk_nrm)
        co_apply opsV_nil
        simp only [ThenV]
        refine codeV_of (wpC_ret (termsW _ _) ?_)
        exact ⟨rfl, _, resultsC_tmp rfl _, Nat.lt_succ_self _, hF, .inl ⟨rfl, rfl⟩⟩
    · refine ⟨.bool false, w₁, _, ⟨x :: r, .idle⟩, σ, fun b kk cs hb hk => stepG_cas_miss rfl rfl hk rfl wgLib.f_casU64 (Go.ConcR.Gen.x_casU64_n lnk) (Go.ConcR.Gen.x_casU64_b lnk) (Go.ConcR.Gen.x_casU64_x lnk) .u64 (Go.ConcR.Gen.x_casU64_f lnk) rfl rfl rfl (SwRep.word hr hh hq) (SwRep.thawM hr hh _) (fun e => he (by exact_mod_cast e)), ?_, hr, OnlySB.refl _ _, ?_, ?_⟩
      · show nxt s.nn ⟨x :: r, .got g⟩ σ = _
        simp only [nxt, if_neg he]
      · intro e hee
        simp at hee
        subst hee
        exact evV_cell _ (.inr ⟨hh, rfl⟩)
      · rintro N1 rfl
        clear hr hq he
        co_apply Exists.intro
        walk_nrm
        (co_apply opsV_cons_k rfl (by rfl); intro _ hR K hK; replace hF := rl9 hF hR; clear hR; go_simp; refine hK _ _ ⟨?_, ?_⟩; (· rw [listed_nil (by simp [go_sem])]; exact DW.refl _ _ _); clear hK K; try walk_nrm)
        co_apply opsV_nil
        simp only [ThenV]
        refine codeV_of (wpC_ret (termsW _ _) ?_)
        exact ⟨rfl, _, resultsC_tmp rfl _, Nat.lt_succ_self _, hF, .inr ⟨rfl, rfl⟩⟩
  · decide
theorem add31_V {s : SwP} {k C N : Nat} {x : Int} {r : List Int} {b : Bool} {F : World → Prop} (hFR : ∀ w w₁, RW (swCfg s) C w w₁ → F w → F w₁) (hFS : ∀ w w₁, OnlySB (swCfg s) w w₁ → F w → F w₁)
    (K : s.Ok) (w : World) (hF : F w) :
    CallsV Try.prog (swCfg s) k C 31 #[.pointer (some ⟨s.Bb, if b then 0 else 1, none⟩), .int .i64 1] 100 N (⟨x :: r, .done b⟩ : SU) w
      (fun N' u' v w' => N' < N ∧ F w' ∧ u' = mkU s.nn r ∧ ∃ z, v = .int .i64 z) := by
  have rl9 : ∀ {w w₁ : World}, F w → RW (swCfg s) C w w₁ → F w₁ := fun h r => hFR _ _ r h
  refine ⟨_, _, Try.func31, by kernel_rfl, rfl, ?_⟩
  co_apply codeV_more
  · simp only [Try.ntmps31]
    walk_nrm
    co_apply codeV_seq
    (co_apply codeV_region; simp only [List.size_toArray, List.length_cons, List.length_nil, Nat.reduceAdd, Nat.zero_add, List.range, List.range.loop])
    (co_apply opsV_cons_k rfl (by rfl); intro _ hR K hK; replace hF := rl9 hF hR; clear hR; go_simp; refine hK _ _ ⟨?_, ?_⟩; (· rw [listed_nil (by simp [go_sem])]; exact DW.refl _ _ _); clear hK K; try walk_nrm)
    co_apply opsV_nil
    simp only [ThenV]
    co_apply codeV_seq
    (co_apply codeV_region; simp only [List.size_toArray, List.length_cons, List.length_nil, Nat.reduceAdd, Nat.zero_add, List.range, List.range.loop])
    (co_apply opsV_cons_k rfl (by rfl); intro _ hR K hK; replace hF := rl9 hF hR; clear hR; go_simp; refine hK _ _ ⟨?_, ?_⟩; (· rw [listed_nil (by simp [go_sem])]; exact DW.refl _ _ _); clear hK K; try walk_nrm)
    (co_apply opsV_cons_k rfl (by rfl); intro _ hR K hK; replace hF := rl9 hF hR; clear hR; go_simp; refine hK _ _ ⟨?_, ?_⟩; (· rw [listed_nil (by simp [go_sem])]; exact DW.refl _ _ _); clear hK K; try walk_nrm)
    (co_apply opsV_cons_k rfl (by rfl); intro _ hR K hK; replace hF := rl9 hF hR; clear hR; go_simp; refine hK _ _ ⟨?_, ?_⟩; (· rw [listed_nil (by simp [go_sem])]; exact DW.refl _ _ _); clear hK K; try walk_nrm)
    (co_apply opsV_cons_k rfl (by rfl); intro _ hR K hK; replace hF := rl9 hF hR; clear hR; go_simp; refine hK _ _ ⟨?_, ?_⟩; (· rw [listed_nil (by simp [go_sem])]; exact DW.refl _ _ _); clear hK K; try walk_nrm)
    co_apply opsV_vis rfl
    · simp [swCfg]
    intro w₁ h₁ σ hr hp
    replace hF := rl9 hF h₁
    clear h₁
    obtain ⟨hp1, hp2, hp3, hp4⟩ := hp
    have hwr : IntKind.i64.wrap (((if b then σ.won else σ.lost : Nat) : Int) + 1) = (((if b then σ.won else σ.lost) + 1 : Nat) : Int) := by
      rw [IntKind.wrap_i64]
      cases b <;> simp <;> omega
    clear hp1 hp2 hp3 hp4
    refine ⟨.int .i64 (((if b then σ.won else σ.lost) + 1 : Nat) : Int), w₁.setCell ⟨s.Bb, if b then 0 else 1, none⟩ (.int .i64 (((if b then σ.won else σ.lost) + 1 : Nat) : Int)), _, mkU s.nn r, if b then { σ with won := σ.won + 1 } else { σ with lost := σ.lost + 1 }, fun bf kk cs hb hk => (stepG_add_atomic rfl rfl hk rfl Try.func47 (by kernel_rfl) (by kernel_rfl) (by kernel_rfl) .i64 (by rfl) rfl rfl (SwRep.count hr b) (SwRep.thawB hr _)).trans (by rw [hwr]), rfl, SwRep.setB K hr b, onlySB_set _ _ _ (.inl rfl), ?_, ?_⟩
    · intro e hee
      simp at hee
      rcases hee with rfl | rfl <;> exact evV_cell _ (.inl rfl)
    · rintro N1 rfl
      replace hF := hFS _ _ (onlySB_set w₁ ⟨s.Bb, if b then 0 else 1, none⟩ (.int .i64 (((if b then σ.won else σ.lost) + 1 : Nat) : Int)) (.inl rfl)) hF
      clear hr hwr
      co_apply Exists.intro
      walk_nrm
      (co_apply opsV_cons_k rfl (by rfl); intro _ hR K hK; replace hF := rl9 hF hR; clear hR; go_simp; refine hK _ _ ⟨?_, ?_⟩; (· rw [listed_nil (by simp [go_sem])]; exact DW.refl _ _ _); clear hK K; try walk_nrm)
      co_apply opsV_nil
      simp only [ThenV]
      refine codeV_of (wpC_ret (termsW _ _) ?_)
      exact ⟨rfl, _, resultsC_tmp rfl _, Nat.lt_succ_self _, hF, rfl, _, rfl⟩
  · decide
end Go.Proofs.Ytkcknoodcgmndaa

end
section
/- What a sweep's worker knows; whether a number is one. -/
namespace Go.Proofs.Ytkcknoodcgmndaa
open Go.Conc Go.RowKit
open Go.ConcR (WgAt stA)
set_option linter.unusedVariables false
set_option linter.unusedSimpArgs false
set_option maxRecDepth 100000
set_option maxHeartbeats 4000000

/-- a block that a worker may read -/
def RdOk (s : SwP) (C g : Nat) : Prop := (g = C ∨ g < s.H0) ∧ g ≠ s.Wg ∧ ¬ s.SB g ∧ ¬ s.dead g
theorem RdOk.keep {s : SwP} {C g : Nat} {w w₁ : World} (h : RdOk s C g) (r : RW (swCfg s) C w w₁) {o : Obj} (e : w.heap[g]? = some o) : w₁.heap[g]? = some o :=
  (r.same g (Array.getElem?_eq_some_iff.1 e).1 h.2.2.1 h.2.1 (h.1.imp id .inr)).trans e
theorem RdOk.keepS {s : SwP} {C g : Nat} {w w₁ : World} (h : RdOk s C g) (r : OnlySB (swCfg s) w w₁) {o : Obj} (e : w.heap[g]? = some o) : w₁.heap[g]? = some o := (r.old g h.2.2.1).trans e
theorem evW_cell {s : SwP} {C : Nat} {w : World} {a : Addr} (h : RdOk s C a.block) : EvW (swCfg s) C w ⟨.cell a, false, false⟩ := by
  refine ⟨fun x hx _ => ?_, by simp, by simp, by simp⟩
  simp only [ofEvent_cell0, MemAct.touch?, Option.some.injEq] at hx
  subst hx
  refine ⟨a, rfl, rfl, by simp, ?_, fun _ h => h, h.1⟩
  rintro ⟨a', e, h'⟩
  injection e with e
  subst e
  rcases h' with h' | h' | h'
  · exact h.2.1 h'
  · exact h.2.2.1 h'
  · exact h.2.2.2 h'
theorem dw_read {c : Cfg} {C : Nat} {w : World} {es : Array Event} (h : ∀ e ∈ es, EvW c C w e) : DW c C w w es :=
  ⟨.refl w, Nat.le_refl _, fun _ _ => rfl, (DW.refl c C w).new, h⟩
theorem ev_neq_nil {P : Program} {t e : TypeId} (h : P.underlying t = some (.pointer e)) (p : Option Addr) (w : World) : Sem.events P (binOp .neq t (.pointer p) (.pointer none)) w #[] = #[] := by
  have key : Sem.events P (Op.equalIn (9999 + 1) t (.pointer p) (.pointer none)) w #[] = #[] := by
    unfold Op.equalIn
    cases p <;> simp [Sem.events_bind, run_underlying h, events_underlying, Sem.events_pure, Result.evThen]
  have key2 : ∃ b, Sem.run P (Op.equalIn (9999 + 1) t (.pointer p) (.pointer none)) w = .ok b w := by
    unfold Op.equalIn
    cases p <;> simp [Sem.run_bind, run_underlying h, Sem.run_pure]
  obtain ⟨b, hb⟩ := key2
  show Sem.events P (Op.equalIn (9999 + 1) t (.pointer p) (.pointer none) >>= fun b => pure (Value.bool (!b))) w #[] = #[]
  simp only [Sem.events_bind, hb, key, Sem.events_pure, Result.evThen_ok]
def mkV (s : SwP) (Mb : Nat) : Value := if s.has then .pointer (some ⟨Mb, 0, none⟩) else .pointer none





theorem one44_C {s : SwP} {C Mb cap : Nat} {x : Int} {F : World → Prop} (hFR : ∀ w w₁, RW (swCfg s) C w w₁ → F w → F w₁)
    (hM : ∀ w, F w → s.has = true → w.heap[Mb]? = some (.cells #[.int .i64 s.nn, .slice (some ⟨s.Wb, 0, none⟩) s.σ0.ws.length cap] 74)) (hMo : s.has = true → RdOk s C Mb) (w : World) (hF : F w) :
    CallsC Try.prog false (RW (swCfg s) C) (DW (swCfg s) C) 44 #[mkV s Mb, .int .i64 x] 100 w (fun v w' => F w' ∧ v = .bool (decide (s.has = true ∧ 0 ≤ x ∧ x < (s.nn : Int)))) := by
  have rl9 : ∀ {w w₁ : World}, F w → RW (swCfg s) C w w₁ → F w₁ := fun h r => hFR _ _ r h
  have T9 := termsW (swCfg s) C
  have ev9 := fun (p : Option Addr) (w : World) => ev_neq_nil (P := Try.prog) Try.underlying35 p w
  refine callsC_of_wpC Try.func44 (by kernel_rfl) rfl ?_
  unfold mkV
  by_cases hh : s.has = true
  · rw [if_pos hh]
    have hC0 : ∀ w, F w → w.cell? ⟨Mb, 0, none⟩ = some (.int .i64 s.nn) := fun w h => by simp [World.cell?, hM w h hh]
    by_cases h0 : 0 ≤ x
    · have e0 : decide (0 ≤ x) = true := decide_eq_true h0
      by_cases hn : x < (s.nn : Int)
      · have e1 : decide (x < (s.nn : Int)) = true := decide_eq_true hn
        rw [show decide (s.has = true ∧ 0 ≤ x ∧ x < (s.nn : Int)) = true from decide_eq_true ⟨hh, h0, hn⟩]
        co_apply wpC_more; (focus (simp only [Try.ntmps44]; walk_nrm; co_apply wpC_seq T9; (co_apply wpC_region T9; simp only [List.size_toArray, List.length_cons, List.length_nil, Nat.reduceAdd, Nat.zero_add, List.range, List.range.loop]); (co_apply opsC_cons_k rfl (by rfl); intro _ hR K hK; replace hF := rl9 hF hR; clear hR; go_simp; refine hK _ _ ⟨?_, ?_⟩; (· rw [listed_nil (by simp [go_sem, *])]; exact DW.refl _ _ _); clear hK K; try walk_nrm); co_apply opsC_nil T9; simp only [Exit.then]; co_apply wpC_seq T9; (co_apply wpC_region T9; simp only [List.size_toArray, List.length_cons, List.length_nil, Nat.reduceAdd, Nat.zero_add, List.range, List.range.loop]); (repeat (first | (co_apply opsC_cons_k rfl (by rfl); intro _ hR K hK; replace hF := rl9 hF hR; clear hR; go_simp; refine hK _ _ ⟨?_, ?_⟩; (· rw [listed_nil (by simp [go_sem, *])]; exact DW.refl _ _ _); clear hK K; try walk_nrm) | (co_apply opsC_unwanted T9 rfl (by rfl); try walk_nrm) | (co_apply opsC_cons_k rfl (by rfl); intro _ hR K hK; replace hF := rl9 hF hR; clear hR; have m0 := hC0 _ hF; go_simp; refine hK _ _ ⟨?_, ?_⟩; (· refine dw_read (fun e he => ?_); have hm := mem_listed he; simp [go_sem, *] at hm; subst hm; exact evW_cell (hMo hh)); clear hK K m0; try walk_nrm))); co_apply opsC_nil T9; simp only [Exit.then]; refine wpC_ret T9 ?_; exact ⟨rfl, _, resultsC_tmp rfl _, hF, rfl⟩)); decide
      · have e1 : decide (x < (s.nn : Int)) = false := decide_eq_false hn
        rw [show decide (s.has = true ∧ 0 ≤ x ∧ x < (s.nn : Int)) = false from decide_eq_false fun h => hn h.2.2]
        co_apply wpC_more; (focus (simp only [Try.ntmps44]; walk_nrm; co_apply wpC_seq T9; (co_apply wpC_region T9; simp only [List.size_toArray, List.length_cons, List.length_nil, Nat.reduceAdd, Nat.zero_add, List.range, List.range.loop]); (co_apply opsC_cons_k rfl (by rfl); intro _ hR K hK; replace hF := rl9 hF hR; clear hR; go_simp; refine hK _ _ ⟨?_, ?_⟩; (· rw [listed_nil (by simp [go_sem, *])]; exact DW.refl _ _ _); clear hK K; try walk_nrm); co_apply opsC_nil T9; simp only [Exit.then]; co_apply wpC_seq T9; (co_apply wpC_region T9; simp only [List.size_toArray, List.length_cons, List.length_nil, Nat.reduceAdd, Nat.zero_add, List.range, List.range.loop]); (repeat (first | (co_apply opsC_cons_k rfl (by rfl); intro _ hR K hK; replace hF := rl9 hF hR; clear hR; go_simp; refine hK _ _ ⟨?_, ?_⟩; (· rw [listed_nil (by simp [go_sem, *])]; exact DW.refl _ _ _); clear hK K; try walk_nrm) | (co_apply opsC_unwanted T9 rfl (by rfl); try walk_nrm) | (co_apply opsC_cons_k rfl (by rfl); intro _ hR K hK; replace hF := rl9 hF hR; clear hR; have m0 := hC0 _ hF; go_simp; refine hK _ _ ⟨?_, ?_⟩; (· refine dw_read (fun e he => ?_); have hm := mem_listed he; simp [go_sem, *] at hm; subst hm; exact evW_cell (hMo hh)); clear hK K m0; try walk_nrm))); co_apply opsC_nil T9; simp only [Exit.then]; refine wpC_ret T9 ?_; exact ⟨rfl, _, resultsC_tmp rfl _, hF, rfl⟩)); decide
    · have e0 : decide (0 ≤ x) = false := decide_eq_false h0
      rw [show decide (s.has = true ∧ 0 ≤ x ∧ x < (s.nn : Int)) = false from decide_eq_false fun h => h0 h.2.1]
      co_apply wpC_more; (focus (simp only [Try.ntmps44]; walk_nrm; co_apply wpC_seq T9; (co_apply wpC_region T9; simp only [List.size_toArray, List.length_cons, List.length_nil, Nat.reduceAdd, Nat.zero_add, List.range, List.range.loop]); (co_apply opsC_cons_k rfl (by rfl); intro _ hR K hK; replace hF := rl9 hF hR; clear hR; go_simp; refine hK _ _ ⟨?_, ?_⟩; (· rw [listed_nil (by simp [go_sem, *])]; exact DW.refl _ _ _); clear hK K; try walk_nrm); co_apply opsC_nil T9; simp only [Exit.then]; co_apply wpC_seq T9; (co_apply wpC_region T9; simp only [List.size_toArray, List.length_cons, List.length_nil, Nat.reduceAdd, Nat.zero_add, List.range, List.range.loop]); (repeat (first | (co_apply opsC_cons_k rfl (by rfl); intro _ hR K hK; replace hF := rl9 hF hR; clear hR; go_simp; refine hK _ _ ⟨?_, ?_⟩; (· rw [listed_nil (by simp [go_sem, *])]; exact DW.refl _ _ _); clear hK K; try walk_nrm) | (co_apply opsC_unwanted T9 rfl (by rfl); try walk_nrm) | (co_apply opsC_cons_k rfl (by rfl); intro _ hR K hK; replace hF := rl9 hF hR; clear hR; have m0 := hC0 _ hF; go_simp; refine hK _ _ ⟨?_, ?_⟩; (· refine dw_read (fun e he => ?_); have hm := mem_listed he; simp [go_sem, *] at hm; subst hm; exact evW_cell (hMo hh)); clear hK K m0; try walk_nrm))); co_apply opsC_nil T9; simp only [Exit.then]; refine wpC_ret T9 ?_; exact ⟨rfl, _, resultsC_tmp rfl _, hF, rfl⟩)); decide
  · rw [if_neg hh]
    have hC0 : True := trivial
    rw [show decide (s.has = true ∧ 0 ≤ x ∧ x < (s.nn : Int)) = false from decide_eq_false fun h => hh h.1]
    co_apply wpC_more; (focus (simp only [Try.ntmps44]; walk_nrm; co_apply wpC_seq T9; (co_apply wpC_region T9; simp only [List.size_toArray, List.length_cons, List.length_nil, Nat.reduceAdd, Nat.zero_add, List.range, List.range.loop]); (co_apply opsC_cons_k rfl (by rfl); intro _ hR K hK; replace hF := rl9 hF hR; clear hR; go_simp; refine hK _ _ ⟨?_, ?_⟩; (· rw [listed_nil (by simp [go_sem, *])]; exact DW.refl _ _ _); clear hK K; try walk_nrm); co_apply opsC_nil T9; simp only [Exit.then]; co_apply wpC_seq T9; (co_apply wpC_region T9; simp only [List.size_toArray, List.length_cons, List.length_nil, Nat.reduceAdd, Nat.zero_add, List.range, List.range.loop]); (repeat (first | (co_apply opsC_cons_k rfl (by rfl); intro _ hR K hK; replace hF := rl9 hF hR; clear hR; go_simp; refine hK _ _ ⟨?_, ?_⟩; (· rw [listed_nil (by simp [go_sem, *])]; exact DW.refl _ _ _); clear hK K; try walk_nrm) | (co_apply opsC_unwanted T9 rfl (by rfl); try walk_nrm) | (co_apply opsC_cons_k rfl (by rfl); intro _ hR K hK; replace hF := rl9 hF hR; clear hR; have m0 := hC0 _ hF; go_simp; refine hK _ _ ⟨?_, ?_⟩; (· refine dw_read (fun e he => ?_); have hm := mem_listed he; simp [go_sem, *] at hm; subst hm; exact evW_cell (hMo hh)); clear hK K m0; try walk_nrm))); co_apply opsC_nil T9; simp only [Exit.then]; refine wpC_ret T9 ?_; exact ⟨rfl, _, resultsC_tmp rfl _, hF, rfl⟩)); decide
end Go.Proofs.Ytkcknoodcgmndaa

end
