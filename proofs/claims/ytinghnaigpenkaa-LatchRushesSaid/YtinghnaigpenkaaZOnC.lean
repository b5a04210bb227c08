/- Seat 05: a worker's own operations that act: what serves every phase. -/
import Derived.Test.YtinghnaigpenkaaZOnB
import Derived.Test.YtinghnaigpenkaaZAnV
namespace Go.Proofs.Ytinghnaigpenkaa
open Go.Conc Go.RowKit Go.ConcR.Gen
open Go.ConcR (Payload rd wr mk WgAt)
set_option linter.unusedVariables false
set_option linter.unusedSimpArgs false
set_option linter.unusedSectionVars false
set_option maxRecDepth 100000
set_option maxHeartbeats 4000000
section
variable {c : Cfg} {k C N : Nat} {fn : FuncId} {u : c.U} {Q : Nat → c.U → Exit → Act → World → Prop} {a : Act} {w : World} {F : World → Prop}
/-- an operation that acts on what is its worker's, or shared -/
theorem opsV_visop {ops : Array Oper} {i : Nat} {rest : List Nat} {o : Oper} (ho : ops[i]? = some o) (hw : Region.wanted o (yielded ops a.tmps) = true) (hnf : ¬ c.fin u)
    (h : ∀ w₁, RW c C w w₁ → ∀ σ, c.Rep σ w₁ → c.Pre u σ → ¬ c.blk u σ ∧ ∃ v w' u' σ', ((execOp a.eval o).run Try.prog w₁ = .ok (.value v) w' ∨ ((execOp a.eval o).run Try.prog w₁ = .ok .skip w' ∧ v = undef)) ∧
      (∀ e ∈ (execOp a.eval o).events Try.prog w₁ #[], EvV c k u e ∧ e.loc ≠ .mark .disable ∧ e.loc ≠ .mark .enable) ∧ c.Tr u σ u' σ' ∧ c.Rep σ' w' ∧ OnlySB c w₁ w' ∧ c.dn u = c.dn u' ∧ (∀ es, PubV c k u σ u' σ' es) ∧
      (∀ l, c.own u' k l → c.own u k l ∨ c.sp l ∨ ∃ a : Addr, l = .cell a ∧ w₁.heap.size ≤ a.block) ∧ (∀ v, c.blk v σ → c.blk v σ') ∧ ∀ N1, N = N1 + 1 → ∃ n2, OpsV Try.prog c k C fn ops rest n2 N1 u' Q (a.put o.dst v) w') : OpsV Try.prog c k C fn ops (i :: rest) 0 N u Q a w :=
  opsV_vis ho hnf fun w₁ h₁ σ hr hp => by
    obtain ⟨hnb, v, w', u', σ', h1, h2, h3, h4, h5, h6, hpv, h7, h8, h9⟩ := h w₁ h₁ σ hr hp
    refine ⟨fun hb => absurd hb hnb, fun _ => ⟨v, w', listed Try.prog fn a o w₁, u', σ', fun b kk cs hb hk => ?_, ⟨h3, h4, h5, fun e he => (h2 e (mem_listed he)).1, ?_, hpv _, h7⟩, .inl h8, h9⟩⟩
    · rw [← hb]
      rcases h1 with h1 | ⟨h1, rfl⟩
      · exact stepG_value ho hw hk h1
      · exact stepG_none ho hw hk h1
    · rw [Go.ConcN.deafBehind_idle (fun e he => (h2 e (mem_listed he)).2)]
      exact h6
/-- one more block that stands -/
theorem Stays.keep (h : Stays c C F) {b : Nat} {cs : Array Value} {T : TypeId} (hT : T ≠ Payload.ety) (hF : T ≠ c.fty) (nS : ¬ c.SB b) (nW : b ≠ c.Wg) : Stays c C (fun w => F w ∧ w.heap[b]? = some (.cells cs T)) := by
  have ns : ∀ w : World, w.heap[b]? = some (.cells cs T) → ¬ Soft w b := fun w hb ⟨v, hv⟩ => by
    rw [hb] at hv
    injection hv with hv
    injection hv with _ hv
    exact hT hv
  have nf : ∀ w : World, w.heap[b]? = some (.cells cs T) → ¬ Flg c w b := fun w hb ⟨v, hv⟩ => by
    rw [hb] at hv
    injection hv with hv
    injection hv with _ hv
    exact hF hv
  exact ⟨fun w w₁ r x => ⟨h.rely w w₁ r x.1, (r.same b (Array.getElem?_eq_some_iff.1 x.2).1 nS nW (.inr (.inl (ns w x.2))) (.inl (nf w x.2))).trans x.2⟩,
    fun w w₁ r hr x => ⟨h.act w w₁ r hr x.1, (r.old b (Array.getElem?_eq_some_iff.1 x.2).1 nS (.inl (nf w x.2))).trans x.2⟩, fun w x => h.rep w x.1⟩
theorem ev_own {l : Addr} {wr : Bool} (ho : c.own u k (.cell l)) : EvV c k u ⟨.cell l, wr, false⟩ ∧ (⟨.cell l, wr, false⟩ : Event).loc ≠ .mark .disable ∧ (⟨.cell l, wr, false⟩ : Event).loc ≠ .mark .enable := by
  refine ⟨⟨fun y hy _ => ?_, by simp⟩, by simp, by simp⟩
  simp only [ofEvent_cell0, MemAct.touch?, Option.some.injEq] at hy
  subst hy
  exact .inr (.inl ⟨by simp, ho⟩)
theorem ev_prd {l : Addr} (ho : c.prd u (.cell l)) : EvV c k u ⟨.cell l, false, false⟩ ∧ (⟨.cell l, false, false⟩ : Event).loc ≠ .mark .disable ∧ (⟨.cell l, false, false⟩ : Event).loc ≠ .mark .enable := by
  refine ⟨⟨fun y hy _ => ?_, by simp⟩, by simp, by simp⟩
  simp only [ofEvent_cell0, MemAct.touch?, Option.some.injEq] at hy
  subst hy
  exact .inr (.inr ⟨by simp, rfl, ho⟩)
end
end Go.Proofs.Ytinghnaigpenkaa
