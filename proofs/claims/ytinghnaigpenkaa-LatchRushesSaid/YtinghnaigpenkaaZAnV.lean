/- A region that draws its order, walked by a worker, with calls and acts on what is shared. -/
import Derived.Test.YtinghnaigpenkaaZAlC
namespace Go.Proofs.Ytinghnaigpenkaa
open Go.Conc
open Go.ConcR (Payload)
set_option linter.unusedVariables false
set_option linter.unusedSimpArgs false
set_option linter.unusedSectionVars false
section
variable (P : Program) (c : Cfg) (k C : Nat) (fn : FuncId) (md : Region.Mode) (ops : Array Oper)
/-- operation i, B steps at most, whatever comes behind it -/
def OpV (B i : Nat) (K : Nat → c.U → Act → World → Prop) (N : Nat) (u : c.U) (a : Act) (w : World) : Prop :=
  ∀ (rest : List Nat) (n' : Nat) (Q' : Nat → c.U → Exit → Act → World → Prop), (∀ N' u' a' w', K N' u' a' w' → OpsV P c k C fn ops rest n' N' u' Q' a' w') → OpsV P c k C fn ops (i :: rest) (n' + B) N u Q' a w
def AnyV (B : Nat) (Q : Nat → c.U → Exit → Act → World → Prop) : Nat → Array Bool → Nat → c.U → Act → World → Prop
  | 0, listed, N, u, a, w => Q N u .normal a w
  | fuel + 1, listed, N, u, a, w =>
    (Region.ready md ops listed = [] → Q N u .normal a w) ∧
    ∀ i ∈ Region.ready md ops listed, OpV P c k C fn ops B i (fun N' u' a' w' => AnyV B Q fuel (listed.setIfInBounds i true) N' u' a' w') N u a w
end
section
variable {P : Program} {c : Cfg} {k C : Nat} {fn : FuncId} {md : Region.Mode} {ops : Array Oper} {B : Nat} {Q : Nat → c.U → Exit → Act → World → Prop} {N : Nat} {u : c.U} {a : Act} {w : World}
theorem opsV_more {todo : List Nat} {n n' : Nat} (h : OpsV P c k C fn ops todo n N u Q a w) (hn : n ≤ n') : OpsV P c k C fn ops todo n' N u Q a w := fun b kk cs m hb hk hc => (h b kk cs m hb hk hc).mono (by omega)
theorem anyV_sound : ∀ (fuel t : Nat) (listed : Array Bool) (N : Nat) (u : c.U) (a : Act) (w : World), AnyV P c k C fn md ops B Q fuel listed N u a w →
    OpsV P c k C fn ops (Region.linearise.go md ops fuel t listed []) (fuel * B + 1) N u Q a w := by
  intro fuel
  induction fuel with
  | zero => intro t listed N u a w h; simpa [Region.linearise.go] using opsV_nil h
  | succ fuel ih =>
    intro t listed N u a w h
    obtain ⟨h₀, h₁⟩ := h
    simp only [Region.linearise.go]
    change OpsV P c k C fn ops (match (Region.ready md ops listed)[t % (Region.ready md ops listed).length]? with
      | some i => Region.linearise.go md ops fuel (t / (Region.ready md ops listed).length) (listed.setIfInBounds i true) [i]
      | none => [].reverse) _ N u Q a w
    cases hi : (Region.ready md ops listed)[t % (Region.ready md ops listed).length]? with
    | none =>
      have hnil : Region.ready md ops listed = [] := by
        cases hr : Region.ready md ops listed with
        | nil => rfl
        | cons x xs =>
          rw [hr] at hi
          have hlt : t % (x :: xs).length < (x :: xs).length := Nat.mod_lt _ (by simp)
          simp at hi
          simp at hlt
          omega
      have := opsV_more (n' := (fuel + 1) * B + 1) (opsV_nil (P := P) (c := c) (k := k) (C := C) (fn := fn) (ops := ops) (h₀ hnil)) (by omega)
      simpa using this
    | some i =>
      simp only []
      rw [linearise_go_acc, List.reverse_singleton, List.singleton_append]
      have := h₁ i (List.mem_of_getElem? hi) (Region.linearise.go md ops fuel (t / (Region.ready md ops listed).length) (listed.setIfInBounds i true) []) (fuel * B + 1) Q fun N' u' a' w' x => ih _ _ N' u' a' w' x
      exact opsV_more this (by rw [Nat.succ_mul]; omega)
theorem codeV_region_any {id : Nat} (hm : P.follows .mixedOrders = true)
    (h : ∀ w₁, RW c C w w₁ → AnyV P c k C fn .any ops B Q ops.size (Array.replicate ops.size false) N u a { w₁ with drawn := w₁.drawn + 1 }) : CodeV P c k C fn (.region id ops true) (ops.size * B + 2) N u Q a w := by
  intro b kk cs m hb hk hc
  have e : m + (ops.size * B + 2) = (m + (ops.size * B + 1)) + 1 := by omega
  rw [e]
  refine Goes.step rfl fun w₁ h₁ => ?_
  rw [stepG_region_draw]
  refine ⟨drawW _ _ _, ?_⟩
  simp only [Region.schedule, hm, Bool.true_or, if_true]
  exact anyV_sound ops.size _ _ N u a _ (h w₁ h₁) b kk cs m hb hk hc
theorem anyV_all {rs : List Nat} {fuel : Nat} {listed : Array Bool} (hr : Region.ready md ops listed = rs) (hne : rs ≠ [])
    (h : ∀ i ∈ rs, OpV P c k C fn ops B i (fun N' u' a' w' => AnyV P c k C fn md ops B Q fuel (listed.setIfInBounds i true) N' u' a' w') N u a w) : AnyV P c k C fn md ops B Q (fuel + 1) listed N u a w :=
  ⟨fun h0 => absurd (hr ▸ h0) hne, hr ▸ h⟩
theorem anyV_done (h : Q N u .normal a w) {listed : Array Bool} : AnyV P c k C fn md ops B Q 0 listed N u a w := h
theorem opV_cons {i : Nat} {o : Oper} {M : Nat → c.U → Act → World → Prop} (hB : 1 ≤ B) (ho : ops[i]? = some o) (hw : Region.wanted o (yielded ops a.tmps) = true)
    (h : ∀ w₁, RW c C w w₁ → ∀ K : Act → World → Prop, (∀ a' w', DW c C w₁ w' (listed P fn a o w₁) ∧ M N u a' w' → K a' w') → uponK o a K ((execOp a.eval o).run P w₁)) : OpV P c k C fn ops B i M N u a w :=
  fun rest n' Q' hQ => opsV_more (opsV_cons_k (n := n') ho hw fun w₁ h₁ K hK => h w₁ h₁ K fun a' w' x => hK a' w' ⟨x.1, hQ _ _ _ _ x.2⟩) (by omega)
theorem opV_call {i : Nat} {o : Oper} {f : FuncId} {args : Array Operand} {ats : Array TypeId} {nf : Nat} {Post : Nat → c.U → Value → World → Prop} {M : Nat → c.U → Act → World → Prop} (hB : nf + 3 ≤ B)
    (ho : ops[i]? = some o) (hw : Region.wanted o (yielded ops a.tmps) = true) (hop : o.op = .call { callee := .value (.func f), args, argTypes := ats })
    (hcall : CallsV P c k C f (args.map a.eval) nf N u w Post) (hnext : ∀ N' u' v w', Post N' u' v w' → M N' u' (a.put o.dst v) w') : OpV P c k C fn ops B i M N u a w :=
  fun rest n' Q' hQ => opsV_more (opsV_call (n := n') ho hw hop hcall fun N' u' v w' p => hQ _ _ _ _ (hnext N' u' v w' p)) (by omega)
/-- an act on what is shared -/
theorem opV_vis {i : Nat} {o : Oper} {M : Nat → c.U → Act → World → Prop} (ho : ops[i]? = some o) (hnf : ¬ c.fin u)
    (h : ∀ w₁, RW c C w w₁ → ∀ σ, c.Rep σ w₁ → c.Pre u σ → ∀ rest : List Nat,
      (c.blk u σ → ∀ (b : Frame) (kk : List Item) (cs : List Frame), b.fn = fn → b.kind ≠ .early → stepG P false (G (b.at a (.inRegion ops (i :: rest) :: kk)) cs) w₁ = .go { G (b.at a (.inRegion ops (i :: rest) :: kk)) cs with status := .blocked } w₁ #[]) ∧
      (¬ c.blk u σ → ∃ v w' es u' σ',
      (∀ (b : Frame) (kk : List Item) (cs : List Frame), b.fn = fn → b.kind ≠ .early → stepG P false (G (b.at a (.inRegion ops (i :: rest) :: kk)) cs) w₁ = .go (G (b.at (a.put o.dst v) (.inRegion ops rest :: kk)) cs) w' es) ∧
      ActV P c k u σ w₁ u' σ' w' es ∧ ((∀ v, c.blk v σ → c.blk v σ') ∨ ∀ (b : Frame) (kk : List Item) (cs : List Frame), b.fn = fn → mayWake P (G (b.at a (.inRegion ops (i :: rest) :: kk)) cs) = true) ∧
      ∀ N1, N = N1 + 1 → M N1 u' (a.put o.dst v) w')) : OpV P c k C fn ops B i M N u a w :=
  fun rest n' Q' hQ => opsV_more (opsV_vis ho hnf fun w₁ h₁ σ hr hp => by
    obtain ⟨h1, h2⟩ := h w₁ h₁ σ hr hp rest
    refine ⟨h1, fun hb => ?_⟩
    obtain ⟨v, w', es, u', σ', h3, h4, h5, h6⟩ := h2 hb
    exact ⟨v, w', es, u', σ', h3, h4, h5, fun N1 hN => ⟨n', hQ _ _ _ _ (h6 N1 hN)⟩⟩) (by omega)
end
end Go.Proofs.Ytinghnaigpenkaa
