import Derived.Test.YtinghnaigpenkaaZRaA
import Derived.Test.YtinghnaigpenkaaZMxC
import Derived.Test.YtinghnaigpenkaaZAlE
import Derived.Test.YtinghnaigpenkaaZOnB
section
/- Seat 05: many set a latch at once: the phase's shape. -/
namespace Go.Proofs.Ytinghnaigpenkaa
open Go.Conc Go.RowKit
open Go.ConcN (sumTo upd sumTo_upd sumTo_upd_out upd_same upd_ne sumTo_congr le_sumTo)
open Go.ConcR (Payload WgAt)
set_option linter.unusedVariables false
set_option linter.unusedSimpArgs false
set_option maxRecDepth 100000
def b01 (b : Bool) : Int := if b then 1 else 0
def latO (σ : RS) : Obj := .cells #[.int .u32 (b01 σ.done), .int .i32 σ.mx.w.enc, .int .u32 (σ.mx.sm : Int), .int .u32 (b01 σ.set), .int .u64 σ.v] 64
def wonO (n : Nat) : Obj := .cells #[.int .i32 (n : Int)] 73
structure RaP where
  L : Nat
  Wn : Nat
  H : Nat
  n : Nat
  N0 : Nat
  vals : Nat → Int
  b0 : Bool
  v0 : Int
def raRep (p : RaP) (σ : RS) (w : World) : Prop :=
  w.heap[p.L]? = some (latO σ) ∧ w.heap[p.Wn]? = some (wonO σ.won) ∧ (∀ b v, σ.fl b = some v → p.H + 2 ≤ b ∧ w.heap[b]? = some (.cells #[.bool v] 4)) ∧ p.H + 2 ≤ w.heap.size
def raC (p : RaP) : Cfg where
  ty := 95
  Wg := p.H + 1
  n := p.n
  N0 := p.N0
  H0 := p.H + 2
  SB := fun b => b = p.L ∨ b = p.Wn
  sh := fun l => ∃ a, l = .cell a ∧ ((a.block = p.L ∧ a.off ≠ 4) ∨ a.block = p.Wn ∨ a.block = p.H + 1)
  sp := fun l => l = .cell ⟨p.L, 4, none⟩
  U := RU
  S := RS
  own := fun u _ l => (u.ph ≠ .a0 ∧ l = .cell ⟨u.fb, 0, none⟩) ∨ (u.own = true ∧ l = .cell ⟨p.L, 4, none⟩)
  vir := fun σ _ l => σ.cl = false ∧ l = .cell ⟨p.L, 4, none⟩
  blk := fun u σ => u.ph.lock = true ∧ u.mu = .q ∧ σ.mx.sm = 0
  dn := fun u => if u.ph.lock then u.mu.dn else 0
  fty := 4
  Rep := raRep p
  Pre := fun u σ => MPre u.mu σ.mx ∧ σ.mx.w.wn ≤ 70 ∧ σ.mx.sm ≤ 1 ∧ (u.ph ≠ .a0 → σ.fl u.fb = some (u.own && u.ph.past)) ∧ σ.won ≤ 1 ∧ RLf u σ
  Tr := RT
  fin := fun u => u.ph = .fin
  init := fun j => ⟨.a0, .pre, 0, false, p.vals j⟩
  JU := fun σ us j => RJ p.vals p.b0 p.v0 σ us j ∧ j ≤ p.n
  mu := fun σ us j => rmu p.n σ us j
structure RaP.Ok (p : RaP) : Prop where
  hn : p.n ≤ 60
  hN : 0 < p.N0
  hL : p.L < p.H
  hW : p.Wn < p.H
  ne : p.L ≠ p.Wn
theorem raC_ok {p : RaP} (h : p.Ok) : (raC p).Ok where
  hn := by have := h.hn; show p.n < 2147483648; omega
  hN := h.hN
  fty := by show (4 : TypeId) ≠ 3; decide
  rep_same := by
    rintro σ w w' ⟨h1, h2, h3, h4⟩ hs hb
    refine ⟨(hb _ (Array.getElem?_eq_some_iff.1 h1).1 (.inl (.inl rfl))).trans h1, (hb _ (Array.getElem?_eq_some_iff.1 h2).1 (.inl (.inr rfl))).trans h2, fun b v e => ?_, Nat.le_trans h4 hs⟩
    obtain ⟨h5, h6⟩ := h3 b v e
    exact ⟨h5, (hb b (Array.getElem?_eq_some_iff.1 h6).1 (.inr ⟨⟨_, h6⟩, h5⟩)).trans h6⟩
  sb_hard := by
    rintro σ w b ⟨h1, h2, _⟩ (rfl | rfl)
    · refine ⟨?_, ?_⟩ <;> (rintro ⟨v, hv⟩; rw [h1] at hv; simp [latO] at hv)
    · refine ⟨?_, ?_⟩
      · rintro ⟨v, hv⟩
        rw [h2] at hv
        simp only [wonO, Option.some.injEq, Obj.cells.injEq] at hv
        exact absurd hv.2 (fun e => absurd e.1 (by show ¬ (73 : TypeId) = 3; decide))
      · rintro ⟨v, hv⟩
        rw [h2] at hv
        simp only [wonO, Option.some.injEq, Obj.cells.injEq] at hv
        exact absurd hv.2 (fun e => absurd e.1 (by show ¬ (73 : TypeId) = 4; decide))
  sb_lt := by
    rintro σ w b ⟨h1, h2, _⟩ (rfl | rfl)
    · exact (Array.getElem?_eq_some_iff.1 h1).1
    · exact (Array.getElem?_eq_some_iff.1 h2).1
  sbWg := by rintro (e | e) <;> simp only [raC] at e <;> have := h.hL <;> have := h.hW <;> omega
  wgH0 := by show p.H + 1 < p.H + 2; omega
  shWg := fun a ha => ⟨a, rfl, .inr (.inr ha)⟩
  sh_lt := by
    rintro a ⟨a', e, h1⟩
    injection e with e
    subst e
    have := h.hL; have := h.hW
    show a.block < p.H + 2
    rcases h1 with h1 | h1 | h1 <;> omega
  sp_lt := by rintro l rfl; exact ⟨_, rfl, by have := h.hL; show p.L < p.H + 2; omega⟩
  sp_sh := by
    rintro l rfl ⟨a, e, h1⟩
    injection e with e
    subst e
    have := h.hL; have := h.ne
    rcases h1 with h1 | h1 | h1
    · exact h1.2 rfl
    · exact this h1
    · simp only at h1; omega
  vir_sp := fun σ j l hv => hv.2
  own_in := by
    rintro σ us j i w l hju ⟨_, _, hfl, _⟩ hi (⟨h1, rfl⟩ | ⟨_, rfl⟩)
    · obtain ⟨h2, h3⟩ := hfl _ _ (hju.1.fl i hi h1)
      exact .inr ⟨_, rfl, h2, _, h3⟩
    · exact .inl rfl
  own_one := by
    rintro σ us j i i' l hju hi hi' (⟨h1, rfl⟩ | ⟨h1, rfl⟩) (⟨h2, e⟩ | ⟨h2, e⟩)
    · injection e with e
      injection e with e
      exact hju.1.inj i i' hi hi' h1 h2 e
    · injection e with e
      injection e with e1 e2
      cases e2
    · injection e with e
      injection e with e1 e2
      cases e2
    · exact hju.1.one i i' hi hi' h1 h2
  own_vir := by
    rintro σ us j i l hju hi (⟨h1, rfl⟩ | ⟨h1, rfl⟩) ⟨h2, e⟩
    · injection e with e
      injection e with e1 e2
      cases e2
    · rw [hju.1.own i hi h1] at h2; cases h2
  spawn := by
    rintro σ us j hj ⟨h1, h2⟩
    exact ⟨⟨rj_spawn h1, hj⟩, rmu_spawn hj _, fun _ h => h⟩
  step := by
    rintro σ us j i u' σ' hi ⟨h1, h2⟩ hf hb hs
    refine ⟨⟨rj_step h1 hi hs, h2⟩, rmu_step h2 hi hs, ?_, ?_, ?_⟩
    · rintro l ⟨h3, rfl⟩
      refine ⟨?_, rfl⟩
      generalize us i = u at hs
      cases hs <;> first | exact h3 | cases h3
    · rintro l (⟨_, rfl⟩ | ⟨h3, rfl⟩) hsp
      · injection hsp with e
        injection e with e1 e2
        cases e2
      · generalize hu : us i = u at hs
        cases hs with
        | claim hp hm hd =>
          subst hu
          exact .inr ⟨claim_cl h1 hi hp hm hd, rfl⟩
        | _ => exact .inl (.inr ⟨h3, rfl⟩)
    · rintro l (⟨h3, rfl⟩ | ⟨h3, rfl⟩)
      · generalize us i = u at hs h3
        cases hs with
        | alloc hp _ => exact absurd hp h3
        | look1 hp => exact .inl ⟨by simp only; split <;> simp, rfl⟩
        | ld hp => exact .inl ⟨by simp only; split <;> simp, rfl⟩
        | mx hk hm => exact .inl ⟨h3, rfl⟩
        | _ => exact .inl ⟨by simp, rfl⟩
      · generalize us i = u at hs h3
        cases hs with
        | claim hp hm hd => exact .inr ⟨rfl, rfl⟩
        | _ => exact .inr ⟨h3, rfl⟩
  pre := by
    rintro σ us j i hi ⟨h1, h2⟩ hf
    obtain ⟨h3, h4⟩ := minv_small h1.mx
    have := h.hn
    refine ⟨mpre_of h1.mx hi, by omega, h3, h1.fl i hi, ?_, h1.lf i hi⟩
    by_cases hw : σ.won = 0
    · omega
    · have := (h1.w1 hw).1; omega
  live := by
    rintro σ us j ⟨h1, h2⟩ hx
    exact rj_live h1 hx
  fin_dn := by
    intro u hu
    have hu : u.ph = .fin := hu
    simp [raC, hu, RPh.lock]
  init_dn := fun j => rfl
/-- the mutex in it -/
def raX (p : RaP) : MxI (raC p) where
  B := p.L
  so := 1
  get := fun σ => RS.mx σ
  set := fun σ m => ({ (σ : RS) with mx := m } : RS)
  put := fun u m => ({ (u : RU) with mu := m } : RU)
  Lk := fun u => (RU.ph u).lock = true
theorem raX_ok {p : RaP} (h : p.Ok) : (raX p).Ok where
  pp := fun u a b => rfl
  nf := by
    intro u m hl hf
    have hf : (RU.ph u) = .fin := hf
    have hl : (RU.ph u).lock = true := hl
    rw [hf] at hl; cases hl
  dn := by
    intro u m hl
    have hl : (RU.ph u).lock = true := hl
    show (if (RU.ph u).lock then m.dn else 0) = m.dn
    rw [if_pos hl]
  tr := fun u σ m m' s' hl hs => RT.mx (u := { (u : RU) with mu := m }) hl hs
  pre := fun u σ m hl hp => ⟨hp.1, hp.2.1, hp.2.2.1⟩
  blk := fun u σ m hl => ⟨fun hb => hb.2, fun hb => ⟨hl, hb⟩⟩
  blkm := fun σ s' hs v hb => ⟨hb.1, hb.2.1, hs hb.2.2⟩
  own := fun u m m' k l ho => ho
  shst := ⟨_, rfl, .inl ⟨rfl, by show (1 : Nat) ≠ 4; decide⟩⟩
  shsm := ⟨_, rfl, .inl ⟨rfl, by show (2 : Nat) ≠ 4; decide⟩⟩
  rst := by
    rintro σ w ⟨h1, _⟩
    refine ⟨?_, ?_⟩ <;> simp [World.cell?, World.frozen?, MxI.st, raX, h1, latO]
  rsm := by
    rintro σ w ⟨h1, _⟩
    refine ⟨?_, ?_⟩ <;> simp [World.cell?, World.frozen?, MxI.sm, raX, h1, latO]
  sst := by
    rintro σ w m ⟨h1, h2, h3, h4⟩
    have hA := aside_setCell w (⟨p.L, 1, none⟩ : Addr) (.int .i32 m.enc)
    refine ⟨?_, (hA.block _ (Ne.symm h.ne)).trans h2, fun b v e => ⟨(h3 b v e).1, (hA.block _ ?_).trans (h3 b v e).2⟩, by rw [show (w.setCell (raX p).st (.int .i32 m.enc)).heap.size = w.heap.size from hA.size]; exact h4⟩
    · show (w.setCell ⟨p.L, 1, none⟩ (.int .i32 m.enc)).heap[p.L]? = _
      unfold latO at h1 ⊢
      rw [setCell_eq_setRow w p.L 1 _ _ (0, 0) _ h1, setRow_heap w p.L _ _ _ _ h1]
      simp [raX]
    · have := (h3 b v e).1; have := h.hL; show b ≠ p.L; omega
  ssm := by
    rintro σ w m ⟨h1, h2, h3, h4⟩
    have hA := aside_setCell w (⟨p.L, 2, none⟩ : Addr) (.int .u32 (m : Int))
    refine ⟨?_, (hA.block _ (Ne.symm h.ne)).trans h2, fun b v e => ⟨(h3 b v e).1, (hA.block _ ?_).trans (h3 b v e).2⟩, by rw [show (w.setCell (raX p).sm (.int .u32 (m : Int))).heap.size = w.heap.size from hA.size]; exact h4⟩
    · show (w.setCell ⟨p.L, 2, none⟩ (.int .u32 (m : Int))).heap[p.L]? = _
      unfold latO at h1 ⊢
      rw [setCell_eq_setRow w p.L 2 _ _ (0, 0) _ h1, setRow_heap w p.L _ _ _ _ h1]
      simp [raX]
    · have := (h3 b v e).1; have := h.hL; show b ≠ p.L; omega
  id := fun σ => rfl
  SB := .inl rfl
end Go.Proofs.Ytinghnaigpenkaa

end
section
/- Seat 05: many set a latch at once: a worker's acts; Set. -/
namespace Go.Proofs.Ytinghnaigpenkaa
open Go.Conc Go.RowKit Go.ConcR.Gen
open Go.ConcR (Payload rd wr mk WgAt)
set_option linter.unusedVariables false
set_option linter.unusedSimpArgs false
set_option linter.unusedSectionVars false
set_option maxRecDepth 100000
set_option maxHeartbeats 4000000



section
variable {c : Cfg} {k C N : Nat} {fn : FuncId} {u : c.U} {Q : Nat → c.U → Exit → Act → World → Prop} {a : Act} {w : World} {F : World → Prop}
/-- an operation that acts on what is its worker's, or shared -/
theorem opsV_visop {ops : Array Oper} {i : Nat} {rest : List Nat} {o : Oper} (ho : ops[i]? = some o) (hw : Region.wanted o (yielded ops a.tmps) = true) (hnf : ¬ c.fin u)
    (h : ∀ w₁, RW c C w w₁ → ∀ σ, c.Rep σ w₁ → c.Pre u σ → ¬ c.blk u σ ∧ ∃ v w' u' σ', ((execOp a.eval o).run Try.prog w₁ = .ok (.value v) w' ∨ ((execOp a.eval o).run Try.prog w₁ = .ok .skip w' ∧ v = undef)) ∧
      (∀ e ∈ (execOp a.eval o).events Try.prog w₁ #[], EvV c k u e ∧ e.loc ≠ .mark .disable ∧ e.loc ≠ .mark .enable) ∧ c.Tr u σ u' σ' ∧ c.Rep σ' w' ∧ OnlySB c w₁ w' ∧ c.dn u = c.dn u' ∧
      (∀ l, c.own u' k l → c.own u k l ∨ c.sp l ∨ ∃ a : Addr, l = .cell a ∧ w₁.heap.size ≤ a.block) ∧ (∀ v, c.blk v σ → c.blk v σ') ∧ ∀ N1, N = N1 + 1 → ∃ n2, OpsV Try.prog c k C fn ops rest n2 N1 u' Q (a.put o.dst v) w') : OpsV Try.prog c k C fn ops (i :: rest) 0 N u Q a w :=
  opsV_vis ho hnf fun w₁ h₁ σ hr hp => by
    obtain ⟨hnb, v, w', u', σ', h1, h2, h3, h4, h5, h6, h7, h8, h9⟩ := h w₁ h₁ σ hr hp
    refine ⟨fun hb => absurd hb hnb, fun _ => ⟨v, w', listed Try.prog fn a o w₁, u', σ', fun b kk cs hb hk => ?_, ⟨h3, h4, h5, fun e he => (h2 e (mem_listed he)).1, ?_, h7⟩, .inl h8, h9⟩⟩
    · rw [← hb]
      rcases h1 with h1 | ⟨h1, rfl⟩
      · exact stepG_value ho hw hk h1
      · exact stepG_none ho hw hk h1
    · rw [Go.ConcN.deafBehind_idle (fun e he => (h2 e (mem_listed he)).2)]
      exact h6
/-- one more block that stands -/
theorem Stays.keep (h : Stays c C F) {b : Nat} {cs : Array Value} {T : TypeId} (hT : T ≠ Payload.ety) (hF : T ≠ c.fty) (nS : ¬ c.SB b) (nW : b ≠ c.Wg) : Stays c C (fun w => F w ∧ w.heap[b]? = some (.cells cs T)) := by
  have ns : ∀ w : World, w.heap[b]? = some (.cells cs T) → ¬ Soft w b := fun w hb ⟨v, hv⟩ => by
    rw [hb] at hv
    injection hv with hv
    injection hv with _ hv
    exact hT hv
  have nf : ∀ w : World, w.heap[b]? = some (.cells cs T) → ¬ Flg c w b := fun w hb ⟨v, hv⟩ => by
    rw [hb] at hv
    injection hv with hv
    injection hv with _ hv
    exact hF hv
  exact ⟨fun w w₁ r x => ⟨h.rely w w₁ r x.1, (r.same b (Array.getElem?_eq_some_iff.1 x.2).1 nS nW (.inr (.inl (ns w x.2))) (.inl (nf w x.2))).trans x.2⟩,
    fun w w₁ r hr x => ⟨h.act w w₁ r hr x.1, (r.old b (Array.getElem?_eq_some_iff.1 x.2).1 nS (.inl (nf w x.2))).trans x.2⟩, fun w x => h.rep w x.1⟩
theorem dw_alloc {cs : Array Value} {T : TypeId} (hT : T ≠ Payload.ety) : DW c C w (w.alloc (.cells cs T)) #[] := by
  refine ⟨⟨rfl, .refl _, rfl⟩, by simp, fun b hb => Below.heap_alloc _ _ _ hb, fun b hb hs => ?_, by simp⟩
  have hlt := hs.lt
  obtain ⟨v, hv⟩ := hs
  have e : b = w.heap.size := by simp at hlt; omega
  subst e
  rw [alloc_new] at hv
  injection hv with hv
  injection hv with _ hv
  exact hT hv
end
section
variable {p : RaP} {wb : World} {fv : Value} {j C k N : Nat} {w : World} {fb : Nat} {x : Int}
def FRa (p : RaP) (wb : World) (fv : Value) (j C : Nat) (w : World) : Prop := WK (raC p) wb p.H fv j C w ∧ ∃ σ, raRep p σ w
theorem alo_ra (h : p.Ok) : AlO (raC p) p.H where
  K := raC_ok h
  ty := rfl
  wg := rfl
  h0 := rfl
  lo := by rintro b (rfl | rfl); exact h.hL; exact h.hW
  pl := by
    intro a ha
    have := h.hL; have := h.hW
    refine ⟨?_, ?_⟩
    · rintro ⟨a', e, h1⟩
      injection e with e
      subst e
      rcases h1 with h1 | h1 | h1 <;> omega
    · intro e
      have e : (Loc.cell a) = .cell ⟨p.L, 4, none⟩ := e
      injection e with e
      subst e
      simp only at ha
      omega
theorem stays_ra (h : p.Ok) (hC : p.H + 2 ≤ C) : Stays (raC p) C (FRa p wb fv j C) :=
  ⟨fun w w₁ r hF => ⟨hF.1.rely (alo_ra h) hC r, r.rep hF.2⟩, fun w w₁ o hr hF => ⟨hF.1.only (alo_ra h) hC o hr, hr⟩, fun w hF => hF.2⟩
/-- the flag 'done', first -/
theorem look1_V {F : World → Prop} (h : p.Ok) (hS : Stays (raC p) C F) (hF : F w) :
    CallsV Try.prog (raC p) k C 26 #[.pointer (some ⟨p.L, 0, none⟩)] 60 N (⟨.d0, .pre, fb, false, x⟩ : RU) w
      (fun N' u' v w' => N' ≤ N ∧ F w' ∧ ∃ b, v = .bool b ∧ ((b = true ∧ u' = (⟨.e0, .pre, fb, false, x⟩ : RU)) ∨ (b = false ∧ u' = (raX p).put (⟨.lk, .pre, fb, false, x⟩ : RU) .pre))) := by
  refine callsV_mono (bload_V (k := k) (N := N) hS p.L 0 (by show ¬ RPh.d0 = RPh.fin; simp) (fun b u' => (b = true ∧ u' = (⟨.e0, .pre, fb, false, x⟩ : RU)) ∨ (b = false ∧ u' = (raX p).put (⟨.lk, .pre, fb, false, x⟩ : RU) .pre)) (fun w₁ σ hF hr hp => ?_) hF) (fun N' u' v w' ⟨h1, h2, b, h3, h4⟩ => ⟨by omega, h2, b, h3, h4⟩)
  obtain ⟨hL, hr2⟩ := hr
  refine ⟨fun hb => (by cases hb.1), b01 (RS.done σ), (⟨if RS.done σ then .e0 else .lk, .pre, fb, false, x⟩ : RU), σ, by simp [World.cell?, hL, latO], ⟨RT.look1 (u := (⟨.d0, .pre, fb, false, x⟩ : RU)) rfl, ⟨hL, hr2⟩, OnlySB.refl _ _, ?_, ?_, ?_⟩, fun _ hb => hb, ?_⟩
  · intro e he
    simp at he
    subst he
    exact evV_at _ ⟨_, rfl, .inl ⟨rfl, by show (0 : Nat) ≠ 4; decide⟩⟩
  · cases RS.done σ <;> rfl
  · rintro l (⟨h1, rfl⟩ | ⟨h1, rfl⟩)
    · exact .inl (.inl ⟨by show RPh.d0 ≠ RPh.a0; simp, rfl⟩)
    · cases h1
  · cases RS.done σ
    · exact .inr ⟨rfl, rfl⟩
    · exact .inl ⟨rfl, rfl⟩
/-- .. and with the lock held -/
theorem look2_V {F : World → Prop} (h : p.Ok) (hS : Stays (raC p) C F) (hF : F w) :
    CallsV Try.prog (raC p) k C 26 #[.pointer (some ⟨p.L, 0, none⟩)] 60 N ((raX p).put (⟨.lk, .pre, fb, false, x⟩ : RU) .own) w
      (fun N' u' v w' => N' ≤ N ∧ F w' ∧ ∃ b, v = .bool b ∧ ((b = true ∧ ∃ u₁, (raX p).Lk u₁ ∧ u' = (raX p).put u₁ .own ∧ ∃ b, u₁ = (⟨.ul, .pre, fb, b, x⟩ : RU)) ∨ (b = false ∧ u' = (⟨.c1, .own, fb, true, x⟩ : RU)))) := by
  refine callsV_mono (bload_V (k := k) (N := N) hS p.L 0 (by show ¬ RPh.lk = RPh.fin; simp) (fun b u' => (b = true ∧ ∃ u₁, (raX p).Lk u₁ ∧ u' = (raX p).put u₁ .own ∧ ∃ b, u₁ = (⟨.ul, .pre, fb, b, x⟩ : RU)) ∨ (b = false ∧ u' = (⟨.c1, .own, fb, true, x⟩ : RU))) (fun w₁ σ hF hr hp => ?_) hF) (fun N' u' v w' ⟨h1, h2, b, h3, h4⟩ => ⟨by omega, h2, b, h3, h4⟩)
  obtain ⟨hL, hr2⟩ := hr
  have hev : ∀ e ∈ (#[⟨.cell ⟨p.L, 0, none⟩, false, true⟩] : Array Event), EvV (raC p) k ((raX p).put (⟨.lk, .pre, fb, false, x⟩ : RU) .own) e := by
    intro e he
    simp at he
    subst he
    exact evV_at _ ⟨_, rfl, .inl ⟨rfl, by show (0 : Nat) ≠ 4; decide⟩⟩
  have hc : w₁.cell? ⟨p.L, 0, none⟩ = some (.int .u32 (b01 (RS.done σ))) := by simp [World.cell?, hL, latO]
  refine ⟨fun hb => (by cases hb.2.1), b01 (RS.done σ), ?_⟩
  cases hd : RS.done σ with
  | true =>
    rw [hd] at hc
    refine ⟨(raX p).put (⟨.ul, .pre, fb, false, x⟩ : RU) .own, σ, hc, ⟨RT.look2 (u := (⟨.lk, .own, fb, false, x⟩ : RU)) rfl rfl hd, ⟨hL, hr2⟩, OnlySB.refl _ _, hev, rfl, ?_⟩, fun _ hb => hb, (.inl ⟨rfl, (⟨.ul, .pre, fb, false, x⟩ : RU), rfl, rfl, false, rfl⟩)⟩
    rintro l (⟨h1, rfl⟩ | ⟨h1, rfl⟩)
    · exact .inl (.inl ⟨by show RPh.lk ≠ RPh.a0; simp, rfl⟩)
    · cases h1
  | false =>
    rw [hd] at hc
    refine ⟨(⟨.c1, .own, fb, true, x⟩ : RU), ({ (σ : RS) with cl := true } : RS), hc, ⟨RT.claim (u := (⟨.lk, .own, fb, false, x⟩ : RU)) rfl rfl hd, ⟨hL, hr2⟩, OnlySB.refl _ _, hev, rfl, ?_⟩, fun _ hb => hb, .inr ⟨rfl, rfl⟩⟩
    rintro l (⟨h1, rfl⟩ | ⟨h1, rfl⟩)
    · exact .inl (.inl ⟨by show RPh.lk ≠ RPh.a0; simp, rfl⟩)
    · exact .inr (.inl rfl)
/-- 'done' is set -/
theorem sd_V {F : World → Prop} (h : p.Ok) (hS : Stays (raC p) C F) (hF : F w) :
    CallsV Try.prog (raC p) k C 25 #[.pointer (some ⟨p.L, 0, none⟩), .bool true] 1000 N (⟨.c4, .own, fb, true, x⟩ : RU) w
      (fun N' u' v w' => N' ≤ N ∧ F w' ∧ ∃ u₁, (raX p).Lk u₁ ∧ u' = (raX p).put u₁ .own ∧ ∃ b, u₁ = (⟨.ul, .pre, fb, b, x⟩ : RU)) := by
  refine callsV_mono (bstore_V (k := k) (N := N) (raC_ok h) hS p.L 0 (by show ¬ RPh.c4 = RPh.fin; simp) (fun u' => ∃ u₁, (raX p).Lk u₁ ∧ u' = (raX p).put u₁ .own ∧ ∃ b, u₁ = (⟨.ul, .pre, fb, b, x⟩ : RU)) (fun w₁ σ hF hr hp => ?_) hF) (fun N' u' v w' ⟨h1, h2, h3, h4⟩ => ⟨by omega, h2, h4⟩)
  have hr0 := hr
  obtain ⟨hL, hW, hfl, hsz⟩ := hr
  have hA := aside_setCell w₁ (⟨p.L, 0, none⟩ : Addr) (.int .u32 1)
  refine ⟨fun hb => (by cases hb.1), .int .u32 (b01 (RS.done σ)), (raX p).put (⟨.ul, .pre, fb, true, x⟩ : RU) .own, ({ (σ : RS) with done := true } : RS), by simp [World.cell?, hL, latO], by simp [World.frozen?, hL, latO],
    ⟨RT.sd (u := (⟨.c4, .own, fb, true, x⟩ : RU)) rfl, ⟨?_, (hA.block _ (Ne.symm h.ne)).trans hW, fun b v e => ⟨(hfl b v e).1, (hA.block _ ?_).trans (hfl b v e).2⟩, by rw [hA.size]; exact hsz⟩, onlySB_set (raC_ok h) hr0 _ _ (.inl rfl), ?_, rfl, ?_⟩, fun _ hb => hb, (⟨.ul, .pre, fb, true, x⟩ : RU), rfl, rfl, true, rfl⟩
  · unfold latO at hL ⊢
    rw [setCell_eq_setRow w₁ p.L 0 _ _ (0, 0) _ hL, setRow_heap w₁ p.L _ _ _ _ hL]
    simp [b01]
  · have := (hfl b v e).1; have := h.hL; show b ≠ p.L; omega
  · intro e he
    simp at he
    subst he
    exact evV_at _ ⟨_, rfl, .inl ⟨rfl, by show (0 : Nat) ≠ 4; decide⟩⟩
  · rintro l (⟨h1, rfl⟩ | ⟨h1, rfl⟩)
    · exact .inl (.inl ⟨by show RPh.c4 ≠ RPh.a0; simp, rfl⟩)
    · exact .inl (.inr ⟨rfl, rfl⟩)
/-- 'set' is set -/
theorem ss_V {F : World → Prop} (h : p.Ok) (hS : Stays (raC p) C F) (hF : F w) :
    CallsV Try.prog (raC p) k C 25 #[.pointer (some ⟨p.L, 3, none⟩), .bool true] 1000 N (⟨.c3, .own, fb, true, x⟩ : RU) w
      (fun N' u' v w' => N' ≤ N ∧ F w' ∧ u' = (⟨.c4, .own, fb, true, x⟩ : RU)) := by
  refine callsV_mono (bstore_V (k := k) (N := N) (raC_ok h) hS p.L 3 (by show ¬ RPh.c3 = RPh.fin; simp) (fun u' => u' = (⟨.c4, .own, fb, true, x⟩ : RU)) (fun w₁ σ hF hr hp => ?_) hF) (fun N' u' v w' ⟨h1, h2, h3, h4⟩ => ⟨by omega, h2, h4⟩)
  have hr0 := hr
  obtain ⟨hL, hW, hfl, hsz⟩ := hr
  have hA := aside_setCell w₁ (⟨p.L, 3, none⟩ : Addr) (.int .u32 1)
  refine ⟨fun hb => (by cases hb.1), .int .u32 (b01 (RS.set σ)), (⟨.c4, .own, fb, true, x⟩ : RU), ({ (σ : RS) with set := true } : RS), by simp [World.cell?, hL, latO], by simp [World.frozen?, hL, latO],
    ⟨RT.ss (u := (⟨.c3, .own, fb, true, x⟩ : RU)) rfl, ⟨?_, (hA.block _ (Ne.symm h.ne)).trans hW, fun b v e => ⟨(hfl b v e).1, (hA.block _ ?_).trans (hfl b v e).2⟩, by rw [hA.size]; exact hsz⟩, onlySB_set (raC_ok h) hr0 _ _ (.inl rfl), ?_, rfl, ?_⟩, fun _ hb => hb, rfl⟩
  · unfold latO at hL ⊢
    rw [setCell_eq_setRow w₁ p.L 3 _ _ (0, 0) _ hL, setRow_heap w₁ p.L _ _ _ _ hL]
    simp [b01]
  · have := (hfl b v e).1; have := h.hL; show b ≠ p.L; omega
  · intro e he
    simp at he
    subst he
    exact evV_at _ ⟨_, rfl, .inl ⟨rfl, by show (3 : Nat) ≠ 4; decide⟩⟩
  · rintro l (⟨h1, rfl⟩ | ⟨h1, rfl⟩)
    · exact .inl (.inl ⟨by show RPh.c3 ≠ RPh.a0; simp, rfl⟩)
    · exact .inl (.inr ⟨rfl, rfl⟩)
/-- one has won -/
theorem add_V {F : World → Prop} (h : p.Ok) (hS : Stays (raC p) C F) (hF : F w) :
    CallsV Try.prog (raC p) k C 34 #[.pointer (some ⟨p.Wn, 0, none⟩), .int .i32 1] 60 N (⟨.w0, .out, fb, true, x⟩ : RU) w
      (fun N' u' v w' => N' ≤ N ∧ F w' ∧ u' = (⟨.fin, .out, fb, true, x⟩ : RU)) := by
  refine callsV_mono (iadd_V (k := k) (N := N) hS p.Wn 0 (by show ¬ RPh.w0 = RPh.fin; simp) (fun u' => u' = (⟨.fin, .out, fb, true, x⟩ : RU)) (fun w₁ σ hF hr hp => ?_) hF) (fun N' u' v w' ⟨h1, h2, h3⟩ => ⟨by omega, h2, h3⟩)
  have hr0 := hr
  obtain ⟨hL, hW, hfl, hsz⟩ := hr
  have hw1 : RS.won σ ≤ 1 := hp.2.2.2.2.1
  have hwr : IntKind.i32.wrap (((RS.won σ : Nat) : Int) + 1) = ((RS.won σ + 1 : Nat) : Int) := by rw [IntKind.wrap_i32]; omega
  have hA := aside_setCell w₁ (⟨p.Wn, 0, none⟩ : Addr) (.int .i32 (IntKind.i32.wrap (((RS.won σ : Nat) : Int) + 1)))
  refine ⟨fun hb => (by cases hb.1), ((RS.won σ : Nat) : Int), (⟨.fin, .out, fb, true, x⟩ : RU), ({ (σ : RS) with won := RS.won σ + 1 } : RS), by simp [World.cell?, hW, wonO], by simp [World.frozen?, hW, wonO],
    ⟨RT.add (u := (⟨.w0, .out, fb, true, x⟩ : RU)) rfl, ⟨(hA.block _ h.ne).trans hL, ?_, fun b v e => ⟨(hfl b v e).1, (hA.block _ ?_).trans (hfl b v e).2⟩, by rw [hA.size]; exact hsz⟩, onlySB_set (raC_ok h) hr0 _ _ (.inr rfl), ?_, rfl, ?_⟩, fun _ hb => hb, rfl⟩
  · rw [hwr]
    unfold wonO at hW ⊢
    rw [setCell_eq_setRow w₁ p.Wn 0 _ _ (0, 0) _ hW, setRow_heap w₁ p.Wn _ _ _ _ hW]
    rfl
  · have := (hfl b v e).1; have := h.hW; show b ≠ p.Wn; omega
  · intro e he
    simp at he
    rcases he with rfl | rfl <;> exact evV_at _ ⟨_, rfl, .inr (.inl rfl)⟩
  · rintro l (⟨h1, rfl⟩ | ⟨h1, rfl⟩)
    · exact .inl (.inl ⟨by show RPh.w0 ≠ RPh.a0; simp, rfl⟩)
    · exact .inl (.inr ⟨rfl, rfl⟩)
end
end Go.Proofs.Ytinghnaigpenkaa

end
section
/- Seat 05: many set a latch at once: a worker's Set. -/
namespace Go.Proofs.Ytinghnaigpenkaa
open Go.Conc Go.RowKit Go.ConcR.Gen
open Go.ConcR (Payload rd wr mk WgAt)
set_option linter.unusedVariables false
set_option linter.unusedSimpArgs false
set_option linter.unusedSectionVars false
set_option maxRecDepth 100000
set_option maxHeartbeats 4000000




section
variable {p : RaP} {C k N : Nat} {w : World} {fb bl bv : Nat} {x : Int} {F : World → Prop}
/-- the memory of Set's closure -/
def FSet (p : RaP) (F : World → Prop) (bl bv : Nat) (x : Int) (w : World) : Prop := (F w ∧ w.heap[bl]? = some (.cells #[.pointer (some ⟨p.L, 0, none⟩)] 23)) ∧ w.heap[bv]? = some (.cells #[.int .u64 x] 25)
theorem stays_set (h : p.Ok) (hS : Stays (raC p) C F) (hbl : p.H + 2 ≤ bl) (hbv : p.H + 2 ≤ bv) : Stays (raC p) C (FSet p F bl bv x) := by
  have := h.hL; have := h.hW
  exact (hS.keep (by decide) (by show ¬ (23 : TypeId) = 4; decide) (by rintro (e | e) <;> omega) (by show bl ≠ p.H + 1; omega)).keep (by decide) (by show ¬ (25 : TypeId) = 4; decide) (by rintro (e | e) <;> omega) (by show bv ≠ p.H + 1; omega)
theorem plo_ra (h : p.Ok) (a : Addr) (ha : (raC p).H0 ≤ a.block) : ¬ (raC p).sh (.cell a) ∧ ¬ (raC p).sp (.cell a) := (alo_ra h).pl a (.inr ha)
theorem ev_own {u : RU} {l : Addr} {wr : Bool} (ho : (raC p).own u k (.cell l)) : EvV (raC p) k u ⟨.cell l, wr, false⟩ ∧ (⟨.cell l, wr, false⟩ : Event).loc ≠ .mark .disable ∧ (⟨.cell l, wr, false⟩ : Event).loc ≠ .mark .enable := by
  refine ⟨⟨fun y hy _ => ?_, by simp⟩, by simp, by simp⟩
  simp only [ofEvent_cell0, MemAct.touch?, Option.some.injEq] at hy
  subst hy
  exact .inr ⟨by simp, ho⟩
/-- a block of its worker's turns -/
theorem flag_set (h : p.Ok) {σ : RS} (hr : raRep p σ w) {b0 : Bool} (hb : σ.fl fb = some b0) (b1 : Bool) :
    raRep p { σ with fl := fun y => if y = fb then some b1 else σ.fl y } (w.setCell ⟨fb, 0, none⟩ (.bool b1)) ∧ OnlySB (raC p) w (w.setCell ⟨fb, 0, none⟩ (.bool b1)) := by
  obtain ⟨hL, hW, hfl, hsz⟩ := hr
  obtain ⟨h1, h2⟩ := hfl fb b0 hb
  have := h.hL; have := h.hW
  have hA := aside_setCell w (⟨fb, 0, none⟩ : Addr) (.bool b1)
  have hset : (w.setCell ⟨fb, 0, none⟩ (.bool b1)).heap[fb]? = some (.cells #[.bool b1] 4) := box_set h2
  refine ⟨⟨(hA.block _ (by show p.L ≠ fb; omega)).trans hL, (hA.block _ (by show p.Wn ≠ fb; omega)).trans hW, fun b v e => ?_, by rw [hA.size]; exact hsz⟩, ⟨⟨hA.tape, by rw [hA.os]; exact .refl _, hA.output⟩, Nat.le_of_eq hA.size.symm, fun b _ hn hf => hA.block b (fun e => ?_), fun b hf => ?_, fun b hb hs => ?_⟩⟩
  · simp only at e
    by_cases hy : b = fb
    · rw [if_pos hy] at e
      cases e
      subst hy
      exact ⟨h1, hset⟩
    · rw [if_neg hy] at e
      exact ⟨(hfl b v e).1, (hA.block b hy).trans (hfl b v e).2⟩
  · have e : b = fb := e
    subst e
    rcases hf with hf | hf
    · exact hf ⟨_, h2⟩
    · have hf : b < p.H + 2 := hf; omega
  · by_cases hy : b = fb
    · subst hy; exact ⟨_, hset⟩
    · exact hf.of_same (hA.block b hy)
  · have := hs.lt; rw [hA.size] at this; omega
/-- Set's closure -/
theorem setDo_V (h : p.Ok) (hS : Stays (raC p) C F) (hbl : p.H + 2 ≤ bl) (hbv : p.H + 2 ≤ bv) (hF : FSet p F bl bv x w) :
    CallsV Try.prog (raC p) k C 24 #[.pointer (some ⟨bv, 0, none⟩), .pointer (some ⟨bl, 0, none⟩), .pointer (some ⟨fb, 0, none⟩)] 2000 N (⟨.c1, .own, fb, true, x⟩ : RU) w
      (fun N' u' v w' => N' ≤ N ∧ FSet p F bl bv x w' ∧ u' = (⟨.c4, .own, fb, true, x⟩ : RU)) := by
  have hS2 := stays_set (x := x) h hS hbl hbv
  have rl9 : ∀ {w w₁ : World}, FSet p F bl bv x w → RW (raC p) C w w₁ → FSet p F bl bv x w₁ := fun h r => hS2.rely _ _ r h
  have plo := plo_ra h
  have e1 : (23 : TypeId) ≠ Payload.ety := by decide
  have e2 : (25 : TypeId) ≠ Payload.ety := by decide
  have f1 : (23 : TypeId) ≠ (raC p).fty := by show ¬ (23 : TypeId) = 4; decide
  have f2 : (25 : TypeId) ≠ (raC p).fty := by show ¬ (25 : TypeId) = 4; decide
  refine ⟨_, _, Try.func24, by kernel_rfl, rfl, ?_⟩
  simp only [Try.ntmps24]
  walk_nrm
  co_apply codeV_more
  · refine codeV_seq (n₁ := 300) (n₂ := 1500) ?_
    co_apply codeV_more
    · (co_apply codeV_region; simp only [List.size_toArray, List.length_cons, List.length_nil, Nat.reduceAdd, Nat.zero_add, List.range, List.range.loop])
      (co_apply opsV_cons_k rfl (by rfl); intro _ hR K9 hK9; replace hF := rl9 hF hR; clear hR; have m1 := box_cell hF.1.2; have m2 := box_cell hF.2; go_simp; refine hK9 _ _ ⟨?_, ?_⟩; (· refine dw_read (fun e he => ?_); have hm := mem_listed he; simp [go_sem, m1, m2] at hm; subst hm; first | exact evW_new hbl hF.1.2 e1 f1 (plo _ hbl) | exact evW_new hbv hF.2 e2 f2 (plo _ hbv)); clear hK9 K9 m1 m2; try walk_nrm)
      (co_apply opsV_cons_k rfl (by rfl); intro _ hR K9 hK9; replace hF := rl9 hF hR; clear hR; have m1 := box_cell hF.1.2; have m2 := box_cell hF.2; go_simp; refine hK9 _ _ ⟨?_, ?_⟩; (· refine dw_read (fun e he => ?_); have hm := mem_listed he; simp [go_sem, m1, m2] at hm; subst hm; first | exact evW_new hbl hF.1.2 e1 f1 (plo _ hbl) | exact evW_new hbv hF.2 e2 f2 (plo _ hbv)); clear hK9 K9 m1 m2; try walk_nrm)
      (co_apply opsV_cons_k rfl (by rfl); intro _ hR K9 hK9; replace hF := rl9 hF hR; clear hR; go_simp; refine hK9 _ _ ⟨?_, ?_⟩; (· rw [listed_nil (by simp [go_sem, *])]; exact DW.refl _ _ _); clear hK9 K9; try walk_nrm)
      (co_apply opsV_cons_k rfl (by rfl); intro _ hR K9 hK9; replace hF := rl9 hF hR; clear hR; go_simp; refine hK9 _ _ ⟨?_, ?_⟩; (· rw [listed_nil (by simp [go_sem, *])]; exact DW.refl _ _ _); clear hK9 K9; try walk_nrm)
      refine opsV_visop rfl (by rfl) (by show ¬ RPh.c1 = RPh.fin; simp) fun w₁ h₁ σ hr hp => ?_
      replace hF := rl9 hF h₁
      clear h₁
      have hr0 : raRep p σ w₁ := hr
      obtain ⟨hL, hW, hfl, hsz⟩ := hr0
      have hc4 : w₁.cell? ⟨p.L, 4, none⟩ = some (.int .u64 (RS.v σ)) := by simp [World.cell?, hL, latO]
      have hz4 : w₁.frozen? ⟨p.L, 4, none⟩ = false := by simp [World.frozen?, hL, latO]
      have hA := aside_setCell w₁ (⟨p.L, 4, none⟩ : Addr) (.int .u64 x)
      have ho4 := onlySB_set (raC_ok h) hr (⟨p.L, 4, none⟩ : Addr) (.int .u64 x) (.inl rfl)
      have hr4 : raRep p ({ (σ : RS) with v := x } : RS) (w₁.setCell ⟨p.L, 4, none⟩ (.int .u64 x)) := by
        refine ⟨?_, (hA.block _ (Ne.symm h.ne)).trans hW, fun b v e => ⟨(hfl b v e).1, (hA.block _ ?_).trans (hfl b v e).2⟩, by rw [hA.size]; exact hsz⟩
        · unfold latO at hL ⊢
          rw [setCell_eq_setRow w₁ p.L 4 _ _ (0, 0) _ hL, setRow_heap w₁ p.L _ _ _ _ hL]
          rfl
        · have := (hfl b v e).1; have := h.hL; show b ≠ p.L; omega
      refine ⟨fun hb => (by cases hb.1), undef, w₁.setCell ⟨p.L, 4, none⟩ (.int .u64 x), (⟨.c2, .own, fb, true, x⟩ : RU), ({ (σ : RS) with v := x } : RS), .inr ⟨by go_simp, rfl⟩, fun e he => ?_, RT.sv (u := (⟨.c1, .own, fb, true, x⟩ : RU)) rfl, hr4, ho4, rfl, fun l ho => .inl ?_, fun _ hb => hb, fun N1 hN => ?_⟩
      · simp [go_sem, storedEv, hc4] at he
        rw [he.2]
        exact ev_own (.inr ⟨rfl, rfl⟩)
      · rcases ho with ⟨h1, rfl⟩ | ⟨h1, rfl⟩
        · exact .inl ⟨by show RPh.c1 ≠ RPh.a0; simp, rfl⟩
        · exact .inr ⟨rfl, rfl⟩
      have hF2 := hS2.act _ _ ho4 ⟨_, hr4⟩ hF
      clear hF hr hp hL hW hfl hsz hc4 hz4 hA ho4 hr4
      have hF := hF2
      clear hF2
      generalize w₁.setCell ⟨p.L, 4, none⟩ (.int .u64 x) = w2 at hF ⊢
      clear w₁
      co_apply Exists.intro
      try walk_nrm
      refine opsV_visop rfl (by rfl) (by show ¬ RPh.c2 = RPh.fin; simp) fun w₁ h₁ σ hr hp => ?_
      replace hF := rl9 hF h₁
      clear h₁
      have hfl : RS.fl σ fb = some false := hp.2.2.2.1 (by show RPh.c2 ≠ RPh.a0; simp)
      obtain ⟨hg1, hg2⟩ := (hr : raRep p σ w₁).2.2.1 fb false hfl
      have hc5 : w₁.cell? ⟨fb, 0, none⟩ = some (.bool false) := box_cell hg2
      have hz5 : w₁.frozen? ⟨fb, 0, none⟩ = false := box_thaw hg2
      obtain ⟨hr5, ho5⟩ := flag_set h hr hfl true
      refine ⟨fun hb => (by cases hb.1), undef, w₁.setCell ⟨fb, 0, none⟩ (.bool true), (⟨.c3, .own, fb, true, x⟩ : RU), ({ (σ : RS) with fl := fun y => if y = fb then some true else RS.fl σ y } : RS), .inr ⟨by go_simp, rfl⟩, fun e he => ?_, RT.sf (u := (⟨.c2, .own, fb, true, x⟩ : RU)) rfl, hr5, ho5, rfl, fun l ho => .inl ?_, fun _ hb => hb, fun N2 hN2 => ?_⟩
      · simp [go_sem, events_store Try.prog w₁ #[] (⟨fb, 0, none⟩ : Addr) (.bool true) .plain rfl, hc5, hz5] at he
        subst he
        exact ev_own (.inl ⟨by show RPh.c2 ≠ RPh.a0; simp, rfl⟩)
      · rcases ho with ⟨h1, rfl⟩ | ⟨h1, rfl⟩
        · exact .inl ⟨by show RPh.c2 ≠ RPh.a0; simp, rfl⟩
        · exact .inr ⟨rfl, rfl⟩
      have hF2 := hS2.act _ _ ho5 ⟨_, hr5⟩ hF
      clear hF hr hp hg1 hg2 hc5 hz5 ho5 hr5 hfl
      have hF := hF2
      clear hF2
      generalize w₁.setCell ⟨fb, 0, none⟩ (.bool true) = w3 at hF ⊢
      clear w₁
      co_apply Exists.intro
      try walk_nrm
      (co_apply opsV_nil; simp only [ThenV])
      co_apply codeV_more
      · (co_apply codeV_region; simp only [List.size_toArray, List.length_cons, List.length_nil, Nat.reduceAdd, Nat.zero_add, List.range, List.range.loop])
        (co_apply opsV_cons_k rfl (by rfl); intro _ hR K9 hK9; replace hF := rl9 hF hR; clear hR; have m1 := box_cell hF.1.2; have m2 := box_cell hF.2; go_simp; refine hK9 _ _ ⟨?_, ?_⟩; (· refine dw_read (fun e he => ?_); have hm := mem_listed he; simp [go_sem, m1, m2] at hm; subst hm; first | exact evW_new hbl hF.1.2 e1 f1 (plo _ hbl) | exact evW_new hbv hF.2 e2 f2 (plo _ hbv)); clear hK9 K9 m1 m2; try walk_nrm)
        (co_apply opsV_cons_k rfl (by rfl); intro _ hR K9 hK9; replace hF := rl9 hF hR; clear hR; go_simp; refine hK9 _ _ ⟨?_, ?_⟩; (· rw [listed_nil (by simp [go_sem, *])]; exact DW.refl _ _ _); clear hK9 K9; try walk_nrm)
        (co_apply opsV_cons_k rfl (by rfl); intro _ hR K9 hK9; replace hF := rl9 hF hR; clear hR; go_simp; refine hK9 _ _ ⟨?_, ?_⟩; (· rw [listed_nil (by simp [go_sem, *])]; exact DW.refl _ _ _); clear hK9 K9; try walk_nrm)
        co_apply opsV_call rfl (by rfl) rfl
        · exact callsV_args (by simp [Act.eval]) (ss_V (k := k) (N := N2) h hS2 hF)
        rintro N4 u4 v4 w4 ⟨hN4, hF4, rfl⟩
        walk_nrm
        co_apply opsV_nil
        exact ⟨rfl, _, resultsC_none rfl _, by omega, hF4, rfl⟩
      · decide
    · decide
  · decide
end
end Go.Proofs.Ytinghnaigpenkaa

end
