import Derived.Test.YtinghnaigpenkaaZQuA
import Derived.Test.YtinghnaigpenkaaZMxC
import Derived.Test.YtinghnaigpenkaaZAlE
import Derived.Test.YtinghnaigpenkaaZOnC
section
/- Seat 05: many get a value that is made once: the phase's shape. -/
namespace Go.Proofs.Ytinghnaigpenkaa
open Go.Conc Go.RowKit
open Go.ConcN (sumTo upd sumTo_upd sumTo_upd_out upd_same upd_ne sumTo_congr le_sumTo)
open Go.ConcR (Payload WgAt)
set_option linter.unusedVariables false
set_option linter.unusedSimpArgs false
set_option maxRecDepth 100000
def bQ (b : Bool) : Int := if b then 1 else 0
structure QuP where
  L : Nat
  Ob : Nat
  H : Nat
  n : Nat
  N0 : Nat
  x : Int
  fv : Value
def lazO (p : QuP) (σ : QS) : Obj := .cells #[.int .u32 (bQ σ.done), .int .i32 σ.mx.w.enc, .int .u32 (σ.mx.sm : Int), p.fv, .int .i32 (σ.runs : Int), .int .u64 σ.v] 75
def outs (p : QuP) (σ : QS) : Array Value := ((List.range p.n).map fun i => Value.int .u64 (σ.o i)).toArray
def outO (p : QuP) (σ : QS) : Obj := .cells (outs p σ) 25
def quRep (p : QuP) (σ : QS) (w : World) : Prop :=
  w.heap[p.L]? = some (lazO p σ) ∧ w.heap[p.Ob]? = some (outO p σ) ∧ p.H + 2 ≤ w.heap.size
def quC (p : QuP) : Cfg where
  ty := 95
  Wg := p.H + 1
  n := p.n
  N0 := p.N0
  H0 := p.H + 2
  SB := fun b => b = p.L ∨ b = p.Ob
  sh := fun l => ∃ a, l = .cell a ∧ ((a.block = p.L ∧ a.off ≠ 3 ∧ a.off ≠ 5) ∨ a.block = p.H + 1)
  sp := fun l => l = .cell ⟨p.L, 5, none⟩ ∨ ∃ i, l = .cell ⟨p.Ob, i, none⟩
  U := QU
  S := QS
  own := fun u _ l => (u.ph ≠ .a0 ∧ l = .cell ⟨p.Ob, u.ix, none⟩) ∨ (u.ph.cph = true ∧ l = .cell ⟨p.L, 5, none⟩)
  vir := fun σ _ l => (σ.cl = false ∧ l = .cell ⟨p.L, 5, none⟩) ∨ ∃ i, σ.tk i = false ∧ l = .cell ⟨p.Ob, i, none⟩
  pub := fun σ l => σ.done = true ∧ l = .cell ⟨p.L, 5, none⟩
  prd := fun u l => u.ph.rd = true ∧ l = .cell ⟨p.L, 5, none⟩
  mayp := fun u => u.ph = .c3
  pfa := ⟨p.L, 0, none⟩
  blk := fun u σ => u.ph.lock = true ∧ u.mu = .q ∧ σ.mx.sm = 0
  dn := fun u => if u.ph.lock then u.mu.dn else 0
  fty := 4
  Rep := quRep p
  Pre := fun u σ => MPre u.mu σ.mx ∧ σ.mx.w.wn ≤ 70 ∧ σ.mx.sm ≤ 1 ∧ QLf p.x u σ ∧ u.ix < p.n
  Tr := QT p.x
  fin := fun u => u.ph = .fin
  init := fun j => ⟨.a0, .pre, j⟩
  JU := fun σ us j => QJ p.x σ us j ∧ j ≤ p.n
  mu := fun σ us j => qmu p.n σ us j
structure QuP.Ok (p : QuP) : Prop where
  hn : p.n ≤ 64
  hN : 0 < p.N0
  hL : p.L < p.H
  hO : p.Ob < p.H
  ne : p.L ≠ p.Ob
theorem cell_inj {b o b' o' : Nat} (e : Loc.cell ⟨b, o, none⟩ = Loc.cell ⟨b', o', none⟩) : b = b' ∧ o = o' := by
  injection e with e
  injection e with e1 e2
  exact ⟨e1, e2⟩
theorem outs_get (p : QuP) (σ : QS) {i : Nat} (h : i < p.n) : (outs p σ)[i]? = some (.int .u64 (σ.o i)) := by simp [outs, h]
theorem outs_set (p : QuP) (σ : QS) {i : Nat} (v : Int) (h : i < p.n) : (outs p σ).setIfInBounds i (.int .u64 v) = outs p { σ with o := fun a => if a = i then v else σ.o a } := by
  apply Array.ext
  · simp [outs]
  · intro a h1 h2
    simp only [outs, List.size_toArray, List.length_map, List.length_range] at h2
    rw [Array.getElem_setIfInBounds (by simpa [outs] using h2)]
    by_cases e : i = a
    · subst e; simp [outs]
    · simp [outs, e]
      intro e2
      exact absurd e2.symm e
theorem quC_ok {p : QuP} (h : p.Ok) : (quC p).Ok where
  hn := by have := h.hn; show p.n < 2147483648; omega
  hN := h.hN
  fty := by show (4 : TypeId) ≠ 3; decide
  rep_same := by
    rintro σ w w' ⟨h1, h2, h4⟩ hs hb
    exact ⟨(hb _ (Array.getElem?_eq_some_iff.1 h1).1 (.inl (.inl rfl))).trans h1, (hb _ (Array.getElem?_eq_some_iff.1 h2).1 (.inl (.inr rfl))).trans h2, Nat.le_trans h4 hs⟩
  sb_hard := by
    rintro σ w b ⟨h1, h2, _⟩ (rfl | rfl)
    · refine ⟨?_, ?_⟩ <;> (rintro ⟨v, hv⟩; rw [h1] at hv; simp [lazO] at hv)
    · refine ⟨?_, ?_⟩
      · rintro ⟨v, hv⟩
        rw [h2] at hv
        simp only [outO, Option.some.injEq, Obj.cells.injEq] at hv
        exact absurd hv.2 (fun e => absurd e.1 (by show ¬ (25 : TypeId) = 3; decide))
      · rintro ⟨v, hv⟩
        rw [h2] at hv
        simp only [outO, Option.some.injEq, Obj.cells.injEq] at hv
        exact absurd hv.2 (fun e => absurd e.1 (by show ¬ (25 : TypeId) = 4; decide))
  sb_lt := by
    rintro σ w b ⟨h1, h2, _⟩ (rfl | rfl)
    · exact (Array.getElem?_eq_some_iff.1 h1).1
    · exact (Array.getElem?_eq_some_iff.1 h2).1
  sbWg := by rintro (e | e) <;> simp only [quC] at e <;> have := h.hL <;> have := h.hO <;> omega
  wgH0 := by show p.H + 1 < p.H + 2; omega
  shWg := fun a ha => ⟨a, rfl, .inr ha⟩
  sh_lt := by
    rintro a ⟨a', e, h1⟩
    injection e with e
    subst e
    have := h.hL
    show a.block < p.H + 2
    rcases h1 with h1 | h1 <;> omega
  sp_lt := by
    have := h.hL; have := h.hO
    rintro l (rfl | ⟨i, rfl⟩)
    · exact ⟨_, rfl, by show p.L < p.H + 2; omega⟩
    · exact ⟨_, rfl, by show p.Ob < p.H + 2; omega⟩
  sp_sh := by
    have := h.hL; have := h.hO; have := h.ne
    rintro l (rfl | ⟨i, rfl⟩) ⟨a, e, h1⟩
    · injection e with e
      subst e
      rcases h1 with h1 | h1
      · exact h1.2.2 rfl
      · simp only at h1; omega
    · injection e with e
      subst e
      rcases h1 with h1 | h1 <;> simp only at h1 <;> omega
  vir_sp := by
    rintro σ j l (⟨_, h2⟩ | ⟨i, _, h2⟩)
    · exact .inl h2
    · exact .inr ⟨i, h2⟩
  own_in := by
    rintro σ us j i w l hju hr hi (⟨h1, rfl⟩ | ⟨_, rfl⟩)
    · exact .inl (.inr ⟨_, rfl⟩)
    · exact .inl (.inl rfl)
  own_one := by
    have hne := h.ne
    rintro σ us j i i' l hju hi hi' (⟨h1, rfl⟩ | ⟨h1, rfl⟩) (⟨h2, e⟩ | ⟨h2, e⟩)
    · have e := (cell_inj e).2
      rw [hju.1.ix i hi, hju.1.ix i' hi'] at e
      exact e
    · exact absurd (cell_inj e).1.symm hne
    · exact absurd (cell_inj e).1 hne
    · exact holdQ hju.1.mx hi hi' (qcph (hju.1.lf i hi) h1).1 (qcph (hju.1.lf i' hi') h2).1
  own_vir := by
    have hne := h.ne
    rintro σ us j i l hju hi (⟨h1, rfl⟩ | ⟨h1, rfl⟩) (⟨h2, e⟩ | ⟨a, h2, e⟩)
    · exact hne (cell_inj e).1.symm
    · have e := (cell_inj e).2
      rw [hju.1.ix i hi] at e
      rw [← e, hju.1.tk i hi h1] at h2; cases h2
    · rw [(qcph (hju.1.lf i hi) h1).2.1] at h2; cases h2
    · exact hne (cell_inj e).1
  spawn := by
    rintro σ us j hj ⟨h1, h2⟩
    exact ⟨⟨qj_spawn h1, hj⟩, qmu_spawn hj, fun _ h => h⟩
  step := by
    rintro σ us j i u' σ' hi ⟨h1, h2⟩ hf hb hs
    have hix := h1.ix i hi
    refine ⟨⟨qj_step h1 hi hs, h2⟩, qmu_step h2 hi hs, ?_, ?_, ?_⟩
    · rintro l (⟨h3, rfl⟩ | ⟨a, h3, rfl⟩)
      · refine .inl ⟨?_, rfl⟩
        generalize us i = u at hs
        cases hs <;> first | exact h3 | cases h3
      · refine .inr ⟨a, ?_, rfl⟩
        generalize us i = u at hs
        cases hs with
        | look1 hp =>
          have h3 : (if a = u.ix then true else σ.tk a) = false := h3
          split at h3
          · cases h3
          · exact h3
        | _ => exact h3
    · rintro l (⟨h0, rfl⟩ | ⟨h3, rfl⟩) hsp
      · generalize hu : us i = u at hs
        by_cases ha : u.ph = .a0
        · cases hs with
          | look1 hp =>
            refine .inr (.inr ⟨u.ix, ?_, rfl⟩)
            cases ht : σ.tk u.ix with
            | false => rfl
            | true =>
              have := h1.tk0 _ ht
              rw [← hu, hix, hu] at this
              exact absurd ha this.2
          | mx hk hm => rw [ha] at hk; cases hk
          | look2 hp => rw [ha] at hp; cases hp
          | claim hp => rw [ha] at hp; cases hp
          | add hp => rw [ha] at hp; cases hp
          | sv hp => rw [ha] at hp; cases hp
          | sd hp => rw [ha] at hp; cases hp
          | ld hp => rcases hp with hp | ⟨hp, _⟩ <;> rw [ha] at hp <;> cases hp
          | st hp => rw [ha] at hp; cases hp
        · refine .inl (.inl ⟨ha, ?_⟩)
          cases hs <;> rfl
      · generalize hu : us i = u at hs
        cases hs with
        | claim hp hm hd =>
          subst hu
          exact .inr (.inl ⟨qclaim_cl h1 hi hp hm hd, rfl⟩)
        | mx hk hm => exact .inl (.inr ⟨h3, rfl⟩)
        | look1 hp => exact absurd h3 (by simp only; split <;> simp [QPh.cph])
        | look2 hp => cases h3
        | add hp => exact .inl (.inr ⟨by rw [hp]; rfl, rfl⟩)
        | sv hp => exact .inl (.inr ⟨by rw [hp]; rfl, rfl⟩)
        | sd hp => cases h3
        | ld hp => cases h3
        | st hp => cases h3
    · rintro l (⟨h3, rfl⟩ | ⟨h3, rfl⟩)
      · refine .inl (.inl ⟨?_, ?_⟩)
        · generalize us i = u at hs h3
          cases hs with
          | look1 hp => simp only; split <;> simp
          | mx hk hm => exact h3
          | _ => simp
        · generalize us i = u at hs h3
          cases hs <;> rfl
      · generalize us i = u at hs h3
        cases hs with
        | mx hk hm => exact .inl (.inr ⟨h3, rfl⟩)
        | look1 hp => rw [hp] at h3; cases h3
        | look2 hp => rw [hp] at h3; cases h3
        | claim hp => exact .inl (.inr ⟨rfl, rfl⟩)
        | add hp => exact .inl (.inr ⟨rfl, rfl⟩)
        | sv hp => exact .inl (.inr ⟨rfl, rfl⟩)
        | sd hp => exact .inr ⟨rfl, rfl⟩
        | ld hp => rcases hp with hp | ⟨hp, _⟩ <;> rw [hp] at h3 <;> cases h3
        | st hp => rw [hp] at h3; cases h3
  pre := by
    rintro σ us j i hi ⟨h1, h2⟩ hf
    obtain ⟨h3, h4⟩ := minv_small h1.mx
    have := h.hn
    exact ⟨mpre_of h1.mx hi, by omega, h3, h1.lf i hi, by rw [h1.ix i hi]; omega⟩
  live := by
    rintro σ us j ⟨h1, h2⟩ hx
    exact qj_live h1 hx
  fin_dn := by
    intro u hu
    have hu : u.ph = .fin := hu
    simp [quC, hu, QPh.lock]
  init_dn := fun j => rfl
  pub_sp := fun σ l hp => .inl hp.2
  pub0 := fun σ us l hju hp => absurd (hju.1.dn1 hp.1) (Nat.lt_irrefl 0)
  own_pub := by
    have hne := h.ne
    rintro σ us j i l hju hi (⟨h1, rfl⟩ | ⟨h1, rfl⟩) ⟨h2, e⟩
    · exact hne (cell_inj e).1.symm
    · rw [(qcph (hju.1.lf i hi) h1).2.2] at h2; cases h2
  prd_pub := fun σ us j i l hju hi hp => ⟨(qrd (hju.1.lf i hi) hp.1).1, hp.2⟩
  mayp := by
    intro σ us j i l hju hi hm hp
    have hm : (us i).ph = .c3 := hm
    have := (qcph (hju.1.lf i hi) (by rw [hm]; rfl)).2.2
    rw [hp.1] at this; cases this
  pub_vir := by
    have hne := h.ne
    rintro σ us j l hju ⟨h1, rfl⟩ (⟨h2, e⟩ | ⟨a, h2, e⟩)
    · rw [(hju.1.d1 h1).2.1] at h2; cases h2
    · exact hne (cell_inj e).1
  pfaWg := by have := h.hL; show p.L ≠ p.H + 1; omega
  pfaSh := .inl ⟨_, rfl, .inl ⟨rfl, by show (0 : Nat) ≠ 3; decide, by show (0 : Nat) ≠ 5; decide⟩⟩
  init_prd := fun j l hp => by cases hp.1
/-- the mutex in it -/
def quX (p : QuP) : MxI (quC p) where
  B := p.L
  so := 1
  get := fun σ => QS.mx σ
  set := fun σ m => ({ (σ : QS) with mx := m } : QS)
  put := fun u m => ({ (u : QU) with mu := m } : QU)
  Lk := fun u => (QU.ph u).lock = true
theorem quX_ok {p : QuP} (h : p.Ok) : (quX p).Ok where
  pp := fun u a b => rfl
  nf := by
    intro u m hl hf
    have hf : (QU.ph u) = .fin := hf
    have hl : (QU.ph u).lock = true := hl
    rw [hf] at hl; cases hl
  dn := by
    intro u m hl
    have hl : (QU.ph u).lock = true := hl
    show (if (QU.ph u).lock then m.dn else 0) = m.dn
    rw [if_pos hl]
  tr := fun u σ m m' s' hl hs => QT.mx (u := { (u : QU) with mu := m }) hl hs
  pre := fun u σ m hl hp => ⟨hp.1, hp.2.1, hp.2.2.1⟩
  blk := fun u σ m hl => ⟨fun hb => hb.2, fun hb => ⟨hl, hb⟩⟩
  blkm := fun σ s' hs v hb => ⟨hb.1, hb.2.1, hs hb.2.2⟩
  own := fun u m m' k l ho => ho
  pub := fun σ s' l => Iff.rfl
  prd := fun u m m' l hp => hp
  fst := fun e => by injection e with e1 e2; cases e2
  fsm := fun e => by injection e with e1 e2; cases e2
  shst := ⟨_, rfl, .inl ⟨rfl, by show (1 : Nat) ≠ 3; decide, by show (1 : Nat) ≠ 5; decide⟩⟩
  shsm := ⟨_, rfl, .inl ⟨rfl, by show (2 : Nat) ≠ 3; decide, by show (2 : Nat) ≠ 5; decide⟩⟩
  rst := by
    rintro σ w ⟨h1, _⟩
    refine ⟨?_, ?_⟩ <;> simp [World.cell?, World.frozen?, MxI.st, quX, h1, lazO]
  rsm := by
    rintro σ w ⟨h1, _⟩
    refine ⟨?_, ?_⟩ <;> simp [World.cell?, World.frozen?, MxI.sm, quX, h1, lazO]
  sst := by
    rintro σ w m ⟨h1, h2, h4⟩
    have hA := aside_setCell w (⟨p.L, 1, none⟩ : Addr) (.int .i32 m.enc)
    refine ⟨?_, (hA.block _ (Ne.symm h.ne)).trans h2, by rw [show (w.setCell (quX p).st (.int .i32 m.enc)).heap.size = w.heap.size from hA.size]; exact h4⟩
    show (w.setCell ⟨p.L, 1, none⟩ (.int .i32 m.enc)).heap[p.L]? = _
    unfold lazO at h1 ⊢
    rw [setCell_eq_setRow w p.L 1 _ _ (0, 0) _ h1, setRow_heap w p.L _ _ _ _ h1]
    simp [quX]
  ssm := by
    rintro σ w m ⟨h1, h2, h4⟩
    have hA := aside_setCell w (⟨p.L, 2, none⟩ : Addr) (.int .u32 (m : Int))
    refine ⟨?_, (hA.block _ (Ne.symm h.ne)).trans h2, by rw [show (w.setCell (quX p).sm (.int .u32 (m : Int))).heap.size = w.heap.size from hA.size]; exact h4⟩
    show (w.setCell ⟨p.L, 2, none⟩ (.int .u32 (m : Int))).heap[p.L]? = _
    unfold lazO at h1 ⊢
    rw [setCell_eq_setRow w p.L 2 _ _ (0, 0) _ h1, setRow_heap w p.L _ _ _ _ h1]
    simp [quX]
  id := fun σ => rfl
  SB := .inl rfl
end Go.Proofs.Ytinghnaigpenkaa

end
section
/- Seat 05: many get a value that is made once: a worker's acts. -/
namespace Go.Proofs.Ytinghnaigpenkaa
open Go.Conc Go.RowKit Go.ConcR.Gen
open Go.ConcR (Payload rd wr mk WgAt)
set_option linter.unusedVariables false
set_option linter.unusedSimpArgs false
set_option linter.unusedSectionVars false
set_option maxRecDepth 100000
set_option maxHeartbeats 4000000
section
variable {p : QuP} {wb : World} {dv : Value} {j C k N : Nat} {w : World} {ix : Nat}
def FQu (p : QuP) (wb : World) (dv : Value) (j C : Nat) (w : World) : Prop := WK (quC p) wb p.H dv j C w ∧ ∃ σ, quRep p σ w
theorem alo_qu (h : p.Ok) : AlO (quC p) p.H where
  K := quC_ok h
  ty := rfl
  wg := rfl
  h0 := rfl
  lo := by rintro b (rfl | rfl); exact h.hL; exact h.hO
  pl := by
    intro a ha
    have := h.hL; have := h.hO
    refine ⟨?_, ?_⟩
    · rintro ⟨a', e, h1⟩
      injection e with e
      subst e
      rcases h1 with h1 | h1 <;> omega
    · rintro (e | ⟨i, e⟩) <;> injection e with e <;> subst e <;> simp only at ha <;> omega
theorem stays_qu (h : p.Ok) (hC : p.H + 2 ≤ C) : Stays (quC p) C (FQu p wb dv j C) :=
  ⟨fun w w₁ r hF => ⟨hF.1.rely (alo_qu h) hC r, r.rep hF.2⟩, fun w w₁ o hr hF => ⟨hF.1.only (alo_qu h) hC o hr, hr⟩, fun w hF => hF.2⟩
theorem ev_flag {u : QU} (wr : Bool) (h : wr = true → u.ph = .c3) : EvV (quC p) k u ⟨.cell ⟨p.L, 0, none⟩, wr, true⟩ :=
  evV_at _ ⟨_, rfl, .inl ⟨rfl, by show (0 : Nat) ≠ 3; decide, by show (0 : Nat) ≠ 5; decide⟩⟩ (fun _ hw => h hw)
/-- the flag 'done', first -/
theorem qlook1_V {F : World → Prop} (h : p.Ok) (hS : Stays (quC p) C F) (hF : F w) :
    CallsV Try.prog (quC p) k C 26 #[.pointer (some ⟨p.L, 0, none⟩)] 60 N (⟨.a0, .pre, ix⟩ : QU) w
      (fun N' u' v w' => N' ≤ N ∧ F w' ∧ ∃ b, v = .bool b ∧ ((b = true ∧ u' = (⟨.e0, .pre, ix⟩ : QU)) ∨ (b = false ∧ u' = (quX p).put (⟨.lk, .pre, ix⟩ : QU) .pre))) := by
  refine callsV_mono (bload_V (k := k) (N := N) hS p.L 0 (by show ¬ QPh.a0 = QPh.fin; simp) (fun b u' => (b = true ∧ u' = (⟨.e0, .pre, ix⟩ : QU)) ∨ (b = false ∧ u' = (quX p).put (⟨.lk, .pre, ix⟩ : QU) .pre)) (fun w₁ σ hF hr hp => ?_) hF) (fun N' u' v w' ⟨h1, h2, b, h3, h4⟩ => ⟨by omega, h2, b, h3, h4⟩)
  obtain ⟨hL, hr2⟩ := hr
  refine ⟨fun hb => (by cases hb.1), bQ (QS.done σ), (⟨if QS.done σ then .e0 else .lk, .pre, ix⟩ : QU), ({ (σ : QS) with tk := fun i => if i = ix then true else QS.tk σ i } : QS), by simp [World.cell?, hL, lazO], ⟨QT.look1 (u := (⟨.a0, .pre, ix⟩ : QU)) rfl, ⟨hL, hr2⟩, OnlySB.refl _ _, ?_, ?_, ⟨fun l hl => hl, fun l hl => .inl hl, fun l hl => ?_⟩, ?_⟩, fun _ hb => hb, ?_⟩
  · intro e he
    simp at he
    subst he
    exact ev_flag false (fun e => by cases e)
  · cases QS.done σ <;> rfl
  · cases hd : QS.done σ with
    | true => exact .inr (.inr ⟨⟨hd, hl.2⟩, rfl, rfl⟩)
    | false =>
      have := hl.1
      simp only [hd, Bool.false_eq_true, if_false] at this
      cases this
  · rintro l (⟨h1, rfl⟩ | ⟨h1, rfl⟩)
    · exact .inr (.inl (.inr ⟨_, rfl⟩))
    · exact .inr (.inl (.inl rfl))
  · cases QS.done σ
    · exact .inr ⟨rfl, rfl⟩
    · exact .inl ⟨rfl, rfl⟩
/-- .. and with the lock held -/
theorem qlook2_V {F : World → Prop} (h : p.Ok) (hS : Stays (quC p) C F) (hF : F w) :
    CallsV Try.prog (quC p) k C 26 #[.pointer (some ⟨p.L, 0, none⟩)] 60 N ((quX p).put (⟨.lk, .pre, ix⟩ : QU) .own) w
      (fun N' u' v w' => N' ≤ N ∧ F w' ∧ ∃ b, v = .bool b ∧ ((b = true ∧ ∃ u₁, (quX p).Lk u₁ ∧ u' = (quX p).put u₁ .own ∧ u₁ = (⟨.ul, .pre, ix⟩ : QU)) ∨ (b = false ∧ u' = (⟨.c1, .own, ix⟩ : QU)))) := by
  refine callsV_mono (bload_V (k := k) (N := N) hS p.L 0 (by show ¬ QPh.lk = QPh.fin; simp) (fun b u' => (b = true ∧ ∃ u₁, (quX p).Lk u₁ ∧ u' = (quX p).put u₁ .own ∧ u₁ = (⟨.ul, .pre, ix⟩ : QU)) ∨ (b = false ∧ u' = (⟨.c1, .own, ix⟩ : QU))) (fun w₁ σ hF hr hp => ?_) hF) (fun N' u' v w' ⟨h1, h2, b, h3, h4⟩ => ⟨by omega, h2, b, h3, h4⟩)
  obtain ⟨hL, hr2⟩ := hr
  have hev : ∀ e ∈ (#[⟨.cell ⟨p.L, 0, none⟩, false, true⟩] : Array Event), EvV (quC p) k ((quX p).put (⟨.lk, .pre, ix⟩ : QU) .own) e := by
    intro e he
    simp at he
    subst he
    exact ev_flag false (fun e => by cases e)
  have hc : w₁.cell? ⟨p.L, 0, none⟩ = some (.int .u32 (bQ (QS.done σ))) := by simp [World.cell?, hL, lazO]
  refine ⟨fun hb => (by cases hb.2.1), bQ (QS.done σ), ?_⟩
  cases hd : QS.done σ with
  | true =>
    rw [hd] at hc
    refine ⟨(quX p).put (⟨.ul, .pre, ix⟩ : QU) .own, σ, hc, ⟨QT.look2 (u := (⟨.lk, .own, ix⟩ : QU)) rfl rfl hd, ⟨hL, hr2⟩, OnlySB.refl _ _, hev, rfl, ⟨fun l hl => hl, fun l hl => .inl hl, fun l hl => .inr (.inr ⟨⟨hd, hl.2⟩, rfl, rfl⟩)⟩, ?_⟩, fun _ hb => hb, (.inl ⟨rfl, (⟨.ul, .pre, ix⟩ : QU), rfl, rfl, rfl⟩)⟩
    rintro l (⟨h1, rfl⟩ | ⟨h1, rfl⟩)
    · exact .inr (.inl (.inr ⟨_, rfl⟩))
    · cases h1
  | false =>
    rw [hd] at hc
    refine ⟨(⟨.c1, .own, ix⟩ : QU), ({ (σ : QS) with cl := true } : QS), hc, ⟨QT.claim (u := (⟨.lk, .own, ix⟩ : QU)) rfl rfl hd, ⟨hL, hr2⟩, OnlySB.refl _ _, hev, rfl, ⟨fun l hl => hl, fun l hl => .inl hl, fun l hl => by cases hl.1⟩, ?_⟩, fun _ hb => hb, .inr ⟨rfl, rfl⟩⟩
    rintro l (⟨h1, rfl⟩ | ⟨h1, rfl⟩)
    · exact .inr (.inl (.inr ⟨_, rfl⟩))
    · exact .inr (.inl (.inl rfl))
/-- 'done' is set: the value is published -/
theorem qsd_V {F : World → Prop} (h : p.Ok) (hS : Stays (quC p) C F) (hF : F w) :
    CallsV Try.prog (quC p) k C 25 #[.pointer (some ⟨p.L, 0, none⟩), .bool true] 1000 N (⟨.c3, .own, ix⟩ : QU) w
      (fun N' u' v w' => N' ≤ N ∧ F w' ∧ ∃ u₁, (quX p).Lk u₁ ∧ u' = (quX p).put u₁ .own ∧ u₁ = (⟨.ul, .pre, ix⟩ : QU)) := by
  refine callsV_mono (bstore_V (k := k) (N := N) (quC_ok h) hS p.L 0 (by show ¬ QPh.c3 = QPh.fin; simp) (fun u' => ∃ u₁, (quX p).Lk u₁ ∧ u' = (quX p).put u₁ .own ∧ u₁ = (⟨.ul, .pre, ix⟩ : QU)) (fun w₁ σ hF hr hp => ?_) hF) (fun N' u' v w' ⟨h1, h2, h3, h4⟩ => ⟨by omega, h2, h4⟩)
  have hr0 := hr
  obtain ⟨hL, hO, hsz⟩ := hr
  have hA := aside_setCell w₁ (⟨p.L, 0, none⟩ : Addr) (.int .u32 1)
  refine ⟨fun hb => (by cases hb.1), .int .u32 (bQ (QS.done σ)), (quX p).put (⟨.ul, .pre, ix⟩ : QU) .own, ({ (σ : QS) with done := true } : QS), by simp [World.cell?, hL, lazO], by simp [World.frozen?, hL, lazO],
    ⟨QT.sd (u := (⟨.c3, .own, ix⟩ : QU)) rfl, ⟨?_, (hA.block _ (Ne.symm h.ne)).trans hO, by rw [hA.size]; exact hsz⟩, onlySB_set (quC_ok h) hr0 _ _ (.inl rfl), ?_, rfl, ⟨fun l hl => ⟨rfl, hl.2⟩, fun l hl => .inr ⟨.inr ⟨rfl, hl.2⟩, rfl, rfl⟩, fun l hl => .inr (.inl (.inr ⟨rfl, hl.2⟩))⟩, ?_⟩, fun _ hb => hb, (⟨.ul, .pre, ix⟩ : QU), rfl, rfl, rfl⟩
  · unfold lazO at hL ⊢
    rw [setCell_eq_setRow w₁ p.L 0 _ _ (0, 0) _ hL, setRow_heap w₁ p.L _ _ _ _ hL]
    simp [bQ]
  · intro e he
    simp at he
    subst he
    exact ev_flag true (fun _ => rfl)
  · rintro l (⟨h1, rfl⟩ | ⟨h1, rfl⟩)
    · exact .inr (.inl (.inr ⟨_, rfl⟩))
    · cases h1
/-- the run is counted -/
theorem qadd_V {F : World → Prop} (h : p.Ok) (hS : Stays (quC p) C F) (hF : F w) :
    CallsV Try.prog (quC p) k C 34 #[.pointer (some ⟨p.L, 4, none⟩), .int .i32 1] 60 N (⟨.c1, .own, ix⟩ : QU) w
      (fun N' u' v w' => N' ≤ N ∧ F w' ∧ u' = (⟨.c2, .own, ix⟩ : QU)) := by
  refine callsV_mono (iadd_V (k := k) (N := N) hS p.L 4 (by show ¬ QPh.c1 = QPh.fin; simp) (fun u' => u' = (⟨.c2, .own, ix⟩ : QU)) (fun w₁ σ hF hr hp => ?_) hF) (fun N' u' v w' ⟨h1, h2, h3⟩ => ⟨by omega, h2, h3⟩)
  have hr0 := hr
  obtain ⟨hL, hO, hsz⟩ := hr
  have hlf : QLf p.x (⟨.c1, .own, ix⟩ : QU) σ := hp.2.2.2.1
  have hw1 : QS.runs σ = 0 := hlf.2.2.2
  have hwr : IntKind.i32.wrap (((QS.runs σ : Nat) : Int) + 1) = ((QS.runs σ + 1 : Nat) : Int) := by rw [IntKind.wrap_i32]; omega
  have hA := aside_setCell w₁ (⟨p.L, 4, none⟩ : Addr) (.int .i32 (IntKind.i32.wrap (((QS.runs σ : Nat) : Int) + 1)))
  refine ⟨fun hb => (by cases hb.1), ((QS.runs σ : Nat) : Int), (⟨.c2, .own, ix⟩ : QU), ({ (σ : QS) with runs := QS.runs σ + 1 } : QS), by simp [World.cell?, hL, lazO], by simp [World.frozen?, hL, lazO],
    ⟨QT.add (u := (⟨.c1, .own, ix⟩ : QU)) rfl, ⟨?_, (hA.block _ (Ne.symm h.ne)).trans hO, by rw [hA.size]; exact hsz⟩, onlySB_set (quC_ok h) hr0 _ _ (.inl rfl), ?_, rfl, ⟨fun l hl => hl, fun l hl => .inl hl, fun l hl => by cases hl.1⟩, ?_⟩, fun _ hb => hb, rfl⟩
  · rw [hwr]
    unfold lazO at hL ⊢
    rw [setCell_eq_setRow w₁ p.L 4 _ _ (0, 0) _ hL, setRow_heap w₁ p.L _ _ _ _ hL]
    rfl
  · intro e he
    simp at he
    rcases he with rfl | rfl <;> exact evV_at _ ⟨_, rfl, .inl ⟨rfl, by show (4 : Nat) ≠ 3; decide, by show (4 : Nat) ≠ 5; decide⟩⟩ (fun e => by injection e with e1 e2; cases e2)
  · rintro l (⟨h1, rfl⟩ | ⟨h1, rfl⟩)
    · exact .inl (.inl ⟨by show QPh.c1 ≠ QPh.a0; simp, rfl⟩)
    · exact .inl (.inr ⟨rfl, rfl⟩)
end
end Go.Proofs.Ytinghnaigpenkaa

end
