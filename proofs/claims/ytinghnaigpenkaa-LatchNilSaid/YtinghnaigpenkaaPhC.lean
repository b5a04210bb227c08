/- A phase: every kind of step of another's lies within the relies; what holds of the machine at every moment. -/
import Derived.Test.YtinghnaigpenkaaPhB
namespace Go.Proofs.Ytinghnaigpenkaa
open Go.Conc
open Go.ConcN (CTag phi isOpen isW3 isFin pend WD Vc Ssum Fsum cnt OpenSt AllQuit Mode RelBy sumTo upd sumTo_upd upd_same upd_ne sumTo_congr sumTo_upd_out le_sumTo get_map_set get_map_set_same Deaf_still Deaf_absent RelBy.appNot)
open Go.ConcR (KK wgBlock WgAt stA smA rd wr mk Payload DC0 Bk g_of_ofEvents again_blocked bk_of_mute ofEvent_mk loc_of_ofEvent ofEvent_loc_mark ofEvent_cell)
set_option linter.unusedVariables false
set_option linter.unusedSimpArgs false
set_option linter.unusedSectionVars false
variable [Payload]

theorem Soft.lt {w : World} {b : Nat} (h : Soft w b) : b < w.heap.size := by
  obtain ⟨v, h⟩ := h
  exact (Array.getElem?_eq_some_iff.1 h).1
theorem Soft.of_same {w w' : World} {b : Nat} (e : w'.heap[b]? = w.heap[b]?) (h : Soft w b) : Soft w' b := by
  obtain ⟨v, h⟩ := h
  exact ⟨v, e.trans h⟩
theorem Live.hard {ty Wg : Nat} {w : World} (h : Live ty Wg w) : ¬ Soft w Wg := by
  rintro ⟨v, hv⟩
  obtain ⟨st, sm, h⟩ := h
  unfold WgAt wgBlock at h
  rw [h] at hv
  simp at hv
theorem Live.lt {ty Wg : Nat} {w : World} (h : Live ty Wg w) : Wg < w.heap.size := by
  obtain ⟨st, sm, h⟩ := h
  exact (Array.getElem?_eq_some_iff.1 h).1
theorem Live.of_same {ty Wg : Nat} {w w' : World} (h : Live ty Wg w) (e : w'.heap[Wg]? = w.heap[Wg]?) : Live ty Wg w' := by
  obtain ⟨st, sm, h⟩ := h
  exact ⟨st, sm, e.trans h⟩
theorem env_at (w : World) (d : Nat) : Env w (w.at d) := ⟨rfl, rfl, rfl⟩

section
variable {c : Cfg} {lw C : Nat} {w w₁ w₂ : World}
theorem R0.refl (w : World) : R0 c lw w w := ⟨.refl w, Nat.le_refl _, fun _ _ _ _ _ => rfl, fun _ _ h => h, id, id⟩
theorem R0.at (K : c.Ok) (w : World) (d : Nat) : R0 c lw w (w.at d) := ⟨env_at w d, Nat.le_refl _, fun _ _ _ _ _ => rfl, fun _ _ h => h, fun ⟨σ, h⟩ => ⟨σ, K.rep_same σ w _ h (fun _ _ => rfl)⟩, id⟩
theorem R0.trans (h : R0 c lw w w₁) (k : R0 c lw w₁ w₂) : R0 c lw w w₂ :=
  ⟨h.env.trans k.env, Nat.le_trans h.size k.size, fun b h1 h2 h3 h4 => (k.same b (Nat.lt_of_lt_of_le h1 h.size) h2 h3 (h4.imp id (Or.imp (h.hard b h1) id))).trans (h.same b h1 h2 h3 h4),
    fun b h1 h2 => k.hard b (Nat.lt_of_lt_of_le h1 h.size) (h.hard b h1 h2), k.rep ∘ h.rep, k.live ∘ h.live⟩
theorem RW.refl (w : World) : RW c C w w := ⟨.refl w, Nat.le_refl _, fun _ _ _ _ _ => rfl, fun _ _ h => h, id, id⟩
theorem RW.trans (h : RW c C w w₁) (k : RW c C w₁ w₂) : RW c C w w₂ :=
  ⟨h.env.trans k.env, Nat.le_trans h.size k.size, fun b h1 h2 h3 h4 => (k.same b (Nat.lt_of_lt_of_le h1 h.size) h2 h3 (h4.imp id (Or.imp (h.hard b h1) id))).trans (h.same b h1 h2 h3 h4),
    fun b h1 h2 => k.hard b (Nat.lt_of_lt_of_le h1 h.size) (h.hard b h1 h2), k.rep ∘ h.rep, k.live ∘ h.live⟩
end

/-- what any step but a draw does, in the words that both relies want: 'X': the boxes that it may turn -/
structure Turn (c : Cfg) (X : Nat → Prop) (w w₁ : World) : Prop where
  env : Env w w₁
  size : w.heap.size ≤ w₁.heap.size
  same : ∀ b, b < w.heap.size → ¬ c.SB b → b ≠ c.Wg → ¬ X b → w₁.heap[b]? = w.heap[b]?
  box : ∀ b, X b → Soft w b ∧ Soft w₁ b
  hi : ∀ b, X b → c.H0 ≤ b
  new : ∀ b, Soft w b → Soft w₁ b
  hard : ∀ b, b < w.heap.size → ¬ Soft w b → ¬ Soft w₁ b
  rep : (∃ σ, c.Rep σ w) → ∃ σ, c.Rep σ w₁
  live : Live c.ty c.Wg w → Live c.ty c.Wg w₁
section
variable {c : Cfg} {X : Nat → Prop} {lw C : Nat} {w w₁ : World}
theorem Turn.r0 (h : Turn c X w w₁) (hX : ∀ b, X b → b < lw) : R0 c lw w w₁ :=
  ⟨h.env, h.size, fun b h1 h2 h3 h4 => h.same b h1 h2 h3 (fun hx => by rcases h4 with h4 | h4 | h4; exact absurd (hX b hx) (by omega); exact h4 (h.box b hx).1; exact absurd (h.hi b hx) (by omega)), h.hard, h.rep, h.live⟩
theorem Turn.rw (h : Turn c X w w₁) (hX : ¬ X C) : RW c C w w₁ :=
  ⟨h.env, h.size, fun b h1 h2 h3 h4 => h.same b h1 h2 h3 (fun hx => by rcases h4 with rfl | h4 | h4; exact hX hx; exact h4 (h.box b hx).1; exact absurd (h.hi b hx) (by omega)), h.hard, h.rep, h.live⟩
theorem Turn.of_at (K : c.Ok) (w : World) (d : Nat) : Turn c (fun _ => False) w (w.at d) :=
  ⟨env_at w d, Nat.le_refl _, fun _ _ _ _ _ => rfl, fun _ h => h.elim, fun _ h => h.elim, fun _ h => h, fun _ _ h => h, fun ⟨σ, h⟩ => ⟨σ, K.rep_same σ w _ h (fun _ _ => rfl)⟩, id⟩
end
theorem rep_at {c : Cfg} (K : c.Ok) {σ : c.S} {w : World} (h : c.Rep σ w) (d : Nat) : c.Rep σ (w.at d) := K.rep_same σ w _ h (fun _ _ => rfl)

section
variable {c : Cfg} {lw C : Nat} {w w₁ : World} {es : Array Event}
theorem Turn.dw (K : c.Ok) (h : DW c C w w₁ es) : Turn c (fun _ => False) w w₁ :=
  ⟨h.env, h.size, fun b h1 _ _ _ => h.old b h1, fun _ h => h.elim, fun _ h => h.elim, fun b hs => hs.of_same (h.old b hs.lt), fun b h1 hn hs => hn (hs.of_same (h.old b h1).symm),
    fun ⟨σ, hr⟩ => ⟨σ, K.rep_same σ w w₁ hr (fun b hb => h.old b (K.sb_lt σ w b hr hb))⟩, fun hl => hl.of_same (h.old _ hl.lt)⟩
theorem Turn.d0 (K : c.Ok) (h : D0 c lw w w₁ es) : Turn c (fun b => lw ≤ b ∧ Soft w b ∧ c.H0 ≤ b) w w₁ :=
  ⟨h.env, h.size, fun b h1 _ _ hx => h.old b h1 (by by_cases hb : b < lw; exact .inl hb; by_cases h0 : b < c.H0; exact .inr (.inr h0); exact .inr (.inl (fun hs => hx ⟨by omega, hs, by omega⟩))), fun b hb => ⟨hb.2.1, h.soft b hb.2.1⟩, fun b hb => hb.2.2, h.soft,
    fun b h1 hn hs => hn (hs.of_same (h.old b h1 (.inr (.inl hn))).symm), fun ⟨σ, hr⟩ => ⟨σ, K.rep_same σ w w₁ hr (fun b hb => h.old b (K.sb_lt σ w b hr hb) (.inr (.inl (K.sb_hard σ w b hr hb))))⟩,
    fun hl => hl.of_same (h.old _ hl.lt (.inr (.inl hl.hard)))⟩
theorem Turn.wg (K : c.Ok) (h : Aside c.Wg w w₁) (hl0 : Live c.ty c.Wg w) (hl : Live c.ty c.Wg w₁) : Turn c (fun _ => False) w w₁ := by
  have hb : ∀ b, b ≠ c.Wg → w₁.heap[b]? = w.heap[b]? := h.block
  refine ⟨⟨h.tape, h.os, h.output⟩, Nat.le_of_eq h.size.symm, fun b _ _ h3 _ => hb b h3, fun _ h => h.elim, fun _ h => h.elim, fun b hs => ?_, fun b _ hn hs => ?_, fun ⟨σ, hr⟩ => ⟨σ, K.rep_same σ w w₁ hr (fun b hs => hb b (fun e => K.sbWg (e ▸ hs)))⟩, fun _ => hl⟩
  · have : b ≠ c.Wg := fun e => hl0.hard (e ▸ hs)
    exact hs.of_same (hb b this)
  · have : b ≠ c.Wg := fun e => hl.hard (e ▸ hs)
    exact hn (hs.of_same (hb b this).symm)
theorem Turn.sb (K : c.Ok) {σ : c.S} {σ' : c.S} (h0 : c.Rep σ w) (h : OnlySB c w w₁) (hr : c.Rep σ' w₁) : Turn c (fun _ => False) w w₁ := by
  refine ⟨h.env, Nat.le_of_eq h.size.symm, fun b _ h2 _ _ => h.old b h2, fun _ h => h.elim, fun _ h => h.elim, fun b hs => ?_, fun b _ hn hs => ?_, fun _ => ⟨σ', hr⟩, fun hl => hl.of_same (h.old _ K.sbWg)⟩
  · exact hs.of_same (h.old b (fun hb => K.sb_hard σ w b h0 hb hs))
  · exact hn (hs.of_same (h.old b (fun hb => K.sb_hard σ' w₁ b hr hb hs)).symm)
/-- a worker's own way into Done may turn its box -/
theorem Turn.cell (K : c.Ok) (h : ConcN.AsideCell C 1 0 w w₁) (hs : Soft w C) (h0 : c.H0 ≤ C) (hr : ∃ σ, c.Rep σ w) (hl : Live c.ty c.Wg w) : Turn c (fun b => b = C) w w₁ := by
  have hb : ∀ b, b ≠ C → w₁.heap[b]? = w.heap[b]? := h.block
  have hC : Soft w₁ C := by
    obtain ⟨v, hv⟩ := hs
    obtain ⟨cs, h1, h2⟩ := h.pay ⟨#[v], hv, rfl⟩
    obtain ⟨x, rfl⟩ : ∃ x, cs = #[x] := by
      obtain ⟨l⟩ := cs
      match l, h2 with
      | [x], _ => exact ⟨x, rfl⟩
    exact ⟨x, h1⟩
  obtain ⟨σ, hr⟩ := hr
  have hSB : ∀ b, c.SB b → b ≠ C := fun b hb e => K.sb_hard σ w b hr hb (e ▸ hs)
  have hW : c.Wg ≠ C := fun e => hl.hard (e ▸ hs)
  refine ⟨⟨h.tape, h.os, h.output⟩, Nat.le_of_eq h.size.symm, fun b _ _ _ hx => hb b hx, fun b e => ⟨e ▸ hs, e ▸ hC⟩, fun b e => e ▸ h0, fun b hsb => ?_, fun b _ hn hsb => ?_, fun _ => ⟨σ, K.rep_same σ w w₁ hr (fun b hs => hb b (hSB b hs))⟩, fun _ => hl.of_same (hb _ hW)⟩
  · by_cases e : b = C
    · subst e; exact hC
    · exact hsb.of_same (hb b e)
  · by_cases e : b = C
    · subst e; exact hn hs
    · exact hn (hsb.of_same (hb b e).symm)
/-- the library's own rely, out of ours -/
theorem RW.lib (K : c.Ok) (h : RW c C w w₁) (hs : Soft w C) (hr : ∃ σ, c.Rep σ w) (hl : Live c.ty c.Wg w) : ConcN.RW c.ty c.Wg C 1 0 0 w w₁ := by
  obtain ⟨σ, hr⟩ := hr
  have e := h.same C hs.lt (fun hb => K.sb_hard σ w C hr hb hs) (fun e => hl.hard (e ▸ hs)) (.inl rfl)
  exact ⟨fun b hb => absurd hb (Nat.not_lt_zero _), fun ⟨st, sm, _⟩ => h.live hl, fun ⟨cs, h1, h2⟩ => ⟨cs, e.trans h1, h2⟩, ConcN.cell_of_block e 0⟩
end

/-! ### who stands where -/
structure WX (U : Type) where
  C : Nat
  u : U
  N : Nat
  wk : Bool
section
variable (P : Program) (c : Cfg)
inductive WS (k C : Nat) (u : c.U) (N : Nat) : Bool → Nat → Nat → Nat → Goroutine → World → Prop
  | work {m : Nat} {g : Goroutine} {w : World} : Goes P false (RW c C) (DW c C) (StopU P c k C (RunU P c k C N) u) m g w → WS k C u N true 7 m 0 g w
  | sit {s m d : Nat} {v : Value} {g : Goroutine} {w : World} : c.fin u → ConcN.WSit P c.ty c.Wg C 1 E0 E0 0 1 v s m d g w → WS k C u N false s m d g w

/-- the places that the workers may read: whatever no box is, and each its own box -/
def famOf (w : World) (Cs : Nat → Nat) : Fam where
  sh := c.sh
  own := c.own
  rd := fun k l => ∃ a, l = .cell a ∧ ¬ c.sh l ∧ (∀ k', ¬ c.own k' l) ∧ (a.block < c.H0 ∨ (a.block = Cs (k - c.N0) ∧ c.N0 ≤ k) ∨ (c.H0 ≤ a.block ∧ a.block < w.heap.size ∧ ¬ Soft w a.block))
  box := fun l => ∃ a, l = .cell a ∧ Soft w a.block

/-- what others had done ahead of the phase is handed over -/
def Over (T0 : Nat) (t : Trace) : Prop := ∀ i g, i < T0 → t.g? i = some g → g ≠ 0 → t.counts i → ∃ j', t.g? j' = some 0 ∧ HappensBefore t i j'
structure Com (Shun : Loc → Prop) (T0 j lw : Nat) (gs : Array Goroutine) (w : World) (t : Trace) (D : Nat → WD) (X : Nat → WX c.U) (σ : c.S) (q : Nat → Nat) (d0 : Nat) : Prop where
  size : gs.size = c.N0 + j
  wk : ∀ i, i < j → ∃ g, gs[c.N0 + i]? = some g ∧ WS P c (c.N0 + i) (X i).C (X i).u (X i).N (X i).wk (D i).stage (D i).fuel (D i).deaf g w
  old : ∀ i g, 0 < i → i < c.N0 → gs[i]? = some g → QuitsD P (q i) (Deaf t i) g
  pt : PT (famOf c w (fun i => (X i).C)) Shun c.N0 T0 t j
  norel : ∀ i, T0 ≤ i → t.act? i ≠ some (.mark (.release (stA c.Wg)))
  deaf0 : Deaf t 0 = d0
  deafW : ∀ i, i < j → Deaf t (c.N0 + i) = (D i).deaf
  rel : ∀ i, i < j → (D i).stage ≤ 6 → ∃ r, RelBy (stA c.Wg) t (c.N0 + i) r
  box : ∀ i, i < j → Soft w (X i).C ∧ (X i).C < lw ∧ c.H0 ≤ (X i).C
  inj : ∀ i i', i < j → i' < j → (X i).C = (X i').C → i = i'
  fuel : ∀ i, i < j → (X i).wk = true → c.mu σ (fun i => (X i).u) j ≤ (X i).N
  rep : c.Rep σ w
  ju : c.JU σ (fun i => (X i).u) j
  h0 : c.H0 ≤ w.heap.size
  lwle : lw ≤ w.heap.size
  over : Over T0 t
end

theorem apart_fam {c : Cfg} (K : c.Ok) (w : World) (Cs : Nat → Nat) : (famOf c w Cs).Apart :=
  ⟨K.own_one, fun k k' l ho hr => by obtain ⟨a, _, _, h, _⟩ := hr; exact h k ho, K.own_sh, fun k l hr => by obtain ⟨a, _, h, _⟩ := hr; exact h, K.own_mem, fun k l hr => by obtain ⟨a, rfl, _⟩ := hr; rfl⟩

/-- the families where the world goes on -/
theorem PT.turn {c : Cfg} {X : Nat → Prop} {Shun : Loc → Prop} {T0 j : Nat} {t : Trace} {w w₁ : World} {Cs : Nat → Nat} (h : PT (famOf c w Cs) Shun c.N0 T0 t j) (hT : Turn c X w w₁) (h0 : c.H0 ≤ w.heap.size) : PT (famOf c w₁ Cs) Shun c.N0 T0 t j := by
  refine h.extend rfl rfl (fun k _ l hl => ?_) (fun k hk l hl => ?_) (fun l ⟨a, e, hs⟩ => ⟨a, e, hT.new _ hs⟩)
  · obtain ⟨a, h1, h2, h3, h4⟩ := hl
    refine ⟨a, h1, h2, h3, ?_⟩
    rcases h4 with h4 | h4 | ⟨h4, h5, h6⟩
    · exact .inl h4
    · exact .inr (.inl h4)
    · exact .inr (.inr ⟨h4, Nat.lt_of_lt_of_le h5 hT.size, hT.hard _ h5 h6⟩)
  · obtain ⟨a, h1, h2, h3, h4⟩ := hl
    rcases h4 with h4 | h4 | ⟨h4, h5, h6⟩
    · exact .inl ⟨a, h1, h2, h3, .inl h4⟩
    · exact .inl ⟨a, h1, h2, h3, .inr (.inl h4)⟩
    · have hns : ¬ Soft w a.block := fun hs => h6 (hT.new _ hs)
      by_cases hlt : a.block < w.heap.size
      · exact .inl ⟨a, h1, h2, h3, .inr (.inr ⟨h4, hlt, hns⟩)⟩
      · refine .inr fun i b hb e hw => ?_
        have hm : b.loc.isMemory = true := by rw [e, h1]; rfl
        by_cases hi : i < T0
        · rcases h.base i b hi hb hm with ⟨hx, _⟩ | hx
          · exact absurd (h.shS _ hx) (by rw [e]; exact h2)
          · exact hx k hk
        · rcases h.wr i b (by omega) hb hm hw with hx | ⟨k', hx⟩ | ⟨a', ha', hx⟩
          · exact absurd hx (by rw [e]; exact h2)
          · exact absurd hx (by rw [e]; exact h3 k')
          · rw [e, h1] at ha'
            injection ha' with ha'
            subst ha'
            exact absurd hx hns

theorem Over.app {T0 : Nat} {t : Trace} (h : Over T0 t) (hs : T0 ≤ t.size) (u : Trace) : Over T0 (t ++ u) := fun i g hi hg hne hc => by
  have hlt : i < t.size := Nat.lt_of_lt_of_le hi hs
  obtain ⟨j', h1, h2⟩ := h i g hi (by rw [← hg]; exact (g?_old hlt).symm) hne ((counts_old hlt).1 hc)
  exact ⟨j', g?_app_old h1, hb_app u h2⟩
end Go.Proofs.Ytinghnaigpenkaa
