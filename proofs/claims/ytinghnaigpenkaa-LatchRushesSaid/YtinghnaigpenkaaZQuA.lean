/- Seat 05: many get a value that is made once: who stands where, what holds always, it ends. -/
import Derived.Test.YtinghnaigpenkaaZMxC
namespace Go.Proofs.Ytinghnaigpenkaa
open Go.ConcN (sumTo upd sumTo_upd sumTo_upd_out upd_same upd_ne sumTo_congr le_sumTo)
set_option linter.unusedVariables false
set_option linter.unusedSimpArgs false

inductive QPh where
  | a0 | lk | c1 | c2 | c3 | ul | e0 | w0 | fin
  deriving DecidableEq
structure QU where
  ph : QPh
  mu : MU
  ix : Nat
structure QS where
  mx : MS
  done : Bool
  runs : Nat
  v : Int
  cl : Bool
  tk : Nat → Bool
  o : Nat → Int
def QPh.cph : QPh → Bool
  | .c1 | .c2 | .c3 => true
  | _ => false
def QPh.lock : QPh → Bool
  | .lk | .ul => true
  | _ => false
/-- the value may be read -/
def QPh.rd : QPh → Bool
  | .ul | .e0 | .w0 | .fin => true
  | _ => false
def QPh.rank : QPh → Nat
  | .a0 => 9 | .lk => 8 | .c1 => 7 | .c2 => 6 | .c3 => 5 | .ul => 4 | .e0 => 4 | .w0 => 2 | .fin => 0
inductive QT (x : Int) : QU → QS → QU → QS → Prop
  | mx {u σ m' s'} : u.ph.lock = true → MStep u.mu σ.mx m' s' → QT x u σ { u with mu := m' } { σ with mx := s' }
  | look1 {u σ} : u.ph = .a0 → QT x u σ { u with ph := if σ.done then .e0 else .lk } { σ with tk := fun i => if i = u.ix then true else σ.tk i }
  | look2 {u σ} : u.ph = .lk → u.mu = .own → σ.done = true → QT x u σ { u with ph := .ul } σ
  | claim {u σ} : u.ph = .lk → u.mu = .own → σ.done = false → QT x u σ { u with ph := .c1 } { σ with cl := true }
  | add {u σ} : u.ph = .c1 → QT x u σ { u with ph := .c2 } { σ with runs := σ.runs + 1 }
  | sv {u σ} : u.ph = .c2 → QT x u σ { u with ph := .c3 } { σ with v := x }
  | sd {u σ} : u.ph = .c3 → QT x u σ { u with ph := .ul } { σ with done := true }
  | ld {u σ} : (u.ph = .e0 ∨ (u.ph = .ul ∧ u.mu = .out)) → QT x u σ { u with ph := .w0 } σ
  | st {u σ} : u.ph = .w0 → QT x u σ { u with ph := .fin } { σ with o := fun i => if i = u.ix then x else σ.o i }
/-- it is made -/
def QD (x : Int) (σ : QS) : Prop := σ.done = true ∧ σ.cl = true ∧ σ.v = x ∧ σ.runs = 1
/-- what holds of one -/
def QLf (x : Int) (u : QU) (σ : QS) : Prop :=
  match u.ph with
  | .a0 => u.mu = .pre
  | .lk => True
  | .c1 => u.mu = .own ∧ σ.cl = true ∧ σ.done = false ∧ σ.runs = 0
  | .c2 => u.mu = .own ∧ σ.cl = true ∧ σ.done = false ∧ σ.runs = 1
  | .c3 => u.mu = .own ∧ σ.cl = true ∧ σ.done = false ∧ σ.runs = 1 ∧ σ.v = x
  | .ul => QD x σ
  | .e0 => u.mu = .pre ∧ QD x σ
  | .w0 => (u.mu = .pre ∨ u.mu = .out) ∧ QD x σ
  | .fin => (u.mu = .pre ∨ u.mu = .out) ∧ QD x σ ∧ σ.o u.ix = x
structure QJ (x : Int) (σ : QS) (us : Nat → QU) (j : Nat) : Prop where
  mx : MInv j (fun i => (us i).mu) σ.mx
  lf : ∀ i, i < j → QLf x (us i) σ
  ix : ∀ i, i < j → (us i).ix = i
  tk : ∀ i, i < j → (us i).ph ≠ .a0 → σ.tk i = true
  cl1 : σ.cl = true → σ.done = true ∨ ∃ i, i < j ∧ (us i).ph.cph = true
  dn1 : σ.done = true → 0 < j
  n2 : σ.cl = false → σ.runs = 0 ∧ σ.done = false
  d1 : σ.done = true → QD x σ
  tk0 : ∀ i, σ.tk i = true → i < j ∧ (us i).ph ≠ .a0
theorem holdQ {ms : Nat → MU} {m : MS} {i i' j : Nat} (h : MInv j ms m) (hi : i < j) (hi' : i' < j) (h1 : ms i = .own) (h2 : ms i' = .own) : i = i' := by
  refine Classical.byContradiction fun hne => ?_
  have e := sumTo_upd ms (MU.out) (fun u => u.hold) hi
  have l := le_sumTo (f := fun a => (upd ms i MU.out a).hold) hi'
  simp only [upd_ne _ _ (Ne.symm hne), h2] at l
  simp only [h1] at e
  have hh := h.1.hold
  have : (if m.w.L = true then 1 else 0) ≤ 1 := by split <;> omega
  simp only [MU.hold] at e l hh
  omega
section
variable {x : Int} {σ σ' : QS} {us : Nat → QU} {j i : Nat} {u u' : QU}
theorem qmu_upd : (fun a => (upd us i u' a).mu) = upd (fun a => (us a).mu) i u'.mu := by
  funext a
  by_cases h : a = i
  · subst h; rw [upd_same, upd_same]
  · rw [upd_ne _ _ h, upd_ne _ _ h]
theorem qmu_same (e : u'.mu = (us i).mu) : (fun a => (upd us i u' a).mu) = fun a => (us a).mu := by
  funext a
  by_cases h : a = i
  · subst h; rw [upd_same, e]
  · rw [upd_ne _ _ h]
theorem minvQ {m : MS} (h : MInv j (fun i => (us i).mu) m) (e : u'.mu = (us i).mu) : MInv j (fun a => (upd us i u' a).mu) m := by rw [qmu_same e]; exact h
theorem qall {P : Nat → QU → Prop} (h1 : ∀ a, a < j → a ≠ i → P a (us a)) (h2 : P i u') : ∀ a, a < j → P a (upd us i u' a) := fun a ha => by
  by_cases e : a = i
  · subst e; rw [upd_same]; exact h2
  · rw [upd_ne _ _ e]; exact h1 a ha e
theorem qex (hi : i < j) (h : ∃ a, a < j ∧ (us a).ph.cph = true) (h2 : (us i).ph.cph = true → u'.ph.cph = true) : ∃ a, a < j ∧ (upd us i u' a).ph.cph = true := by
  obtain ⟨a, ha, hp⟩ := h
  by_cases e : a = i
  · subst e; exact ⟨a, ha, by rw [upd_same]; exact h2 hp⟩
  · exact ⟨a, ha, by rw [upd_ne _ _ e]; exact hp⟩
theorem qtk (hi : i < j) (h : ∀ a, σ.tk a = true → a < j ∧ (us a).ph ≠ .a0) (h2 : u'.ph ≠ .a0) : ∀ a, σ.tk a = true → a < j ∧ (upd us i u' a).ph ≠ .a0 := fun a ha => by
  by_cases e : a = i
  · subst e; exact ⟨hi, by rw [upd_same]; exact h2⟩
  · rw [upd_ne _ _ e]; exact h a ha
theorem qlf_free (h : QLf x u σ) (hp : u.ph = .a0 ∨ u.ph = .lk) : QLf x u σ' := by
  rcases hp with e | e <;> simp only [QLf, e] at h ⊢ <;> exact h
/-- where one holds the lock and nothing is made, the others stand ahead of it -/
theorem qoth (h : QJ x σ us j) (hi : i < j) (hm : (us i).mu = .own) (hd : σ.done = false) : ∀ a, a < j → a ≠ i → (us a).ph = .a0 ∨ (us a).ph = .lk := fun a ha hne => by
  have hl := h.lf a ha
  have own : (us a).mu = .own → False := fun e => hne (holdQ h.mx ha hi e hm)
  cases hp : (us a).ph <;> simp only [QLf, hp] at hl
  · exact .inl rfl
  · exact .inr rfl
  · exact (own hl.1).elim
  · exact (own hl.1).elim
  · exact (own hl.1).elim
  · have := hl.1; rw [hd] at this; cases this
  · have := hl.2.1; rw [hd] at this; cases this
  · have := hl.2.1; rw [hd] at this; cases this
  · have := hl.2.1.1; rw [hd] at this; cases this
theorem qj_step (h : QJ x σ us j) (hi : i < j) (hs : QT x (us i) σ u' σ') : QJ x σ' (upd us i u') j := by
  have hl := h.lf i hi
  generalize hu : us i = u at hs hl
  cases hs with
  | @mx m' s' hk hm =>
    rw [← hu] at hm hk hl ⊢
    refine ⟨by rw [qmu_upd]; exact minv_step h.mx hi hm, qall (P := fun _ u => QLf x u _) (fun a ha _ => h.lf a ha) ?_, qall (P := fun a u => u.ix = a) (fun a ha _ => h.ix a ha) (h.ix i hi), qall (P := fun a u => u.ph ≠ .a0 → σ.tk a = true) (fun a ha _ => h.tk a ha) (h.tk i hi),
      fun hc => (h.cl1 hc).imp id fun hx => qex hi hx id, h.dn1, h.n2, h.d1, qtk hi h.tk0 (fun e => by rw [show (us i).ph = QPh.a0 from e] at hk; cases hk)⟩
    cases hp : (us i).ph <;> rw [hp] at hk <;> simp only [QPh.lock, Bool.false_eq_true] at hk <;> simp only [QLf, hp] at hl ⊢ <;> exact hl
  | look1 hp =>
    subst hu
    simp only [QLf, hp] at hl
    have hix := h.ix i hi
    refine ⟨minvQ h.mx rfl, qall (P := fun _ u => QLf x u _) (fun a ha _ => h.lf a ha) ?_, qall (P := fun a u => u.ix = a) (fun a ha _ => h.ix a ha) hix, qall (P := fun a u => u.ph ≠ .a0 → (if a = (us i).ix then true else σ.tk a) = true) (fun a ha _ h0 => by rw [h.tk a ha h0]; simp) (fun _ => by rw [hix]; simp),
      fun hc => (h.cl1 hc).imp id fun hx => qex hi hx (fun e => by rw [hp] at e; cases e), h.dn1, h.n2, h.d1, fun a ha => ?_⟩
    rotate_left
    · by_cases e : a = i
      · subst e; exact ⟨hi, by rw [upd_same]; show (if σ.done = true then QPh.e0 else QPh.lk) ≠ .a0; split <;> simp⟩
      · rw [upd_ne _ _ e]
        refine h.tk0 a ?_
        have ha : (if a = (us i).ix then true else σ.tk a) = true := ha
        rwa [if_neg (by rw [hix]; exact e)] at ha
    by_cases hd : σ.done = true
    · simp only [QLf, hd, if_true]
      exact ⟨hl, rfl, (h.d1 hd).2⟩
    · simp only [QLf, hd, if_false, Bool.false_eq_true]
  | look2 hp hm hd =>
    subst hu
    exact ⟨minvQ h.mx rfl, qall (P := fun _ u => QLf x u _) (fun a ha _ => h.lf a ha) (h.d1 hd), qall (P := fun a u => u.ix = a) (fun a ha _ => h.ix a ha) (h.ix i hi), qall (P := fun a u => u.ph ≠ .a0 → σ.tk a = true) (fun a ha _ => h.tk a ha) (fun _ => h.tk i hi (by rw [hp]; simp)),
      fun hc => (h.cl1 hc).imp id fun hx => qex hi hx (fun e => by rw [hp] at e; cases e), h.dn1, h.n2, h.d1, qtk hi h.tk0 (by simp)⟩
  | claim hp hm hd =>
    subst hu
    have ho := qoth h hi hm hd
    have hcl : σ.cl = false := by
      cases hc : σ.cl with
      | false => rfl
      | true =>
        rcases h.cl1 hc with h1 | ⟨a, ha, h1⟩
        · rw [hd] at h1; cases h1
        · by_cases e : a = i
          · subst e; rw [hp] at h1; cases h1
          · rcases ho a ha e with e | e <;> rw [e] at h1 <;> cases h1
    exact ⟨minvQ h.mx rfl, qall (P := fun _ u => QLf x u _) (fun a ha hne => qlf_free (h.lf a ha) (ho a ha hne)) ⟨hm, rfl, hd, (h.n2 hcl).1⟩, qall (P := fun a u => u.ix = a) (fun a ha _ => h.ix a ha) (h.ix i hi), qall (P := fun a u => u.ph ≠ .a0 → σ.tk a = true) (fun a ha _ => h.tk a ha) (fun _ => h.tk i hi (by rw [hp]; simp)),
      fun _ => .inr ⟨i, hi, by rw [upd_same]; rfl⟩, h.dn1, fun e => (by cases e), fun e => (by rw [hd] at e; cases e), qtk hi h.tk0 (by simp)⟩
  | add hp =>
    subst hu
    simp only [QLf, hp] at hl
    have ho := qoth h hi hl.1 hl.2.2.1
    exact ⟨minvQ h.mx rfl, qall (P := fun _ u => QLf x u _) (fun a ha hne => qlf_free (h.lf a ha) (ho a ha hne)) ⟨hl.1, hl.2.1, hl.2.2.1, by simp [hl.2.2.2]⟩, qall (P := fun a u => u.ix = a) (fun a ha _ => h.ix a ha) (h.ix i hi), qall (P := fun a u => u.ph ≠ .a0 → σ.tk a = true) (fun a ha _ => h.tk a ha) (fun _ => h.tk i hi (by rw [hp]; simp)),
      fun _ => .inr ⟨i, hi, by rw [upd_same]; rfl⟩, h.dn1, fun e => (by rw [hl.2.1] at e; cases e), fun e => (by rw [hl.2.2.1] at e; cases e), qtk hi h.tk0 (by simp)⟩
  | sv hp =>
    subst hu
    simp only [QLf, hp] at hl
    have ho := qoth h hi hl.1 hl.2.2.1
    exact ⟨minvQ h.mx rfl, qall (P := fun _ u => QLf x u _) (fun a ha hne => qlf_free (h.lf a ha) (ho a ha hne)) ⟨hl.1, hl.2.1, hl.2.2.1, hl.2.2.2, rfl⟩, qall (P := fun a u => u.ix = a) (fun a ha _ => h.ix a ha) (h.ix i hi), qall (P := fun a u => u.ph ≠ .a0 → σ.tk a = true) (fun a ha _ => h.tk a ha) (fun _ => h.tk i hi (by rw [hp]; simp)),
      fun _ => .inr ⟨i, hi, by rw [upd_same]; rfl⟩, h.dn1, h.n2, fun e => (by rw [hl.2.2.1] at e; cases e), qtk hi h.tk0 (by simp)⟩
  | sd hp =>
    subst hu
    simp only [QLf, hp] at hl
    have ho := qoth h hi hl.1 hl.2.2.1
    exact ⟨minvQ h.mx rfl, qall (P := fun _ u => QLf x u _) (fun a ha hne => qlf_free (h.lf a ha) (ho a ha hne)) ⟨rfl, hl.2.1, hl.2.2.2.2, hl.2.2.2.1⟩, qall (P := fun a u => u.ix = a) (fun a ha _ => h.ix a ha) (h.ix i hi), qall (P := fun a u => u.ph ≠ .a0 → σ.tk a = true) (fun a ha _ => h.tk a ha) (fun _ => h.tk i hi (by rw [hp]; simp)),
      fun _ => .inl rfl, fun _ => (by omega), fun e => (by rw [hl.2.1] at e; cases e), fun _ => ⟨rfl, hl.2.1, hl.2.2.2.2, hl.2.2.2.1⟩, qtk hi h.tk0 (by simp)⟩
  | ld hp =>
    subst hu
    have hd : ((us i).mu = .pre ∨ (us i).mu = .out) ∧ QD x σ ∧ (us i).ph ≠ .a0 ∧ (us i).ph.cph = false := by
      rcases hp with hp | ⟨hp, hm⟩
      · simp only [QLf, hp] at hl; exact ⟨.inl hl.1, hl.2, by rw [hp]; simp, by rw [hp]; rfl⟩
      · simp only [QLf, hp] at hl; exact ⟨.inr hm, hl, by rw [hp]; simp, by rw [hp]; rfl⟩
    exact ⟨minvQ h.mx rfl, qall (P := fun _ u => QLf x u _) (fun a ha _ => h.lf a ha) ⟨hd.1, hd.2.1⟩, qall (P := fun a u => u.ix = a) (fun a ha _ => h.ix a ha) (h.ix i hi), qall (P := fun a u => u.ph ≠ .a0 → σ.tk a = true) (fun a ha _ => h.tk a ha) (fun _ => h.tk i hi hd.2.2.1),
      fun hc => (h.cl1 hc).imp id fun hx => qex hi hx (fun e => by rw [hd.2.2.2] at e; cases e), h.dn1, h.n2, h.d1, qtk hi h.tk0 (by simp)⟩
  | st hp =>
    subst hu
    simp only [QLf, hp] at hl
    have hix := h.ix i hi
    refine ⟨minvQ h.mx rfl, qall (P := fun _ u => QLf x u _) (fun a ha hne => ?_) ⟨hl.1, hl.2, by simp⟩, qall (P := fun a u => u.ix = a) (fun a ha _ => h.ix a ha) hix, qall (P := fun a u => u.ph ≠ .a0 → σ.tk a = true) (fun a ha _ => h.tk a ha) (fun _ => h.tk i hi (by rw [hp]; simp)),
      fun hc => (h.cl1 hc).imp id fun hx => qex hi hx (fun e => by rw [hp] at e; cases e), h.dn1, h.n2, h.d1, qtk hi h.tk0 (by simp)⟩
    have h1 := h.lf a ha
    have h2 := h.ix a ha
    cases hq : (us a).ph <;> simp only [QLf, hq] at h1 ⊢ <;> first | exact h1 | exact ⟨h1.1, h1.2.1, by rw [if_neg (by rw [h2, hix]; exact hne)]; exact h1.2.2⟩
theorem qj_spawn (h : QJ x σ us j) : QJ x σ (upd us j ⟨.a0, .pre, j⟩) (j + 1) := by
  have old : ∀ {P : Nat → QU → Prop}, (∀ a, a < j → P a (us a)) → P j ⟨.a0, .pre, j⟩ → ∀ a, a < j + 1 → P a (upd us j ⟨.a0, .pre, j⟩ a) := fun h1 h2 => qall (fun a ha hne => h1 a (by omega)) h2
  exact ⟨by rw [qmu_upd]; exact minv_spawn h.mx, old (P := fun _ u => QLf x u σ) h.lf rfl, old (P := fun a u => u.ix = a) h.ix rfl, old (P := fun a u => u.ph ≠ .a0 → σ.tk a = true) h.tk (fun e => absurd rfl e),
    fun hc => (h.cl1 hc).imp id fun ⟨a, ha, hp⟩ => ⟨a, by omega, by rw [upd_ne _ _ (by omega)]; exact hp⟩, fun _ => by omega, h.n2, h.d1, fun a ha => (by have := h.tk0 a ha; exact ⟨by omega, by rw [upd_ne _ _ (by omega)]; exact this.2⟩)⟩
theorem qj_none (mx0 : MInv 0 (fun i => (us i).mu) σ.mx) (hc : σ.cl = false) (hd : σ.done = false) (hr : σ.runs = 0) (ht : ∀ i, σ.tk i = false) : QJ x σ us 0 :=
  ⟨mx0, fun i hi => by omega, fun i hi => by omega, fun i hi => by omega, fun e => (by rw [hc] at e; cases e), fun e => (by rw [hd] at e; cases e), fun _ => ⟨hr, hd⟩, fun e => (by rw [hd] at e; cases e), fun i e => (by rw [ht i] at e; cases e)⟩
theorem qcph (h : QLf x u σ) (hc : u.ph.cph = true) : u.mu = .own ∧ σ.cl = true ∧ σ.done = false := by
  cases hp : u.ph <;> rw [hp] at hc <;> simp only [QPh.cph, Bool.false_eq_true] at hc <;> simp only [QLf, hp] at h <;> exact ⟨h.1, h.2.1, h.2.2.1⟩
theorem qrd (h : QLf x u σ) (hc : u.ph.rd = true) : QD x σ := by
  cases hp : u.ph <;> rw [hp] at hc <;> simp only [QPh.rd, Bool.false_eq_true] at hc <;> simp only [QLf, hp] at h
  · exact h
  · exact h.2
  · exact h.2
  · exact h.2.1
theorem qclaim_cl (h : QJ x σ us j) (hi : i < j) (hp : (us i).ph = .lk) (hm : (us i).mu = .own) (hd : σ.done = false) : σ.cl = false := by
  cases hc : σ.cl with
  | false => rfl
  | true =>
    rcases h.cl1 hc with h1 | ⟨a, ha, h1⟩
    · rw [hd] at h1; cases h1
    · by_cases e : a = i
      · subst e; rw [hp] at h1; cases h1
      · rcases qoth h hi hm hd a ha e with e | e <;> rw [e] at h1 <;> cases h1
/-- where all have ended -/
theorem qj_end (h : QJ x σ us j) (hf : ∀ i, i < j → (us i).ph = .fin) : (σ.runs = if j = 0 then 0 else 1) ∧ ∀ i, i < j → σ.o i = x := by
  refine ⟨?_, fun i hi => ?_⟩
  · by_cases hj : j = 0
    · rw [if_pos hj]
      cases hc : σ.cl with
      | false => exact (h.n2 hc).1
      | true =>
        rcases h.cl1 hc with h1 | ⟨a, ha, _⟩
        · have := h.dn1 h1; omega
        · omega
    · rw [if_neg hj]
      have := h.lf 0 (by omega)
      simp only [QLf, hf 0 (by omega)] at this
      exact this.2.1.2.2.2
  · have := h.lf i hi
    simp only [QLf, hf i hi] at this
    rw [h.ix i hi] at this
    exact this.2.2
/-! ### it ends -/
def qmu (n : Nat) (σ : QS) (us : Nat → QU) (j : Nat) : Nat := mmu n σ.mx (fun i => (us i).mu) j + sumTo j (fun i => (us i).ph.rank) + (n - j) * 9
theorem qmu_step {n : Nat} (hj : j ≤ n) (hi : i < j) (hs : QT x (us i) σ u' σ') : qmu n σ' (upd us i u') j < qmu n σ us j := by
  have e1 := sumTo_upd us u' (fun u => u.ph.rank) hi
  unfold qmu
  have client : ∀ {u'' : QU} {s : QS}, u''.mu = (us i).mu → s.mx = σ.mx → u''.ph.rank < (us i).ph.rank → mmu n s.mx (fun a => (upd us i u'' a).mu) j + sumTo j (fun a => (upd us i u'' a).ph.rank) + (n - j) * 9 < mmu n σ.mx (fun i => (us i).mu) j + sumTo j (fun i => (us i).ph.rank) + (n - j) * 9 := by
    intro u'' s hm hx hr
    have e2 := sumTo_upd us u'' (fun u => u.ph.rank) hi
    rw [qmu_same hm, hx]
    omega
  generalize hu : us i = u at hs
  cases hs with
  | @mx m' s' hk hm =>
    rw [← hu] at hm
    have := mmu_step (n := n) (us := fun i => (us i).mu) hj hi hm
    subst hu
    rw [qmu_upd]
    show mmu n s' (upd (fun a => (us a).mu) i m') j + _ + _ < _
    have er : ({ us i with mu := m' } : QU).ph.rank = (us i).ph.rank := rfl
    rw [er] at e1
    omega
  | look1 hp => subst hu; exact client rfl rfl (by rw [hp]; cases σ.done <;> simp [QPh.rank])
  | look2 hp _ _ => subst hu; exact client rfl rfl (by rw [hp]; simp [QPh.rank])
  | claim hp _ _ => subst hu; exact client rfl rfl (by rw [hp]; simp [QPh.rank])
  | add hp => subst hu; exact client rfl rfl (by rw [hp]; simp [QPh.rank])
  | sv hp => subst hu; exact client rfl rfl (by rw [hp]; simp [QPh.rank])
  | sd hp => subst hu; exact client rfl rfl (by rw [hp]; simp [QPh.rank])
  | ld hp => subst hu; exact client rfl rfl (by rcases hp with hp | ⟨hp, _⟩ <;> rw [hp] <;> simp [QPh.rank])
  | st hp => subst hu; exact client rfl rfl (by rw [hp]; simp [QPh.rank])
theorem qmu_spawn {n : Nat} (hj : j < n) : qmu n σ (upd us j ⟨.a0, .pre, j⟩) (j + 1) ≤ qmu n σ us j := by
  have h1 := mmu_spawn (n := n) (us := fun i => (us i).mu) (m := σ.mx) hj
  have e : n - j = (n - (j + 1)) + 1 := by omega
  have e2 : sumTo (j + 1) (fun a => (upd us j ⟨.a0, .pre, j⟩ a).ph.rank) = sumTo j (fun a => (us a).ph.rank) + 9 := by
    simp only [sumTo, upd_same]
    rw [sumTo_upd_out us ⟨.a0, .pre, j⟩ (fun u => u.ph.rank) (Nat.le_refl j)]
    rfl
  unfold qmu
  rw [qmu_upd, e2, e, Nat.add_mul]
  show mmu n σ.mx (upd (fun a => (us a).mu) j MU.pre) (j + 1) + _ + _ ≤ _
  omega
/-- somebody can go on -/
theorem qj_live (h : QJ x σ us j) (hx : ∃ i, i < j ∧ (us i).ph ≠ .fin) : ∃ i, i < j ∧ (us i).ph ≠ .fin ∧ ¬ ((us i).ph.lock = true ∧ (us i).mu = .q ∧ σ.mx.sm = 0) := by
  obtain ⟨i, hi, hf⟩ := hx
  by_cases hb : (us i).ph.lock = true ∧ (us i).mu = .q ∧ σ.mx.sm = 0
  · obtain ⟨i', hi', hbusy⟩ := mx_live h.mx hi hb.2.1 hb.2.2
    refine ⟨i', hi', fun e => ?_, fun e => hbusy.1 e.2.1⟩
    have := h.lf i' hi'
    simp only [QLf, e] at this
    rcases this.1 with e1 | e1
    · exact hbusy.2.1 e1
    · exact hbusy.2.2.2.2.2 e1
  · exact ⟨i, hi, hf, hb⟩
end
end Go.Proofs.Ytinghnaigpenkaa
