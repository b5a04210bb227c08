/- Seat 05: many set a latch at once: who stands where, what holds always, it ends. -/
import Derived.Test.YtinghnaigpenkaaZMxC
namespace Go.Proofs.Ytinghnaigpenkaa
open Go.ConcN (sumTo upd sumTo_upd sumTo_upd_out upd_same upd_ne sumTo_congr le_sumTo)
set_option linter.unusedVariables false
set_option linter.unusedSimpArgs false

inductive RPh where
  | a0 | a1 | d0 | lk | c1 | c2 | c3 | c4 | ul | e0 | w0 | fin
  deriving DecidableEq
structure RU where
  ph : RPh
  mu : MU
  fb : Nat
  own : Bool
  val : Int
structure RS where
  mx : MS
  done : Bool
  set : Bool
  v : Int
  won : Nat
  fl : Nat → Option Bool
  cl : Bool
/-- the block 'first' holds true -/
def RPh.past : RPh → Bool
  | .c3 | .c4 | .ul | .e0 | .w0 | .fin => true
  | _ => false
def RPh.cph : RPh → Bool
  | .c1 | .c2 | .c3 | .c4 => true
  | _ => false
def RPh.lock : RPh → Bool
  | .lk | .ul => true
  | _ => false
def RPh.rank : RPh → Nat
  | .a0 => 12 | .a1 => 11 | .d0 => 10 | .lk => 9 | .c1 => 8 | .c2 => 7 | .c3 => 6 | .c4 => 5 | .ul => 4 | .e0 => 3 | .w0 => 2 | .fin => 0
inductive RT : RU → RS → RU → RS → Prop
  | mx {u σ m' s'} : u.ph.lock = true → MStep u.mu σ.mx m' s' → RT u σ { u with mu := m' } { σ with mx := s' }
  | alloc {u σ b} : u.ph = .a0 → σ.fl b = none → RT u σ { u with ph := .a1, fb := b } { σ with fl := fun x => if x = b then some false else σ.fl x }
  | clr {u σ} : u.ph = .a1 → RT u σ { u with ph := .d0 } σ
  | look1 {u σ} : u.ph = .d0 → RT u σ { u with ph := if σ.done then .e0 else .lk } σ
  | look2 {u σ} : u.ph = .lk → u.mu = .own → σ.done = true → RT u σ { u with ph := .ul } σ
  | claim {u σ} : u.ph = .lk → u.mu = .own → σ.done = false → RT u σ { u with ph := .c1, own := true } { σ with cl := true }
  | sv {u σ} : u.ph = .c1 → RT u σ { u with ph := .c2 } { σ with v := u.val }
  | sf {u σ} : u.ph = .c2 → RT u σ { u with ph := .c3 } { σ with fl := fun x => if x = u.fb then some true else σ.fl x }
  | ss {u σ} : u.ph = .c3 → RT u σ { u with ph := .c4 } { σ with set := true }
  | sd {u σ} : u.ph = .c4 → RT u σ { u with ph := .ul } { σ with done := true }
  | ld {u σ} : (u.ph = .e0 ∨ (u.ph = .ul ∧ u.mu = .out)) → RT u σ { u with ph := if u.own then .w0 else .fin } σ
  | add {u σ} : u.ph = .w0 → RT u σ { u with ph := .fin } { σ with won := σ.won + 1 }
/-- what holds of one -/
def RLf (u : RU) (σ : RS) : Prop :=
  match u.ph with
  | .a0 | .a1 | .d0 => u.mu = .pre ∧ u.own = false
  | .lk => u.own = false
  | .c1 => u.mu = .own ∧ u.own = true
  | .c2 | .c3 => u.mu = .own ∧ u.own = true ∧ σ.v = u.val
  | .c4 => u.mu = .own ∧ u.own = true ∧ σ.v = u.val ∧ σ.set = true
  | .ul => σ.done = true
  | .e0 => u.own = false ∧ u.mu = .pre ∧ σ.done = true
  | .w0 => u.own = true ∧ u.mu = .out ∧ σ.done = true
  | .fin => (u.mu = .pre ∨ u.mu = .out) ∧ σ.done = true
structure RJ (vals : Nat → Int) (b0 : Bool) (v0 : Int) (σ : RS) (us : Nat → RU) (j : Nat) : Prop where
  mx : MInv j (fun i => (us i).mu) σ.mx
  lf : ∀ i, i < j → RLf (us i) σ
  val : ∀ i, i < j → (us i).val = vals i
  fl : ∀ i, i < j → (us i).ph ≠ .a0 → σ.fl (us i).fb = some ((us i).own && (us i).ph.past)
  inj : ∀ i i', i < j → i' < j → (us i).ph ≠ .a0 → (us i').ph ≠ .a0 → (us i).fb = (us i').fb → i = i'
  one : ∀ i i', i < j → i' < j → (us i).own = true → (us i').own = true → i = i'
  cl1 : σ.cl = true → σ.done = true ∨ ∃ i, i < j ∧ (us i).ph.cph = true
  cl2 : (σ.done = true ∨ ∃ i, i < j ∧ (us i).ph.cph = true) → σ.cl = true
  cl3 : σ.done = true → ∀ i, i < j → (us i).ph.cph = false
  own : ∀ i, i < j → (us i).own = true → σ.cl = true
  b1 : b0 = true → σ.done = true ∧ σ.set = true ∧ σ.v = v0 ∧ ∀ i, i < j → (us i).own = false
  n1 : b0 = false → σ.done = true → σ.set = true ∧ ∃ i, i < j ∧ (us i).own = true ∧ σ.v = (us i).val
  n2 : b0 = false → σ.cl = false → σ.set = false ∧ σ.v = 0
  w1 : σ.won ≠ 0 → σ.won = 1 ∧ ∃ i, i < j ∧ (us i).own = true ∧ (us i).ph = .fin
  w2 : ∀ i, i < j → (us i).own = true → (us i).ph = .fin → σ.won = 1
section
variable {vals : Nat → Int} {b0 : Bool} {v0 : Int} {σ σ' : RS} {us : Nat → RU} {j i : Nat} {u' : RU}
theorem rlf_cph {u : RU} {σ : RS} (h : RLf u σ) (hc : u.ph.cph = true) : u.mu = .own ∧ u.own = true := by
  unfold RLf at h
  unfold RPh.cph at hc
  cases hp : u.ph <;> simp only [hp] at h hc <;> first | exact ⟨h.1, h.2⟩ | exact ⟨h.1, h.2.1⟩ | cases hc
/-- one alone holds the lock -/
theorem hold_one (h : MInv j (fun i => (us i).mu) σ.mx) {i i' : Nat} (hi : i < j) (hi' : i' < j) (h1 : (us i).mu = .own) (h2 : (us i').mu = .own) : i = i' := by
  refine Classical.byContradiction fun hne => ?_
  have e := sumTo_upd us ({ us i with mu := .out } : RU) (fun u => u.mu.hold) hi
  have l := le_sumTo (f := fun a => (upd us i { us i with mu := .out } a).mu.hold) hi'
  simp only [upd_ne _ _ (Ne.symm hne), h2] at l
  simp only [h1] at e
  have hh := h.1.hold
  have : (if σ.mx.w.L = true then 1 else 0) ≤ 1 := by split <;> omega
  simp only [MU.hold] at e l hh
  omega
theorem mu_same (e : u'.mu = (us i).mu) : (fun a => (upd us i u' a).mu) = fun a => (us a).mu := by
  funext a
  by_cases h : a = i
  · subst h; rw [upd_same, e]
  · rw [upd_ne _ _ h]
theorem mu_upd : (fun a => (upd us i u' a).mu) = upd (fun a => (us a).mu) i u'.mu := by
  funext a
  by_cases h : a = i
  · subst h; rw [upd_same, upd_same]
  · rw [upd_ne _ _ h, upd_ne _ _ h]
theorem minv_same {m : MS} (h : MInv j (fun i => (us i).mu) m) (e : u'.mu = (us i).mu) : MInv j (fun a => (upd us i u' a).mu) m := by rw [mu_same e]; exact h
theorem all_upd {us : Nat → RU} {u' : RU} {i j : Nat} {P : Nat → RU → Prop} (h1 : ∀ a, a < j → a ≠ i → P a (us a)) (h2 : P i u') : ∀ a, a < j → P a (upd us i u' a) := fun a ha => by
  by_cases e : a = i
  · subst e; rw [upd_same]; exact h2
  · rw [upd_ne _ _ e]; exact h1 a ha e
theorem ex_upd {us : Nat → RU} {u' : RU} {i j : Nat} {P : RU → Prop} (hi : i < j) (h : ∃ a, a < j ∧ P (us a)) (h2 : P (us i) → P u') : ∃ a, a < j ∧ P (upd us i u' a) := by
  obtain ⟨a, ha, hp⟩ := h
  by_cases e : a = i
  · subst e; exact ⟨a, ha, by rw [upd_same]; exact h2 hp⟩
  · exact ⟨a, ha, by rw [upd_ne _ _ e]; exact hp⟩
theorem ex_inv {us : Nat → RU} {u' : RU} {i j : Nat} {P : RU → Prop} (h : ∃ a, a < j ∧ P (upd us i u' a)) (h2 : P u' → P (us i)) (hi : i < j) : ∃ a, a < j ∧ P (us a) := by
  obtain ⟨a, ha, hp⟩ := h
  by_cases e : a = i
  · subst e; rw [upd_same] at hp; exact ⟨a, ha, h2 hp⟩
  · rw [upd_ne _ _ e] at hp; exact ⟨a, ha, hp⟩
theorem two_upd {us : Nat → RU} {u' : RU} {i j : Nat} {R : Nat → RU → Nat → RU → Prop} (h1 : ∀ a b, a < j → b < j → a ≠ i → b ≠ i → R a (us a) b (us b)) (h2 : ∀ a, a < j → a ≠ i → R a (us a) i u' ∧ R i u' a (us a)) (h3 : R i u' i u') : ∀ a b, a < j → b < j → R a (upd us i u' a) b (upd us i u' b) := fun a b ha hb => by
  by_cases e1 : a = i <;> by_cases e2 : b = i
  · subst e1; subst e2; rw [upd_same]; exact h3
  · subst e1; rw [upd_same, upd_ne _ _ e2]; exact (h2 b hb e2).2
  · subst e2; rw [upd_same, upd_ne _ _ e1]; exact (h2 a ha e1).1
  · rw [upd_ne _ _ e1, upd_ne _ _ e2]; exact h1 a b ha hb e1 e2
/-- only the phase turns, and whether it is a winner; whose phase is none of those that hold what is claimed -/
theorem rj_phase (h : RJ vals b0 v0 σ us j) (hi : i < j) {p : RPh} (h0 : (us i).ph ≠ .a0) (hp : p ≠ .a0) (hc : (us i).ph.cph = p.cph) (hpast : ((us i).own && p.past) = ((us i).own && (us i).ph.past)) (hf : (us i).ph ≠ .fin) (hfin : p = .fin → (us i).own = false) (hlf : RLf { us i with ph := p } σ) :
    RJ vals b0 v0 σ (upd us i { us i with ph := p }) j where
  mx := minv_same h.mx rfl
  lf := all_upd (P := fun _ u => RLf u σ) (fun a ha _ => h.lf a ha) hlf
  val := all_upd (P := fun a u => u.val = vals a) (fun a ha _ => h.val a ha) (h.val i hi)
  fl := all_upd (P := fun _ u => u.ph ≠ .a0 → σ.fl u.fb = some (u.own && u.ph.past)) (fun a ha _ => h.fl a ha) (fun _ => by rw [h.fl i hi h0]; exact congrArg some hpast.symm)
  inj := two_upd (R := fun a u b v => u.ph ≠ .a0 → v.ph ≠ .a0 → u.fb = v.fb → a = b) (fun a b ha hb _ _ => h.inj a b ha hb) (fun a ha _ => ⟨fun h1 _ e => h.inj a i ha hi h1 h0 e, fun _ h1 e => h.inj i a hi ha h0 h1 e⟩) (fun _ _ _ => rfl)
  one := two_upd (R := fun a u b v => u.own = true → v.own = true → a = b) (fun a b ha hb _ _ => h.one a b ha hb) (fun a ha _ => ⟨fun h1 h2 => h.one a i ha hi h1 h2, fun h1 h2 => h.one i a hi ha h1 h2⟩) (fun _ _ => rfl)
  cl1 := fun hcl => (h.cl1 hcl).imp id fun hx => ex_upd (P := fun u => u.ph.cph = true) hi hx (fun x => by rw [← hc]; exact x)
  cl2 := fun hx => h.cl2 (hx.imp id fun hx => ex_inv (P := fun u => u.ph.cph = true) hx (fun x => by rw [hc]; exact x) hi)
  cl3 := fun hd => all_upd (P := fun _ u => u.ph.cph = false) (fun a ha _ => h.cl3 hd a ha) (by rw [← hc]; exact h.cl3 hd i hi)
  own := all_upd (P := fun _ u => u.own = true → σ.cl = true) (fun a ha _ => h.own a ha) (h.own i hi)
  b1 := fun hb => ⟨(h.b1 hb).1, (h.b1 hb).2.1, (h.b1 hb).2.2.1, all_upd (P := fun _ u => u.own = false) (fun a ha _ => (h.b1 hb).2.2.2 a ha) ((h.b1 hb).2.2.2 i hi)⟩
  n1 := fun hb hd => ⟨(h.n1 hb hd).1, ex_upd (P := fun u => u.own = true ∧ σ.v = u.val) hi (h.n1 hb hd).2 id⟩
  n2 := h.n2
  w1 := fun hw => ⟨(h.w1 hw).1, ex_upd (P := fun u => u.own = true ∧ u.ph = .fin) hi (h.w1 hw).2 (fun x => absurd x.2 hf)⟩
  w2 := all_upd (P := fun _ u => u.own = true → u.ph = .fin → σ.won = 1) (fun a ha _ => h.w2 a ha) (fun h1 h2 => by rw [hfin h2] at h1; cases h1)
set_option maxHeartbeats 1000000 in
theorem rj_step (h : RJ vals b0 v0 σ us j) (hi : i < j) (hs : RT (us i) σ u' σ') : RJ vals b0 v0 σ' (upd us i u') j := by
  have hl := h.lf i hi
  -- those that hold what is claimed hold the lock
  have cl1u : ∀ a, a < j → (us a).ph.cph = true → (us a).mu = .own := fun a ha hc => (rlf_cph (h.lf a ha) hc).1
  generalize hu : us i = u at hs hl
  cases hs with
  | @mx m' s' hk hm =>
    rw [← hu] at hm hk ⊢
    rw [← hu] at hl
    have h0 : (us i).ph ≠ .a0 := fun e => by rw [e] at hk; cases hk
    refine ⟨by rw [mu_upd]; exact minv_step h.mx hi hm, all_upd (P := fun _ u => RLf u _) (fun a ha _ => h.lf a ha) ?_, all_upd (P := fun a u => u.val = vals a) (fun a ha _ => h.val a ha) (h.val i hi),
      all_upd (P := fun _ u => u.ph ≠ .a0 → σ.fl u.fb = some (u.own && u.ph.past)) (fun a ha _ => h.fl a ha) (h.fl i hi),
      two_upd (R := fun a u b v => u.ph ≠ .a0 → v.ph ≠ .a0 → u.fb = v.fb → a = b) (fun a b ha hb _ _ => h.inj a b ha hb) (fun a ha _ => ⟨fun h1 h2 e => h.inj a i ha hi h1 h2 e, fun h2 h1 e => h.inj i a hi ha h2 h1 e⟩) (fun _ _ _ => rfl),
      two_upd (R := fun a u b v => u.own = true → v.own = true → a = b) (fun a b ha hb _ _ => h.one a b ha hb) (fun a ha _ => ⟨fun h1 h2 => h.one a i ha hi h1 h2, fun h1 h2 => h.one i a hi ha h1 h2⟩) (fun _ _ => rfl),
      fun hcl => (h.cl1 hcl).imp id fun hx => ex_upd (P := fun u => u.ph.cph = true) hi hx id, fun hx => h.cl2 (hx.imp id fun hx => ex_inv (u' := { us i with mu := m' }) (P := fun u => u.ph.cph = true) hx (fun x => x) hi),
      fun hd => all_upd (P := fun _ u => u.ph.cph = false) (fun a ha _ => h.cl3 hd a ha) (h.cl3 hd i hi), all_upd (P := fun _ u => u.own = true → σ.cl = true) (fun a ha _ => h.own a ha) (h.own i hi),
      fun hb => ⟨(h.b1 hb).1, (h.b1 hb).2.1, (h.b1 hb).2.2.1, all_upd (P := fun _ u => u.own = false) (fun a ha _ => (h.b1 hb).2.2.2 a ha) ((h.b1 hb).2.2.2 i hi)⟩,
      fun hb hd => ⟨(h.n1 hb hd).1, ex_upd (P := fun u => u.own = true ∧ σ.v = u.val) hi (h.n1 hb hd).2 id⟩, h.n2,
      fun hw => ⟨(h.w1 hw).1, ex_upd (P := fun u => u.own = true ∧ u.ph = .fin) hi (h.w1 hw).2 id⟩, all_upd (P := fun _ u => u.own = true → u.ph = .fin → σ.won = 1) (fun a ha _ => h.w2 a ha) (h.w2 i hi)⟩
    cases hp : (us i).ph <;> rw [hp] at hk <;> simp only [RPh.lock, Bool.false_eq_true] at hk <;> simp only [RLf, hp] at hl ⊢ <;> exact hl
  | @alloc b hp hb =>
    subst hu
    have hlf := hl
    simp only [RLf, hp] at hlf
    have hne : ∀ a, a < j → (us a).ph ≠ .a0 → (us a).fb ≠ b := fun a ha h0 e => by have := h.fl a ha h0; rw [e, hb] at this; cases this
    refine ⟨minv_same h.mx rfl, all_upd (P := fun _ u => RLf u _) (fun a ha _ => h.lf a ha) ?_, all_upd (P := fun a u => u.val = vals a) (fun a ha _ => h.val a ha) (h.val i hi),
      all_upd (P := fun _ u => u.ph ≠ .a0 → (if u.fb = b then some false else σ.fl u.fb) = some (u.own && u.ph.past)) (fun a ha _ h0 => by rw [if_neg (hne a ha h0)]; exact h.fl a ha h0) (fun _ => by rw [if_pos rfl]; simp [hlf.2]),
      two_upd (R := fun a u b v => u.ph ≠ .a0 → v.ph ≠ .a0 → u.fb = v.fb → a = b) (fun a b ha hb _ _ => h.inj a b ha hb) (fun a ha _ => ⟨fun h1 h2 e => absurd e (hne a ha h1), fun h2 h1 e => absurd e.symm (hne a ha h1)⟩) (fun _ _ _ => rfl),
      two_upd (R := fun a u b v => u.own = true → v.own = true → a = b) (fun a b ha hb _ _ => h.one a b ha hb) (fun a ha _ => ⟨fun h1 h2 => h.one a i ha hi h1 h2, fun h1 h2 => h.one i a hi ha h1 h2⟩) (fun _ _ => rfl),
      fun hcl => (h.cl1 hcl).imp id fun hx => ex_upd (P := fun u => u.ph.cph = true) hi hx (fun x => by rw [hp] at x; cases x), fun hx => h.cl2 (hx.imp id fun hx => ex_inv (P := fun u => u.ph.cph = true) hx (fun x => (by cases x)) hi),
      fun hd => all_upd (P := fun _ u => u.ph.cph = false) (fun a ha _ => h.cl3 hd a ha) rfl, all_upd (P := fun _ u => u.own = true → σ.cl = true) (fun a ha _ => h.own a ha) (h.own i hi),
      fun hb => ⟨(h.b1 hb).1, (h.b1 hb).2.1, (h.b1 hb).2.2.1, all_upd (P := fun _ u => u.own = false) (fun a ha _ => (h.b1 hb).2.2.2 a ha) ((h.b1 hb).2.2.2 i hi)⟩,
      fun hb hd => ⟨(h.n1 hb hd).1, ex_upd (P := fun u => u.own = true ∧ σ.v = u.val) hi (h.n1 hb hd).2 id⟩, h.n2,
      fun hw => ⟨(h.w1 hw).1, ex_upd (P := fun u => u.own = true ∧ u.ph = .fin) hi (h.w1 hw).2 (fun x => by rw [hp] at x; cases x.2)⟩, all_upd (P := fun _ u => u.own = true → u.ph = .fin → σ.won = 1) (fun a ha _ => h.w2 a ha) (fun _ e => by cases e)⟩
    simpa only [RLf] using hlf
  | clr hp =>
    subst hu
    simp only [RLf, hp] at hl
    exact rj_phase h hi (by rw [hp]; simp) (by simp) (by rw [hp]; rfl) (by rw [hp]; rfl) (by rw [hp]; simp) (by simp) (by simp only [RLf]; exact hl)
  | look1 hp =>
    subst hu
    simp only [RLf, hp] at hl
    cases hd : σ.done
    · exact rj_phase h hi (by rw [hp]; simp) (by simp) (by rw [hp]; rfl) (by rw [hp]; rfl) (by rw [hp]; simp) (by simp) (by simp [RLf, hl.2])
    · exact rj_phase h hi (by rw [hp]; simp) (by simp) (by rw [hp]; rfl) (by rw [hp, hl.2]; rfl) (by rw [hp]; simp) (by simp) (by simp [RLf, hl.1, hl.2, hd])
  | look2 hp hm hd =>
    subst hu
    simp only [RLf, hp] at hl
    exact rj_phase h hi (by rw [hp]; simp) (by simp) (by rw [hp]; rfl) (by rw [hp, hl]; rfl) (by rw [hp]; simp) (by simp) (by simp only [RLf]; exact hd)
  | claim hp hm hd =>
    subst hu
    simp only [RLf, hp] at hl
    have hno : ∀ a, a < j → (us a).ph.cph = false := fun a ha => by
      cases hc : (us a).ph.cph with
      | false => rfl
      | true =>
        have := hold_one h.mx hi ha hm (cl1u a ha hc)
        subst this
        rw [hp] at hc; cases hc
    have hcl : σ.cl = false := by
      cases hc : σ.cl with
      | false => rfl
      | true =>
        rcases h.cl1 hc with h1 | ⟨a, ha, h1⟩
        · rw [hd] at h1; cases h1
        · rw [hno a ha] at h1; cases h1
    have hown : ∀ a, a < j → (us a).own = false := fun a ha => by
      cases hc : (us a).own with
      | false => rfl
      | true => have := h.own a ha hc; rw [hcl] at this; cases this
    have hb0 : b0 = false := by
      cases hb : b0 with
      | false => rfl
      | true => have := (h.b1 hb).1; rw [hd] at this; cases this
    refine ⟨minv_same h.mx rfl, all_upd (P := fun _ u => RLf u _) (fun a ha _ => h.lf a ha) ⟨hm, rfl⟩, all_upd (P := fun a u => u.val = vals a) (fun a ha _ => h.val a ha) (h.val i hi),
      all_upd (P := fun _ u => u.ph ≠ .a0 → σ.fl u.fb = some (u.own && u.ph.past)) (fun a ha _ => h.fl a ha) (fun _ => by rw [h.fl i hi (by rw [hp]; simp), hp]; simp [RPh.past]),
      two_upd (R := fun a u b v => u.ph ≠ .a0 → v.ph ≠ .a0 → u.fb = v.fb → a = b) (fun a b ha hb _ _ => h.inj a b ha hb) (fun a ha _ => ⟨fun h1 _ e => h.inj a i ha hi h1 (by rw [hp]; simp) e, fun _ h1 e => h.inj i a hi ha (by rw [hp]; simp) h1 e⟩) (fun _ _ _ => rfl),
      two_upd (R := fun a u b v => u.own = true → v.own = true → a = b) (fun a b ha hb _ _ => h.one a b ha hb) (fun a ha _ => ⟨fun h1 h2 => (by rw [hown a ha] at h1; cases h1), fun h1 h2 => (by rw [hown a ha] at h2; cases h2)⟩) (fun _ _ => rfl),
      fun _ => .inr ⟨i, hi, by rw [upd_same]; rfl⟩, fun _ => rfl, fun hd' => (by rw [hd] at hd'; cases hd'), fun _ _ _ => rfl,
      fun hb => (by rw [hb0] at hb; cases hb), fun _ hd' => (by rw [hd] at hd'; cases hd'), fun _ hc => (by cases hc),
      fun hw => (by obtain ⟨_, a, ha, h1, _⟩ := h.w1 hw; rw [hown a ha] at h1; cases h1), all_upd (P := fun _ u => u.own = true → u.ph = .fin → σ.won = 1) (fun a ha _ => h.w2 a ha) (fun _ e => by cases e)⟩
  | sv hp =>
    subst hu
    simp only [RLf, hp] at hl
    have hoth : ∀ a, a < j → a ≠ i → (us a).ph.cph = false := fun a ha hne => by
      cases hc : (us a).ph.cph with
      | false => rfl
      | true => exact absurd (hold_one h.mx ha hi (cl1u a ha hc) hl.1) hne
    have hd : σ.done = false := by
      cases hd : σ.done with
      | false => rfl
      | true => have := h.cl3 hd i hi; rw [hp] at this; cases this
    have hcl : σ.cl = true := h.own i hi hl.2
    refine ⟨minv_same h.mx rfl, all_upd (P := fun _ u => RLf u _) (fun a ha hne => ?_) ⟨hl.1, hl.2, rfl⟩, all_upd (P := fun a u => u.val = vals a) (fun a ha _ => h.val a ha) (h.val i hi),
      all_upd (P := fun _ u => u.ph ≠ .a0 → σ.fl u.fb = some (u.own && u.ph.past)) (fun a ha _ => h.fl a ha) (fun _ => by rw [h.fl i hi (by rw [hp]; simp), hp]; simp [RPh.past]),
      two_upd (R := fun a u b v => u.ph ≠ .a0 → v.ph ≠ .a0 → u.fb = v.fb → a = b) (fun a b ha hb _ _ => h.inj a b ha hb) (fun a ha _ => ⟨fun h1 _ e => h.inj a i ha hi h1 (by rw [hp]; simp) e, fun _ h1 e => h.inj i a hi ha (by rw [hp]; simp) h1 e⟩) (fun _ _ _ => rfl),
      two_upd (R := fun a u b v => u.own = true → v.own = true → a = b) (fun a b ha hb _ _ => h.one a b ha hb) (fun a ha _ => ⟨fun h1 h2 => h.one a i ha hi h1 h2, fun h1 h2 => h.one i a hi ha h1 h2⟩) (fun _ _ => rfl),
      fun _ => .inr ⟨i, hi, by rw [upd_same]; rfl⟩, fun _ => hcl, fun hd' => (by rw [hd] at hd'; cases hd'), all_upd (P := fun _ u => u.own = true → σ.cl = true) (fun a ha _ => h.own a ha) (h.own i hi),
      fun hb => (by have := (h.b1 hb).1; rw [hd] at this; cases this), fun _ hd' => (by rw [hd] at hd'; cases hd'), fun _ hc => (by rw [hcl] at hc; cases hc),
      fun hw => ⟨(h.w1 hw).1, ex_upd (P := fun u => u.own = true ∧ u.ph = .fin) hi (h.w1 hw).2 (fun x => by rw [hp] at x; cases x.2)⟩, all_upd (P := fun _ u => u.own = true → u.ph = .fin → σ.won = 1) (fun a ha _ => h.w2 a ha) (fun _ e => by cases e)⟩
    have h1 := h.lf a ha
    have h2 := hoth a ha hne
    cases hp : (us a).ph <;> rw [hp] at h2 <;> simp only [RPh.cph, reduceCtorEq] at h2 <;> simp only [RLf, hp] at h1 ⊢ <;> exact h1
  | sf hp =>
    subst hu
    simp only [RLf, hp] at hl
    have h0 : (us i).ph ≠ .a0 := by rw [hp]; simp
    have hne : ∀ a, a < j → a ≠ i → (us a).ph ≠ .a0 → (us a).fb ≠ (us i).fb := fun a ha hn h1 e => hn (h.inj a i ha hi h1 h0 e)
    refine ⟨minv_same h.mx rfl, all_upd (P := fun _ u => RLf u _) (fun a ha _ => h.lf a ha) ⟨hl.1, hl.2.1, hl.2.2⟩, all_upd (P := fun a u => u.val = vals a) (fun a ha _ => h.val a ha) (h.val i hi),
      all_upd (P := fun _ u => u.ph ≠ .a0 → (if u.fb = (us i).fb then some true else σ.fl u.fb) = some (u.own && u.ph.past)) (fun a ha hn h1 => by rw [if_neg (hne a ha hn h1)]; exact h.fl a ha h1) (fun _ => by rw [if_pos rfl]; simp [hl.2.1, RPh.past]),
      two_upd (R := fun a u b v => u.ph ≠ .a0 → v.ph ≠ .a0 → u.fb = v.fb → a = b) (fun a b ha hb _ _ => h.inj a b ha hb) (fun a ha _ => ⟨fun h1 _ e => h.inj a i ha hi h1 h0 e, fun _ h1 e => h.inj i a hi ha h0 h1 e⟩) (fun _ _ _ => rfl),
      two_upd (R := fun a u b v => u.own = true → v.own = true → a = b) (fun a b ha hb _ _ => h.one a b ha hb) (fun a ha _ => ⟨fun h1 h2 => h.one a i ha hi h1 h2, fun h1 h2 => h.one i a hi ha h1 h2⟩) (fun _ _ => rfl),
      fun _ => .inr ⟨i, hi, by rw [upd_same]; rfl⟩, fun _ => h.own i hi hl.2.1, fun hd => all_upd (P := fun _ u => u.ph.cph = false) (fun a ha _ => h.cl3 hd a ha) (by have := h.cl3 hd i hi; rw [hp] at this; cases this), all_upd (P := fun _ u => u.own = true → σ.cl = true) (fun a ha _ => h.own a ha) (h.own i hi),
      fun hb => ⟨(h.b1 hb).1, (h.b1 hb).2.1, (h.b1 hb).2.2.1, all_upd (P := fun _ u => u.own = false) (fun a ha _ => (h.b1 hb).2.2.2 a ha) ((h.b1 hb).2.2.2 i hi)⟩,
      fun hb hd => ⟨(h.n1 hb hd).1, ex_upd (P := fun u => u.own = true ∧ σ.v = u.val) hi (h.n1 hb hd).2 id⟩, h.n2,
      fun hw => ⟨(h.w1 hw).1, ex_upd (P := fun u => u.own = true ∧ u.ph = .fin) hi (h.w1 hw).2 (fun x => by rw [hp] at x; cases x.2)⟩, all_upd (P := fun _ u => u.own = true → u.ph = .fin → σ.won = 1) (fun a ha _ => h.w2 a ha) (fun _ e => by cases e)⟩
  | ss hp =>
    subst hu
    simp only [RLf, hp] at hl
    have h0 : (us i).ph ≠ .a0 := by rw [hp]; simp
    have hcl := h.own i hi hl.2.1
    have hd : σ.done = false := by
      cases hd : σ.done with
      | false => rfl
      | true => have := h.cl3 hd i hi; rw [hp] at this; cases this
    refine ⟨minv_same h.mx rfl, all_upd (P := fun _ u => RLf u _) (fun a ha _ => ?_) ⟨hl.1, hl.2.1, hl.2.2, rfl⟩, all_upd (P := fun a u => u.val = vals a) (fun a ha _ => h.val a ha) (h.val i hi),
      all_upd (P := fun _ u => u.ph ≠ .a0 → σ.fl u.fb = some (u.own && u.ph.past)) (fun a ha _ => h.fl a ha) (fun _ => by rw [h.fl i hi h0, hp]; rfl),
      two_upd (R := fun a u b v => u.ph ≠ .a0 → v.ph ≠ .a0 → u.fb = v.fb → a = b) (fun a b ha hb _ _ => h.inj a b ha hb) (fun a ha _ => ⟨fun h1 _ e => h.inj a i ha hi h1 h0 e, fun _ h1 e => h.inj i a hi ha h0 h1 e⟩) (fun _ _ _ => rfl),
      two_upd (R := fun a u b v => u.own = true → v.own = true → a = b) (fun a b ha hb _ _ => h.one a b ha hb) (fun a ha _ => ⟨fun h1 h2 => h.one a i ha hi h1 h2, fun h1 h2 => h.one i a hi ha h1 h2⟩) (fun _ _ => rfl),
      fun _ => .inr ⟨i, hi, by rw [upd_same]; rfl⟩, fun _ => hcl, fun hd' => (by rw [hd] at hd'; cases hd'), all_upd (P := fun _ u => u.own = true → σ.cl = true) (fun a ha _ => h.own a ha) (h.own i hi),
      fun hb => (by have := (h.b1 hb).1; rw [hd] at this; cases this), fun _ hd' => (by rw [hd] at hd'; cases hd'), fun _ hc => (by rw [hcl] at hc; cases hc),
      fun hw => ⟨(h.w1 hw).1, ex_upd (P := fun u => u.own = true ∧ u.ph = .fin) hi (h.w1 hw).2 (fun x => by rw [hp] at x; cases x.2)⟩, all_upd (P := fun _ u => u.own = true → u.ph = .fin → σ.won = 1) (fun a ha _ => h.w2 a ha) (fun _ e => by cases e)⟩
    have h1 := h.lf a ha
    cases hp : (us a).ph <;> simp only [RLf, hp] at h1 ⊢ <;> first | exact h1 | exact ⟨h1.1, h1.2.1, h1.2.2.1, trivial⟩
  | sd hp =>
    subst hu
    simp only [RLf, hp] at hl
    have h0 : (us i).ph ≠ .a0 := by rw [hp]; simp
    have hcl := h.own i hi hl.2.1
    have hoth : ∀ a, a < j → a ≠ i → (us a).ph.cph = false := fun a ha hne => by
      cases hc : (us a).ph.cph with
      | false => rfl
      | true => exact absurd (hold_one h.mx ha hi (cl1u a ha hc) hl.1) hne
    have hb0 : b0 = false := by
      cases hb : b0 with
      | false => rfl
      | true => have := (h.b1 hb).2.2.2 i hi; rw [hl.2.1] at this; cases this
    refine ⟨minv_same h.mx rfl, all_upd (P := fun _ u => RLf u _) (fun a ha _ => ?_) rfl, all_upd (P := fun a u => u.val = vals a) (fun a ha _ => h.val a ha) (h.val i hi),
      all_upd (P := fun _ u => u.ph ≠ .a0 → σ.fl u.fb = some (u.own && u.ph.past)) (fun a ha _ => h.fl a ha) (fun _ => by rw [h.fl i hi h0, hp]; rfl),
      two_upd (R := fun a u b v => u.ph ≠ .a0 → v.ph ≠ .a0 → u.fb = v.fb → a = b) (fun a b ha hb _ _ => h.inj a b ha hb) (fun a ha _ => ⟨fun h1 _ e => h.inj a i ha hi h1 h0 e, fun _ h1 e => h.inj i a hi ha h0 h1 e⟩) (fun _ _ _ => rfl),
      two_upd (R := fun a u b v => u.own = true → v.own = true → a = b) (fun a b ha hb _ _ => h.one a b ha hb) (fun a ha _ => ⟨fun h1 h2 => h.one a i ha hi h1 h2, fun h1 h2 => h.one i a hi ha h1 h2⟩) (fun _ _ => rfl),
      fun _ => .inl rfl, fun _ => hcl, fun _ => all_upd (P := fun _ u => u.ph.cph = false) hoth rfl, all_upd (P := fun _ u => u.own = true → σ.cl = true) (fun a ha _ => h.own a ha) (h.own i hi),
      fun hb => (by rw [hb0] at hb; cases hb), fun _ _ => ⟨hl.2.2.2, i, hi, by rw [upd_same]; exact ⟨hl.2.1, hl.2.2.1⟩⟩, fun _ hc => (by rw [hcl] at hc; cases hc),
      fun hw => ⟨(h.w1 hw).1, ex_upd (P := fun u => u.own = true ∧ u.ph = .fin) hi (h.w1 hw).2 (fun x => by rw [hp] at x; cases x.2)⟩, all_upd (P := fun _ u => u.own = true → u.ph = .fin → σ.won = 1) (fun a ha _ => h.w2 a ha) (fun _ e => by cases e)⟩
    have h1 := h.lf a ha
    cases hp : (us a).ph <;> simp only [RLf, hp] at h1 ⊢ <;> first | exact h1 | exact ⟨h1.1, h1.2.1, trivial⟩ | exact ⟨h1.1, trivial⟩ | trivial
  | ld hp =>
    subst hu
    have hd : σ.done = true := by
      rcases hp with hp | ⟨hp, _⟩ <;> simp only [RLf, hp] at hl
      · exact hl.2.2
      · exact hl
    have hmu : (us i).mu = .pre ∨ (us i).mu = .out := by
      rcases hp with hp | ⟨hp, hm⟩
      · simp only [RLf, hp] at hl; exact .inl hl.2.1
      · exact .inr hm
    have h0 : (us i).ph ≠ .a0 ∧ (us i).ph ≠ .fin ∧ (us i).ph.cph = false ∧ (us i).ph.past = true := by rcases hp with hp | ⟨hp, _⟩ <;> rw [hp] <;> simp [RPh.cph, RPh.past]
    cases ho : (us i).own
    · refine (fun x => (by simpa only [ho, if_true, if_false, Bool.false_eq_true] using x)) (rj_phase (p := .fin) h hi h0.1 (by simp) (by rw [h0.2.2.1]; rfl) (by rw [h0.2.2.2]; rfl) h0.2.1 (fun _ => ho) (by simp only [RLf]; exact ⟨hmu, hd⟩))
    · refine (fun x => (by simpa only [ho, if_true, if_false, Bool.false_eq_true] using x)) (rj_phase (p := .w0) h hi h0.1 (by simp) (by rw [h0.2.2.1]; rfl) (by rw [h0.2.2.2]; rfl) h0.2.1 (by simp) (by
        simp only [RLf]
        refine ⟨ho, ?_, hd⟩
        rcases hp with hp | ⟨hp, hm⟩
        · simp only [RLf, hp] at hl; rw [hl.1] at ho; cases ho
        · exact hm))
  | add hp =>
    subst hu
    simp only [RLf, hp] at hl
    have h0 : (us i).ph ≠ .a0 := by rw [hp]; simp
    have hw0 : σ.won = 0 := by
      refine Classical.byContradiction fun hw => ?_
      obtain ⟨_, a, ha, h1, h2⟩ := h.w1 hw
      have := h.one a i ha hi h1 hl.1
      subst this
      rw [hp] at h2; cases h2
    refine ⟨minv_same h.mx rfl, all_upd (P := fun _ u => RLf u _) (fun a ha _ => h.lf a ha) ⟨.inr hl.2.1, hl.2.2⟩, all_upd (P := fun a u => u.val = vals a) (fun a ha _ => h.val a ha) (h.val i hi),
      all_upd (P := fun _ u => u.ph ≠ .a0 → σ.fl u.fb = some (u.own && u.ph.past)) (fun a ha _ => h.fl a ha) (fun _ => by rw [h.fl i hi h0, hp]; rfl),
      two_upd (R := fun a u b v => u.ph ≠ .a0 → v.ph ≠ .a0 → u.fb = v.fb → a = b) (fun a b ha hb _ _ => h.inj a b ha hb) (fun a ha _ => ⟨fun h1 _ e => h.inj a i ha hi h1 h0 e, fun _ h1 e => h.inj i a hi ha h0 h1 e⟩) (fun _ _ _ => rfl),
      two_upd (R := fun a u b v => u.own = true → v.own = true → a = b) (fun a b ha hb _ _ => h.one a b ha hb) (fun a ha _ => ⟨fun h1 h2 => h.one a i ha hi h1 h2, fun h1 h2 => h.one i a hi ha h1 h2⟩) (fun _ _ => rfl),
      fun hcl => (h.cl1 hcl).imp id fun hx => ex_upd (P := fun u => u.ph.cph = true) hi hx (fun x => by rw [hp] at x; cases x), fun hx => h.cl2 (hx.imp id fun hx => ex_inv (P := fun u => u.ph.cph = true) hx (fun x => (by cases x)) hi),
      fun hd => all_upd (P := fun _ u => u.ph.cph = false) (fun a ha _ => h.cl3 hd a ha) rfl, all_upd (P := fun _ u => u.own = true → σ.cl = true) (fun a ha _ => h.own a ha) (h.own i hi),
      fun hb => ⟨(h.b1 hb).1, (h.b1 hb).2.1, (h.b1 hb).2.2.1, all_upd (P := fun _ u => u.own = false) (fun a ha _ => (h.b1 hb).2.2.2 a ha) ((h.b1 hb).2.2.2 i hi)⟩,
      fun hb hd => ⟨(h.n1 hb hd).1, ex_upd (P := fun u => u.own = true ∧ σ.v = u.val) hi (h.n1 hb hd).2 id⟩, h.n2,
      fun _ => ⟨by simp [hw0], i, hi, by rw [upd_same]; exact ⟨hl.1, rfl⟩⟩, fun _ _ _ _ => by simp [hw0]⟩
theorem claim_cl (h : RJ vals b0 v0 σ us j) (hi : i < j) (hp : (us i).ph = .lk) (hm : (us i).mu = .own) (hd : σ.done = false) : σ.cl = false := by
  cases hc : σ.cl with
  | false => rfl
  | true =>
    rcases h.cl1 hc with h1 | ⟨a, ha, h1⟩
    · rw [hd] at h1; cases h1
    · have := hold_one h.mx hi ha hm (rlf_cph (h.lf a ha) h1).1
      subst this
      rw [hp] at h1; cases h1
theorem rj_spawn (h : RJ vals b0 v0 σ us j) : RJ vals b0 v0 σ (upd us j ⟨.a0, .pre, 0, false, vals j⟩) (j + 1) := by
  have old : ∀ {P : Nat → RU → Prop}, (∀ a, a < j → P a (us a)) → P j ⟨.a0, .pre, 0, false, vals j⟩ → ∀ a, a < j + 1 → P a (upd us j ⟨.a0, .pre, 0, false, vals j⟩ a) := fun h1 h2 => all_upd (fun a ha hne => h1 a (by omega)) h2
  have ex : ∀ {P : RU → Prop}, (∃ a, a < j ∧ P (us a)) → ∃ a, a < j + 1 ∧ P (upd us j ⟨.a0, .pre, 0, false, vals j⟩ a) := fun ⟨a, ha, hp⟩ => ⟨a, by omega, by rw [upd_ne _ _ (by omega)]; exact hp⟩
  have exi : ∀ {P : RU → Prop}, ¬ P ⟨.a0, .pre, 0, false, vals j⟩ → (∃ a, a < j + 1 ∧ P (upd us j ⟨.a0, .pre, 0, false, vals j⟩ a)) → ∃ a, a < j ∧ P (us a) := fun hn ⟨a, ha, hp⟩ => by
    by_cases e : a = j
    · subst e; rw [upd_same] at hp; exact absurd hp hn
    · rw [upd_ne _ _ e] at hp; exact ⟨a, by omega, hp⟩
  refine ⟨by rw [mu_upd]; exact minv_spawn h.mx, old (P := fun _ u => RLf u σ) h.lf ⟨rfl, rfl⟩, old (P := fun a u => u.val = vals a) h.val rfl, old (P := fun _ u => u.ph ≠ .a0 → σ.fl u.fb = some (u.own && u.ph.past)) h.fl (fun x => absurd rfl x),
    two_upd (R := fun a u b v => u.ph ≠ .a0 → v.ph ≠ .a0 → u.fb = v.fb → a = b) (fun a b ha hb h1 h2 => h.inj a b (by omega) (by omega)) (fun a ha _ => ⟨fun _ x => absurd rfl x, fun x => absurd rfl x⟩) (fun _ _ _ => rfl),
    two_upd (R := fun a u b v => u.own = true → v.own = true → a = b) (fun a b ha hb h1 h2 => h.one a b (by omega) (by omega)) (fun a ha _ => ⟨fun _ x => (by cases x), fun x => (by cases x)⟩) (fun _ _ => rfl),
    fun hc => (h.cl1 hc).imp id (fun x => ex (P := fun u => u.ph.cph = true) x), fun hx => h.cl2 (hx.imp id (fun x => exi (P := fun u => u.ph.cph = true) (by simp [RPh.cph]) x)), fun hd => old (P := fun _ u => u.ph.cph = false) (h.cl3 hd) rfl,
    old (P := fun _ u => u.own = true → σ.cl = true) h.own (fun x => (by cases x)), fun hb => ⟨(h.b1 hb).1, (h.b1 hb).2.1, (h.b1 hb).2.2.1, old (P := fun _ u => u.own = false) (h.b1 hb).2.2.2 rfl⟩,
    fun hb hd => ⟨(h.n1 hb hd).1, ex (P := fun u => u.own = true ∧ σ.v = u.val) (h.n1 hb hd).2⟩, h.n2, fun hw => ⟨(h.w1 hw).1, ex (P := fun u => u.own = true ∧ u.ph = .fin) (h.w1 hw).2⟩, old (P := fun _ u => u.own = true → u.ph = .fin → σ.won = 1) h.w2 (fun x => (by cases x))⟩
theorem rj_none (mx0 : MInv 0 (fun i => (us i).mu) σ.mx) (hcl : σ.cl = σ.done) (hw : σ.won = 0) (h1 : b0 = true → σ.done = true ∧ σ.set = true ∧ σ.v = v0) (h2 : b0 = false → σ.done = false ∧ σ.set = false ∧ σ.v = 0) : RJ vals b0 v0 σ us 0 := by
  have no : ∀ {P : Nat → Prop}, (∃ i, i < 0 ∧ P i) → False := fun ⟨i, hi, _⟩ => by omega
  exact ⟨mx0, fun i hi => by omega, fun i hi => by omega, fun i hi => by omega, fun i i' hi => by omega, fun i i' hi => by omega, fun hc => .inl (by rw [← hcl]; exact hc), fun hx => (by rw [hcl]; exact hx.elim id (fun x => (no x).elim)), fun _ i hi => by omega, fun i hi => by omega,
    fun hb => ⟨(h1 hb).1, (h1 hb).2.1, (h1 hb).2.2, fun i hi => by omega⟩, fun hb hd => (by rw [(h2 hb).1] at hd; cases hd), fun hb _ => (h2 hb).2, fun x => absurd hw x, fun i hi => by omega⟩
/-- where all have ended -/
theorem rj_end (h : RJ vals b0 v0 σ us j) (hf : ∀ i, i < j → (us i).ph = .fin) :
    (b0 = true → σ.won = 0 ∧ σ.set = true ∧ σ.v = v0) ∧ (b0 = false → (j = 0 → σ.won = 0 ∧ σ.set = false ∧ σ.v = 0) ∧ (j ≠ 0 → σ.won = 1 ∧ σ.set = true ∧ ∃ i, i < j ∧ σ.v = vals i)) := by
  refine ⟨fun hb => ⟨?_, (h.b1 hb).2.1, (h.b1 hb).2.2.1⟩, fun hb => ⟨fun hj => ?_, fun hj => ?_⟩⟩
  · refine Classical.byContradiction fun hw => ?_
    obtain ⟨_, i, hi, h1, _⟩ := h.w1 hw
    rw [(h.b1 hb).2.2.2 i hi] at h1; cases h1
  · subst hj
    have hd : σ.cl = false → σ.set = false ∧ σ.v = 0 := h.n2 hb
    have hdn : σ.done = false := by
      cases hd : σ.done with
      | false => rfl
      | true => obtain ⟨_, i, hi, _⟩ := h.n1 hb hd; omega
    have hcl : σ.cl = false := by
      cases hc : σ.cl with
      | false => rfl
      | true =>
        rcases h.cl1 hc with h1 | ⟨i, hi, _⟩
        · rw [hdn] at h1; cases h1
        · omega
    refine ⟨?_, hd hcl⟩
    refine Classical.byContradiction fun hw => ?_
    obtain ⟨_, i, hi, _⟩ := h.w1 hw
    omega
  · have h0 := h.lf 0 (by omega)
    simp only [RLf, hf 0 (by omega)] at h0
    obtain ⟨h1, i, hi, h2, h3⟩ := h.n1 hb h0.2
    exact ⟨h.w2 i hi h2 (hf i hi), h1, i, hi, by rw [h3, h.val i hi]⟩

/-! ### it ends -/
def rmu (n : Nat) (σ : RS) (us : Nat → RU) (j : Nat) : Nat := mmu n σ.mx (fun i => (us i).mu) j + sumTo j (fun i => (us i).ph.rank) + (n - j) * 12
theorem rmu_step {n : Nat} (hj : j ≤ n) (hi : i < j) (hs : RT (us i) σ u' σ') : rmu n σ' (upd us i u') j < rmu n σ us j := by
  have e1 := sumTo_upd us u' (fun u => u.ph.rank) hi
  unfold rmu
  have client : ∀ {u'' : RU} {s : RS}, u''.mu = (us i).mu → s.mx = σ.mx → u''.ph.rank < (us i).ph.rank → mmu n s.mx (fun a => (upd us i u'' a).mu) j + sumTo j (fun a => (upd us i u'' a).ph.rank) + (n - j) * 12 < mmu n σ.mx (fun i => (us i).mu) j + sumTo j (fun i => (us i).ph.rank) + (n - j) * 12 := by
    intro u'' s hm hx hr
    have e2 := sumTo_upd us u'' (fun u => u.ph.rank) hi
    rw [mu_same hm, hx]
    omega
  generalize hu : us i = u at hs
  cases hs with
  | @mx m' s' hk hm =>
    rw [← hu] at hm
    have := mmu_step (n := n) (us := fun i => (us i).mu) hj hi hm
    subst hu
    rw [mu_upd]
    show mmu n s' (upd (fun a => (us a).mu) i m') j + _ + _ < _
    have er : ({ us i with mu := m' } : RU).ph.rank = (us i).ph.rank := rfl
    rw [er] at e1
    omega
  | alloc hp _ => subst hu; exact client rfl rfl (by rw [hp]; simp [RPh.rank])
  | clr hp => subst hu; exact client rfl rfl (by rw [hp]; simp [RPh.rank])
  | look1 hp => subst hu; exact client rfl rfl (by rw [hp]; cases σ.done <;> simp [RPh.rank])
  | look2 hp _ _ => subst hu; exact client rfl rfl (by rw [hp]; simp [RPh.rank])
  | claim hp _ _ => subst hu; exact client rfl rfl (by rw [hp]; simp [RPh.rank])
  | sv hp => subst hu; exact client rfl rfl (by rw [hp]; simp [RPh.rank])
  | sf hp => subst hu; exact client rfl rfl (by rw [hp]; simp [RPh.rank])
  | ss hp => subst hu; exact client rfl rfl (by rw [hp]; simp [RPh.rank])
  | sd hp => subst hu; exact client rfl rfl (by rw [hp]; simp [RPh.rank])
  | ld hp => subst hu; exact client rfl rfl (by rcases hp with hp | ⟨hp, _⟩ <;> rw [hp] <;> cases (us i).own <;> simp [RPh.rank])
  | add hp => subst hu; exact client rfl rfl (by rw [hp]; simp [RPh.rank])
theorem rmu_spawn {n : Nat} (hj : j < n) (v : Int) : rmu n σ (upd us j ⟨.a0, .pre, 0, false, v⟩) (j + 1) ≤ rmu n σ us j := by
  have h1 := mmu_spawn (n := n) (us := fun i => (us i).mu) (m := σ.mx) hj
  have e : n - j = (n - (j + 1)) + 1 := by omega
  have e2 : sumTo (j + 1) (fun a => (upd us j ⟨.a0, .pre, 0, false, v⟩ a).ph.rank) = sumTo j (fun a => (us a).ph.rank) + 12 := by
    simp only [sumTo, upd_same]
    rw [sumTo_upd_out us ⟨.a0, .pre, 0, false, v⟩ (fun u => u.ph.rank) (Nat.le_refl j)]
    rfl
  unfold rmu
  rw [mu_upd, e2, e, Nat.add_mul]
  show mmu n σ.mx (upd (fun a => (us a).mu) j MU.pre) (j + 1) + _ + _ ≤ _
  omega
/-- somebody can go on -/
theorem rj_live (h : RJ vals b0 v0 σ us j) (hx : ∃ i, i < j ∧ (us i).ph ≠ .fin) : ∃ i, i < j ∧ (us i).ph ≠ .fin ∧ ¬ ((us i).ph.lock = true ∧ (us i).mu = .q ∧ σ.mx.sm = 0) := by
  obtain ⟨i, hi, hf⟩ := hx
  by_cases hb : (us i).ph.lock = true ∧ (us i).mu = .q ∧ σ.mx.sm = 0
  · obtain ⟨i', hi', hbusy⟩ := mx_live h.mx hi hb.2.1 hb.2.2
    refine ⟨i', hi', fun e => ?_, fun e => hbusy.1 e.2.1⟩
    have := h.lf i' hi'
    simp only [RLf, e] at this
    rcases this.1 with e1 | e1
    · exact hbusy.2.1 e1
    · exact hbusy.2.2.2.2.2 e1
  · exact ⟨i, hi, hf, hb⟩
end
end Go.Proofs.Ytinghnaigpenkaa
