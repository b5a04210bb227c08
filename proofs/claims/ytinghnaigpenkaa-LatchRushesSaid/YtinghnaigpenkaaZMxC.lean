import Derived.Test.YtinghnaigpenkaaZMxA
import Derived.Test.YtinghnaigpenkaaZPhV
import Derived.Conc.MuStops
section
/- A sync.Mutex among many goroutines: all together; what one may lean on; it ends; nobody waits for ever. -/
namespace Go.Proofs.Ytinghnaigpenkaa
open Go.ConcN (sumTo upd sumTo_upd sumTo_upd_out upd_same upd_ne sumTo_congr le_sumTo)
set_option linter.unusedVariables false
set_option linter.unusedSimpArgs false

def MInv (j : Nat) (us : Nat → MU) (m : MS) : Prop :=
  InvN m.w m.sm (sumTo j fun i => (us i).hold) (sumTo j fun i => (us i).fus) (sumTo j fun i => (us i).fr2) (sumTo j fun i => (us i).fa1) (sumTo j fun i => (us i).fa2) (sumTo j fun i => (us i).awk) (sumTo j fun i => (us i).qd) (sumTo j fun i => (us i).ucs) ∧ ∀ i, i < j → (us i).lf
theorem sumTo_zero {f : Nat → Nat} : ∀ {j : Nat}, (∀ i, i < j → f i = 0) → sumTo j f = 0
  | 0, _ => rfl
  | j + 1, h => by simp only [sumTo]; rw [sumTo_zero fun i hi => h i (by omega), h j (by omega)]
theorem sumTo_le {f g : Nat → Nat} {d : Nat} : ∀ {j : Nat}, (∀ i, i < j → f i ≤ g i + d) → sumTo j f ≤ sumTo j g + d * j
  | 0, _ => by simp [sumTo]
  | j + 1, h => by
    have h1 := sumTo_le (j := j) fun i hi => h i (by omega)
    have h2 := h j (by omega)
    simp only [sumTo, Nat.mul_succ]
    omega
theorem minv_none {us : Nat → MU} : MInv 0 us ⟨w0, 0⟩ := ⟨by constructor <;> simp [sumTo, w0], fun i hi => by omega⟩
theorem minv_step {j i : Nat} {us : Nat → MU} {m m' : MS} {u' : MU} (h : MInv j us m) (hi : i < j) (hs : MStep (us i) m u' m') : MInv j (upd us i u') m' := by
  obtain ⟨h1, h2⟩ := h
  have hN := stepN hs (h2 i hi) h1 (sumTo_upd us u' MU.hold hi) (sumTo_upd us u' MU.fus hi) (sumTo_upd us u' MU.fr2 hi) (sumTo_upd us u' MU.fa1 hi) (sumTo_upd us u' MU.fa2 hi) (sumTo_upd us u' MU.awk hi) (sumTo_upd us u' MU.qd hi) (sumTo_upd us u' MU.ucs hi)
    (le_sumTo (f := fun i => (us i).hold) hi) (le_sumTo (f := fun i => (us i).fus) hi) (le_sumTo (f := fun i => (us i).fr2) hi) (le_sumTo (f := fun i => (us i).fa1) hi) (le_sumTo (f := fun i => (us i).fa2) hi) (le_sumTo (f := fun i => (us i).awk) hi) (le_sumTo (f := fun i => (us i).qd) hi) (le_sumTo (f := fun i => (us i).ucs) hi)
  refine ⟨hN.1, fun i' hi' => ?_⟩
  by_cases e : i' = i
  · subst e; rw [upd_same]; exact hN.2
  · rw [upd_ne _ _ e]; exact h2 i' hi'
theorem minv_spawn {j : Nat} {us : Nat → MU} {m : MS} (h : MInv j us m) : MInv (j + 1) (upd us j .pre) m := by
  obtain ⟨h1, h2⟩ := h
  refine ⟨?_, fun i hi => ?_⟩
  · have E : ∀ φ : MU → Nat, φ .pre = 0 → sumTo (j + 1) (fun i => φ (upd us j .pre i)) = sumTo j (fun i => φ (us i)) := fun φ h0 => by
      simp only [sumTo, upd_same, h0, Nat.add_zero]
      exact sumTo_upd_out us .pre φ (Nat.le_refl j)
    rw [E MU.hold rfl, E MU.fus rfl, E MU.fr2 rfl, E MU.fa1 rfl, E MU.fa2 rfl, E MU.awk rfl, E MU.qd rfl, E MU.ucs rfl]
    exact h1
  · by_cases e : i = j
    · subst e; rw [upd_same]; trivial
    · rw [upd_ne _ _ e]; exact h2 i (by omega)
/-- what one may lean on -/
def MPre (u : MU) (m : MS) : Prop :=
  match u with
  | .r2 => (m.w.V = true → m.w.L = false ∧ m.w.K = false ∧ 1 ≤ m.w.wn) ∧ (m.w.V = false → m.w.K = true)
  | .sp true _ _ | .rd true _ _ | .hd _ true _ _ => m.w.K = true
  | .a1 ex => m.w.V = true ∧ m.w.L = false ∧ m.w.K = false ∧ 1 ≤ m.w.wn ∧ (ex = false → 2 ≤ m.w.wn)
  | .le | .own | .u0 => m.w.L = true
  | .us => m.sm = 0
  | _ => True
theorem mpre_of {j i : Nat} {us : Nat → MU} {m : MS} (h : MInv j us m) (hi : i < j) : MPre (us i) m := by
  obtain ⟨⟨h1, h2, h3, h4, h5, h6, h7, h8, h9, h10, h11⟩, hl⟩ := h
  have l1 : (us i).hold ≤ sumTo j (fun i => (us i).hold) := le_sumTo (f := fun i => (us i).hold) hi
  have l2 : (us i).fus ≤ sumTo j (fun i => (us i).fus) := le_sumTo (f := fun i => (us i).fus) hi
  have l3 : (us i).fr2 ≤ sumTo j (fun i => (us i).fr2) := le_sumTo (f := fun i => (us i).fr2) hi
  have l4 : (us i).fa1 ≤ sumTo j (fun i => (us i).fa1) := le_sumTo (f := fun i => (us i).fa1) hi
  have l5 : (us i).fa2 ≤ sumTo j (fun i => (us i).fa2) := le_sumTo (f := fun i => (us i).fa2) hi
  have l6 : (us i).awk ≤ sumTo j (fun i => (us i).awk) := le_sumTo (f := fun i => (us i).awk) hi
  generalize (sumTo j fun i => (us i).hold) = H at *
  generalize (sumTo j fun i => (us i).fus) = Us at *
  generalize (sumTo j fun i => (us i).fr2) = R at *
  generalize (sumTo j fun i => (us i).fa1) = A1 at *
  generalize (sumTo j fun i => (us i).fa2) = A2 at *
  generalize (sumTo j fun i => (us i).awk) = A at *
  generalize (sumTo j fun i => (us i).qd) = Q at *
  generalize (sumTo j fun i => (us i).ucs) = UC at *
  obtain ⟨⟨L, K, V, wn⟩, sm⟩ := m
  have hu := hl i hi
  generalize us i = u at *
  cases u
  case hd o aw sv it => cases aw <;> rcases L with _ | _ <;> rcases K with _ | _ <;> rcases V with _ | _ <;> simp [MPre, MU.awk] at * <;> omega
  case sp aw sv it => cases aw <;> rcases L with _ | _ <;> rcases K with _ | _ <;> rcases V with _ | _ <;> simp [MPre, MU.awk] at * <;> omega
  case rd aw sv it => cases aw <;> rcases L with _ | _ <;> rcases K with _ | _ <;> rcases V with _ | _ <;> simp [MPre, MU.awk] at * <;> omega
  case a1 ex => cases ex <;> rcases L with _ | _ <;> rcases K with _ | _ <;> rcases V with _ | _ <;> simp [MPre, MU.fa1, MU.fa2] at * <;> omega
  all_goals (rcases L with _ | _ <;> rcases K with _ | _ <;> rcases V with _ | _ <;> simp [MPre, MU.hold, MU.fus, MU.fr2] at * <;> omega)
theorem minv_small {j : Nat} {us : Nat → MU} {m : MS} (h : MInv j us m) : m.sm ≤ 1 ∧ m.w.wn ≤ j + 1 := by
  obtain ⟨⟨h1, h2, h3, h4, h5, h6, h7, h8, h9, h10, h11⟩, hl⟩ := h
  have hq : (sumTo j fun i => (us i).qd) ≤ j := by
    have := sumTo_le (f := fun i => (us i).qd) (g := fun _ => 0) (d := 1) (j := j) (fun i hi => by cases us i <;> simp [MU.qd])
    rw [sumTo_zero (f := fun _ => 0) (fun _ _ => rfl)] at this
    omega
  refine ⟨by omega, ?_⟩
  by_cases hv : m.w.V = true ∧ m.w.L = false
  · have := h9 hv.1 hv.2; omega
  · have := h8 hv; omega
def MU.busy (u : MU) : Prop := u ≠ .q ∧ u ≠ .pre ∧ u ≠ .l0 ∧ u ≠ .r0 ∧ u ≠ .ue ∧ u ≠ .out
theorem mx_live {j i : Nat} {us : Nat → MU} {m : MS} (h : MInv j us m) (hi : i < j) (hq : us i = .q) (hsm : m.sm = 0) : ∃ i', i' < j ∧ (us i').busy := by
  obtain ⟨⟨h1, h2, h3, h4, h5, h6, h7, h8, h9, h10, h11⟩, hl⟩ := h
  refine Classical.byContradiction fun hn => ?_
  have hz : ∀ φ : MU → Nat, (∀ u, φ u ≠ 0 → u.busy) → (sumTo j fun i => φ (us i)) = 0 := fun φ hφ => sumTo_zero fun i' hi' => by
    refine Classical.byContradiction fun h0 => hn ⟨i', hi', hφ _ h0⟩
  have z1 := hz MU.hold (by intro u; cases u <;> simp [MU.hold, MU.busy])
  have z2 := hz MU.fus (by intro u; cases u <;> simp [MU.fus, MU.busy])
  have z3 := hz MU.fr2 (by intro u; cases u <;> simp [MU.fr2, MU.busy])
  have z4 := hz MU.fa1 (by intro u; cases u <;> simp [MU.fa1, MU.busy])
  have z5 := hz MU.fa2 (by intro u; cases u <;> simp [MU.fa2, MU.busy])
  have z6 := hz MU.awk (by intro u; cases u <;> simp [MU.awk, MU.busy])
  have z8 := hz MU.ucs (by intro u; cases u <;> simp [MU.ucs, MU.busy])
  have l7 : (us i).qd ≤ sumTo j (fun i => (us i).qd) := le_sumTo (f := fun i => (us i).qd) hi
  have e7 : (us i).qd = 1 := by rw [hq]; rfl
  rw [e7] at l7
  rw [z1] at h1
  rw [z2, z3, z4, z5, z6] at h2 h3
  rw [z2, z3, z4, z5, z6] at h4
  rw [z2, z3, z4, z5] at h6
  rw [z2, z3, z4, z5, z6, z8] at h7
  rw [z2] at h8
  rw [z3, z4, z5] at h9
  generalize (sumTo j fun i => (us i).qd) = Q at *
  clear z1 z2 z3 z4 z5 z6 z8 hz h10 h11 hl e7
  rcases hm : m.w with ⟨L, K, V, wn⟩
  rw [hm] at h1 h3 h4 h5 h6 h7 h8 h9
  rcases L with _ | _ <;> rcases K with _ | _ <;> rcases V with _ | _ <;> simp at * <;> omega

/-! ### it ends -/
def MU.bud : MU → Nat
  | .pre | .l0 | .r0 => 7
  | .hd _ aw _ _ | .sp aw _ _ | .rd aw _ _ => if aw then 6 else 7
  | .q => 5
  | .r2 | .a1 _ => 6
  | .le | .own | .u0 => 5
  | .uc _ | .ux => 4
  | .us => 3
  | .ue | .out => 0
def MU.loc (w : MW) : MU → Nat
  | .pre => 33
  | .l0 => 32
  | .r0 => 31
  | .hd old _ _ it => (if w = old then 10 else 13) + 5 * (4 - it)
  | .sp _ _ it => 9 + 5 * (4 - it)
  | .rd _ _ it => 12 + 5 * (4 - it)
  | .q => 0
  | .r2 => 31
  | .a1 _ => 4
  | .le => 3
  | .own => 2
  | .u0 => 1
  | .uc old => if w = old then 2 else 4
  | .ux => 3
  | .us => 2
  | .ue => 1
  | .out => 0
theorem loc_le (w : MW) (u : MU) : u.loc w ≤ 33 := by
  cases u <;> simp only [MU.loc] <;> (try split) <;> omega
theorem loc_other (w w' : MW) (u : MU) : u.loc w' ≤ u.loc w + 3 := by
  cases u <;> simp only [MU.loc] <;> (try split) <;> (try split) <;> omega
theorem step_less {u u' : MU} {m m' : MS} (h : MStep u m u' m') : u'.bud + 2 * m'.sm < u.bud + 2 * m.sm ∨ (m' = m ∧ u'.bud ≤ u.bud ∧ u'.loc m.w < u.loc m.w) := by
  cases h
  case lock old aw _ _ h _ _ => exact .inl (by simp only [MU.bud]; split <;> omega)
  case queue old aw sv _ _ _ => exact .inl (by simp only [MU.bud]; split <;> omega)
  case wake h => exact .inl (by simp only [MU.bud]; omega)
  case fail h => exact .inr ⟨rfl, by simp only [MU.bud]; omega, by simp only [MU.loc, if_neg h]; omega⟩
  case unmark h => exact .inr ⟨rfl, by simp only [MU.bud]; omega, by simp only [MU.loc, if_neg h]; omega⟩
  case spin h => exact .inr ⟨rfl, by simp only [MU.bud]; omega, by simp only [MU.loc, if_true]; split <;> omega⟩
  case spun h => exact .inr ⟨rfl, by simp only [MU.bud]; omega, by simp only [MU.loc]; simp; omega⟩
  case again => exact .inr ⟨rfl, by simp only [MU.bud]; omega, by simp only [MU.loc]; simp⟩
  case late h => exact .inr ⟨rfl, by simp only [MU.bud]; omega, by simp only [MU.loc, if_neg h]; omega⟩
  all_goals first
    | (refine .inl ?_; simp [MU.bud]; done)
    | (refine .inl ?_; simp only [MU.bud]; omega)
    | (refine .inr ⟨rfl, ?_, ?_⟩; (· simp [MU.bud]); (· simp [MU.loc]; done))
def MM (n : Nat) : Nat := 3 * n + 40
def mmu (n : Nat) (m : MS) (us : Nat → MU) (j : Nat) : Nat := MM n * (sumTo j (fun i => (us i).bud) + 2 * m.sm) + sumTo j (fun i => (us i).loc m.w) + (n - j) * (MM n * 7 + 33)
theorem mmu_step {n j i : Nat} {us : Nat → MU} {m m' : MS} {u' : MU} (hj : j ≤ n) (hi : i < j) (hs : MStep (us i) m u' m') : mmu n m' (upd us i u') j < mmu n m us j := by
  have e1 := sumTo_upd us u' MU.bud hi
  have e2 := sumTo_upd us u' (MU.loc m'.w) hi
  have hle := loc_le m'.w u'
  have ho : sumTo j (fun a => (us a).loc m'.w) ≤ sumTo j (fun a => (us a).loc m.w) + 3 * j := sumTo_le fun a _ => loc_other _ _ _
  unfold mmu
  rcases step_less hs with h | ⟨rfl, h1, h2⟩
  · have h3 : sumTo j (fun a => (upd us i u' a).bud) + 2 * m'.sm + 1 ≤ sumTo j (fun a => (us a).bud) + 2 * m.sm := by omega
    have h4 := Nat.mul_le_mul_left (MM n) h3
    rw [Nat.mul_add] at h4
    have : MM n = 3 * n + 40 := rfl
    omega
  · have h3 : sumTo j (fun a => (upd us i u' a).bud) + 2 * m'.sm ≤ sumTo j (fun a => (us a).bud) + 2 * m'.sm := by omega
    have h4 := Nat.mul_le_mul_left (MM n) h3
    omega
theorem mmu_spawn {n j : Nat} {us : Nat → MU} {m : MS} (hj : j < n) : mmu n m (upd us j .pre) (j + 1) ≤ mmu n m us j := by
  have e : n - j = (n - (j + 1)) + 1 := by omega
  unfold mmu
  rw [e, Nat.add_mul]
  have E : ∀ φ : MU → Nat, sumTo (j + 1) (fun i => φ (upd us j .pre i)) = sumTo j (fun i => φ (us i)) + φ .pre := fun φ => by
    simp only [sumTo, upd_same]
    rw [sumTo_upd_out us .pre φ (Nat.le_refl j)]
  rw [E MU.bud, E (MU.loc m.w), show MU.bud .pre = 7 from rfl, show MU.loc m.w .pre = 33 from rfl]
  have : MM n * (sumTo j (fun i => (us i).bud) + 7 + 2 * m.sm) = MM n * (sumTo j (fun i => (us i).bud) + 2 * m.sm) + MM n * 7 := by rw [← Nat.mul_add]; congr 1; omega
  omega
end Go.Proofs.Ytinghnaigpenkaa

end
section
/- A sync.Mutex among many workers of a phase: what is asked of the phase's shape; the kinds of acts. -/
namespace Go.Proofs.Ytinghnaigpenkaa
open Go.Conc
open Go.ConcR (Payload rd wr mk)
set_option linter.unusedVariables false
set_option linter.unusedSimpArgs false
set_option linter.unusedSectionVars false
variable [Payload]

def MU.dn : MU → Nat
  | .pre | .own | .out => 0
  | _ => 1
/-- where the mutex lies; how it stands in the phase's shape; 'Lk': this one is about to lock, or locks, or unlocks -/
structure MxI (c : Cfg) where
  B : Nat
  so : Nat
  get : c.S → MS
  set : c.S → MS → c.S
  put : c.U → MU → c.U
  Lk : c.U → Prop
def MxI.st {c : Cfg} (X : MxI c) : Addr := ⟨X.B, X.so, none⟩
def MxI.sm {c : Cfg} (X : MxI c) : Addr := ⟨X.B, X.so + 1, none⟩
structure MxI.Ok {c : Cfg} (X : MxI c) : Prop where
  pp : ∀ u a b, X.put (X.put u a) b = X.put u b
  nf : ∀ u m, X.Lk u → ¬ c.fin (X.put u m)
  dn : ∀ u m, X.Lk u → c.dn (X.put u m) = m.dn
  tr : ∀ u σ m m' s', X.Lk u → MStep m (X.get σ) m' s' → c.Tr (X.put u m) σ (X.put u m') (X.set σ s')
  pre : ∀ u σ m, X.Lk u → c.Pre (X.put u m) σ → MPre m (X.get σ) ∧ (X.get σ).w.wn ≤ 70 ∧ (X.get σ).sm ≤ 1
  blk : ∀ u σ m, X.Lk u → (c.blk (X.put u m) σ ↔ m = .q ∧ (X.get σ).sm = 0)
  blkm : ∀ σ s', ((X.get σ).sm = 0 → s'.sm = 0) → ∀ v, c.blk v σ → c.blk v (X.set σ s')
  own : ∀ u m m' k l, c.own (X.put u m) k l → c.own (X.put u m') k l
  pub : ∀ σ s' l, c.pub (X.set σ s') l ↔ c.pub σ l
  prd : ∀ u m m' l, c.prd (X.put u m) l → c.prd (X.put u m') l
  fst : X.st ≠ c.pfa
  fsm : X.sm ≠ c.pfa
  shst : c.sh (.cell X.st)
  shsm : c.sh (.cell X.sm)
  rst : ∀ σ w, c.Rep σ w → w.cell? X.st = some (.int .i32 (X.get σ).w.enc) ∧ w.frozen? X.st = false
  rsm : ∀ σ w, c.Rep σ w → w.cell? X.sm = some (.int .u32 ((X.get σ).sm : Int)) ∧ w.frozen? X.sm = false
  sst : ∀ σ w m, c.Rep σ w → c.Rep (X.set σ { X.get σ with w := m }) (w.setCell X.st (.int .i32 m.enc))
  ssm : ∀ σ w n, c.Rep σ w → c.Rep (X.set σ { X.get σ with sm := n }) (w.setCell X.sm (.int .u32 (n : Int)))
  id : ∀ σ, X.set σ (X.get σ) = σ
  SB : c.SB X.B

theorem OnlySB.refl (c : Cfg) (w : World) : OnlySB c w w := ⟨.refl w, Nat.le_refl _, fun _ _ _ _ => rfl, fun _ h => h, fun b h hs => absurd hs.lt (Nat.not_lt.2 h)⟩
theorem onlySB_set {c : Cfg} (K : c.Ok) {σ : c.S} {w : World} (hr : c.Rep σ w) (a : Addr) (v : Value) (ha : c.SB a.block) : OnlySB c w (w.setCell a v) := by
  have A := aside_setCell w a v
  refine ⟨⟨A.tape, by rw [A.os]; exact .refl _, A.output⟩, Nat.le_of_eq A.size.symm, fun b _ hb _ => A.block b (fun e => hb (e ▸ ha)), fun b hf => hf.of_same (A.block b (fun e => (K.sb_hard σ w b hr (e ▸ ha)).2 hf)), fun b hb hs => ?_⟩
  have := hs.lt
  rw [A.size] at this
  omega
theorem evV_at {c : Cfg} {k : Nat} {u : c.U} {a : Addr} (wr : Bool) (ha : c.sh (.cell a)) (hf : a = c.pfa → wr = true → c.mayp u) : EvV c k u ⟨.cell a, wr, true⟩ := by
  refine ⟨fun x hx _ => ?_, by simp⟩
  simp only [ofEvent_cell0, MemAct.touch?, Option.some.injEq] at hx
  subst hx
  exact .inl ⟨ha, rfl, fun e hw => hf (by injection e) hw⟩
theorem pubV_same {c : Cfg} {k : Nat} {u u' : c.U} {σ σ' : c.S} {es : Array Event} (h1 : ∀ l, c.pub σ' l ↔ c.pub σ l) (h2 : ∀ l, c.prd u' l → c.prd u l) : PubV c k u σ u' σ' es := ⟨fun l h => (h1 l).2 h, fun l h => .inl ((h1 l).1 h), fun l h => .inl (h2 l h)⟩
theorem evV_mark {c : Cfg} {k : Nat} {u : c.U} {m : Mark} (h : (MemAct.ofEvent ⟨.mark m, false, true⟩).touch? = none) (hm : m ≠ .release (Go.ConcR.stA c.Wg)) : EvV c k u ⟨.mark m, false, true⟩ := by
  refine ⟨fun x hx _ => ?_, by simpa using hm⟩
  rw [h] at hx
  cases hx

section
variable {P : Program} {c : Cfg} {X : MxI c} {k : Nat} {u : c.U} {σ : c.S} {w : World} {m m' : MU}
/-- nothing but oneself turns -/
theorem actM_read (K : c.Ok) (hX : X.Ok) (hl : X.Lk u) (hr : c.Rep σ w) (hs : MStep m (X.get σ) m' (X.get σ)) {es : Array Event} (hev : ∀ e ∈ es, EvV c k (X.put u m) e) (hd : deafBehind m.dn es = m'.dn) : ActV P c k (X.put u m) σ w (X.put u m') σ w es where
  tr := by have := hX.tr u σ m m' _ hl hs; rwa [hX.id] at this
  rep := hr
  only := OnlySB.refl c w
  ev := hev
  deaf := by rw [hX.dn _ _ hl, hX.dn _ _ hl]; exact hd
  pub := pubV_same (fun _ => Iff.rfl) (fun l h => hX.prd _ _ _ _ h)
  own := fun l h => .inl (hX.own _ _ _ _ _ h)
/-- the word turns -/
theorem actM_word (K : c.Ok) (hX : X.Ok) (hl : X.Lk u) (hr : c.Rep σ w) {m1 : MW} (hs : MStep m (X.get σ) m' { X.get σ with w := m1 }) (hd : m.dn = m'.dn) :
    ActV P c k (X.put u m) σ w (X.put u m') (X.set σ { X.get σ with w := m1 }) (w.setCell X.st (.int .i32 m1.enc)) #[⟨.cell X.st, false, true⟩, ⟨.cell X.st, true, true⟩] where
  tr := hX.tr u σ m m' _ hl hs
  rep := hX.sst σ w m1 hr
  only := onlySB_set K hr _ _ hX.SB
  ev := by intro e he; simp at he; rcases he with rfl | rfl <;> exact evV_at _ hX.shst (fun e => absurd e hX.fst)
  deaf := by rw [hX.dn _ _ hl, hX.dn _ _ hl]; simpa [deafBehind] using hd
  pub := pubV_same (fun l => hX.pub _ _ l) (fun l h => hX.prd _ _ _ _ h)
  own := fun l h => .inl (hX.own _ _ _ _ _ h)
/-- the semaphore turns -/
theorem actM_sem (K : c.Ok) (hX : X.Ok) (hl : X.Lk u) (hr : c.Rep σ w) {n1 : Nat} (hs : MStep m (X.get σ) m' { X.get σ with sm := n1 }) (hd : m.dn = m'.dn) :
    ActV P c k (X.put u m) σ w (X.put u m') (X.set σ { X.get σ with sm := n1 }) (w.setCell X.sm (.int .u32 (n1 : Int))) (semEvents X.sm) where
  tr := hX.tr u σ m m' _ hl hs
  rep := hX.ssm σ w n1 hr
  only := onlySB_set K hr _ _ hX.SB
  ev := by
    intro e he
    simp [semEvents] at he
    rcases he with rfl | rfl | rfl | rfl
    · exact evV_mark rfl (by simp)
    · exact evV_at _ hX.shsm (fun e => absurd e hX.fsm)
    · exact evV_at _ hX.shsm (fun e => absurd e hX.fsm)
    · exact evV_mark rfl (by simp)
  deaf := by rw [hX.dn _ _ hl, hX.dn _ _ hl]; simpa [deafBehind, semEvents] using hd
  pub := pubV_same (fun l => hX.pub _ _ l) (fun l h => hX.prd _ _ _ _ h)
  own := fun l h => .inl (hX.own _ _ _ _ _ h)
end

/-! ### the word's bits -/
def allMW : List MW := (List.range 80).flatMap fun n => [⟨false, false, false, n⟩, ⟨false, false, true, n⟩, ⟨false, true, false, n⟩, ⟨false, true, true, n⟩, ⟨true, false, false, n⟩, ⟨true, false, true, n⟩, ⟨true, true, false, n⟩, ⟨true, true, true, n⟩]
theorem mem_allMW (m : MW) (h : m.wn < 80) : m ∈ allMW := by
  obtain ⟨L, K, V, wn⟩ := m
  simp only [allMW, List.mem_flatMap, List.mem_range]
  refine ⟨wn, h, ?_⟩
  cases L <;> cases K <;> cases V <;> simp
theorem of_all {p : MW → Bool} (h : allMW.all p = true) (m : MW) (hm : m.wn < 80) : p m = true := List.all_eq_true.1 h m (mem_allMW m hm)
section
variable (m : MW) (h : m.wn < 80)
include h
theorem and5 : bits .and .i32 m.enc 5 = (if m.L then 1 else 0) + (if m.V then 4 else 0) := by
  have := of_all (p := fun m => decide (bits .and .i32 m.enc 5 = (if m.L then 1 else 0) + (if m.V then 4 else 0))) (by kernel_rfl) m h
  simpa using this
theorem and2 : bits .and .i32 m.enc 2 = if m.K then 2 else 0 := by
  have := of_all (p := fun m => decide (bits .and .i32 m.enc 2 = if m.K then 2 else 0)) (by kernel_rfl) m h
  simpa using this
theorem and4 : bits .and .i32 m.enc 4 = if m.V then 4 else 0 := by
  have := of_all (p := fun m => decide (bits .and .i32 m.enc 4 = if m.V then 4 else 0)) (by kernel_rfl) m h
  simpa using this
theorem and1 : bits .and .i32 m.enc 1 = if m.L then 1 else 0 := by
  have := of_all (p := fun m => decide (bits .and .i32 m.enc 1 = if m.L then 1 else 0)) (by kernel_rfl) m h
  simpa using this
theorem and3 : bits .and .i32 m.enc 3 = (if m.L then 1 else 0) + (if m.K then 2 else 0) := by
  have := of_all (p := fun m => decide (bits .and .i32 m.enc 3 = (if m.L then 1 else 0) + (if m.K then 2 else 0))) (by kernel_rfl) m h
  simpa using this
theorem and7 : bits .and .i32 m.enc 7 = (if m.L then 1 else 0) + (if m.K then 2 else 0) + (if m.V then 4 else 0) := by
  have := of_all (p := fun m => decide (bits .and .i32 m.enc 7 = (if m.L then 1 else 0) + (if m.K then 2 else 0) + (if m.V then 4 else 0))) (by kernel_rfl) m h
  simpa using this
theorem or1 : bits .or .i32 m.enc 1 = ({ m with L := true } : MW).enc := by
  have := of_all (p := fun m => decide (bits .or .i32 m.enc 1 = ({ m with L := true } : MW).enc)) (by kernel_rfl) m h
  simpa using this
theorem or2 : bits .or .i32 m.enc 2 = ({ m with K := true } : MW).enc := by
  have := of_all (p := fun m => decide (bits .or .i32 m.enc 2 = ({ m with K := true } : MW).enc)) (by kernel_rfl) m h
  simpa using this
theorem or4 : bits .or .i32 m.enc 4 = ({ m with V := true } : MW).enc := by
  have := of_all (p := fun m => decide (bits .or .i32 m.enc 4 = ({ m with V := true } : MW).enc)) (by kernel_rfl) m h
  simpa using this
theorem shr3 : m.enc / 8 = m.wn := by
  obtain ⟨L, K, V, n⟩ := m
  simp only [MW.enc]
  cases L <;> cases K <;> cases V <;> simp <;> omega
theorem andNot2 : bits .andNot .i32 m.enc 2 = ({ m with K := false } : MW).enc := by
  have := of_all (p := fun m => decide (bits .andNot .i32 m.enc 2 = ({ m with K := false } : MW).enc)) (by kernel_rfl) m h
  simpa using this
theorem enc_lt : 0 ≤ m.enc ∧ m.enc < 1000 := by
  have := of_all (p := fun m => decide (0 ≤ m.enc ∧ m.enc < 1000)) (by kernel_rfl) m h
  simpa using this
end
theorem enc_inj {m m' : MW} (h : m.enc = m'.enc) : m = m' := by
  obtain ⟨L, K, V, n⟩ := m
  obtain ⟨L', K', V', n'⟩ := m'
  simp only [MW.enc] at h
  cases L <;> cases K <;> cases V <;> cases L' <;> cases K' <;> cases V' <;> simp at h ⊢ <;> omega
end Go.Proofs.Ytinghnaigpenkaa

end
