import Derived.Conc.Beside
import Derived.Conc.CrowdRun
import Derived.Conc.MuSpec
section
/- A phase (many workers started one by one, joined): the trace's law. -/
namespace Go.Proofs.Ytinghnaigpenkaa
open Go.Conc
open Go.ConcN (PermW fork_knows RelBy Deaf_absent)
set_option linter.unusedVariables false
set_option linter.unusedSimpArgs false

/-- the families of places: touched atomically alone; worker k's own; read by worker k, written by nobody -/
structure Fam where
  sh : Loc → Prop
  own : Nat → Loc → Prop
  rd : Nat → Loc → Prop
  ex : Nat → Prop
  vir : Loc → Prop
  pub : Loc → Prop
  fa : Addr
structure Fam.Apart (F : Fam) : Prop where
  own : ∀ k k' l, F.own k l → F.own k' l → k = k'
  ownRd : ∀ k k' l, F.own k l → ¬ F.rd k' l
  ownSh : ∀ k l, F.own k l → ¬ F.sh l
  rdSh : ∀ k l, F.rd k l → ¬ F.sh l
  memOwn : ∀ k l, F.own k l → l.isMemory = true
  memRd : ∀ k l, F.rd k l → l.isMemory = true
  ownPub : ∀ k l, F.own k l → ¬ F.pub l
  pubSh : ∀ l, F.pub l → ¬ F.sh l
  memPub : ∀ l, F.pub l → l.isMemory = true
/-- what was written to a published place lies ahead of the flag's last write, which is heard -/
def PubAt (fa : Addr) (t : Trace) (l : Loc) : Prop := ∃ p, LastWrite t fa p ∧ t.heard p ∧ ∀ i a, touchAt t i = some a → a.loc = l → a.write = true → Before t i p

/-- worker number k is started -/
def Started (N0 j k : Nat) : Prop := N0 ≤ k ∧ k < N0 + j

structure PT (F : Fam) (Shun : Loc → Prop) (N0 T0 : Nat) (t : Trace) (j : Nat) : Prop where
  shq : ∀ i a, touchAt t i = some a → a.loc.isMemory = true → F.sh a.loc → a.kind = .atomic ∨ (a.kind = .said ∧ t.g? i = some 0) ∨ (Knows t 0 i ∧ ∀ k, Started N0 j k → Knows t k i)
  own : ∀ k, Started N0 j k → ∀ l, F.own k l → Perm t k l
  rd : ∀ k, Started N0 j k → ∀ l, F.rd k l → PermW t k l
  free : ∀ l, l.isMemory = true → ¬ F.sh l → ¬ F.pub l → (∀ k, Started N0 j k → ¬ F.own k l ∧ ¬ F.rd k l) → Perm t 0 l
  mine : ∀ l, l.isMemory = true → ¬ F.sh l → ¬ F.pub l → (∀ k, Started N0 j k → ¬ F.own k l) → PermW t 0 l
  nr : ∀ said, ¬ Race said t
  gs : ∀ (i : Nat) (op : MemOp), t[i]? = some op → op.g < N0 + j
  size : T0 ≤ t.size
  gpre : ∀ (i : Nat) (op : MemOp), i < T0 → t[i]? = some op → op.g < N0
  pre : ∀ i a, i < T0 → touchAt t i = some a → a.loc.isMemory = true → Knows t 0 i ∨ (Shun a.loc ∧ a.kind = .atomic)
  post : ∀ (i : Nat) (op : MemOp) (x : Touch), T0 ≤ i → t[i]? = some op → op.act.touch? = some x → x.loc.isMemory = true → op.g = 0 ∨ (N0 ≤ op.g ∧ (x.kind = .atomic → F.sh x.loc))
  base : ∀ i a, i < T0 → touchAt t i = some a → a.loc.isMemory = true → (Shun a.loc ∧ a.kind = .atomic) ∨ ∀ k, Started N0 j k → Knows t k i
  low : ∀ i a, T0 ≤ i → touchAt t i = some a → a.loc.isMemory = true → (∀ ad, a.loc = .cell ad → F.ex ad.block) ∧ ¬ F.vir a.loc
  shS : ∀ l, Shun l → F.sh l
  pubq : ∀ l, F.pub l → PubAt F.fa t l

/-- the touched place exists, and is no place that nobody has touched -/
def OkX (F : Fam) (x : Touch) : Prop := ((∀ ad, x.loc = .cell ad → F.ex ad.block) ∧ ¬ F.vir x.loc) ∧ (x.loc = .cell F.fa → x.write = true → ∀ l, ¬ F.pub l)
/-- what goroutine 0 may do while j workers are started -/
def OkS (F : Fam) (N0 j : Nat) (op : MemOp) : Prop :=
  op.g = 0 ∧ ∀ x, op.act.touch? = some x → x.loc.isMemory = true → OkX F x ∧ ((F.sh x.loc ∧ x.kind ≠ .plain) ∨ (¬ F.sh x.loc ∧ ¬ F.pub x.loc ∧ (∀ k, Started N0 j k → ¬ F.own k x.loc) ∧ (x.write = true → ∀ k, Started N0 j k → ¬ F.rd k x.loc)))
/-- what worker k may do -/
def OkP (F : Fam) (k : Nat) (op : MemOp) : Prop :=
  op.g = k ∧ ∀ x, op.act.touch? = some x → x.loc.isMemory = true → OkX F x ∧ ((F.sh x.loc ∧ x.kind = .atomic) ∨ (x.kind ≠ .atomic ∧ F.own k x.loc) ∨ (x.kind ≠ .atomic ∧ F.rd k x.loc ∧ x.write = false))

section
variable {F : Fam} {Shun : Loc → Prop} {N0 T0 j : Nat} {t u : Trace}

theorem g?_app_old {t u : Trace} {i g : Nat} (h : t.g? i = some g) : (t ++ u).g? i = some g := by
  obtain ⟨op, ho, rfl⟩ := Option.map_eq_some_iff.1 h
  unfold Trace.g?
  rw [getElem?_append_old (lt_size_of_getElem? ho), ho]; rfl

/-- a touch of a longer trace is an old one or one of the new operations' -/
theorem touch_app {i : Nat} {a : Touch} (h : touchAt (t ++ u) i = some a) : touchAt t i = some a ∨ ∃ op ∈ u, (t ++ u)[i]? = some op ∧ op.act.touch? = some a := by
  obtain ⟨x, hx, hxa⟩ := touch_of h
  rcases getElem?_append_cases hx with ⟨_, hx'⟩ | ⟨_, hxu⟩
  · exact .inl (by rw [touchAt_of hx']; exact hxa)
  · exact .inr ⟨x, hxu, hx, hxa⟩

/-- 'shq' of an old touch where the trace grows -/
theorem PT.shq_old (h : PT F Shun N0 T0 t j) {i : Nat} {a : Touch} (ha : touchAt t i = some a) (hm : a.loc.isMemory = true) (hs : F.sh a.loc) :
    a.kind = .atomic ∨ (a.kind = .said ∧ (t ++ u).g? i = some 0) ∨ (Knows (t ++ u) 0 i ∧ ∀ k, Started N0 j k → Knows (t ++ u) k i) := by
  rcases h.shq i a ha hm hs with h1 | ⟨h1, h2⟩ | ⟨h1, h2⟩
  · exact .inl h1
  · exact .inr (.inl ⟨h1, g?_app_old h2⟩)
  · exact .inr (.inr ⟨h1.app u, fun k hk => (h2 k hk).app u⟩)

theorem knows_said {i g : Nat} (h : t.g? i = some g) : Knows t g i := by
  obtain ⟨op, ho, rfl⟩ := Option.map_eq_some_iff.1 h
  exact knows_own ho

theorem PT.pre_app (h : PT F Shun N0 T0 t j) : ∀ i a, i < T0 → touchAt (t ++ u) i = some a → a.loc.isMemory = true → Knows (t ++ u) 0 i ∨ (Shun a.loc ∧ a.kind = .atomic) := fun i a hi ha hm =>
  (h.pre i a hi (by rw [touchAt_old (Nat.lt_of_lt_of_le hi h.size)] at ha; exact ha) hm).imp (·.app u) id
theorem PT.gpre_app (h : PT F Shun N0 T0 t j) : ∀ (i : Nat) (op : MemOp), i < T0 → (t ++ u)[i]? = some op → op.g < N0 := fun i op hi ho => h.gpre i op hi (by rw [getElem?_append_old (Nat.lt_of_lt_of_le hi h.size)] at ho; exact ho)
theorem PT.base_app (h : PT F Shun N0 T0 t j) : ∀ i a, i < T0 → touchAt (t ++ u) i = some a → a.loc.isMemory = true → (Shun a.loc ∧ a.kind = .atomic) ∨ ∀ k, Started N0 j k → Knows (t ++ u) k i := fun i a hi ha hm =>
  (h.base i a hi (by rw [touchAt_old (Nat.lt_of_lt_of_le hi h.size)] at ha; exact ha) hm).imp id (fun x k hk => (x k hk).app u)
theorem PT.size_app (h : PT F Shun N0 T0 t j) : T0 ≤ (t ++ u).size := by rw [Array.size_append]; exact Nat.le_trans h.size (Nat.le_add_right _ _)

theorem PubAt.app {fa : Addr} {l : Loc} (h : PubAt fa t l) (hu : ∀ op ∈ u, ∀ x, op.act.touch? = some x → (x.loc = .cell fa → x.write = false) ∧ (x.loc = l → x.write = false)) : PubAt fa (t ++ u) l := by
  obtain ⟨p, h1, h2, h3⟩ := h
  refine ⟨p, h1.app (fun op hop sync e => ?_), (heard_old (lt_of_act? h1.1)).2 h2, fun i a ha hl hw => ?_⟩
  · have := (hu op hop ⟨.cell fa, true, if sync then .atomic else .plain⟩ (by rw [e]; rfl)).1 rfl
    cases this
  · rcases touch_app ha with h4 | ⟨op, hop, hi, hx⟩
    · exact (h3 i a h4 hl hw).app u
    · rw [(hu op hop a hx).2 hl] at hw; cases hw
theorem PT.pubq_app (h : PT F Shun N0 T0 t j) (hm : ∀ l, F.pub l → l.isMemory = true) (hu : ∀ op ∈ u, ∀ x, op.act.touch? = some x → x.loc.isMemory = true → (x.loc = .cell F.fa → x.write = true → ∀ l, ¬ F.pub l) ∧ (F.pub x.loc → x.write = false)) : ∀ l, F.pub l → PubAt F.fa (t ++ u) l := fun l hl =>
  (h.pubq l hl).app fun op hop x hx => ⟨fun e => by
    cases hw : x.write with
    | false => rfl
    | true => exact absurd hl ((hu op hop x hx (by rw [e]; rfl)).1 e hw l), fun e => (hu op hop x hx (by rw [e]; exact hm l hl)).2 (by rw [e]; exact hl)⟩
/-- who reads the flag, and hears, may read what is published -/
theorem PubAt.knows {fa : Addr} {l : Loc} {y : MemOp} (h : PubAt fa t l) (hy : y.act = .access ⟨.cell fa, false, true⟩) (hl : l ≠ .cell fa) (hd : Deaf t y.g = 0) : PermW (t ++ #[y]) y.g l := by
  obtain ⟨p, h1, h2, h3⟩ := h
  have hlast : (t ++ #[y])[t.size]? = some y := by rw [Array.getElem?_append_right (Nat.le_refl _)]; simp
  have hp := lt_of_act? h1.1
  have hh : (t ++ #[y]).heard t.size := ⟨y.g, by unfold Trace.g?; rw [hlast]; rfl, by
    have e := deaf_old (t := t) (u := #[y]) (g := y.g) (i := t.size) (Nat.le_refl _)
    rw [e]; exact hd⟩
  have hk : Knows (t ++ #[y]) y.g p := ⟨t.size, y, hlast, rfl, .inr (.single (.inr ⟨.atomic (a := fa) hp (by rw [act?_old hp]; exact h1.1) (by rw [act?_of hlast, hy]) (fun k sync h4 h5 => by rw [act?_old h5]; exact h1.2 k sync h4), (heard_old hp).2 h2, hh⟩))⟩
  intro i a ha e hw
  rcases touch_app ha with h4 | ⟨op, hop, hi, hx⟩
  · exact Knows.of_before ((h3 i a h4 e hw).app _) hk
  · obtain rfl : op = y := by simpa using hop
    rw [hy] at hx
    simp only [MemAct.touch?, Option.some.injEq] at hx
    rw [← hx] at e
    exact absurd e.symm hl
/-- who owns a place and writes the flag, heard, publishes it -/
theorem PubAt.new {fa : Addr} {l : Loc} {y : MemOp} (h : Perm t y.g l) (hy : y.act = .access ⟨.cell fa, true, true⟩) (hl : l ≠ .cell fa) (hd : Deaf t y.g = 0) : PubAt fa (t ++ #[y]) l := by
  have hlast : (t ++ #[y])[t.size]? = some y := by rw [Array.getElem?_append_right (Nat.le_refl _)]; simp
  refine ⟨t.size, LastWrite.new t fa hy, ⟨y.g, by unfold Trace.g?; rw [hlast]; rfl, by
    have e := deaf_old (t := t) (u := #[y]) (g := y.g) (i := t.size) (Nat.le_refl _)
    rw [e]; exact hd⟩, fun i a ha e _ => Perm.release h rfl (fun b hb e2 => ?_) i a ha e⟩
  rw [hy] at hb
  simp only [MemAct.touch?, Option.some.injEq] at hb
  rw [← hb] at e2
  exact hl e2.symm

/-- the families turn -/
theorem PT.extend {F' : Fam} (h : PT F Shun N0 T0 t j) (hsh : F'.sh = F.sh) (hfa : F'.fa = F.fa) (hown : ∀ k, Started N0 j k → ∀ l, F'.own k l → F.own k l ∨ Perm t k l) (hrd : ∀ k, Started N0 j k → ∀ l, F'.rd k l → F.rd k l ∨ PermW t k l)
    (hfree : ∀ l, l.isMemory = true → ¬ F.sh l → ¬ F'.pub l → (∀ k, Started N0 j k → ¬ F'.own k l ∧ ¬ F'.rd k l) → ¬ F.pub l ∧ ∀ k, Started N0 j k → ¬ F.own k l ∧ ¬ F.rd k l)
    (hmine : ∀ l, l.isMemory = true → ¬ F.sh l → ¬ F'.pub l → (∀ k, Started N0 j k → ¬ F'.own k l) → ¬ F.pub l ∧ ∀ k, Started N0 j k → ¬ F.own k l) (hex : ∀ b, F.ex b → F'.ex b) (hvir : ∀ l, F'.vir l → F.vir l)
    (hpub : ∀ l, F'.pub l → F.pub l ∨ PubAt F.fa t l) : PT F' Shun N0 T0 t j := by
  refine ⟨by rw [hsh]; exact h.shq, fun k hk l hl i a ha e => ?_, fun k hk l hl i a ha e hw => ?_, fun l hm hs hp hl => (have x := hfree l hm (by rw [← hsh]; exact hs) hp hl; h.free l hm (by rw [← hsh]; exact hs) x.1 x.2),
    fun l hm hs hp hl => (have x := hmine l hm (by rw [← hsh]; exact hs) hp hl; h.mine l hm (by rw [← hsh]; exact hs) x.1 x.2), h.nr, h.gs, h.size, h.gpre, h.pre, by rw [hsh]; exact h.post, h.base, fun i a hi ha hm => ⟨fun ad e => hex _ ((h.low i a hi ha hm).1 ad e), fun hv => (h.low i a hi ha hm).2 (hvir _ hv)⟩, by rw [hsh]; exact h.shS, fun l hl => by rw [hfa]; exact (hpub l hl).elim (h.pubq l) id⟩
  · rcases hown k hk l hl with h3 | h3
    · exact h.own k hk l h3 i a ha e
    · exact h3 i a ha e
  · rcases hrd k hk l hl with h3 | h3
    · exact h.rd k hk l h3 i a ha e hw
    · exact h3 i a ha e hw

/-- operations of goroutine 0's -/
theorem PT.app0 (h : PT F Shun N0 T0 t j) (A : F.Apart) (h0 : 0 < N0) (hu : ∀ op ∈ u, OkS F N0 j op) : PT F Shun N0 T0 (t ++ u) j := by
  refine ⟨fun i a ha hm hs => ?_, fun k hk l hl i a ha e => ?_, fun k hk l hl i a ha e hw => ?_, fun l hm hs hp hl i a ha e => ?_, fun l hm hs hp hl i a ha e hw => ?_, fun said => ?_, fun i op hi => ?_, h.size_app, h.gpre_app, h.pre_app, fun i op x hi ho hx hm => ?_, h.base_app, fun i a hi ha hm => ?_, h.shS, h.pubq_app A.memPub fun op hop x hx hm => ⟨((hu op hop).2 x hx hm).1.2, fun hp => (((hu op hop).2 x hx hm).2.elim (fun y => absurd y.1 (A.pubSh _ hp)) (fun y => absurd hp y.2.1))⟩⟩
  · rcases touch_app ha with h1 | ⟨op, hop, hi, hx⟩
    · exact h.shq_old h1 hm hs
    · have := ((hu op hop).2 a hx hm).2
      have hg : (t ++ u).g? i = some 0 := by unfold Trace.g?; rw [hi]; exact congrArg some (hu op hop).1
      cases hk : a.kind with
      | atomic => exact .inl rfl
      | said => exact .inr (.inl ⟨rfl, hg⟩)
      | plain =>
        rcases this with ⟨_, h2⟩ | ⟨h2, _⟩
        · exact absurd hk h2
        · exact absurd hs h2
  · rcases touch_app ha with h1 | ⟨op, hop, hi, hx⟩
    · exact (h.own k hk l hl i a h1 e).app u
    · rcases ((hu op hop).2 a hx (by rw [e]; exact A.memOwn k l hl)).2 with ⟨hs, _⟩ | ⟨_, _, hn, _⟩
      · exact absurd (e ▸ hs) (A.ownSh k l hl)
      · exact absurd (e ▸ hl) (hn k hk)
  · rcases touch_app ha with h1 | ⟨op, hop, hi, hx⟩
    · exact (h.rd k hk l hl i a h1 e hw).app u
    · rcases ((hu op hop).2 a hx (by rw [e]; exact A.memRd k l hl)).2 with ⟨hs, _⟩ | ⟨_, _, _, hn⟩
      · exact absurd (e ▸ hs) (A.rdSh k l hl)
      · exact absurd (e ▸ hl) (hn hw k hk)
  · rcases touch_app ha with h1 | ⟨op, hop, hi, hx⟩
    · exact (h.free l hm hs hp hl i a h1 e).app u
    · exact knows_said (by unfold Trace.g?; rw [hi]; exact congrArg some (hu op hop).1)
  · rcases touch_app ha with h1 | ⟨op, hop, hi, hx⟩
    · exact (h.mine l hm hs hp hl i a h1 e hw).app u
    · exact knows_said (by unfold Trace.g?; rw [hi]; exact congrArg some (hu op hop).1)
  · refine noRace_append (h.nr said) (fun op hop => (hu op hop).1) (fun i a ha op hop b hb hc => ?_)
    have hmb : b.loc.isMemory = true := hc.1 ▸ hc.2.1
    rcases ((hu op hop).2 b hb hmb).2 with ⟨hs, hk⟩ | ⟨hs, hp, hno, hnr⟩
    · rcases h.shq i a ha hc.2.1 (hc.1 ▸ hs) with h1 | ⟨h1, h2⟩ | ⟨h1, _⟩
      · obtain ⟨_, _, _, hcase⟩ := hc
        rw [h1] at hcase
        rcases hcase with x | x | ⟨_, x, _⟩
        · cases x
        · exact absurd x hk
        · cases x
      · exact knows_said h2
      · exact h1
    · cases hbw : b.write with
      | true => exact h.free b.loc hmb hs hp (fun k hk => ⟨hno k hk, hnr hbw k hk⟩) i a ha hc.1
      | false => exact h.mine b.loc hmb hs hp hno i a ha hc.1 (hc.2.2.1.resolve_right (by simp [hbw]))
  · rcases getElem?_append_cases hi with ⟨_, hi'⟩ | ⟨_, hiu⟩
    · exact h.gs i op hi'
    · rw [(hu op hiu).1]
      omega
  · rcases getElem?_append_cases ho with ⟨_, ho'⟩ | ⟨_, hou⟩
    · exact h.post i op x hi ho' hx hm
    · exact .inl (hu op hou).1
  · rcases touch_app ha with h1 | ⟨op, hop, hi', hx⟩
    · exact h.low i a hi h1 hm
    · exact ((hu op hop).2 a hx hm).1.1

/-- operations of worker k's -/
theorem PT.appW (h : PT F Shun N0 T0 t j) (A : F.Apart) {k : Nat} (hk : Started N0 j k) (hu : ∀ op ∈ u, OkP F k op) : PT F Shun N0 T0 (t ++ u) j := by
  refine ⟨fun i a ha hm hs => ?_, fun k' hk' l hl i a ha e => ?_, fun k' hk' l hl i a ha e hw => ?_, fun l hm hs hp hl i a ha e => ?_, fun l hm hs hp hl i a ha e hw => ?_, fun said => ?_, fun i op hi => ?_, h.size_app, h.gpre_app, h.pre_app, fun i op x hi ho hx hm => ?_, h.base_app, fun i a hi ha hm => ?_, h.shS, h.pubq_app A.memPub fun op hop x hx hm => ⟨((hu op hop).2 x hx hm).1.2, fun hp => (((hu op hop).2 x hx hm).2.elim (fun y => absurd y.1 (A.pubSh _ hp)) (fun y => y.elim (fun z => absurd hp (A.ownPub _ _ z.2)) (fun z => z.2.2)))⟩⟩
  · rcases touch_app ha with h1 | ⟨op, hop, hi, hx⟩
    · exact h.shq_old h1 hm hs
    · rcases ((hu op hop).2 a hx hm).2 with ⟨_, h2⟩ | ⟨_, h2⟩ | ⟨_, h2, _⟩
      · exact .inl h2
      · exact absurd hs (A.ownSh k _ h2)
      · exact absurd hs (A.rdSh k _ h2)
  · rcases touch_app ha with h1 | ⟨op, hop, hi, hx⟩
    · exact (h.own k' hk' l hl i a h1 e).app u
    · rcases ((hu op hop).2 a hx (by rw [e]; exact A.memOwn k' l hl)).2 with ⟨hs, _⟩ | ⟨_, h2⟩ | ⟨_, h2, _⟩
      · exact absurd (e ▸ hs) (A.ownSh k' l hl)
      · have : k = k' := A.own k k' l (e ▸ h2) hl
        subst this
        exact knows_said (by unfold Trace.g?; rw [hi]; exact congrArg some (hu op hop).1)
      · exact absurd (e ▸ h2) (A.ownRd k' k l hl)
  · rcases touch_app ha with h1 | ⟨op, hop, hi, hx⟩
    · exact (h.rd k' hk' l hl i a h1 e hw).app u
    · rcases ((hu op hop).2 a hx (by rw [e]; exact A.memRd k' l hl)).2 with ⟨hs, _⟩ | ⟨_, h2⟩ | ⟨_, _, h2⟩
      · exact absurd (e ▸ hs) (A.rdSh k' l hl)
      · exact absurd hl (A.ownRd k k' l (e ▸ h2))
      · rw [h2] at hw; cases hw
  · rcases touch_app ha with h1 | ⟨op, hop, hi, hx⟩
    · exact (h.free l hm hs hp hl i a h1 e).app u
    · rcases ((hu op hop).2 a hx (by rw [e]; exact hm)).2 with ⟨h2, _⟩ | ⟨_, h2⟩ | ⟨_, h2, _⟩
      · exact absurd (e ▸ h2) hs
      · exact absurd (e ▸ h2) (hl k hk).1
      · exact absurd (e ▸ h2) (hl k hk).2
  · rcases touch_app ha with h1 | ⟨op, hop, hi, hx⟩
    · exact (h.mine l hm hs hp hl i a h1 e hw).app u
    · rcases ((hu op hop).2 a hx (by rw [e]; exact hm)).2 with ⟨h2, _⟩ | ⟨_, h2⟩ | ⟨_, _, h2⟩
      · exact absurd (e ▸ h2) hs
      · exact absurd (e ▸ h2) (hl k hk)
      · rw [h2] at hw; cases hw
  · refine noRace_append (h.nr said) (fun op hop => (hu op hop).1) (fun i a ha op hop b hb hc => ?_)
    have hmb : b.loc.isMemory = true := hc.1 ▸ hc.2.1
    rcases ((hu op hop).2 b hb hmb).2 with ⟨hs, hkb⟩ | ⟨_, ho⟩ | ⟨_, hr, hbw⟩
    · rcases h.shq i a ha hc.2.1 (hc.1 ▸ hs) with h1 | ⟨h1, _⟩ | ⟨_, h1⟩
      · obtain ⟨_, _, _, hcase⟩ := hc
        rw [h1, hkb] at hcase
        rcases hcase with x | x | ⟨_, x, _⟩ <;> cases x
      · obtain ⟨_, _, _, hcase⟩ := hc
        rw [h1, hkb] at hcase
        rcases hcase with x | x | ⟨_, _, x⟩ <;> cases x
      · exact h1 k hk
    · exact h.own k hk b.loc ho i a ha hc.1
    · exact h.rd k hk b.loc hr i a ha hc.1 (hc.2.2.1.resolve_right (by simp [hbw]))
  · rcases getElem?_append_cases hi with ⟨_, hi'⟩ | ⟨_, hiu⟩
    · exact h.gs i op hi'
    · rw [(hu op hiu).1]; exact hk.2
  · rcases getElem?_append_cases ho with ⟨_, ho'⟩ | ⟨_, hou⟩
    · exact h.post i op x hi ho' hx hm
    · rw [(hu op hou).1]
      refine .inr ⟨hk.1, fun ha => ?_⟩
      rcases ((hu op hou).2 x hx hm).2 with ⟨h2, _⟩ | ⟨h2, _⟩ | ⟨h2, _⟩
      · exact h2
      · exact absurd ha h2
      · exact absurd ha h2
  · rcases touch_app ha with h1 | ⟨op, hop, hi', hx⟩
    · exact h.low i a hi h1 hm
    · exact ((hu op hop).2 a hx hm).1.1

/-- operations of one goroutine that touch nothing -/
theorem PT.appMute (h : PT F Shun N0 T0 t j) {g : Nat} (hg : g < N0 + j) (hu : ∀ op ∈ u, op.g = g) (hn : ∀ op ∈ u, op.act.touch? = none) : PT F Shun N0 T0 (t ++ u) j := by
  have old : ∀ {i : Nat} {a : Touch}, touchAt (t ++ u) i = some a → touchAt t i = some a := fun ha => by
    rcases touch_app ha with h1 | ⟨op, hop, _, hx⟩
    · exact h1
    · rw [hn op hop] at hx; cases hx
  refine ⟨fun i a ha hm hs => h.shq_old (old ha) hm hs, fun k hk l hl i a ha e => (h.own k hk l hl i a (old ha) e).app u, fun k hk l hl i a ha e hw => (h.rd k hk l hl i a (old ha) e hw).app u,
    fun l hm hs hp hl i a ha e => (h.free l hm hs hp hl i a (old ha) e).app u, fun l hm hs hp hl i a ha e hw => (h.mine l hm hs hp hl i a (old ha) e hw).app u,
    fun said => noRace_append (h.nr said) hu fun i a _ op hop b hb _ => (by rw [hn op hop] at hb; cases hb), fun i op hi => ?_, h.size_app, h.gpre_app, h.pre_app, fun i op x hi ho hx hm => ?_, h.base_app, fun i a hi ha hm => h.low i a hi (old ha) hm, h.shS, fun l hl => (h.pubq l hl).app fun op hop x hx => by rw [hn op hop] at hx; cases hx⟩
  · rcases getElem?_append_cases hi with ⟨_, hi'⟩ | ⟨_, hiu⟩
    · exact h.gs i op hi'
    · rw [hu op hiu]; exact hg
  · rcases getElem?_append_cases ho with ⟨_, ho'⟩ | ⟨_, hou⟩
    · exact h.post i op x hi ho' hx hm
    · rw [hn op hou] at hx; cases hx

/-- a go statement: worker number N0 + j is started -/
theorem PT.fork (h : PT F Shun N0 T0 t j) (A : F.Apart) {x y : MemOp} (hx : x.g = 0 ∧ x.act = .go (N0 + j)) (hy : y.g = N0 + j ∧ y.act = .start) (h0 : Deaf t 0 = 0) (hnp : ∀ l, F.rd (N0 + j) l → ¬ F.pub l) : PT F Shun N0 T0 (t ++ #[x, y]) (j + 1) := by
  have hk0 : Deaf t (N0 + j) = 0 := Deaf_absent fun i op hi e => by have := h.gs i op hi; omega
  have hnt : ∀ op ∈ #[x, y], op.act.touch? = none := by
    intro op hop
    simp only [List.mem_toArray, List.mem_cons, List.not_mem_nil, or_false] at hop
    rcases hop with rfl | rfl
    · rw [hx.2]; rfl
    · rw [hy.2]; rfl
  have old : ∀ {i : Nat} {a : Touch}, touchAt (t ++ #[x, y]) i = some a → touchAt t i = some a := fun ha => by
    rcases touch_app ha with h1 | ⟨op, hop, _, hx⟩
    · exact h1
    · rw [hnt op hop] at hx; cases hx
  have fk : ∀ {i : Nat}, Knows t 0 i → Knows (t ++ #[x, y]) (N0 + j) i := fun hi => fork_knows hx hy h0 hk0 hi
  have cases' : ∀ {k : Nat}, Started N0 (j + 1) k → Started N0 j k ∨ k = N0 + j := fun {k} hk => by
    have := hk.1; have := hk.2
    by_cases e : k = N0 + j
    · exact .inr e
    · exact .inl ⟨hk.1, by omega⟩
  have upS : ∀ {k : Nat}, Started N0 j k → Started N0 (j + 1) k := fun {k} hk => ⟨hk.1, by have := hk.2; omega⟩
  refine ⟨fun i a ha hm hs => ?_, fun k hk l hl i a ha e => ?_, fun k hk l hl i a ha e hw => ?_, fun l hm hs hp hl i a ha e => (h.free l hm hs hp (fun k hk => hl k (upS hk)) i a (old ha) e).app _,
    fun l hm hs hp hl i a ha e hw => (h.mine l hm hs hp (fun k hk => hl k (upS hk)) i a (old ha) e hw).app _, fun said => ?_, fun i op hi => ?_, h.size_app, h.gpre_app, h.pre_app, fun i op z hi ho hz hm => ?_, fun i a hi ha hm => ?_, fun i a hi ha hm => h.low i a hi (old ha) hm, h.shS, fun l hl => (h.pubq l hl).app fun op hop x hx => by rw [hnt op hop] at hx; cases hx⟩
  · rcases h.shq i a (old ha) hm hs with h1 | ⟨h1, h2⟩ | ⟨h1, h2⟩
    · exact .inl h1
    · exact .inr (.inl ⟨h1, g?_app_old h2⟩)
    · refine .inr (.inr ⟨h1.app _, fun k hk => ?_⟩)
      rcases cases' hk with h3 | rfl
      · exact (h2 k h3).app _
      · exact fk h1
  · rcases cases' hk with h3 | rfl
    · exact (h.own k h3 l hl i a (old ha) e).app _
    · exact fk (h.free l (A.memOwn _ l hl) (A.ownSh _ l hl) (A.ownPub _ l hl) (fun k hk' => ⟨fun ho => by have := A.own _ _ l ho hl; have := hk'.2; omega, A.ownRd _ _ l hl⟩) i a (old ha) e)
  · rcases cases' hk with h3 | rfl
    · exact (h.rd k h3 l hl i a (old ha) e hw).app _
    · exact fk (h.mine l (A.memRd _ l hl) (A.rdSh _ l hl) (hnp l hl) (fun k _ ho => A.ownRd _ _ l ho hl) i a (old ha) e hw)
  · have e : t ++ #[x, y] = (t ++ #[x]) ++ #[y] := by apply Array.ext'; simp
    rw [e]
    refine noRace_append (g := N0 + j) (noRace_append (g := 0) (h.nr said) (fun op hop => by simp at hop; rw [hop]; exact hx.1) (fun i a _ op hop b hb _ => by rw [hnt op (by simp at hop ⊢; exact .inl hop)] at hb; cases hb))
      (fun op hop => by simp at hop; rw [hop]; exact hy.1) (fun i a _ op hop b hb _ => by rw [hnt op (by simp at hop ⊢; exact .inr hop)] at hb; cases hb)
  · rcases getElem?_append_cases hi with ⟨_, hi'⟩ | ⟨_, hiu⟩
    · exact Nat.lt_of_lt_of_le (h.gs i op hi') (by omega)
    · simp only [List.mem_toArray, List.mem_cons, List.not_mem_nil, or_false] at hiu
      rcases hiu with rfl | rfl
      · rw [hx.1]; omega
      · rw [hy.1]; omega
  · rcases getElem?_append_cases ho with ⟨_, ho'⟩ | ⟨_, hou⟩
    · exact h.post i op z hi ho' hz hm
    · rw [hnt op hou] at hz; cases hz
  · rcases h.base i a hi (old ha) hm with hb | hb
    · exact .inl hb
    · rcases h.pre i a hi (old ha) hm with h0' | h0'
      · exact .inr fun k hk => (cases' hk).elim (fun h3 => (hb k h3).app _) (fun e => by rw [e]; exact fk h0')
      · exact .inl h0'

/-- what is held of the trace between two phases -/
structure PstD (d : Nat) (Shun : Loc → Prop) (t : Trace) : Prop where
  clean : ∀ said, ¬ Race said t
  known : ∀ i a, touchAt t i = some a → a.loc.isMemory = true → Knows t 0 i ∨ (Shun a.loc ∧ a.kind = .atomic)
  over : t.HandedOver
  hears : Deaf t 0 = d
abbrev Pst := PstD 0

/-- the phase begins -/
theorem PT.start (h : Pst Shun t) (hS : ∀ l, Shun l → F.sh l) (hp0 : ∀ l, ¬ F.pub l) (hg : ∀ (i : Nat) (op : MemOp), t[i]? = some op → op.g < N0) : PT F Shun N0 t.size t 0 := by
  have none0 : ∀ k, ¬ Started N0 0 k := fun k hk => by have := hk.1; have := hk.2; omega
  refine ⟨fun i a ha hm hs => ?_, fun k hk => absurd hk (none0 k), fun k hk => absurd hk (none0 k), fun l hm hs _ _ i a ha e => ?_, fun l hm hs _ _ i a ha e _ => ?_, h.clean, fun i op hi => hg i op hi, Nat.le_refl _, fun i op _ hi => hg i op hi, fun i a _ ha hm => h.known i a ha hm, fun i op x hi ho => ?_, fun i a _ ha hm => .inr fun k hk => absurd hk (none0 k), fun i a hi ha => (by obtain ⟨op, ho, _⟩ := touch_of ha; have := lt_size_of_getElem? ho; omega), hS, fun l hl => absurd hl (hp0 l)⟩
  · rcases h.known i a ha hm with h1 | ⟨_, h1⟩
    · exact .inr (.inr ⟨h1, fun k hk => absurd hk (none0 k)⟩)
    · exact .inl h1
  · rcases h.known i a ha (by rw [e]; exact hm) with h1 | ⟨h1, _⟩
    · exact h1
    · exact absurd (hS _ (e ▸ h1)) hs
  · rcases h.known i a ha (by rw [e]; exact hm) with h1 | ⟨h1, _⟩
    · exact h1
    · exact absurd (hS _ (e ▸ h1)) hs
  · have := lt_size_of_getElem? ho; omega

/-- THE PHASE ENDS: every worker's release lies ahead of goroutine 0's 'acquire'; what a worker did behind its release does not count. -/
theorem PT.finish {wg : Addr} {q : Nat} (h : PT F Shun N0 T0 t j) (h0 : 0 < N0) (hS : ∀ l, Shun l → F.sh l) (all : ∀ k, Started N0 j k → ∃ r, RelBy wg t k r ∧ r < q) (hn : ∀ i, T0 ≤ i → t.act? i ≠ some (.mark (.release wg)))
    (hq : t.act? q = some (.mark (.acquire wg))) (hg : t.g? q = some 0) (hh : t.heard q) (hd : Deaf t 0 = 0) (over : ∀ i g, i < T0 → t.g? i = some g → g ≠ 0 → t.counts i → ∃ j', t.g? j' = some 0 ∧ HappensBefore t i j') : Pst F.sh t := by
  -- what worker k did ahead of its release is known
  have kn : ∀ (i k r : Nat), N0 ≤ k → RelBy wg t k r → r < q → t.g? i = some k → i ≤ r → HappensBefore t i q := fun i k r hk hr hrq hgi hle => by
    have hT : T0 ≤ r := Nat.le_of_not_lt fun hlt => by
      obtain ⟨z, hz, hzg⟩ := Option.map_eq_some_iff.1 hr.g
      have := h.gpre r z hlt hz; omega
    have edge : HappensBefore t r q := .single (.inr ⟨.marked hrq (.inr hr.act) hq (fun k h1 _ => hn k (by omega)), hr.heard, hh⟩)
    rcases Nat.lt_or_ge i r with hlt | hge
    · exact .trans (.single (.inl ⟨hlt, k, hgi, hr.g⟩)) edge
    · obtain rfl : i = r := by omega
      exact edge
  refine ⟨h.nr, fun i a ha hm => ?_, fun i g hgi hne hc => ?_, hd⟩
  · rcases Nat.lt_or_ge i T0 with hlt | hge
    · exact (h.pre i a hlt ha hm).imp id (fun x => ⟨hS _ x.1, x.2⟩)
    · obtain ⟨op, ho, hoa⟩ := touch_of ha
      have hgi : t.g? i = some op.g := by unfold Trace.g?; rw [ho]; rfl
      rcases h.post i op a hge ho hoa hm with h1 | ⟨h1, h2⟩
      · rw [h1] at hgi; exact .inl (knows_said hgi)
      · have hst : Started N0 j op.g := ⟨h1, h.gs i op ho⟩
        obtain ⟨r, hr, hrq⟩ := all op.g hst
        by_cases hle : i ≤ r
        · obtain ⟨z, hz, hzg⟩ := Option.map_eq_some_iff.1 hg
          exact .inl ⟨q, z, hz, hzg, .inr (kn i op.g r h1 hr hrq hgi hle)⟩
        · have hnc := hr.after i (by omega) hgi
          have hka : a.kind = .atomic := Classical.byContradiction fun hk => hnc ⟨a, ha, hm, .inl hk⟩
          exact .inr ⟨h2 hka, hka⟩
  · rcases Nat.lt_or_ge i T0 with hlt | hge
    · exact over i g hlt hgi hne hc
    · obtain ⟨x, hx, hm, hkx⟩ := hc
      obtain ⟨op, ho, hoa⟩ := touch_of hx
      have hg' : t.g? i = some op.g := by unfold Trace.g?; rw [ho]; rfl
      rw [hg'] at hgi
      injection hgi with hgi
      subst hgi
      rcases h.post i op x hge ho hoa hm with h1 | ⟨h1, _⟩
      · exact absurd h1 hne
      · obtain ⟨r, hr, hrq⟩ := all op.g ⟨h1, h.gs i op ho⟩
        exact ⟨q, hg, kn i op.g r h1 hr hrq hg' (Nat.le_of_not_lt fun hlt => hr.after i hlt hg' ⟨x, hx, hm, hkx⟩)⟩
end
end Go.Proofs.Ytinghnaigpenkaa

end
section
/- A phase (many workers started one by one, joined by a sync.WaitGroup): what is asked of each goroutine. -/
namespace Go.Proofs.Ytinghnaigpenkaa
open Go.Conc
open Go.ConcN (CTag phi isOpen isW3 isFin pend WD Vc Ssum Fsum cnt OpenSt AllQuit Mode RelBy sumTo upd)
open Go.ConcR (KK wgBlock WgAt stA smA rd wr mk Payload DC0 Bk)
set_option linter.unusedVariables false
set_option linter.unusedSimpArgs false
set_option linter.unusedSectionVars false

/-- the shape of a phase: the group, how many workers, the first one's number, how much there was when it began; the shared blocks; the places that are touched atomically alone, each worker's own; the workers' states and the shared state, and how they go on -/
structure Cfg where
  ty : TypeId
  Wg : Nat
  n : Nat
  N0 : Nat
  H0 : Nat
  SB : Nat → Prop
  sh : Loc → Prop
  sp : Loc → Prop
  U : Type
  S : Type
  own : U → Nat → Loc → Prop
  vir : S → Nat → Loc → Prop
  pub : S → Loc → Prop
  prd : U → Loc → Prop
  mayp : U → Prop
  pfa : Addr
  blk : U → S → Prop
  dn : U → Nat
  fty : TypeId
  Rep : S → World → Prop
  Pre : U → S → Prop
  Tr : U → S → U → S → Prop
  fin : U → Prop
  init : Nat → U
  JU : S → (Nat → U) → Nat → Prop
  mu : S → (Nat → U) → Nat → Nat

variable [Payload]

/-- a box of one cell of the payload's type: the starter may be filling it, or a worker holds it -/
def Soft (w : World) (b : Nat) : Prop := ∃ v, w.heap[b]? = some (.cells #[v] Payload.ety)
structure Env (w w₁ : World) : Prop where
  tape : w₁.tape = w.tape
  os : Go.ConcM.OsLater w.os w₁.os
  output : w₁.output = w.output
theorem Env.refl (w : World) : Env w w := ⟨rfl, .refl _, rfl⟩
theorem Env.trans {a b c : World} (h : Env a b) (k : Env b c) : Env a c := ⟨k.tape.trans h.tape, h.os.trans k.os, k.output.trans h.output⟩
def Live (ty : TypeId) (Wg : Nat) (w : World) : Prop := ∃ st sm, WgAt ty Wg w st sm
def E0 : Nat → Loc → Prop := fun _ _ => False

section
variable (c : Cfg)
/-- a block of one cell that its worker alone may turn -/
def Flg (w : World) (b : Nat) : Prop := ∃ v, w.heap[b]? = some (.cells #[v] c.fty)
/-- what the starter suffers; 'lw': the boxes below it are out of its hands -/
structure R0 (lw : Nat) (w w₁ : World) : Prop where
  env : Env w w₁
  size : w.heap.size ≤ w₁.heap.size
  same : ∀ b, b < w.heap.size → ¬ c.SB b → b ≠ c.Wg → (lw ≤ b ∨ ¬ Soft w b ∨ b < c.H0) → (¬ Flg c w b ∨ b < c.H0) → w₁.heap[b]? = w.heap[b]?
  hard : ∀ b, b < w.heap.size → ¬ Soft w b → ¬ Soft w₁ b
  hardF : ∀ b, b < w.heap.size → ¬ Flg c w b → ¬ Flg c w₁ b
  rep : (∃ σ, c.Rep σ w) → ∃ σ, c.Rep σ w₁
  live : Live c.ty c.Wg w → Live c.ty c.Wg w₁
/-- what a worker suffers; 'C': its box -/
structure RW (C : Nat) (w w₁ : World) : Prop where
  env : Env w w₁
  size : w.heap.size ≤ w₁.heap.size
  same : ∀ b, b < w.heap.size → ¬ c.SB b → b ≠ c.Wg → (b = C ∨ ¬ Soft w b ∨ b < c.H0) → (¬ Flg c w b ∨ b < c.H0) → w₁.heap[b]? = w.heap[b]?
  hard : ∀ b, b < w.heap.size → ¬ Soft w b → ¬ Soft w₁ b
  hardF : ∀ b, b < w.heap.size → ¬ Flg c w b → ¬ Flg c w₁ b
  rep : (∃ σ, c.Rep σ w) → ∃ σ, c.Rep σ w₁
  live : Live c.ty c.Wg w → Live c.ty c.Wg w₁
/-- the marks that count, none of which an idle step lists -/
def Calm (e : Event) : Prop := e.loc ≠ .mark .disable ∧ e.loc ≠ .mark .enable ∧ e.loc ≠ .mark (.release (stA c.Wg))
def EvW (C : Nat) (w' : World) (e : Event) : Prop :=
  (∀ x, (MemAct.ofEvent e).touch? = some x → x.loc.isMemory = true → ∃ a, x.loc = .cell a ∧ x.write = false ∧ x.kind ≠ .atomic ∧ ¬ c.sh x.loc ∧ ¬ c.sp x.loc ∧ (a.block = C ∨ a.block < c.H0 ∨ (c.H0 ≤ a.block ∧ a.block < w'.heap.size ∧ ¬ Soft w' a.block ∧ ¬ Flg c w' a.block))) ∧ Calm c e
def EvS (lw : Nat) (w' : World) (e : Event) : Prop :=
  (∀ x, (MemAct.ofEvent e).touch? = some x → x.loc.isMemory = true → (c.sh x.loc ∧ x.kind ≠ .plain ∧ (x.loc = .cell c.pfa → x.write = false)) ∨ (¬ c.sh x.loc ∧ ¬ c.sp x.loc ∧ ∃ a, x.loc = .cell a ∧ ((lw ≤ a.block ∧ c.H0 ≤ a.block ∧ Soft w' a.block) ∨ (x.write = false ∧ a.block < c.H0)))) ∧ Calm c e
/-- a step by which worker k acts on what is shared -/
def EvV (k : Nat) (u : c.U) (e : Event) : Prop :=
  (∀ x, (MemAct.ofEvent e).touch? = some x → x.loc.isMemory = true → (c.sh x.loc ∧ x.kind = .atomic ∧ (x.loc = .cell c.pfa → x.write = true → c.mayp u)) ∨ (x.kind ≠ .atomic ∧ c.own u k x.loc) ∨ (x.kind ≠ .atomic ∧ x.write = false ∧ c.prd u x.loc)) ∧ e.loc ≠ .mark (.release (stA c.Wg))
/-- what such a step publishes: what its worker owned, by the flag's write; who then may read: the owner, whoever reads the flag behind it -/
structure PubV (k : Nat) (u : c.U) (σ : c.S) (u' : c.U) (σ' : c.S) (es : Array Event) : Prop where
  up : ∀ l, c.pub σ l → c.pub σ' l
  new : ∀ l, c.pub σ' l → c.pub σ l ∨ (c.own u k l ∧ es = #[⟨.cell c.pfa, true, true⟩] ∧ c.dn u = 0)
  rd : ∀ l, c.prd u' l → c.prd u l ∨ c.own u k l ∨ (c.pub σ l ∧ es = #[⟨.cell c.pfa, false, true⟩] ∧ c.dn u = 0)
/-- the starter's idle step -/
structure D0 (lw : Nat) (w w' : World) (es : Array Event) : Prop where
  env : Env w w'
  size : w.heap.size ≤ w'.heap.size
  old : ∀ b, b < w.heap.size → (b < lw ∨ ¬ Soft w b ∨ b < c.H0) → w'.heap[b]? = w.heap[b]?
  soft : ∀ b, Soft w b → Soft w' b
  ev : ∀ e ∈ es, EvS c lw w' e
/-- a worker's idle step: it may make memory -/
structure DW (C : Nat) (w w' : World) (es : Array Event) : Prop where
  env : Env w w'
  size : w.heap.size ≤ w'.heap.size
  old : ∀ b, b < w.heap.size → w'.heap[b]? = w.heap[b]?
  new : ∀ b, w.heap.size ≤ b → ¬ Soft w' b
  ev : ∀ e ∈ es, EvW c C w' e
/-- at most the shared blocks turn, and what workers alone may turn; there may be new blocks -/
structure OnlySB (w w' : World) : Prop where
  env : Env w w'
  size : w.heap.size ≤ w'.heap.size
  old : ∀ b, b < w.heap.size → ¬ c.SB b → (¬ Flg c w b ∨ b < c.H0) → w'.heap[b]? = w.heap[b]?
  flg : ∀ b, Flg c w b → Flg c w' b
  new : ∀ b, w.heap.size ≤ b → ¬ Soft w' b

structure Cfg.Ok : Prop where
  hn : c.n < 2147483648
  hN : 0 < c.N0
  fty : c.fty ≠ Payload.ety
  rep_same : ∀ σ w w', c.Rep σ w → w.heap.size ≤ w'.heap.size → (∀ b, b < w.heap.size → (c.SB b ∨ (Flg c w b ∧ c.H0 ≤ b)) → w'.heap[b]? = w.heap[b]?) → c.Rep σ w'
  sb_hard : ∀ σ w b, c.Rep σ w → c.SB b → ¬ Soft w b ∧ ¬ Flg c w b
  sb_lt : ∀ σ w b, c.Rep σ w → c.SB b → b < w.heap.size
  sbWg : ¬ c.SB c.Wg
  wgH0 : c.Wg < c.H0
  shWg : ∀ a : Addr, a.block = c.Wg → c.sh (.cell a)
  sh_lt : ∀ a : Addr, c.sh (.cell a) → a.block < c.H0
  sp_lt : ∀ l, c.sp l → ∃ a : Addr, l = .cell a ∧ a.block < c.H0
  sp_sh : ∀ l, c.sp l → ¬ c.sh l
  vir_sp : ∀ σ j l, c.vir σ j l → c.sp l
  own_in : ∀ σ us j i w l, c.JU σ us j → c.Rep σ w → i < j → c.own (us i) (c.N0 + i) l → c.sp l ∨ ∃ a : Addr, l = .cell a ∧ c.H0 ≤ a.block ∧ Flg c w a.block
  own_one : ∀ σ us j i i' l, c.JU σ us j → i < j → i' < j → c.own (us i) (c.N0 + i) l → c.own (us i') (c.N0 + i') l → i = i'
  own_vir : ∀ σ us j i l, c.JU σ us j → i < j → c.own (us i) (c.N0 + i) l → ¬ c.vir σ j l
  spawn : ∀ σ us j, j < c.n → c.JU σ us j → c.JU σ (upd us j (c.init j)) (j + 1) ∧ c.mu σ (upd us j (c.init j)) (j + 1) ≤ c.mu σ us j ∧ ∀ l, c.vir σ (j + 1) l → c.vir σ j l
  step : ∀ σ us j i u' σ', i < j → c.JU σ us j → ¬ c.fin (us i) → ¬ c.blk (us i) σ → c.Tr (us i) σ u' σ' → c.JU σ' (upd us i u') j ∧ c.mu σ' (upd us i u') j < c.mu σ us j ∧ (∀ l, c.vir σ' j l → c.vir σ j l) ∧ (∀ l, c.own u' (c.N0 + i) l → c.sp l → c.own (us i) (c.N0 + i) l ∨ c.vir σ j l) ∧ (∀ l, c.own (us i) (c.N0 + i) l → c.own u' (c.N0 + i) l ∨ c.pub σ' l)
  pre : ∀ σ us j i, i < j → c.JU σ us j → ¬ c.fin (us i) → c.Pre (us i) σ
  live : ∀ σ us j, c.JU σ us j → (∃ i, i < j ∧ ¬ c.fin (us i)) → ∃ i, i < j ∧ ¬ c.fin (us i) ∧ ¬ c.blk (us i) σ
  fin_dn : ∀ u, c.fin u → c.dn u = 0
  init_dn : ∀ j, c.dn (c.init j) = 0
  pub_sp : ∀ σ l, c.pub σ l → c.sp l
  pub0 : ∀ σ us l, c.JU σ us 0 → ¬ c.pub σ l
  own_pub : ∀ σ us j i l, c.JU σ us j → i < j → c.own (us i) (c.N0 + i) l → ¬ c.pub σ l
  prd_pub : ∀ σ us j i l, c.JU σ us j → i < j → c.prd (us i) l → c.pub σ l
  mayp : ∀ σ us j i l, c.JU σ us j → i < j → c.mayp (us i) → ¬ c.pub σ l
  pub_vir : ∀ σ us j l, c.JU σ us j → c.pub σ l → ¬ c.vir σ j l
  pfaWg : c.pfa.block ≠ c.Wg
  pfaSh : c.sh (.cell c.pfa) ∨ ∀ σ l, ¬ c.pub σ l
  init_prd : ∀ j l, ¬ c.prd (c.init j) l
end

section
variable (P : Program) (c : Cfg)
/-- A WORKER (goroutine k, its box C): it acts on what is shared, .. -/
def Vis (k : Nat) (K : c.U → Goroutine → World → Prop) (u : c.U) (g : Goroutine) (w : World) : Prop :=
  g.status = .running ∧ g.offers = none ∧ ∀ σ, c.Rep σ w → c.Pre u σ →
    (c.blk u σ → stepG P false g w = .go { g with status := .blocked } w #[]) ∧
    (¬ c.blk u σ → ∃ g' w' es u' σ', stepG P false g w = .go g' w' es ∧ c.Tr u σ u' σ' ∧ c.Rep σ' w' ∧ OnlySB c w w' ∧ (∀ e ∈ es, EvV c k u e) ∧ PubV c k u σ u' σ' es ∧ deafBehind (c.dn u) es = c.dn u' ∧
      (∀ l, c.own u' k l → c.own u k l ∨ c.sp l ∨ ∃ a : Addr, l = .cell a ∧ w.heap.size ≤ a.block) ∧ ((∀ v, c.blk v σ → c.blk v σ') ∨ (mayWake P g = true ∧ g'.status = .running)) ∧ K u' g' w')
/-- .. or has done, and is on its way into the group's Done -/
def DoneW (C : Nat) (g : Goroutine) (w : World) : Prop := ∃ m v, Goes P false (ConcN.RW c.ty c.Wg C 1 0 0) (ConcN.DWs c.Wg E0 E0 C 1 1) (ConcN.AtR0 P c.ty c.Wg C 1 0 1 v) m g w
def StopU (k C : Nat) (K : c.U → Goroutine → World → Prop) (u : c.U) (g : Goroutine) (w : World) : Prop := (c.fin u ∧ g.status = .running ∧ DoneW P c C g w) ∨ (¬ c.fin u ∧ Vis P c k K u g w)
/-- N visible steps long -/
def RunU (k C : Nat) : Nat → c.U → Goroutine → World → Prop
  | 0, _, _, _ => True
  | N + 1, u, g, w => ∃ m, Goes P false (RW c C) (DW c C) (StopU P c k C (RunU k C N) u) m g w
end

section
variable (P : Program) (c : Cfg) (lw : Nat) (Anch Fin : Goroutine → World → Prop)
/-! THE STARTER in Wait, from its end backwards -/
def AtAcq (g : Goroutine) (w : World) : Prop :=
  g.status = .running ∧ ∃ g', stepG P true g w = .go g' w #[mk (.acquire (stA c.Wg))] ∧ g'.status = .running ∧ Fin g' w
def AtKe (g : Goroutine) (w : World) : Prop :=
  g.status = .running ∧ ∃ g', stepG P true g w = .go g' w #[mk .enable] ∧ ∃ m, Goes P true (R0 c lw) (D0 c lw) (AtAcq P c Fin) m g' w
def AtW4 (g : Goroutine) (w : World) : Prop :=
  g.status = .running ∧ (WgAt c.ty c.Wg w 0 0 → ∃ g', stepG P true g w = .go g' w #[rd (stA c.Wg)] ∧ ∃ m, Goes P true (R0 c lw) (D0 c lw) (AtKe P c lw Fin) m g' w)
def AtW3 (g : Goroutine) (w : World) : Prop :=
  g.status = .running ∧ g.offers = none ∧
    ((∃ st, WgAt c.ty c.Wg w st 0) → stepG P true g w = .go { g with status := .blocked } w #[]) ∧
    (WgAt c.ty c.Wg w 0 1 → ∃ g', stepG P true g w = .go g' (w.setCell (smA c.Wg) (.int .u32 0)) (semEvents (smA c.Wg)) ∧ ∃ m, Goes P true (R0 c lw) (D0 c lw) (AtW4 P c lw Fin) m g' (w.setCell (smA c.Wg) (.int .u32 0)))
def AtW2 (vs : Nat) (g : Goroutine) (w : World) : Prop :=
  g.status = .running ∧ ∀ v : Nat, v < 2147483648 → WgAt c.ty c.Wg w (v * KK) 0 →
    (v = vs → ∃ g', stepG P true g w = .go g' (w.setCell (stA c.Wg) (.int .u64 (v * KK + 1))) #[rd (stA c.Wg), wr (stA c.Wg)] ∧ ∃ m, Goes P true (R0 c lw) (D0 c lw) (AtW3 P c lw Fin) m g' (w.setCell (stA c.Wg) (.int .u64 (v * KK + 1)))) ∧
    (v ≠ vs → ∃ g', stepG P true g w = .go g' w #[rd (stA c.Wg)] ∧ ∃ m, Goes P true (R0 c lw) (D0 c lw) Anch m g' w)
def AtW1 (g : Goroutine) (w : World) : Prop :=
  g.status = .running ∧ ∀ v : Nat, v < 2147483648 → WgAt c.ty c.Wg w (v * KK) 0 → ∃ g', stepG P true g w = .go g' w #[rd (stA c.Wg)] ∧
    (v = 0 → ∃ m, Goes P true (R0 c lw) (D0 c lw) (AtKe P c lw Fin) m g' w) ∧ (v ≠ 0 → ∃ m, Goes P true (R0 c lw) (D0 c lw) (AtW2 P c lw Anch Fin v) m g' w)
def AtKd (g : Goroutine) (w : World) : Prop :=
  g.status = .running ∧ ∃ g', stepG P true g w = .go g' w #[mk .disable] ∧ ∃ m, Goes P true (R0 c lw) (D0 c lw) Anch m g' w
end

section
variable (P : Program) (c : Cfg) (Anch : Nat → Goroutine → World → Prop)
/-! .. WHILE IT STARTS THEM: j are started -/
def AtGoS (lw j : Nat) (Next : Nat → Goroutine → World → Prop) (g : Goroutine) (w : World) : Prop :=
  g.status = .running ∧ ∃ g' child C, stepG P true g w = .spawn g' child w #[] ∧ child.status = .running ∧ lw ≤ C ∧ c.H0 ≤ C ∧ Soft w C ∧ (∀ N, RunU P c (c.N0 + j) C N (c.init j) child w) ∧ Next w.heap.size g' w
def AtKeS (lw j : Nat) (Next : Nat → Goroutine → World → Prop) (g : Goroutine) (w : World) : Prop :=
  g.status = .running ∧ ∃ g', stepG P true g w = .go g' w #[mk .enable] ∧ ∃ m, Goes P true (R0 c lw) (D0 c lw) (AtGoS P c lw j Next) m g' w
def AtA1 (lw j : Nat) (Next : Nat → Goroutine → World → Prop) (g : Goroutine) (w : World) : Prop :=
  g.status = .running ∧ ∀ v : Nat, v < 2147483647 → WgAt c.ty c.Wg w (v * KK) 0 →
    ∃ g', stepG P true g w = .go g' (w.setCell (stA c.Wg) (.int .u64 ((v + 1) * KK))) #[rd (stA c.Wg), wr (stA c.Wg)] ∧
      ∃ m, Goes P true (R0 c lw) (D0 c lw) (AtKeS P c lw j Next) m g' (w.setCell (stA c.Wg) (.int .u64 ((v + 1) * KK)))
def AtKdS (lw j : Nat) (Next : Nat → Goroutine → World → Prop) (g : Goroutine) (w : World) : Prop :=
  g.status = .running ∧ ∃ g', stepG P true g w = .go g' w #[mk .disable] ∧ ∃ m, Goes P true (R0 c lw) (D0 c lw) (AtA1 P c lw j Next) m g' w
/-- r workers are still to be started -/
def Spawns : Nat → Nat → Goroutine → World → Prop
  | 0, lw, g, w => ∃ m, Goes P true (R0 c lw) (D0 c lw) (AtKd P c lw (Anch lw)) m g w
  | r + 1, lw, g, w => ∃ m, Goes P true (R0 c lw) (D0 c lw) (AtKdS P c lw (c.n - (r + 1)) (Spawns r)) m g w
end
end Go.Proofs.Ytinghnaigpenkaa

end
section
/- A phase: every kind of step of another's lies within the relies; what holds of the machine at every moment. -/
namespace Go.Proofs.Ytinghnaigpenkaa
open Go.Conc
open Go.ConcN (CTag phi isOpen isW3 isFin pend WD Vc Ssum Fsum cnt OpenSt AllQuit Mode RelBy sumTo upd sumTo_upd upd_same upd_ne sumTo_congr sumTo_upd_out le_sumTo get_map_set get_map_set_same Deaf_still Deaf_absent RelBy.appNot)
open Go.ConcR (KK wgBlock WgAt stA smA rd wr mk Payload DC0 Bk g_of_ofEvents again_blocked bk_of_mute ofEvent_mk loc_of_ofEvent ofEvent_loc_mark ofEvent_cell)
set_option linter.unusedVariables false
set_option linter.unusedSimpArgs false
set_option linter.unusedSectionVars false
variable [Payload]

theorem Soft.lt {w : World} {b : Nat} (h : Soft w b) : b < w.heap.size := by
  obtain ⟨v, h⟩ := h
  exact (Array.getElem?_eq_some_iff.1 h).1
theorem Soft.of_same {w w' : World} {b : Nat} (e : w'.heap[b]? = w.heap[b]?) (h : Soft w b) : Soft w' b := by
  obtain ⟨v, h⟩ := h
  exact ⟨v, e.trans h⟩
theorem Flg.lt {c : Cfg} {w : World} {b : Nat} (h : Flg c w b) : b < w.heap.size := by
  obtain ⟨v, h⟩ := h
  exact (Array.getElem?_eq_some_iff.1 h).1
theorem Flg.of_same {c : Cfg} {w w' : World} {b : Nat} (e : w'.heap[b]? = w.heap[b]?) (h : Flg c w b) : Flg c w' b := by
  obtain ⟨v, h⟩ := h
  exact ⟨v, e.trans h⟩
theorem Flg.hard {c : Cfg} (K : c.Ok) {w : World} {b : Nat} (h : Flg c w b) : ¬ Soft w b := by
  rintro ⟨u, hu⟩
  obtain ⟨v, hv⟩ := h
  rw [hv] at hu
  injection hu with hu
  injection hu with _ hu
  exact K.fty hu
theorem Soft.noF {c : Cfg} (K : c.Ok) {w : World} {b : Nat} (h : Soft w b) : ¬ Flg c w b := fun hf => hf.hard K h
theorem Live.hard {ty Wg : Nat} {w : World} (h : Live ty Wg w) : ¬ Soft w Wg := by
  rintro ⟨v, hv⟩
  obtain ⟨st, sm, h⟩ := h
  unfold WgAt wgBlock at h
  rw [h] at hv
  simp at hv
theorem Live.noF {c : Cfg} {ty Wg : Nat} {w : World} (h : Live ty Wg w) : ¬ Flg c w Wg := by
  rintro ⟨v, hv⟩
  obtain ⟨st, sm, h⟩ := h
  unfold WgAt wgBlock at h
  rw [h] at hv
  simp at hv
theorem Live.lt {ty Wg : Nat} {w : World} (h : Live ty Wg w) : Wg < w.heap.size := by
  obtain ⟨st, sm, h⟩ := h
  exact (Array.getElem?_eq_some_iff.1 h).1
theorem Live.of_same {ty Wg : Nat} {w w' : World} (h : Live ty Wg w) (e : w'.heap[Wg]? = w.heap[Wg]?) : Live ty Wg w' := by
  obtain ⟨st, sm, h⟩ := h
  exact ⟨st, sm, e.trans h⟩
theorem env_at (w : World) (d : Nat) : Env w (w.at d) := ⟨rfl, .refl _, rfl⟩

section
variable {c : Cfg} {lw C : Nat} {w w₁ w₂ : World}
theorem R0.refl (w : World) : R0 c lw w w := ⟨.refl w, Nat.le_refl _, fun _ _ _ _ _ _ => rfl, fun _ _ h => h, fun _ _ h => h, id, id⟩
theorem R0.at (K : c.Ok) (w : World) (d : Nat) : R0 c lw w (w.at d) := ⟨env_at w d, Nat.le_refl _, fun _ _ _ _ _ _ => rfl, fun _ _ h => h, fun _ _ h => h, fun ⟨σ, h⟩ => ⟨σ, K.rep_same σ w _ h (Nat.le_refl _) (fun _ _ _ => rfl)⟩, id⟩
theorem R0.trans (h : R0 c lw w w₁) (k : R0 c lw w₁ w₂) : R0 c lw w w₂ :=
  ⟨h.env.trans k.env, Nat.le_trans h.size k.size, fun b h1 h2 h3 h4 h5 => (k.same b (Nat.lt_of_lt_of_le h1 h.size) h2 h3 (h4.imp id (Or.imp (h.hard b h1) id)) (h5.imp (h.hardF b h1) id)).trans (h.same b h1 h2 h3 h4 h5),
    fun b h1 h2 => k.hard b (Nat.lt_of_lt_of_le h1 h.size) (h.hard b h1 h2), fun b h1 h2 => k.hardF b (Nat.lt_of_lt_of_le h1 h.size) (h.hardF b h1 h2), k.rep ∘ h.rep, k.live ∘ h.live⟩
theorem RW.refl (w : World) : RW c C w w := ⟨.refl w, Nat.le_refl _, fun _ _ _ _ _ _ => rfl, fun _ _ h => h, fun _ _ h => h, id, id⟩
theorem RW.trans (h : RW c C w w₁) (k : RW c C w₁ w₂) : RW c C w w₂ :=
  ⟨h.env.trans k.env, Nat.le_trans h.size k.size, fun b h1 h2 h3 h4 h5 => (k.same b (Nat.lt_of_lt_of_le h1 h.size) h2 h3 (h4.imp id (Or.imp (h.hard b h1) id)) (h5.imp (h.hardF b h1) id)).trans (h.same b h1 h2 h3 h4 h5),
    fun b h1 h2 => k.hard b (Nat.lt_of_lt_of_le h1 h.size) (h.hard b h1 h2), fun b h1 h2 => k.hardF b (Nat.lt_of_lt_of_le h1 h.size) (h.hardF b h1 h2), k.rep ∘ h.rep, k.live ∘ h.live⟩
end

/-- what any step but a draw does, in the words that both relies want: 'X': the boxes that it may turn -/
structure Turn (c : Cfg) (X : Nat → Prop) (w w₁ : World) : Prop where
  env : Env w w₁
  size : w.heap.size ≤ w₁.heap.size
  same : ∀ b, b < w.heap.size → ¬ c.SB b → b ≠ c.Wg → ¬ X b → (¬ Flg c w b ∨ b < c.H0) → w₁.heap[b]? = w.heap[b]?
  box : ∀ b, X b → Soft w b ∧ Soft w₁ b
  hi : ∀ b, X b → c.H0 ≤ b
  new : ∀ b, Soft w b → Soft w₁ b
  hard : ∀ b, b < w.heap.size → ¬ Soft w b → ¬ Soft w₁ b
  flg : ∀ b, Flg c w b → Flg c w₁ b
  hardF : ∀ b, b < w.heap.size → ¬ Flg c w b → ¬ Flg c w₁ b
  rep : (∃ σ, c.Rep σ w) → ∃ σ, c.Rep σ w₁
  live : Live c.ty c.Wg w → Live c.ty c.Wg w₁
section
variable {c : Cfg} {X : Nat → Prop} {lw C : Nat} {w w₁ : World}
theorem Turn.r0 (h : Turn c X w w₁) (hX : ∀ b, X b → b < lw) : R0 c lw w w₁ :=
  ⟨h.env, h.size, fun b h1 h2 h3 h4 h5 => h.same b h1 h2 h3 (fun hx => by rcases h4 with h4 | h4 | h4; exact absurd (hX b hx) (by omega); exact h4 (h.box b hx).1; exact absurd (h.hi b hx) (by omega)) h5, h.hard, h.hardF, h.rep, h.live⟩
theorem Turn.rw (h : Turn c X w w₁) (hX : ¬ X C) : RW c C w w₁ :=
  ⟨h.env, h.size, fun b h1 h2 h3 h4 h5 => h.same b h1 h2 h3 (fun hx => by rcases h4 with rfl | h4 | h4; exact hX hx; exact h4 (h.box b hx).1; exact absurd (h.hi b hx) (by omega)) h5, h.hard, h.hardF, h.rep, h.live⟩
theorem Turn.of_at (K : c.Ok) (w : World) (d : Nat) : Turn c (fun _ => False) w (w.at d) :=
  ⟨env_at w d, Nat.le_refl _, fun _ _ _ _ _ _ => rfl, fun _ h => h.elim, fun _ h => h.elim, fun _ h => h, fun _ _ h => h, fun _ h => h, fun _ _ h => h, fun ⟨σ, h⟩ => ⟨σ, K.rep_same σ w _ h (Nat.le_refl _) (fun _ _ _ => rfl)⟩, id⟩
theorem Turn.refl (K : c.Ok) (w : World) : Turn c (fun _ => False) w w :=
  ⟨.refl w, Nat.le_refl _, fun _ _ _ _ _ _ => rfl, fun _ h => h.elim, fun _ h => h.elim, fun _ h => h, fun _ _ h => h, fun _ h => h, fun _ _ h => h, id, id⟩
end
theorem rep_at {c : Cfg} (K : c.Ok) {σ : c.S} {w : World} (h : c.Rep σ w) (d : Nat) : c.Rep σ (w.at d) := K.rep_same σ w _ h (Nat.le_refl _) (fun _ _ _ => rfl)

section
variable {c : Cfg} {lw C : Nat} {w w₁ : World} {es : Array Event}
theorem Turn.dw (K : c.Ok) (h : DW c C w w₁ es) : Turn c (fun _ => False) w w₁ :=
  ⟨h.env, h.size, fun b h1 _ _ _ _ => h.old b h1, fun _ h => h.elim, fun _ h => h.elim, fun b hs => hs.of_same (h.old b hs.lt), fun b h1 hn hs => hn (hs.of_same (h.old b h1).symm), fun b hs => hs.of_same (h.old b hs.lt), fun b h1 hn hs => hn (hs.of_same (h.old b h1).symm),
    fun ⟨σ, hr⟩ => ⟨σ, K.rep_same σ w w₁ hr h.size (fun b hb _ => h.old b hb)⟩, fun hl => hl.of_same (h.old _ hl.lt)⟩
theorem D0.repS (K : c.Ok) (h : D0 c lw w w₁ es) {σ : c.S} (hr : c.Rep σ w) : c.Rep σ w₁ :=
  K.rep_same σ w w₁ hr h.size (fun b hb hs => h.old b hb (.inr (.inl (hs.elim (fun x => (K.sb_hard σ w b hr x).1) (fun x => x.1.hard K)))))
theorem Turn.d0 (K : c.Ok) (h : D0 c lw w w₁ es) : Turn c (fun b => lw ≤ b ∧ Soft w b ∧ c.H0 ≤ b) w w₁ :=
  ⟨h.env, h.size, fun b h1 _ _ hx _ => h.old b h1 (by by_cases hb : b < lw; exact .inl hb; by_cases h0 : b < c.H0; exact .inr (.inr h0); exact .inr (.inl (fun hs => hx ⟨by omega, hs, by omega⟩))), fun b hb => ⟨hb.2.1, h.soft b hb.2.1⟩, fun b hb => hb.2.2, h.soft,
    fun b h1 hn hs => hn (hs.of_same (h.old b h1 (.inr (.inl hn))).symm), fun b hf => hf.of_same (h.old b hf.lt (.inr (.inl (hf.hard K)))), fun b h1 hn hf => by
      by_cases hs : Soft w b
      · exact (h.soft b hs).noF K hf
      · exact hn (hf.of_same (h.old b h1 (.inr (.inl hs))).symm),
    fun ⟨σ, hr⟩ => ⟨σ, h.repS K hr⟩, fun hl => hl.of_same (h.old _ hl.lt (.inr (.inl hl.hard)))⟩
theorem aside_rep (K : c.Ok) (h : Aside c.Wg w w₁) (hl0 : Live c.ty c.Wg w) {σ : c.S} (hr : c.Rep σ w) : c.Rep σ w₁ :=
  K.rep_same σ w w₁ hr (Nat.le_of_eq h.size.symm) (fun b _ hs => h.block b (fun e => by
    rcases hs with hs | hs
    · exact K.sbWg (e ▸ hs)
    · exact hl0.noF (c := c) (e ▸ hs.1)))
theorem Turn.wg (K : c.Ok) (h : Aside c.Wg w w₁) (hl0 : Live c.ty c.Wg w) (hl : Live c.ty c.Wg w₁) : Turn c (fun _ => False) w w₁ := by
  have hb : ∀ b, b ≠ c.Wg → w₁.heap[b]? = w.heap[b]? := h.block
  refine ⟨⟨h.tape, h.os ▸ .refl _, h.output⟩, Nat.le_of_eq h.size.symm, fun b _ _ h3 _ _ => hb b h3, fun _ h => h.elim, fun _ h => h.elim, fun b hs => ?_, fun b _ hn hs => ?_, fun b hs => ?_, fun b _ hn hs => ?_, fun ⟨σ, hr⟩ => ⟨σ, aside_rep K h hl0 hr⟩, fun _ => hl⟩
  · have : b ≠ c.Wg := fun e => hl0.hard (e ▸ hs)
    exact hs.of_same (hb b this)
  · have : b ≠ c.Wg := fun e => hl.hard (e ▸ hs)
    exact hn (hs.of_same (hb b this).symm)
  · have : b ≠ c.Wg := fun e => hl0.noF (c := c) (e ▸ hs)
    exact hs.of_same (hb b this)
  · have : b ≠ c.Wg := fun e => hl.noF (c := c) (e ▸ hs)
    exact hn (hs.of_same (hb b this).symm)
theorem Turn.sb (K : c.Ok) {σ : c.S} {σ' : c.S} (h0 : c.Rep σ w) (h : OnlySB c w w₁) (hr : c.Rep σ' w₁) : Turn c (fun _ => False) w w₁ := by
  refine ⟨h.env, h.size, fun b h1 h2 _ _ h5 => h.old b h1 h2 h5, fun _ h => h.elim, fun _ h => h.elim, fun b hs => ?_, fun b h1 hn hs => ?_, h.flg, fun b h1 hn hs => ?_, fun _ => ⟨σ', hr⟩, fun hl => hl.of_same (h.old _ hl.lt K.sbWg (.inl hl.noF))⟩
  · exact hs.of_same (h.old b hs.lt (fun hb => (K.sb_hard σ w b h0 hb).1 hs) (.inl (hs.noF K)))
  · have hsb : ¬ c.SB b := fun hb => (K.sb_hard σ' w₁ b hr hb).1 hs
    by_cases hf : Flg c w b
    · exact (h.flg b hf).hard K hs
    · exact hn (hs.of_same (h.old b h1 hsb (.inl hf)).symm)
  · have hsb : ¬ c.SB b := fun hb => (K.sb_hard σ' w₁ b hr hb).2 hs
    exact hn (hs.of_same (h.old b h1 hsb (.inl hn)).symm)
/-- a worker's own way into Done may turn its box -/
theorem cell_soft (h : ConcN.AsideCell C 1 0 w w₁) (hs : Soft w C) : Soft w₁ C := by
  obtain ⟨v, hv⟩ := hs
  obtain ⟨cs, h1, h2⟩ := h.pay ⟨#[v], hv, rfl⟩
  obtain ⟨x, rfl⟩ : ∃ x, cs = #[x] := by
    obtain ⟨l⟩ := cs
    match l, h2 with
    | [x], _ => exact ⟨x, rfl⟩
  exact ⟨x, h1⟩
theorem cell_rep (K : c.Ok) (h : ConcN.AsideCell C 1 0 w w₁) (hs : Soft w C) {σ : c.S} (hr : c.Rep σ w) : c.Rep σ w₁ :=
  K.rep_same σ w w₁ hr (Nat.le_of_eq h.size.symm) (fun b _ hx => h.block b (fun e => by
    rcases hx with hx | hx
    · exact (K.sb_hard σ w b hr hx).1 (e ▸ hs)
    · exact hx.1.hard K (e ▸ hs)))
theorem Turn.cell (K : c.Ok) (h : ConcN.AsideCell C 1 0 w w₁) (hs : Soft w C) (h0 : c.H0 ≤ C) (hr : ∃ σ, c.Rep σ w) (hl : Live c.ty c.Wg w) : Turn c (fun b => b = C) w w₁ := by
  have hb : ∀ b, b ≠ C → w₁.heap[b]? = w.heap[b]? := h.block
  have hC : Soft w₁ C := cell_soft h hs
  obtain ⟨σ, hr⟩ := hr
  have hW : c.Wg ≠ C := fun e => hl.hard (e ▸ hs)
  refine ⟨⟨h.tape, h.os ▸ .refl _, h.output⟩, Nat.le_of_eq h.size.symm, fun b _ _ _ hx _ => hb b hx, fun b e => ⟨e ▸ hs, e ▸ hC⟩, fun b e => e ▸ h0, fun b hsb => ?_, fun b _ hn hsb => ?_, fun b hf => ?_, fun b _ hn hf => ?_, fun _ => ⟨σ, cell_rep K h hs hr⟩, fun _ => hl.of_same (hb _ hW)⟩
  · by_cases e : b = C
    · subst e; exact hC
    · exact hsb.of_same (hb b e)
  · by_cases e : b = C
    · subst e; exact hn hs
    · exact hn (hsb.of_same (hb b e).symm)
  · have e : b ≠ C := fun e => hf.hard K (e ▸ hs)
    exact hf.of_same (hb b e)
  · by_cases e : b = C
    · subst e; exact hC.noF K hf
    · exact hn (hf.of_same (hb b e).symm)
/-- the library's own rely, out of ours -/
theorem RW.lib (K : c.Ok) (h : RW c C w w₁) (hs : Soft w C) (hr : ∃ σ, c.Rep σ w) (hl : Live c.ty c.Wg w) : ConcN.RW c.ty c.Wg C 1 0 0 w w₁ := by
  obtain ⟨σ, hr⟩ := hr
  have e := h.same C hs.lt (fun hb => (K.sb_hard σ w C hr hb).1 hs) (fun e => hl.hard (e ▸ hs)) (.inl rfl) (.inl (hs.noF K))
  exact ⟨fun b hb => absurd hb (Nat.not_lt_zero _), fun ⟨st, sm, _⟩ => h.live hl, fun ⟨cs, h1, h2⟩ => ⟨cs, e.trans h1, h2⟩, ConcN.cell_of_block e 0⟩
end

/-! ### who stands where -/
structure WX (U : Type) where
  C : Nat
  u : U
  N : Nat
  wk : Bool
  bl : Bool
section
variable (P : Program) (c : Cfg)
inductive WS (k C : Nat) (u : c.U) (N : Nat) : Bool → Bool → Nat → Nat → Nat → Goroutine → World → Prop
  | work {m : Nat} {g : Goroutine} {w : World} : Goes P false (RW c C) (DW c C) (StopU P c k C (RunU P c k C N) u) m g w → WS k C u N true false 7 m (c.dn u) g w
  | blkd {g : Goroutine} {w : World} : ¬ c.fin u → (∀ w₁, RW c C w w₁ → Vis P c k (RunU P c k C N) u g w₁) → WS k C u N true true 7 0 (c.dn u) { g with status := .blocked } w
  | sit {s m d : Nat} {v : Value} {g : Goroutine} {w : World} : c.fin u → ConcN.WSit P c.ty c.Wg C 1 E0 E0 0 1 v s m d g w → WS k C u N false false s m d g w

/-- the places that the workers may read: whatever no box is, and each its own box -/
def famG (w : World) (Cs : Nat → Nat) (O R : Nat → Loc → Prop) (pb : Loc → Prop) (σ : c.S) (j : Nat) : Fam where
  sh := c.sh
  own := O
  rd := fun k l => (∃ a, l = .cell a ∧ ¬ c.sh l ∧ ¬ c.sp l ∧ (a.block < c.H0 ∨ (∃ i, i < j ∧ k = c.N0 + i ∧ a.block = Cs i) ∨ (c.H0 ≤ a.block ∧ a.block < w.heap.size ∧ ¬ Soft w a.block ∧ ¬ Flg c w a.block))) ∨ R k l
  ex := fun b => b < w.heap.size
  vir := fun l => c.vir σ j l
  pub := pb
  fa := c.pfa
def ownF (us : Nat → c.U) (j : Nat) : Nat → Loc → Prop := fun k l => ∃ i, i < j ∧ k = c.N0 + i ∧ c.own (us i) k l
def prdF (us : Nat → c.U) (j : Nat) : Nat → Loc → Prop := fun k l => ∃ i, i < j ∧ k = c.N0 + i ∧ c.prd (us i) l
abbrev famOf (w : World) (Cs : Nat → Nat) (us : Nat → c.U) (σ : c.S) (j : Nat) : Fam := famG c w Cs (ownF c us j) (prdF c us j) (c.pub σ) σ j

/-- what others had done ahead of the phase is handed over -/
def Over (T0 : Nat) (t : Trace) : Prop := ∀ i g, i < T0 → t.g? i = some g → g ≠ 0 → t.counts i → ∃ j', t.g? j' = some 0 ∧ HappensBefore t i j'
structure Com (Shun : Loc → Prop) (T0 j lw : Nat) (gs : Array Goroutine) (w : World) (t : Trace) (D : Nat → WD) (X : Nat → WX c.U) (σ : c.S) (q : Nat → Nat) (d0 : Nat) : Prop where
  size : gs.size = c.N0 + j
  wk : ∀ i, i < j → ∃ g, gs[c.N0 + i]? = some g ∧ WS P c (c.N0 + i) (X i).C (X i).u (X i).N (X i).wk (X i).bl (D i).stage (D i).fuel (D i).deaf g w
  old : ∀ i g, 0 < i → i < c.N0 → gs[i]? = some g → QuitsD P (q i) (Deaf t i) g
  pt : PT (famOf c w (fun i => (X i).C) (fun i => (X i).u) σ j) Shun c.N0 T0 t j
  norel : ∀ i, T0 ≤ i → t.act? i ≠ some (.mark (.release (stA c.Wg)))
  deaf0 : Deaf t 0 = d0
  deafW : ∀ i, i < j → Deaf t (c.N0 + i) = (D i).deaf
  rel : ∀ i, i < j → (D i).stage ≤ 6 → ∃ r, RelBy (stA c.Wg) t (c.N0 + i) r
  box : ∀ i, i < j → Soft w (X i).C ∧ (X i).C < lw ∧ c.H0 ≤ (X i).C
  inj : ∀ i i', i < j → i' < j → (X i).C = (X i').C → i = i'
  fuel : ∀ i, i < j → (X i).wk = true → c.mu σ (fun i => (X i).u) j ≤ (X i).N
  blks : ∀ i, i < j → (X i).bl = true → c.blk (X i).u σ
  rep : c.Rep σ w
  ju : c.JU σ (fun i => (X i).u) j
  h0 : c.H0 ≤ w.heap.size
  lwle : lw ≤ w.heap.size
  over : Over T0 t
end

theorem apart_famG {c : Cfg} (K : c.Ok) {w : World} {Cs : Nat → Nat} {O R : Nat → Loc → Prop} {pb : Loc → Prop} {σ : c.S} {j : Nat} (hO : ∀ k k' l, O k l → O k' l → k = k')
    (hin : ∀ k l, O k l → c.sp l ∨ ∃ a : Addr, l = .cell a ∧ c.H0 ≤ a.block ∧ Flg c w a.block) (hOp : ∀ k l, O k l → ¬ pb l) (hRp : ∀ k l, R k l → pb l) (hps : ∀ l, pb l → c.sp l) (hbox : ∀ i, i < j → Soft w (Cs i)) : (famG c w Cs O R pb σ j).Apart where
  own := hO
  ownRd := fun k k' l ho hr => by
    rcases hr with ⟨a, rfl, h2, h3, h4⟩ | hr
    · rcases hin k _ ho with h5 | ⟨a', e, h6, h7⟩
      · exact h3 h5
      · injection e with e
        subst e
        rcases h4 with h4 | ⟨i', hi', _, h4⟩ | h4
        · omega
        · exact h7.hard K (h4 ▸ hbox i' hi')
        · exact h4.2.2.2 h7
    · exact hOp k l ho (hRp k' l hr)
  ownSh := fun k l ho hs => by
    rcases hin k l ho with h5 | ⟨a', rfl, h6, h7⟩
    · exact K.sp_sh l h5 hs
    · have := K.sh_lt a' hs; omega
  rdSh := fun k l hr => by
    rcases hr with ⟨a, _, h, _⟩ | hr
    · exact h
    · exact K.sp_sh l (hps l (hRp k l hr))
  memOwn := fun k l ho => by
    rcases hin k l ho with h5 | ⟨a', rfl, _⟩
    · obtain ⟨a, rfl, _⟩ := K.sp_lt l h5; rfl
    · rfl
  memRd := fun k l hr => by
    rcases hr with ⟨a, rfl, _⟩ | hr
    · rfl
    · obtain ⟨a, rfl, _⟩ := K.sp_lt l (hps l (hRp k l hr)); rfl
  ownPub := hOp
  pubSh := fun l hl => K.sp_sh l (hps l hl)
  memPub := fun l hl => by obtain ⟨a, rfl, _⟩ := K.sp_lt l (hps l hl); rfl
theorem apart_fam {c : Cfg} (K : c.Ok) {w : World} {Cs : Nat → Nat} {us : Nat → c.U} {σ : c.S} {j : Nat} (hju : c.JU σ us j) (hrep : c.Rep σ w) (hbox : ∀ i, i < j → Soft w (Cs i)) : (famOf c w Cs us σ j).Apart :=
  apart_famG K (fun k k' l ho ho' => by
    obtain ⟨i, hi, rfl, h1⟩ := ho
    obtain ⟨i', hi', rfl, h2⟩ := ho'
    rw [K.own_one σ us j i i' l hju hi hi' h1 h2])
    (fun k l ho => by
      obtain ⟨i, hi, rfl, h1⟩ := ho
      exact K.own_in σ us j i w _ hju hrep hi h1)
    (fun k l ho => by
      obtain ⟨i, hi, rfl, h1⟩ := ho
      exact K.own_pub σ us j i l hju hi h1)
    (fun k l hr => by
      obtain ⟨i, hi, rfl, h1⟩ := hr
      exact K.prd_pub σ us j i l hju hi h1)
    (K.pub_sp σ) hbox
/-- .. and between two states: what was owned, and what is -/
def own2F (c : Cfg) (us us' : Nat → c.U) (j : Nat) : Nat → Loc → Prop := fun k l => ownF c us j k l ∨ ownF c us' j k l
theorem apart_fam2 {c : Cfg} (K : c.Ok) {X : Nat → Prop} {w w₁ : World} {Cs : Nat → Nat} {us : Nat → c.U} {i : Nat} {u' : c.U} {σ σ' : c.S} {j : Nat} (hT : Turn c X w w₁) (hju : c.JU σ us j) (hrep : c.Rep σ w) (hju' : c.JU σ' (upd us i u') j) (hrep' : c.Rep σ' w₁)
    (hup : ∀ l, c.pub σ l → c.pub σ' l) (hbox : ∀ i, i < j → Soft w₁ (Cs i)) : (famG c w₁ Cs (own2F c us (upd us i u') j) (prdF c us j) (c.pub σ) σ' j).Apart := by
  have mix : ∀ k k' l, ownF c us j k l → ownF c (upd us i u') j k' l → k = k' := by
    rintro k k' l ⟨i1, h1, rfl, o1⟩ ⟨i2, h2, rfl, o2⟩
    by_cases e1 : i1 = i
    · subst e1
      by_cases e2 : i2 = i1
      · rw [e2]
      · rw [upd_ne _ _ e2] at o2
        rw [K.own_one σ us j _ _ l hju h1 h2 o1 o2]
    · have o1' : c.own (upd us i u' i1) (c.N0 + i1) l := by rw [upd_ne _ _ e1]; exact o1
      rw [K.own_one σ' _ j _ _ l hju' h1 h2 o1' o2]
  refine apart_famG K (fun k k' l ho ho' => ?_) (fun k l ho => ?_) (fun k l ho hp => ?_) (fun k l hr => ?_) (K.pub_sp σ) hbox
  · rcases ho with ho | ho <;> rcases ho' with ho' | ho'
    · obtain ⟨i, hi, rfl, h1⟩ := ho
      obtain ⟨i', hi', rfl, h2⟩ := ho'
      rw [K.own_one σ us j i i' l hju hi hi' h1 h2]
    · exact mix _ _ _ ho ho'
    · exact (mix _ _ _ ho' ho).symm
    · obtain ⟨i, hi, rfl, h1⟩ := ho
      obtain ⟨i', hi', rfl, h2⟩ := ho'
      rw [K.own_one σ' _ j i i' l hju' hi hi' h1 h2]
  · rcases ho with ⟨i, hi, rfl, h1⟩ | ⟨i, hi, rfl, h1⟩
    · rcases K.own_in σ us j i w _ hju hrep hi h1 with h2 | ⟨a, e, h2, h3⟩
      · exact .inl h2
      · exact .inr ⟨a, e, h2, hT.flg _ h3⟩
    · exact K.own_in σ' _ j i w₁ _ hju' hrep' hi h1
  · rcases ho with ⟨i, hi, rfl, h1⟩ | ⟨i, hi, rfl, h1⟩
    · exact K.own_pub σ us j i l hju hi h1 hp
    · exact K.own_pub σ' _ j i l hju' hi h1 (hup l hp)
  · obtain ⟨i, hi, rfl, h1⟩ := hr
    exact K.prd_pub σ us j i l hju hi h1

/-- the families where the world goes on, and one worker's state with it -/
theorem PT.turnG {c : Cfg} (K : c.Ok) {X : Nat → Prop} {Shun : Loc → Prop} {T0 j : Nat} {t : Trace} {w w₁ : World} {Cs : Nat → Nat} {us : Nat → c.U} {O' : Nat → Loc → Prop} {σ σ' : c.S} (h : PT (famOf c w Cs us σ j) Shun c.N0 T0 t j) (hT : Turn c X w w₁)
    (hv : ∀ l, c.vir σ' j l → c.vir σ j l) (hk : ∀ k l, ownF c us j k l → O' k l) (hin : ∀ k l, O' k l → c.sp l ∨ ∃ a : Addr, l = .cell a ∧ c.H0 ≤ a.block ∧ Flg c w₁ a.block)
    (hg : ∀ k l, O' k l → ownF c us j k l ∨ c.vir σ j l ∨ ∃ a : Addr, l = .cell a ∧ w.heap.size ≤ a.block) : PT (famG c w₁ Cs O' (prdF c us j) (c.pub σ) σ' j) Shun c.N0 T0 t j := by
  have old : ∀ k, ∀ l, (famOf c w Cs us σ j).rd k l → (famG c w₁ Cs O' (prdF c us j) (c.pub σ) σ' j).rd k l := by
    rintro k l (⟨a, h1, h2, h3, h4⟩ | hr)
    · refine .inl ⟨a, h1, h2, h3, ?_⟩
      rcases h4 with h4 | h4 | ⟨h4, h5, h6, h7⟩
      · exact .inl h4
      · exact .inr (.inl h4)
      · exact .inr (.inr ⟨h4, Nat.lt_of_lt_of_le h5 hT.size, hT.hard _ h5 h6, hT.hardF _ h5 h7⟩)
    · exact .inr hr
  refine h.extend rfl rfl (fun k hst l hl => ?_) (fun k hst l hl => ?_) (fun l _ _ hp hf => ⟨hp, fun k hst => ⟨fun ho => (hf k hst).1 (hk k l ho), fun hr => (hf k hst).2 (old k l hr)⟩⟩) (fun l _ _ hp hf => ⟨hp, fun k hst ho => hf k hst (hk k l ho)⟩) (fun b hb => Nat.lt_of_lt_of_le hb hT.size) hv (fun l hl => .inl hl)
  · rcases hg k l hl with h2 | h2
    · exact .inl h2
    · have hns : ¬ c.sh l := fun hs => by
        rcases hin k l hl with h5 | ⟨a', rfl, h6, h7⟩
        · exact K.sp_sh l h5 hs
        · have := K.sh_lt a' hs; omega
      have hml : l.isMemory = true := by
        rcases hin k l hl with h5 | ⟨a', rfl, h6, h7⟩
        · obtain ⟨a, rfl, _⟩ := K.sp_lt l h5; rfl
        · rfl
      refine .inr fun ix b hb e => ?_
      have hm : b.loc.isMemory = true := by rw [e]; exact hml
      by_cases hix : ix < T0
      · rcases h.base ix b hix hb hm with ⟨hx, _⟩ | hx
        · exact absurd (h.shS _ hx) (by rw [e]; exact hns)
        · exact hx _ hst
      · obtain ⟨hlo, hvi⟩ := h.low ix b (by omega) hb hm
        rcases h2 with h2 | ⟨a, h2, h3⟩
        · exact absurd h2 (by rw [← e]; exact hvi)
        · have hlt : a.block < w.heap.size := hlo a (e.trans h2)
          omega
  · rcases hl with ⟨a, h1, h2, h3, h4⟩ | hl
    · rcases h4 with h4 | h4 | ⟨h4, h5, h6, h7⟩
      · exact .inl (.inl ⟨a, h1, h2, h3, .inl h4⟩)
      · exact .inl (.inl ⟨a, h1, h2, h3, .inr (.inl h4)⟩)
      · by_cases hlt : a.block < w.heap.size
        · exact .inl (.inl ⟨a, h1, h2, h3, .inr (.inr ⟨h4, hlt, fun hs => h6 (hT.new _ hs), fun hs => h7 (hT.flg _ hs)⟩)⟩)
        · refine .inr fun ix b hb e hw => ?_
          have hm : b.loc.isMemory = true := by rw [e, h1]; rfl
          by_cases hix : ix < T0
          · rcases h.base ix b hix hb hm with ⟨hx, _⟩ | hx
            · exact absurd (h.shS _ hx) (by rw [e]; exact h2)
            · exact hx k hst
          · have hlo := (h.low ix b (by omega) hb hm).1 a (e.trans h1)
            exact absurd hlo hlt
    · exact .inl (.inr hl)
theorem PT.turn0 {c : Cfg} (K : c.Ok) {X : Nat → Prop} {Shun : Loc → Prop} {T0 j : Nat} {t : Trace} {w w₁ : World} {Cs : Nat → Nat} {us : Nat → c.U} {σ : c.S} (h : PT (famOf c w Cs us σ j) Shun c.N0 T0 t j) (hT : Turn c X w w₁) (hju : c.JU σ us j) (hrep' : c.Rep σ w₁) : PT (famOf c w₁ Cs us σ j) Shun c.N0 T0 t j :=
  h.turnG K hT (fun _ h => h) (fun _ _ h => h) (fun k l ho => by
    obtain ⟨i, hi, rfl, h1⟩ := ho
    exact K.own_in σ us j i w₁ _ hju hrep' hi h1) (fun _ _ h => .inl h)
/-- A WORKER's STEP, for the families and the trace -/
theorem PT.stepW {c : Cfg} (K : c.Ok) {X : Nat → Prop} {Shun : Loc → Prop} {T0 j i : Nat} {t : Trace} {w w₁ : World} {Cs : Nat → Nat} {us : Nat → c.U} {u' : c.U} {σ σ' : c.S} {fn : FuncId} {pos : String} {es : Array Event} (h : PT (famOf c w Cs us σ j) Shun c.N0 T0 t j) (hi : i < j) (hT : Turn c X w w₁)
    (hju : c.JU σ us j) (hrep : c.Rep σ w) (hju' : c.JU σ' (upd us i u') j) (hrep' : c.Rep σ' w₁) (hbox : ∀ i, i < j → Soft w₁ (Cs i))
    (hv : ∀ l, c.vir σ' j l → c.vir σ j l) (hk : ∀ l, c.own (us i) (c.N0 + i) l → c.own u' (c.N0 + i) l ∨ c.pub σ' l) (hg : ∀ l, c.own u' (c.N0 + i) l → c.own (us i) (c.N0 + i) l ∨ c.vir σ j l ∨ ∃ a : Addr, l = .cell a ∧ w.heap.size ≤ a.block)
    (hup : ∀ l, c.pub σ l → c.pub σ' l) (hnew : ∀ l, c.pub σ' l → c.pub σ l ∨ (c.own (us i) (c.N0 + i) l ∧ es = #[⟨.cell c.pfa, true, true⟩] ∧ Deaf t (c.N0 + i) = 0))
    (hrd : ∀ l, c.prd u' l → c.prd (us i) l ∨ c.own (us i) (c.N0 + i) l ∨ (c.pub σ l ∧ es = #[⟨.cell c.pfa, false, true⟩] ∧ Deaf t (c.N0 + i) = 0))
    (hok : ∀ op ∈ MemOp.ofEvents (c.N0 + i) fn pos es, OkP (famG c w₁ Cs (own2F c us (upd us i u') j) (prdF c us j) (c.pub σ) σ' j) (c.N0 + i) op) :
    PT (famOf c w₁ Cs (upd us i u') σ' j) Shun c.N0 T0 (t ++ MemOp.ofEvents (c.N0 + i) fn pos es) j := by
  have hst : Started c.N0 j (c.N0 + i) := ⟨by omega, by omega⟩
  have hA := apart_fam2 (i := i) (u' := u') K hT hju hrep hju' hrep' hup hbox
  have p1 : PT (famG c w₁ Cs (own2F c us (upd us i u') j) (prdF c us j) (c.pub σ) σ' j) Shun c.N0 T0 t j := by
    refine h.turnG K hT hv (fun k l ho => .inl ho) (fun k l ho => ?_) (fun k l ho => ?_)
    · rcases ho with ⟨i1, h1, rfl, o1⟩ | ⟨i1, h1, rfl, o1⟩
      · rcases K.own_in σ us j i1 w _ hju hrep h1 o1 with h2 | ⟨a, e, h2, h3⟩
        · exact .inl h2
        · exact .inr ⟨a, e, h2, hT.flg _ h3⟩
      · exact K.own_in σ' _ j i1 w₁ _ hju' hrep' h1 o1
    · rcases ho with ho | ⟨i1, h1, rfl, o1⟩
      · exact .inl ho
      · by_cases e : i1 = i
        · subst e
          rw [upd_same] at o1
          rcases hg l o1 with h2 | h2
          · exact .inl ⟨i1, h1, rfl, h2⟩
          · exact .inr h2
        · rw [upd_ne _ _ e] at o1
          exact .inl ⟨i1, h1, rfl, o1⟩
  have p2 := p1.appW hA hst hok
  have nfa : ∀ σ l, c.pub σ l → l ≠ .cell c.pfa := fun σ l hl e => by
    rcases K.pfaSh with h1 | h1
    · exact K.sp_sh l (K.pub_sp σ l hl) (e ▸ h1)
    · exact h1 σ l hl
  refine p2.extend rfl rfl (fun k hst' l hl => .inl (.inr hl)) (fun k hst' l hl => ?_) (fun l _ _ hp hf => ⟨fun h => hp (hup l h), fun k hst' => ⟨fun ho => ?_, fun hr => ?_⟩⟩) (fun l _ _ hp hf => ⟨fun h => hp (hup l h), fun k hst' ho => ?_⟩) (fun b hb => hb) (fun l hl => hl) (fun l hl => ?_)
  · rcases hl with hl | ⟨i1, h1, rfl, hl⟩
    · exact .inl (.inl hl)
    · by_cases e : i1 = i
      · subst e
        rw [upd_same] at hl
        rcases hrd l hl with h2 | h2 | ⟨h2, rfl, h3⟩
        · exact .inl (.inr ⟨i1, h1, rfl, h2⟩)
        · exact .inr fun ix a ha e2 _ => p2.own _ hst' l (.inl ⟨i1, h1, rfl, h2⟩) ix a ha e2
        · refine .inr ?_
          have hq : PubAt c.pfa t l := p1.pubq l h2
          rw [show MemOp.ofEvents (c.N0 + i1) fn pos #[⟨.cell c.pfa, false, true⟩] = #[⟨c.N0 + i1, fn, pos, .access ⟨.cell c.pfa, false, true⟩⟩] from by simp [MemOp.ofEvents]; rfl]
          exact hq.knows (y := ⟨c.N0 + i1, fn, pos, .access ⟨.cell c.pfa, false, true⟩⟩) rfl (nfa σ l h2) h3
      · rw [upd_ne _ _ e] at hl
        exact .inl (.inr ⟨i1, h1, rfl, hl⟩)
  · rcases ho with ⟨i1, h1, rfl, o1⟩ | ho
    · by_cases e : i1 = i
      · subst e
        rcases hk l o1 with h2 | h2
        · exact (hf _ hst').1 ⟨i1, h1, rfl, by rw [upd_same]; exact h2⟩
        · exact hp h2
      · exact (hf _ hst').1 ⟨i1, h1, rfl, by rw [upd_ne _ _ e]; exact o1⟩
    · exact (hf _ hst').1 ho
  · rcases hr with hr | ⟨i1, h1, rfl, hr⟩
    · exact (hf _ hst').2 (.inl hr)
    · exact hp (hup l (K.prd_pub σ us j i1 l hju h1 hr))
  · rcases ho with ⟨i1, h1, rfl, o1⟩ | ho
    · by_cases e : i1 = i
      · subst e
        rcases hk l o1 with h2 | h2
        · exact hf _ hst' ⟨i1, h1, rfl, by rw [upd_same]; exact h2⟩
        · exact hp h2
      · exact hf _ hst' ⟨i1, h1, rfl, by rw [upd_ne _ _ e]; exact o1⟩
    · exact hf _ hst' ho
  · rcases hnew l hl with h2 | ⟨h2, rfl, h3⟩
    · exact .inl h2
    · refine .inr ?_
      have hq : Perm t (c.N0 + i) l := p1.own _ hst l (.inl ⟨i, hi, rfl, h2⟩)
      rw [show MemOp.ofEvents (c.N0 + i) fn pos #[⟨.cell c.pfa, true, true⟩] = #[⟨c.N0 + i, fn, pos, .access ⟨.cell c.pfa, true, true⟩⟩] from by simp [MemOp.ofEvents]; rfl]
      exact PubAt.new (y := ⟨c.N0 + i, fn, pos, .access ⟨.cell c.pfa, true, true⟩⟩) hq rfl (nfa σ' l hl) h3

theorem Over.app {T0 : Nat} {t : Trace} (h : Over T0 t) (hs : T0 ≤ t.size) (u : Trace) : Over T0 (t ++ u) := fun i g hi hg hne hc => by
  have hlt : i < t.size := Nat.lt_of_lt_of_le hi hs
  obtain ⟨j', h1, h2⟩ := h i g hi (by rw [← hg]; exact (g?_old hlt).symm) hne ((counts_old hlt).1 hc)
  exact ⟨j', g?_app_old h1, hb_app u h2⟩
end Go.Proofs.Ytinghnaigpenkaa

end
section
/- A phase: the starter's situations; the invariant; whatever step of a worker's, whatever step of the starter's. -/
namespace Go.Proofs.Ytinghnaigpenkaa
open Go.Conc
open Go.ConcN (CTag phi isOpen isW3 isFin pend WD Vc Ssum Fsum cnt OpenSt AllQuit Mode RelBy sumTo upd sumTo_upd upd_same upd_ne sumTo_congr sumTo_upd_out le_sumTo get_map_set get_map_set_same Deaf_still Deaf_absent phi_mono)
open Go.ConcR (KK wgBlock WgAt stA smA rd wr mk Payload DC0 Bk g_of_ofEvents again_blocked bk_of_mute ofEvent_mk loc_of_ofEvent ofEvent_loc_mark ofEvent_cell)
set_option linter.unusedVariables false
set_option linter.unusedSimpArgs false
set_option linter.unusedSectionVars false
variable [Payload]

/-- who is blocked is let try again behind this step -/
def wakes (P : Program) (g g' : Goroutine) : Bool := mayWake P g && g'.status != .blocked && g'.status != .waiting
theorem wakes_of {P : Program} {g g' : Goroutine} (h : mayWake P g = true) (h' : g'.status = .running) : wakes P g g' = true := by simp [wakes, h, h']
theorem wakes_blocked {P : Program} {g g' : Goroutine} (h : g'.status = .blocked) : wakes P g g' = false := by simp [wakes, h]
def wakeX {U : Type} (b : Bool) (X : Nat → WX U) : Nat → WX U := fun i => { X i with bl := (X i).bl && !b }

section
variable (P : Program) (c : Cfg) (Anch : Nat → Goroutine → World → Prop) (Fin : Goroutine → World → Prop)
/-- tag, how many are started, fuel, deafness, the boxes' bound -/
inductive CS : CTag → Nat → Nat → Nat → Nat → Goroutine → World → Prop
  | skd {r m lw : Nat} {g : Goroutine} {w : World} : r < c.n → Goes P true (R0 c lw) (D0 c lw) (AtKdS P c lw (c.n - (r + 1)) (Spawns P c Anch r)) m g w → CS (.sp r 5) (c.n - (r + 1)) m 0 lw g w
  | sa1 {r m lw : Nat} {g : Goroutine} {w : World} : r < c.n → Goes P true (R0 c lw) (D0 c lw) (AtA1 P c lw (c.n - (r + 1)) (Spawns P c Anch r)) m g w → CS (.sp r 4) (c.n - (r + 1)) m 1 lw g w
  | ske {r m lw : Nat} {g : Goroutine} {w : World} : r < c.n → Goes P true (R0 c lw) (D0 c lw) (AtKeS P c lw (c.n - (r + 1)) (Spawns P c Anch r)) m g w → CS (.sp r 3) (c.n - (r + 1)) m 1 lw g w
  | sgo {r m lw : Nat} {g : Goroutine} {w : World} : r < c.n → Goes P true (R0 c lw) (D0 c lw) (AtGoS P c lw (c.n - (r + 1)) (Spawns P c Anch r)) m g w → CS (.sp r 2) (c.n - (r + 1)) m 0 lw g w
  | kd {m lw : Nat} {g : Goroutine} {w : World} : Goes P true (R0 c lw) (D0 c lw) (AtKd P c lw (Anch lw)) m g w → CS .kd c.n m 0 lw g w
  | anch {m lw : Nat} {g : Goroutine} {w : World} : Goes P true (R0 c lw) (D0 c lw) (Anch lw) m g w → CS .anch c.n m 1 lw g w
  | w1 {m lw : Nat} {g : Goroutine} {w : World} : Goes P true (R0 c lw) (D0 c lw) (AtW1 P c lw (Anch lw) Fin) m g w → CS .w1 c.n m 1 lw g w
  | w2 {vs m lw : Nat} {g : Goroutine} {w : World} : Goes P true (R0 c lw) (D0 c lw) (AtW2 P c lw (Anch lw) Fin vs) m g w → CS (.w2 vs) c.n m 1 lw g w
  | w3 {m lw : Nat} {g : Goroutine} {w : World} : Goes P true (R0 c lw) (D0 c lw) (AtW3 P c lw Fin) m g w → CS .w3 c.n (m + 1) 1 lw g w
  | blk {lw : Nat} {g : Goroutine} {w : World} : (∀ w₁, R0 c lw w w₁ → AtW3 P c lw Fin g w₁) → CS .blk c.n 0 1 lw { g with status := .blocked } w
  | w4 {m lw : Nat} {g : Goroutine} {w : World} : Goes P true (R0 c lw) (D0 c lw) (AtW4 P c lw Fin) m g w → CS .w4 c.n m 1 lw g w
  | ke {m lw : Nat} {g : Goroutine} {w : World} : Goes P true (R0 c lw) (D0 c lw) (AtKe P c lw Fin) m g w → CS .ke c.n m 1 lw g w
  | acq {m lw : Nat} {g : Goroutine} {w : World} : Goes P true (R0 c lw) (D0 c lw) (AtAcq P c Fin) m g w → CS .acq c.n m 0 lw g w
end

section
variable {P : Program} {c : Cfg} {Anch : Nat → Goroutine → World → Prop} {Fin : Goroutine → World → Prop} {tag : CTag} {j f d lw : Nat} {a : Goroutine} {w w' : World}
theorem CS.rely (h : CS P c Anch Fin tag j f d lw a w) (hr : R0 c lw w w') : CS P c Anch Fin tag j f d lw a w' := by
  have tr : ∀ x y z, R0 c lw x y → R0 c lw y z → R0 c lw x z := fun _ _ _ h1 h2 => h1.trans h2
  cases h with
  | skd hn h => exact .skd hn (Goes.rely tr h hr)
  | sa1 hn h => exact .sa1 hn (Goes.rely tr h hr)
  | ske hn h => exact .ske hn (Goes.rely tr h hr)
  | sgo hn h => exact .sgo hn (Goes.rely tr h hr)
  | kd h => exact .kd (Goes.rely tr h hr)
  | anch h => exact .anch (Goes.rely tr h hr)
  | w1 h => exact .w1 (Goes.rely tr h hr)
  | w2 h => exact .w2 (Goes.rely tr h hr)
  | w3 h => exact .w3 (Goes.rely tr h hr)
  | blk h => exact .blk (fun w₂ h₂ => h w₂ (hr.trans h₂))
  | w4 h => exact .w4 (Goes.rely tr h hr)
  | ke h => exact .ke (Goes.rely tr h hr)
  | acq h => exact .acq (Goes.rely tr h hr)

/-- it is running, or it is blocked at the semaphore -/
theorem CS.status (hAr : ∀ lw g w, Anch lw g w → g.status = .running) (h : CS P c Anch Fin tag j f d lw a w) : (a.status = .running ∧ tag ≠ .blk) ∨ (a.status = .blocked ∧ tag = .blk) := by
  cases h with
  | skd _ h => exact .inl ⟨Goes.running (fun _ _ x => x.1) w (.refl w) h, by simp⟩
  | sa1 _ h => exact .inl ⟨Goes.running (fun _ _ x => x.1) w (.refl w) h, by simp⟩
  | ske _ h => exact .inl ⟨Goes.running (fun _ _ x => x.1) w (.refl w) h, by simp⟩
  | sgo _ h => exact .inl ⟨Goes.running (fun _ _ x => x.1) w (.refl w) h, by simp⟩
  | kd h => exact .inl ⟨Goes.running (fun _ _ x => x.1) w (.refl w) h, by simp⟩
  | anch h => exact .inl ⟨Goes.running (hAr lw) w (.refl w) h, by simp⟩
  | w1 h => exact .inl ⟨Goes.running (fun _ _ x => x.1) w (.refl w) h, by simp⟩
  | w2 h => exact .inl ⟨Goes.running (fun _ _ x => x.1) w (.refl w) h, by simp⟩
  | w3 h => exact .inl ⟨Goes.running (fun _ _ x => x.1) w (.refl w) h, by simp⟩
  | blk h => exact .inr ⟨rfl, rfl⟩
  | w4 h => exact .inl ⟨Goes.running (fun _ _ x => x.1) w (.refl w) h, by simp⟩
  | ke h => exact .inl ⟨Goes.running (fun _ _ x => x.1) w (.refl w) h, by simp⟩
  | acq h => exact .inl ⟨Goes.running (fun _ _ x => x.1) w (.refl w) h, by simp⟩

/-- under another's step: as it stood; or, blocked, it is let try again -/
theorem CS.wokenBy (hAr : ∀ lw g w, Anch lw g w → g.status = .running) (h : CS P c Anch Fin tag j f d lw a w) (hr : R0 c lw w w') (g g' : Goroutine) :
    ∃ tag' f', CS P c Anch Fin tag' j f' d lw (woken P g g' w' a) w' ∧ f' ≤ f + 1 ∧ (tag' = tag ∨ (tag = .blk ∧ tag' = .w3)) ∧ (mayWake P g = true → g'.status = .running → tag' ≠ .blk) ∧ (wakes P g g' = false → f' = f) := by
  have h' := h.rely hr
  unfold Go.Conc.woken
  split
  · rename_i hw
    have hno : ∀ p : Prop, wakes P g g' = false → p := fun p e => by unfold wakes at e; rw [e] at hw; cases hw
    rcases h'.status hAr with ⟨hs, hne⟩ | ⟨_, rfl⟩
    · exact ⟨tag, f, by rw [again_running _ (.inl hs)]; exact h', by omega, .inl rfl, fun _ _ => hne, fun _ => rfl⟩
    · cases h' with
      | blk hb =>
        rename_i g0
        have h3 := hb w' (.refl w')
        exact ⟨.w3, 0 + 1, by rw [again_blocked h3.1 h3.2.1]; exact .w3 (Goes.stop hb), by omega, .inr ⟨rfl, rfl⟩, fun _ _ => by simp, hno _⟩
  · rename_i hc
    exact ⟨tag, f, h', by omega, .inl rfl, fun h1 h2 => absurd (by simp [h1, h2]) hc, fun _ => rfl⟩
theorem CS.bound (h : CS P c Anch Fin tag j f d lw a w) : j + pend tag ≤ c.n := by
  cases h <;> simp only [pend] <;> (try simp) <;> omega
end

section
variable {P : Program} {c : Cfg} {k C N s m d : Nat} {u : c.U} {b bl : Bool} {g : Goroutine} {w w₁ : World}
theorem WS.rely (K : c.Ok) (h : WS P c k C u N b bl s m d g w) (hr : RW c C w w₁) (hs : Soft w C) (hrep : ∃ σ, c.Rep σ w) (hl : Live c.ty c.Wg w) : WS P c k C u N b bl s m d g w₁ := by
  cases h with
  | work h => exact .work (Goes.rely (fun _ _ _ h1 h2 => h1.trans h2) h hr)
  | blkd hf h => exact .blkd hf (fun w₂ h₂ => h w₂ (hr.trans h₂))
  | sit hf h => exact .sit hf (h.rely (hr.lib K hs hrep hl))
theorem stopU_running {K : c.U → Goroutine → World → Prop} (x : StopU P c k C K u g w) : g.status = .running := by
  rcases x with ⟨_, x, _⟩ | ⟨_, x, _⟩ <;> exact x
theorem WS.status (h : WS P c k C u N b bl s m d g w) : (bl = false ∧ (g.status = .running ∨ g.status = .finished)) ∨ (bl = true ∧ g.status = .blocked ∧ s = 7 ∧ ¬ c.fin u) := by
  cases h with
  | work h => exact .inl ⟨rfl, .inl (Goes.running (fun _ _ x => stopU_running x) w (RW.refl w) h)⟩
  | blkd hf h => exact .inr ⟨rfl, rfl, rfl, hf⟩
  | sit hf h => exact .inl ⟨rfl, h.status⟩
theorem WS.wokenBy (h : WS P c k C u N b bl s m d g w) (a a' : Goroutine) (w' : World) : WS P c k C u N b (bl && !wakes P a a') s m d (woken P a a' w' g) w := by
  unfold Go.Conc.woken
  show WS P c k C u N b (bl && !wakes P a a') s m d (if wakes P a a' = true then g.again w' else g) w
  cases hw : wakes P a a' with
  | false => simpa using h
  | true =>
    simp only [if_true, Bool.not_true, Bool.and_false]
    cases h with
    | work h =>
      have := again_running w' (.inl (Goes.running (fun _ _ x => stopU_running x) w (RW.refl w) h))
      rw [this]; exact .work h
    | blkd hf h =>
      have h3 := h w (.refl w)
      rw [again_blocked h3.1 h3.2.1]
      exact .work (Goes.stop fun w₁ h₁ => .inr ⟨hf, h w₁ h₁⟩)
    | sit hf h => rw [again_running w' h.status]; exact .sit hf h
theorem WS.stage (h : WS P c k C u N b bl s m d g w) : s ≤ 7 ∧ (b = true → s = 7) := by
  cases h with
  | work h => exact ⟨Nat.le_refl _, fun _ => rfl⟩
  | blkd hf h => exact ⟨Nat.le_refl _, fun _ => rfl⟩
  | sit hf h => exact ⟨by cases h <;> omega, fun e => by cases e⟩
theorem WS.quits (h : WS P c k C u N b bl s m d g w) (hs : s = 1) : QuitsD P m d g := by
  cases h with
  | work h => omega
  | blkd hf h => omega
  | sit hf h => exact ConcN.WSit.quits h hs
theorem WS.fin (h : WS P c k C u N b bl s m d g w) (hs : s ≠ 7) : c.fin u := by
  cases h with
  | work h => exact absurd rfl hs
  | blkd hf h => exact absurd rfl hs
  | sit hf h => exact hf
theorem WS.woken_quits (h : WS P c k C u N b bl s m d g w) (hs : s = 1) (a a' : Goroutine) (w' : World) : woken P a a' w' g = g := woken_quitsD (h.quits hs)
end

def wkb (b : Bool) : Nat := if b then 1 else 0
def nbb (b : Bool) : Nat := if b then 0 else 1
def Nb {U : Type} (j : Nat) (X : Nat → WX U) : Nat := sumTo j fun i => nbb (X i).bl
theorem Nb_le {U : Type} (j : Nat) (X : Nat → WX U) : Nb j X ≤ j := by
  unfold Nb
  induction j with
  | zero => exact Nat.le_refl _
  | succ j ih => simp only [sumTo, nbb] at ih ⊢; split <;> omega
/-- the measure's last part -/
theorem m3_w {n f0 f' s s' F F' : Nat} (h1 : f' ≤ f0 + 1) (h2 : s' ≤ n) (h3 : F' + 1 ≤ F) : (n + 1) * f' + s' + (2 * n + 3) * F' < (n + 1) * f0 + s + (2 * n + 3) * F := by
  have a1 := Nat.mul_le_mul_left (n + 1) h1
  have a2 := Nat.mul_le_mul_left (2 * n + 3) h3
  rw [Nat.mul_add] at a1 a2
  omega
theorem m3_c {n f0 f' s s' F F' : Nat} (h1 : f' < f0) (h2 : s' ≤ n) (h3 : F' ≤ F) : (n + 1) * f' + s' + (2 * n + 3) * F' < (n + 1) * f0 + s + (2 * n + 3) * F := by
  have a1 : (n + 1) * (f' + 1) ≤ (n + 1) * f0 := Nat.mul_le_mul_left (n + 1) h1
  have a2 := Nat.mul_le_mul_left (2 * n + 3) h3
  rw [Nat.mul_add] at a1
  omega
theorem m3_b {n f0 s s' F F' : Nat} (h2 : s' < s) (h3 : F' ≤ F) : (n + 1) * f0 + s' + (2 * n + 3) * F' < (n + 1) * f0 + s + (2 * n + 3) * F := by
  have a2 := Nat.mul_le_mul_left (2 * n + 3) h3
  omega
def Wk {U : Type} (j : Nat) (X : Nat → WX U) : Nat := sumTo j fun i => wkb (X i).wk
abbrev Lt3 : Nat × Nat × Nat → Nat × Nat × Nat → Prop := Prod.Lex (· < ·) (Prod.Lex (· < ·) (· < ·))
section
variable (P : Program) (c : Cfg) (Anch : Nat → Goroutine → World → Prop) (Fin : Goroutine → World → Prop) (Shun : Loc → Prop) (T0 : Nat)
def Meas (j : Nat) (D : Nat → WD) (X : Nat → WX c.U) (σ : c.S) (q : Nat → Nat) (tag : CTag) (f0 : Nat) : Nat × Nat × Nat :=
  (phi c.n (Vc j D) tag + Ssum j D, c.mu σ (fun i => (X i).u) j + Wk j X, (c.n + 1) * f0 + Nb j X + (2 * c.n + 3) * (Fsum j D + sumTo c.N0 q))
def Inv (μ : Nat × Nat × Nat) (m : Machine) (t : Trace) : Prop :=
  ∃ (gs : Array Goroutine) (w : World) (sl : Option (Nat × Nat)) (j : Nat) (D : Nat → WD) (X : Nat → WX c.U) (σ : c.S) (q : Nat → Nat) (tag : CTag) (f0 d0 lw : Nat) (a : Goroutine) (st sm : Int),
    m = crowd gs w sl ∧ gs[0]? = some a ∧ CS P c Anch Fin tag j f0 d0 lw a w ∧ Com P c Shun T0 j lw gs w t D X σ q d0 ∧ WgAt c.ty c.Wg w st sm ∧ ConcN.Mode j D tag st sm ∧ μ = Meas c j D X σ q tag f0
end

theorem upd_u {U : Type} (X : Nat → WX U) (i : Nat) (x : WX U) : (fun a => (upd X i x a).u) = upd (fun a => (X a).u) i x.u := by
  funext a
  by_cases e : a = i
  · subst e; simp [upd_same]
  · rw [upd_ne X _ e, upd_ne _ _ e]
theorem upd_C {U : Type} (X : Nat → WX U) (i : Nat) (x : WX U) (h : x.C = (X i).C) : (fun a => (upd X i x a).C) = fun a => (X a).C := by
  funext a
  by_cases e : a = i
  · subst e; rw [upd_same, h]
  · rw [upd_ne X _ e]
theorem norel_app {T0 : Nat} {t u : Trace} {x : Addr} (h : ∀ i, T0 ≤ i → t.act? i ≠ some (.mark (.release x))) (hu : ∀ op ∈ u, op.act ≠ .mark (.release x)) : ∀ i, T0 ≤ i → (t ++ u).act? i ≠ some (.mark (.release x)) := by
  intro i hi e
  obtain ⟨op, ho, hoa⟩ := Option.map_eq_some_iff.1 e
  rcases getElem?_append_cases ho with ⟨_, ho'⟩ | ⟨_, hou⟩
  · exact h i hi (by rw [act?_of ho', hoa])
  · exact hu op hou hoa
theorem norel_ofEvents {g : Nat} {fn : FuncId} {pos : String} {es : Array Event} {x : Addr} (h : ∀ e ∈ es, e.loc ≠ .mark (.release x)) : ∀ op ∈ MemOp.ofEvents g fn pos es, op.act ≠ .mark (.release x) := by
  intro op hop e
  obtain ⟨ev, he, rfl⟩ := Go.Conc.mem_ofEvents hop
  exact h ev he (loc_of_ofEvent e)

section
variable {P : Program} {c : Cfg} {Anch : Nat → Goroutine → World → Prop} {Fin : Goroutine → World → Prop} {Shun : Loc → Prop} {T0 : Nat}
  {gs : Array Goroutine} {w w' : World} {sl : Option (Nat × Nat)} {j lw : Nat} {D : Nat → WD} {X : Nat → WX c.U} {σ σ' : c.S} {q : Nat → Nat} {tag : CTag} {f0 d0 : Nat} {a : Goroutine} {t : Trace} {st sm st' sm' : Int}

/-- a draw -/
theorem Com.at (K : c.Ok) (h : Com P c Shun T0 j lw gs w t D X σ q d0) (hl : Live c.ty c.Wg w) (d : Nat) : Com P c Shun T0 j lw gs (w.at d) t D X σ q d0 := by
  have hT := Turn.of_at K w d
  exact ⟨h.size, fun i hi => let ⟨g, hg, hs⟩ := h.wk i hi; ⟨g, hg, hs.rely K (hT.rw (fun e => e)) (h.box i hi).1 ⟨σ, h.rep⟩ hl⟩, h.old, h.pt.turn0 K hT h.ju (rep_at K h.rep d), h.norel, h.deaf0, h.deafW, h.rel, h.box, h.inj, h.fuel, h.blks, rep_at K h.rep d, h.ju, h.h0, h.lwle, h.over⟩

/-- A STEP OF WORKER NUMBER i -/
theorem workerStep (K : c.Ok) (hAr : ∀ lw g w, Anch lw g w → g.status = .running) (ha : gs[0]? = some a) (hcs : CS P c Anch Fin tag j f0 d0 lw a w) (hcom : Com P c Shun T0 j lw gs w t D X σ q d0) (hl : Live c.ty c.Wg w)
    {i : Nat} (hi : i < j) {g g' : Goroutine} {es : Array Event} {s' m' dd' : Nat} {x' : WX c.U} {Xs : Nat → Prop} (hg : gs[c.N0 + i]? = some g) (hgo : stepG P false g w = .go g' w' es)
    (hT : Turn c Xs w w') (hXs : ∀ b, Xs b → b = (X i).C) (hxC : x'.C = (X i).C) (hs' : WS P c (c.N0 + i) (X i).C x'.u x'.N x'.wk x'.bl s' m' dd' g' w')
    (hok : ∀ op ∈ MemOp.ofEvents (c.N0 + i) g.frame.fn g.frame.place es, OkP (famG c w' (fun i => (X i).C) (own2F c (fun a => (X a).u) (upd (fun a => (X a).u) i x'.u) j) (prdF c (fun a => (X a).u) j) (c.pub σ) σ' j) (c.N0 + i) op) (hnr : ∀ e ∈ es, e.loc ≠ .mark (.release (stA c.Wg)))
    (hdeaf : deafBehind (D i).deaf es = dd') (hrel : s' ≤ 6 → ∃ r, RelBy (stA c.Wg) (t ++ MemOp.ofEvents (c.N0 + i) g.frame.fn g.frame.place es) (c.N0 + i) r)
    (hrep : c.Rep σ' w') (hju : c.JU σ' (upd (fun a => (X a).u) i x'.u) j) (hmu : c.mu σ' (upd (fun a => (X a).u) i x'.u) j ≤ c.mu σ (fun a => (X a).u) j) (hN : x'.wk = true → c.mu σ' (upd (fun a => (X a).u) i x'.u) j ≤ x'.N)
    (hvir : ∀ l, c.vir σ' j l → c.vir σ j l) (hkeep : ∀ l, c.own (X i).u (c.N0 + i) l → c.own x'.u (c.N0 + i) l ∨ c.pub σ' l) (hpv : (∀ l, c.pub σ l → c.pub σ' l) ∧ (∀ l, c.pub σ' l → c.pub σ l ∨ (c.own (X i).u (c.N0 + i) l ∧ es = #[⟨.cell c.pfa, true, true⟩] ∧ (D i).deaf = 0)) ∧ (∀ l, c.prd x'.u l → c.prd (X i).u l ∨ c.own (X i).u (c.N0 + i) l ∨ (c.pub σ l ∧ es = #[⟨.cell c.pfa, false, true⟩] ∧ (D i).deaf = 0)))
    (hgain : ∀ l, c.own x'.u (c.N0 + i) l → c.own (X i).u (c.N0 + i) l ∨ c.vir σ j l ∨ ∃ a : Addr, l = .cell a ∧ w.heap.size ≤ a.block)
    (hblk : (∀ v, c.blk v σ → c.blk v σ') ∨ wakes P g g' = true) (hxb : x'.bl = true → c.blk x'.u σ')
    (hwg : WgAt c.ty c.Wg w' st' sm')
    (hmode : ∀ tag', (tag' = tag ∨ (tag = .blk ∧ tag' = .w3)) → (mayWake P g = true → g'.status = .running → tag' ≠ .blk) → ConcN.Mode j (upd D i ⟨s', m', dd'⟩) tag' st' sm')
    (hlt : (s' < (D i).stage ∧ cnt ⟨s', m', dd'⟩ ≤ cnt (D i)) ∨ (s' = (D i).stage ∧ (c.mu σ' (upd (fun a => (X a).u) i x'.u) j + wkb x'.wk < c.mu σ (fun a => (X a).u) j + wkb (X i).wk ∨ (c.mu σ' (upd (fun a => (X a).u) i x'.u) j + wkb x'.wk = c.mu σ (fun a => (X a).u) j + wkb (X i).wk ∧ (m' + 1 = (D i).fuel ∨ (m' ≤ (D i).fuel ∧ wakes P g g' = false ∧ x'.bl = true ∧ (X i).bl = false)))))) :
    ∃ m₁ ops μ', runT P (crowd gs w sl) (c.N0 + i) = (.next m₁, ops) ∧ Lt3 μ' (Meas c j D X σ q tag f0) ∧ Inv P c Anch Fin Shun T0 μ' m₁ (t ++ ops) := by
  have hN0 := K.hN
  obtain ⟨tag', f', hcs', hf', htag, hwk, hnw⟩ := hcs.wokenBy hAr (hT.r0 (fun b hb => by rw [hXs b hb]; exact (hcom.box i hi).2.1)) g g'
  have hjn := hcs.bound
  have hne : ¬ (c.N0 + i == 0) = true := by simp; omega
  have hrun := runT_crowd_go (P := P) (sl := sl) (i := c.N0 + i) hg (by rw [Bool.not_eq_true] at hne; rw [hne]; exact hgo)
  have e1 := sumTo_upd D (⟨s', m', dd'⟩ : WD) cnt hi
  have e2 := sumTo_upd D (⟨s', m', dd'⟩ : WD) WD.stage hi
  have e3 := sumTo_upd D (⟨s', m', dd'⟩ : WD) WD.fuel hi
  obtain ⟨Y, hY⟩ : ∃ Y, Y = wakeX (wakes P g g') X := ⟨_, rfl⟩
  have hYu : ∀ x, (Y x).u = (X x).u := fun x => by rw [hY]; rfl
  have hYC : ∀ x, (Y x).C = (X x).C := fun x => by rw [hY]; rfl
  have hYN : ∀ x, (Y x).N = (X x).N := fun x => by rw [hY]; rfl
  have hYw : ∀ x, (Y x).wk = (X x).wk := fun x => by rw [hY]; rfl
  have hYb : ∀ x, (Y x).bl = ((X x).bl && !wakes P g g') := fun x => by rw [hY]; rfl
  have hYus : (fun a => (Y a).u) = fun a => (X a).u := funext hYu
  have e4 := sumTo_upd Y x' (fun x => wkb x.wk) hi
  have e5 := sumTo_upd Y x' (fun x => nbb x.bl) hi
  have e4' : (sumTo j fun a => wkb (Y a).wk) = sumTo j fun a => wkb (X a).wk := by simp only [hYw]
  have hSt : Started c.N0 j (c.N0 + i) := ⟨by omega, by omega⟩
  have hfam : (fun a => (upd Y i x' a).C) = fun a => (X a).C := (upd_C Y i x' (hxC.trans (hYC i).symm)).trans (funext hYC)
  have hus : (fun a => (upd Y i x' a).u) = upd (fun a => (X a).u) i x'.u := by rw [upd_u, hYus]
  have hrw : ∀ i', i' < j → i' ≠ i → RW c (X i').C w w' := fun i' hi' hne' => hT.rw (fun hx => hne' (hcom.inj i' i hi' hi (hXs _ hx)))
  refine ⟨_, _, Meas c j (upd D i ⟨s', m', dd'⟩) (upd Y i x') σ' q tag' f', hrun, ?_,
    _, w', sl, j, upd D i ⟨s', m', dd'⟩, upd Y i x', σ', q, tag', f', d0, lw, woken P g g' w' a, st', sm', rfl, by rw [get_map_set _ _ _ _ (by omega), ha]; rfl, hcs', ?_, hwg, hmode tag' htag hwk, rfl⟩
  · simp only [Meas, hus]
    rw [ConcN.phi_retag c.n _ htag]
    have hNb := Nb_le j (upd Y i x')
    have hpt := hcom.pt
    clear hcom hcs hcs' hs' hju hrep hok hmode hgain hkeep hvir hrun hgo hT
    simp only [Vc, Ssum, Fsum, Wk, hYw] at *
    rcases hlt with ⟨h1, h2⟩ | ⟨h1, h2⟩
    · refine Prod.Lex.left _ _ ?_
      have := phi_mono c.n (v' := sumTo j fun a => cnt (upd D i ⟨s', m', dd'⟩ a)) (v := sumTo j fun a => cnt (D a)) (by omega) tag
      omega
    · have ec : cnt (⟨s', m', dd'⟩ : WD) = cnt (D i) := by simp only [cnt, h1]
      have ev : (sumTo j fun a => cnt (upd D i ⟨s', m', dd'⟩ a)) = sumTo j fun a => cnt (D a) := by omega
      have es' : (sumTo j fun a => (upd D i ⟨s', m', dd'⟩ a).stage) = sumTo j fun a => (D a).stage := by omega
      rw [ev, es']
      refine Prod.Lex.right _ ?_
      rcases h2 with h2 | ⟨h2, h3⟩
      · refine Prod.Lex.left _ _ ?_
        omega
      · have : c.mu σ' (upd (fun a => (X a).u) i x'.u) j + (sumTo j fun a => wkb (upd Y i x' a).wk) = c.mu σ (fun a => (X a).u) j + sumTo j fun a => wkb (X a).wk := by omega
        rw [this]
        refine Prod.Lex.right _ ?_
        rcases h3 with h3 | ⟨h3, h4, h5, h6⟩
        · exact m3_w hf' (by omega) (by omega)
        · rw [hnw h4]
          refine m3_b ?_ (by omega)
          have hb : ∀ a, (Y a).bl = (X a).bl := fun a => by rw [hYb, h4]; simp
          simp only [hb] at e5
          simp only [Nb]
          simp only [h5, h6, nbb, if_true] at e5 ⊢
          simp at e5 ⊢
          omega
  · refine ⟨by simp [hcom.size], fun i' hi' => ?_, fun i' x hi0 hiN hx => ?_, ?_, norel_app hcom.norel (norel_ofEvents hnr), by rw [Deaf_other t (by omega) _ g_of_ofEvents, hcom.deaf0], fun i' hi' => ?_, fun i' hi' hst => ?_, fun i' hi' => ?_, fun i1 i2 h1 h2 e => ?_, fun i' hi' hw => ?_, fun i' hi' hb => ?_, hrep, by rw [hus]; exact hju,
      Nat.le_trans hcom.h0 hT.size, Nat.le_trans hcom.lwle hT.size, hcom.over.app hcom.pt.size _⟩
    · by_cases e : i' = i
      · subst e
        refine ⟨g', get_map_set_same _ _ _ (by rw [hcom.size]; omega), ?_⟩
        rw [upd_same, upd_same, hxC]
        exact hs'
      · obtain ⟨x, hx, hsx⟩ := hcom.wk i' hi'
        refine ⟨woken P g g' w' x, by rw [get_map_set _ _ _ _ (by omega), hx, Option.map_some], ?_⟩
        rw [upd_ne D _ e, upd_ne Y _ e, hYu, hYC, hYN, hYw, hYb]
        exact (hsx.rely K (hrw i' hi' e) (hcom.box i' hi').1 ⟨σ, hcom.rep⟩ hl).wokenBy g g' w'
    · rw [get_map_set _ _ _ _ (by omega)] at hx
      obtain ⟨y, hy, rfl⟩ := Option.map_eq_some_iff.1 hx
      have hq := hcom.old i' y hi0 hiN hy
      rw [woken_quitsD hq, Deaf_other t (by omega) _ g_of_ofEvents]
      exact hq
    · rw [hfam, hus]
      rw [← hcom.deafW i hi] at hpv
      exact hcom.pt.stepW K hi hT hcom.ju hcom.rep hju hrep (fun i' hi' => hT.new _ (hcom.box i' hi').1) hvir hkeep hgain hpv.1 hpv.2.1 hpv.2.2 hok
    · by_cases e : i' = i
      · subst e; rw [Deaf_own, hcom.deafW i' hi', upd_same]; exact hdeaf
      · rw [Deaf_other t (by omega) _ g_of_ofEvents, hcom.deafW i' hi', upd_ne D _ e]
    · by_cases e : i' = i
      · subst e; rw [upd_same] at hst; exact hrel hst
      · rw [upd_ne D _ e] at hst
        obtain ⟨r, hr⟩ := hcom.rel i' hi' hst
        exact ⟨r, hr.appOther g_of_ofEvents (by omega)⟩
    · have : (upd Y i x' i').C = (X i').C := congrFun hfam i'
      rw [this]
      exact ⟨hT.new _ (hcom.box i' hi').1, (hcom.box i' hi').2⟩
    · have h3 : (upd Y i x' i1).C = (X i1).C := congrFun hfam i1
      have h4 : (upd Y i x' i2).C = (X i2).C := congrFun hfam i2
      rw [h3, h4] at e
      exact hcom.inj i1 i2 h1 h2 e
    · rw [hus]
      by_cases e : i' = i
      · subst e; rw [upd_same] at hw ⊢; exact hN hw
      · rw [upd_ne Y _ e] at hw ⊢
        rw [hYN]
        rw [hYw] at hw
        exact Nat.le_trans hmu (hcom.fuel i' hi' hw)
    · by_cases e : i' = i
      · subst e; rw [upd_same] at hb ⊢; exact hxb hb
      · rw [upd_ne Y _ e] at hb ⊢
        rw [hYb] at hb
        rw [hYu]
        rcases hblk with h1 | h1
        · exact h1 _ (hcom.blks i' hi' (by simp at hb; exact hb.1))
        · rw [h1] at hb; simp at hb

/-- A STEP OF THE STARTER's THAT IS NEITHER A go STATEMENT NOR THE LAST -/
theorem callerStep (K : c.Ok) (ha : gs[0]? = some a) (hcom : Com P c Shun T0 j lw gs w t D X σ q d0) (hl : Live c.ty c.Wg w)
    {a' : Goroutine} {es : Array Event} {tag' : CTag} {f' : Nat} {Xs : Nat → Prop} (hgo : stepG P true a w = .go a' w' es)
    (hT : Turn c Xs w w') (hXs : ∀ b, Xs b → lw ≤ b)
    (hok : ∀ op ∈ MemOp.ofEvents 0 a.frame.fn a.frame.place es, OkS (famOf c w' (fun i => (X i).C) (fun i => (X i).u) σ j) c.N0 j op) (hnr : ∀ e ∈ es, e.loc ≠ .mark (.release (stA c.Wg))) (hrep : c.Rep σ w')
    (hcs' : CS P c Anch Fin tag' j f' (deafBehind d0 es) lw a' w') (hwg : WgAt c.ty c.Wg w' st' sm') (hmode : ConcN.Mode j D tag' st' sm')
    (hjn : j ≤ c.n) (hlt : phi c.n (Vc j D) tag' < phi c.n (Vc j D) tag ∨ (phi c.n (Vc j D) tag' = phi c.n (Vc j D) tag ∧ f' < f0)) :
    ∃ m₁ ops μ', runT P (crowd gs w sl) 0 = (.next m₁, ops) ∧ Lt3 μ' (Meas c j D X σ q tag f0) ∧ Inv P c Anch Fin Shun T0 μ' m₁ (t ++ ops) := by
  have hN0 := K.hN
  have hrun := runT_crowd_go (P := P) (sl := sl) (i := 0) ha (by simpa using hgo)
  refine ⟨_, _, Meas c j D (wakeX (wakes P a a') X) σ q tag' f', hrun, ?_,
    _, w', sl, j, D, wakeX (wakes P a a') X, σ, q, tag', f', deafBehind d0 es, lw, a', st', sm', rfl, get_map_set_same _ _ _ (by rw [hcom.size]; omega), hcs', ?_, hwg, hmode, rfl⟩
  · simp only [Meas]
    rcases hlt with h | ⟨h1, h2⟩
    · exact Prod.Lex.left _ _ (by omega)
    · rw [h1]; exact Prod.Lex.right _ (Prod.Lex.right _ (m3_c h2 (Nat.le_trans (Nb_le _ _) hjn) (Nat.le_refl _)))
  · refine ⟨by simp [hcom.size], fun i hi => ?_, fun i x hi0 hiN hx => ?_, (hcom.pt.turn0 K hT hcom.ju hrep).app0 (apart_fam K hcom.ju hrep (fun i hi => hT.new _ (hcom.box i hi).1)) hN0 hok, norel_app hcom.norel (norel_ofEvents hnr), by rw [Deaf_own, hcom.deaf0], fun i hi => by rw [Deaf_other t (by omega) _ g_of_ofEvents, hcom.deafW i hi],
      fun i hi hst => ?_, fun i hi => ⟨hT.new _ (hcom.box i hi).1, (hcom.box i hi).2⟩, hcom.inj, hcom.fuel, fun i hi hb => hcom.blks i hi (by simp only [wakeX] at hb; simp at hb; exact hb.1), hrep, hcom.ju, Nat.le_trans hcom.h0 hT.size, Nat.le_trans hcom.lwle hT.size, hcom.over.app hcom.pt.size _⟩
    · obtain ⟨x, hx, hsx⟩ := hcom.wk i hi
      refine ⟨woken P a a' w' x, by rw [get_map_set _ _ _ _ (by omega), hx, Option.map_some], (hsx.rely K (hT.rw (fun h => ?_)) (hcom.box i hi).1 ⟨σ, hcom.rep⟩ hl).wokenBy a a' w'⟩
      have := hXs _ h; have := (hcom.box i hi).2.1; omega
    · rw [get_map_set _ _ _ _ (by omega)] at hx
      obtain ⟨y, hy, rfl⟩ := Option.map_eq_some_iff.1 hx
      have hq := hcom.old i y hi0 hiN hy
      rw [woken_quitsD hq, Deaf_other t (by omega) _ g_of_ofEvents]
      exact hq
    · obtain ⟨r, hr⟩ := hcom.rel i hi hst
      exact ⟨r, hr.appOther g_of_ofEvents (by omega)⟩
end
end Go.Proofs.Ytinghnaigpenkaa

end
