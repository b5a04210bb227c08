/- A phase (many workers started one by one, joined): the trace's law. -/
import Derived.Conc.Beside
import Derived.Conc.CrowdRun
namespace Go.Proofs.Ytinghnaigpenkaa
open Go.Conc
open Go.ConcN (PermW fork_knows RelBy Deaf_absent)
set_option linter.unusedVariables false
set_option linter.unusedSimpArgs false

/-- the families of places: touched atomically alone; worker k's own; read by worker k, written by nobody -/
structure Fam where
  sh : Loc → Prop
  own : Nat → Loc → Prop
  rd : Nat → Loc → Prop
  box : Loc → Prop
structure Fam.Apart (F : Fam) : Prop where
  own : ∀ k k' l, F.own k l → F.own k' l → k = k'
  ownRd : ∀ k k' l, F.own k l → ¬ F.rd k' l
  ownSh : ∀ k l, F.own k l → ¬ F.sh l
  rdSh : ∀ k l, F.rd k l → ¬ F.sh l
  memOwn : ∀ k l, F.own k l → l.isMemory = true
  memRd : ∀ k l, F.rd k l → l.isMemory = true

/-- worker number k is started -/
def Started (N0 j k : Nat) : Prop := N0 ≤ k ∧ k < N0 + j

structure PT (F : Fam) (Shun : Loc → Prop) (N0 T0 : Nat) (t : Trace) (j : Nat) : Prop where
  shq : ∀ i a, touchAt t i = some a → a.loc.isMemory = true → F.sh a.loc → a.kind = .atomic ∨ (a.kind = .said ∧ t.g? i = some 0) ∨ (Knows t 0 i ∧ ∀ k, Started N0 j k → Knows t k i)
  own : ∀ k, Started N0 j k → ∀ l, F.own k l → Perm t k l
  rd : ∀ k, Started N0 j k → ∀ l, F.rd k l → PermW t k l
  free : ∀ l, l.isMemory = true → ¬ F.sh l → (∀ k, Started N0 j k → ¬ F.own k l ∧ ¬ F.rd k l) → Perm t 0 l
  mine : ∀ l, l.isMemory = true → ¬ F.sh l → (∀ k, Started N0 j k → ¬ F.own k l) → PermW t 0 l
  nr : ∀ said, ¬ Race said t
  gs : ∀ (i : Nat) (op : MemOp), t[i]? = some op → op.g < N0 + j
  size : T0 ≤ t.size
  gpre : ∀ (i : Nat) (op : MemOp), i < T0 → t[i]? = some op → op.g < N0
  pre : ∀ i a, i < T0 → touchAt t i = some a → a.loc.isMemory = true → Knows t 0 i ∨ (Shun a.loc ∧ a.kind = .atomic)
  post : ∀ (i : Nat) (op : MemOp) (x : Touch), T0 ≤ i → t[i]? = some op → op.act.touch? = some x → x.loc.isMemory = true → op.g = 0 ∨ (N0 ≤ op.g ∧ (x.kind = .atomic → F.sh x.loc))
  base : ∀ i a, i < T0 → touchAt t i = some a → a.loc.isMemory = true → (Shun a.loc ∧ a.kind = .atomic) ∨ ∀ k, Started N0 j k → Knows t k i
  wr : ∀ i a, T0 ≤ i → touchAt t i = some a → a.loc.isMemory = true → a.write = true → F.sh a.loc ∨ (∃ k, F.own k a.loc) ∨ F.box a.loc
  shS : ∀ l, Shun l → F.sh l

/-- what goroutine 0 may do while j workers are started -/
def OkS (F : Fam) (N0 j : Nat) (op : MemOp) : Prop :=
  op.g = 0 ∧ ∀ x, op.act.touch? = some x → x.loc.isMemory = true → (F.sh x.loc ∧ x.kind ≠ .plain) ∨ (¬ F.sh x.loc ∧ (∀ k, Started N0 j k → ¬ F.own k x.loc) ∧ (x.write = true → F.box x.loc ∧ ∀ k, Started N0 j k → ¬ F.rd k x.loc))
/-- what worker k may do -/
def OkP (F : Fam) (k : Nat) (op : MemOp) : Prop :=
  op.g = k ∧ ∀ x, op.act.touch? = some x → x.loc.isMemory = true → (F.sh x.loc ∧ x.kind = .atomic) ∨ (x.kind ≠ .atomic ∧ F.own k x.loc) ∨ (x.kind ≠ .atomic ∧ F.rd k x.loc ∧ x.write = false)

section
variable {F : Fam} {Shun : Loc → Prop} {N0 T0 j : Nat} {t u : Trace}

theorem g?_app_old {t u : Trace} {i g : Nat} (h : t.g? i = some g) : (t ++ u).g? i = some g := by
  obtain ⟨op, ho, rfl⟩ := Option.map_eq_some_iff.1 h
  unfold Trace.g?
  rw [getElem?_append_old (lt_size_of_getElem? ho), ho]; rfl

/-- a touch of a longer trace is an old one or one of the new operations' -/
theorem touch_app {i : Nat} {a : Touch} (h : touchAt (t ++ u) i = some a) : touchAt t i = some a ∨ ∃ op ∈ u, (t ++ u)[i]? = some op ∧ op.act.touch? = some a := by
  obtain ⟨x, hx, hxa⟩ := touch_of h
  rcases getElem?_append_cases hx with ⟨_, hx'⟩ | ⟨_, hxu⟩
  · exact .inl (by rw [touchAt_of hx']; exact hxa)
  · exact .inr ⟨x, hxu, hx, hxa⟩

/-- 'shq' of an old touch where the trace grows -/
theorem PT.shq_old (h : PT F Shun N0 T0 t j) {i : Nat} {a : Touch} (ha : touchAt t i = some a) (hm : a.loc.isMemory = true) (hs : F.sh a.loc) :
    a.kind = .atomic ∨ (a.kind = .said ∧ (t ++ u).g? i = some 0) ∨ (Knows (t ++ u) 0 i ∧ ∀ k, Started N0 j k → Knows (t ++ u) k i) := by
  rcases h.shq i a ha hm hs with h1 | ⟨h1, h2⟩ | ⟨h1, h2⟩
  · exact .inl h1
  · exact .inr (.inl ⟨h1, g?_app_old h2⟩)
  · exact .inr (.inr ⟨h1.app u, fun k hk => (h2 k hk).app u⟩)

theorem knows_said {i g : Nat} (h : t.g? i = some g) : Knows t g i := by
  obtain ⟨op, ho, rfl⟩ := Option.map_eq_some_iff.1 h
  exact knows_own ho

theorem PT.pre_app (h : PT F Shun N0 T0 t j) : ∀ i a, i < T0 → touchAt (t ++ u) i = some a → a.loc.isMemory = true → Knows (t ++ u) 0 i ∨ (Shun a.loc ∧ a.kind = .atomic) := fun i a hi ha hm =>
  (h.pre i a hi (by rw [touchAt_old (Nat.lt_of_lt_of_le hi h.size)] at ha; exact ha) hm).imp (·.app u) id
theorem PT.gpre_app (h : PT F Shun N0 T0 t j) : ∀ (i : Nat) (op : MemOp), i < T0 → (t ++ u)[i]? = some op → op.g < N0 := fun i op hi ho => h.gpre i op hi (by rw [getElem?_append_old (Nat.lt_of_lt_of_le hi h.size)] at ho; exact ho)
theorem PT.base_app (h : PT F Shun N0 T0 t j) : ∀ i a, i < T0 → touchAt (t ++ u) i = some a → a.loc.isMemory = true → (Shun a.loc ∧ a.kind = .atomic) ∨ ∀ k, Started N0 j k → Knows (t ++ u) k i := fun i a hi ha hm =>
  (h.base i a hi (by rw [touchAt_old (Nat.lt_of_lt_of_le hi h.size)] at ha; exact ha) hm).imp id (fun x k hk => (x k hk).app u)
theorem PT.size_app (h : PT F Shun N0 T0 t j) : T0 ≤ (t ++ u).size := by rw [Array.size_append]; exact Nat.le_trans h.size (Nat.le_add_right _ _)

/-- the families grow by places that nobody has touched -/
theorem PT.extend {F' : Fam} (h : PT F Shun N0 T0 t j) (hsh : F'.sh = F.sh) (hown : F'.own = F.own) (h1 : ∀ k, Started N0 j k → ∀ l, F.rd k l → F'.rd k l)
    (h2 : ∀ k, Started N0 j k → ∀ l, F'.rd k l → F.rd k l ∨ PermW t k l) (hbox : ∀ l, F.box l → F'.box l) : PT F' Shun N0 T0 t j := by
  refine ⟨by rw [hsh]; exact h.shq, by rw [hown]; exact h.own, fun k hk l hl i a ha e hw => ?_, fun l hm hs hl => h.free l hm (by rw [← hsh]; exact hs) (fun k hk => ⟨by rw [← hown]; exact (hl k hk).1, fun hr => (hl k hk).2 (h1 k hk l hr)⟩),
    fun l hm hs hl => h.mine l hm (by rw [← hsh]; exact hs) (fun k hk => by rw [← hown]; exact hl k hk), h.nr, h.gs, h.size, h.gpre, h.pre, by rw [hsh]; exact h.post, h.base, fun i a hi ha hm hw => (by rw [hsh, hown]; exact (h.wr i a hi ha hm hw).imp id (Or.imp id (hbox _))), by rw [hsh]; exact h.shS⟩
  rcases h2 k hk l hl with h3 | h3
  · exact h.rd k hk l h3 i a ha e hw
  · exact h3 i a ha e hw

/-- operations of goroutine 0's -/
theorem PT.app0 (h : PT F Shun N0 T0 t j) (A : F.Apart) (h0 : 0 < N0) (hu : ∀ op ∈ u, OkS F N0 j op) : PT F Shun N0 T0 (t ++ u) j := by
  refine ⟨fun i a ha hm hs => ?_, fun k hk l hl i a ha e => ?_, fun k hk l hl i a ha e hw => ?_, fun l hm hs hl i a ha e => ?_, fun l hm hs hl i a ha e hw => ?_, fun said => ?_, fun i op hi => ?_, h.size_app, h.gpre_app, h.pre_app, fun i op x hi ho hx hm => ?_, h.base_app, fun i a hi ha hm hw => ?_, h.shS⟩
  · rcases touch_app ha with h1 | ⟨op, hop, hi, hx⟩
    · exact h.shq_old h1 hm hs
    · have := (hu op hop).2 a hx hm
      have hg : (t ++ u).g? i = some 0 := by unfold Trace.g?; rw [hi]; exact congrArg some (hu op hop).1
      cases hk : a.kind with
      | atomic => exact .inl rfl
      | said => exact .inr (.inl ⟨rfl, hg⟩)
      | plain =>
        rcases this with ⟨_, h2⟩ | ⟨h2, _⟩
        · exact absurd hk h2
        · exact absurd hs h2
  · rcases touch_app ha with h1 | ⟨op, hop, hi, hx⟩
    · exact (h.own k hk l hl i a h1 e).app u
    · rcases (hu op hop).2 a hx (by rw [e]; exact A.memOwn k l hl) with ⟨hs, _⟩ | ⟨_, hn, _⟩
      · exact absurd (e ▸ hs) (A.ownSh k l hl)
      · exact absurd (e ▸ hl) (hn k hk)
  · rcases touch_app ha with h1 | ⟨op, hop, hi, hx⟩
    · exact (h.rd k hk l hl i a h1 e hw).app u
    · rcases (hu op hop).2 a hx (by rw [e]; exact A.memRd k l hl) with ⟨hs, _⟩ | ⟨_, _, hn⟩
      · exact absurd (e ▸ hs) (A.rdSh k l hl)
      · exact absurd (e ▸ hl) ((hn hw).2 k hk)
  · rcases touch_app ha with h1 | ⟨op, hop, hi, hx⟩
    · exact (h.free l hm hs hl i a h1 e).app u
    · exact knows_said (by unfold Trace.g?; rw [hi]; exact congrArg some (hu op hop).1)
  · rcases touch_app ha with h1 | ⟨op, hop, hi, hx⟩
    · exact (h.mine l hm hs hl i a h1 e hw).app u
    · exact knows_said (by unfold Trace.g?; rw [hi]; exact congrArg some (hu op hop).1)
  · refine noRace_append (h.nr said) (fun op hop => (hu op hop).1) (fun i a ha op hop b hb hc => ?_)
    have hmb : b.loc.isMemory = true := hc.1 ▸ hc.2.1
    rcases (hu op hop).2 b hb hmb with ⟨hs, hk⟩ | ⟨hs, hno, hnr⟩
    · rcases h.shq i a ha hc.2.1 (hc.1 ▸ hs) with h1 | ⟨h1, h2⟩ | ⟨h1, _⟩
      · obtain ⟨_, _, _, hcase⟩ := hc
        rw [h1] at hcase
        rcases hcase with x | x | ⟨_, x, _⟩
        · cases x
        · exact absurd x hk
        · cases x
      · exact knows_said h2
      · exact h1
    · cases hbw : b.write with
      | true => exact h.free b.loc hmb hs (fun k hk => ⟨hno k hk, (hnr hbw).2 k hk⟩) i a ha hc.1
      | false => exact h.mine b.loc hmb hs hno i a ha hc.1 (hc.2.2.1.resolve_right (by simp [hbw]))
  · rcases getElem?_append_cases hi with ⟨_, hi'⟩ | ⟨_, hiu⟩
    · exact h.gs i op hi'
    · rw [(hu op hiu).1]
      omega
  · rcases getElem?_append_cases ho with ⟨_, ho'⟩ | ⟨_, hou⟩
    · exact h.post i op x hi ho' hx hm
    · exact .inl (hu op hou).1
  · rcases touch_app ha with h1 | ⟨op, hop, hi', hx⟩
    · exact h.wr i a hi h1 hm hw
    · rcases (hu op hop).2 a hx hm with ⟨hs, _⟩ | ⟨_, _, hb⟩
      · exact .inl hs
      · exact .inr (.inr (hb hw).1)

/-- operations of worker k's -/
theorem PT.appW (h : PT F Shun N0 T0 t j) (A : F.Apart) {k : Nat} (hk : Started N0 j k) (hu : ∀ op ∈ u, OkP F k op) : PT F Shun N0 T0 (t ++ u) j := by
  refine ⟨fun i a ha hm hs => ?_, fun k' hk' l hl i a ha e => ?_, fun k' hk' l hl i a ha e hw => ?_, fun l hm hs hl i a ha e => ?_, fun l hm hs hl i a ha e hw => ?_, fun said => ?_, fun i op hi => ?_, h.size_app, h.gpre_app, h.pre_app, fun i op x hi ho hx hm => ?_, h.base_app, fun i a hi ha hm hw => ?_, h.shS⟩
  · rcases touch_app ha with h1 | ⟨op, hop, hi, hx⟩
    · exact h.shq_old h1 hm hs
    · rcases (hu op hop).2 a hx hm with ⟨_, h2⟩ | ⟨_, h2⟩ | ⟨_, h2, _⟩
      · exact .inl h2
      · exact absurd hs (A.ownSh k _ h2)
      · exact absurd hs (A.rdSh k _ h2)
  · rcases touch_app ha with h1 | ⟨op, hop, hi, hx⟩
    · exact (h.own k' hk' l hl i a h1 e).app u
    · rcases (hu op hop).2 a hx (by rw [e]; exact A.memOwn k' l hl) with ⟨hs, _⟩ | ⟨_, h2⟩ | ⟨_, h2, _⟩
      · exact absurd (e ▸ hs) (A.ownSh k' l hl)
      · have : k = k' := A.own k k' l (e ▸ h2) hl
        subst this
        exact knows_said (by unfold Trace.g?; rw [hi]; exact congrArg some (hu op hop).1)
      · exact absurd (e ▸ h2) (A.ownRd k' k l hl)
  · rcases touch_app ha with h1 | ⟨op, hop, hi, hx⟩
    · exact (h.rd k' hk' l hl i a h1 e hw).app u
    · rcases (hu op hop).2 a hx (by rw [e]; exact A.memRd k' l hl) with ⟨hs, _⟩ | ⟨_, h2⟩ | ⟨_, _, h2⟩
      · exact absurd (e ▸ hs) (A.rdSh k' l hl)
      · exact absurd hl (A.ownRd k k' l (e ▸ h2))
      · rw [h2] at hw; cases hw
  · rcases touch_app ha with h1 | ⟨op, hop, hi, hx⟩
    · exact (h.free l hm hs hl i a h1 e).app u
    · rcases (hu op hop).2 a hx (by rw [e]; exact hm) with ⟨h2, _⟩ | ⟨_, h2⟩ | ⟨_, h2, _⟩
      · exact absurd (e ▸ h2) hs
      · exact absurd (e ▸ h2) (hl k hk).1
      · exact absurd (e ▸ h2) (hl k hk).2
  · rcases touch_app ha with h1 | ⟨op, hop, hi, hx⟩
    · exact (h.mine l hm hs hl i a h1 e hw).app u
    · rcases (hu op hop).2 a hx (by rw [e]; exact hm) with ⟨h2, _⟩ | ⟨_, h2⟩ | ⟨_, _, h2⟩
      · exact absurd (e ▸ h2) hs
      · exact absurd (e ▸ h2) (hl k hk)
      · rw [h2] at hw; cases hw
  · refine noRace_append (h.nr said) (fun op hop => (hu op hop).1) (fun i a ha op hop b hb hc => ?_)
    have hmb : b.loc.isMemory = true := hc.1 ▸ hc.2.1
    rcases (hu op hop).2 b hb hmb with ⟨hs, hkb⟩ | ⟨_, ho⟩ | ⟨_, hr, hbw⟩
    · rcases h.shq i a ha hc.2.1 (hc.1 ▸ hs) with h1 | ⟨h1, _⟩ | ⟨_, h1⟩
      · obtain ⟨_, _, _, hcase⟩ := hc
        rw [h1, hkb] at hcase
        rcases hcase with x | x | ⟨_, x, _⟩ <;> cases x
      · obtain ⟨_, _, _, hcase⟩ := hc
        rw [h1, hkb] at hcase
        rcases hcase with x | x | ⟨_, _, x⟩ <;> cases x
      · exact h1 k hk
    · exact h.own k hk b.loc ho i a ha hc.1
    · exact h.rd k hk b.loc hr i a ha hc.1 (hc.2.2.1.resolve_right (by simp [hbw]))
  · rcases getElem?_append_cases hi with ⟨_, hi'⟩ | ⟨_, hiu⟩
    · exact h.gs i op hi'
    · rw [(hu op hiu).1]; exact hk.2
  · rcases getElem?_append_cases ho with ⟨_, ho'⟩ | ⟨_, hou⟩
    · exact h.post i op x hi ho' hx hm
    · rw [(hu op hou).1]
      refine .inr ⟨hk.1, fun ha => ?_⟩
      rcases (hu op hou).2 x hx hm with ⟨h2, _⟩ | ⟨h2, _⟩ | ⟨h2, _⟩
      · exact h2
      · exact absurd ha h2
      · exact absurd ha h2
  · rcases touch_app ha with h1 | ⟨op, hop, hi', hx⟩
    · exact h.wr i a hi h1 hm hw
    · rcases (hu op hop).2 a hx hm with ⟨hs, _⟩ | ⟨_, ho⟩ | ⟨_, _, hf⟩
      · exact .inl hs
      · exact .inr (.inl ⟨_, ho⟩)
      · rw [hf] at hw; cases hw

/-- operations of one goroutine that touch nothing -/
theorem PT.appMute (h : PT F Shun N0 T0 t j) {g : Nat} (hg : g < N0 + j) (hu : ∀ op ∈ u, op.g = g) (hn : ∀ op ∈ u, op.act.touch? = none) : PT F Shun N0 T0 (t ++ u) j := by
  have old : ∀ {i : Nat} {a : Touch}, touchAt (t ++ u) i = some a → touchAt t i = some a := fun ha => by
    rcases touch_app ha with h1 | ⟨op, hop, _, hx⟩
    · exact h1
    · rw [hn op hop] at hx; cases hx
  refine ⟨fun i a ha hm hs => h.shq_old (old ha) hm hs, fun k hk l hl i a ha e => (h.own k hk l hl i a (old ha) e).app u, fun k hk l hl i a ha e hw => (h.rd k hk l hl i a (old ha) e hw).app u,
    fun l hm hs hl i a ha e => (h.free l hm hs hl i a (old ha) e).app u, fun l hm hs hl i a ha e hw => (h.mine l hm hs hl i a (old ha) e hw).app u,
    fun said => noRace_append (h.nr said) hu fun i a _ op hop b hb _ => (by rw [hn op hop] at hb; cases hb), fun i op hi => ?_, h.size_app, h.gpre_app, h.pre_app, fun i op x hi ho hx hm => ?_, h.base_app, fun i a hi ha hm hw => h.wr i a hi (old ha) hm hw, h.shS⟩
  · rcases getElem?_append_cases hi with ⟨_, hi'⟩ | ⟨_, hiu⟩
    · exact h.gs i op hi'
    · rw [hu op hiu]; exact hg
  · rcases getElem?_append_cases ho with ⟨_, ho'⟩ | ⟨_, hou⟩
    · exact h.post i op x hi ho' hx hm
    · rw [hn op hou] at hx; cases hx

/-- a go statement: worker number N0 + j is started -/
theorem PT.fork (h : PT F Shun N0 T0 t j) (A : F.Apart) {x y : MemOp} (hx : x.g = 0 ∧ x.act = .go (N0 + j)) (hy : y.g = N0 + j ∧ y.act = .start) (h0 : Deaf t 0 = 0) : PT F Shun N0 T0 (t ++ #[x, y]) (j + 1) := by
  have hk0 : Deaf t (N0 + j) = 0 := Deaf_absent fun i op hi e => by have := h.gs i op hi; omega
  have hnt : ∀ op ∈ #[x, y], op.act.touch? = none := by
    intro op hop
    simp only [List.mem_toArray, List.mem_cons, List.not_mem_nil, or_false] at hop
    rcases hop with rfl | rfl
    · rw [hx.2]; rfl
    · rw [hy.2]; rfl
  have old : ∀ {i : Nat} {a : Touch}, touchAt (t ++ #[x, y]) i = some a → touchAt t i = some a := fun ha => by
    rcases touch_app ha with h1 | ⟨op, hop, _, hx⟩
    · exact h1
    · rw [hnt op hop] at hx; cases hx
  have fk : ∀ {i : Nat}, Knows t 0 i → Knows (t ++ #[x, y]) (N0 + j) i := fun hi => fork_knows hx hy h0 hk0 hi
  have cases' : ∀ {k : Nat}, Started N0 (j + 1) k → Started N0 j k ∨ k = N0 + j := fun {k} hk => by
    have := hk.1; have := hk.2
    by_cases e : k = N0 + j
    · exact .inr e
    · exact .inl ⟨hk.1, by omega⟩
  have upS : ∀ {k : Nat}, Started N0 j k → Started N0 (j + 1) k := fun {k} hk => ⟨hk.1, by have := hk.2; omega⟩
  refine ⟨fun i a ha hm hs => ?_, fun k hk l hl i a ha e => ?_, fun k hk l hl i a ha e hw => ?_, fun l hm hs hl i a ha e => (h.free l hm hs (fun k hk => hl k (upS hk)) i a (old ha) e).app _,
    fun l hm hs hl i a ha e hw => (h.mine l hm hs (fun k hk => hl k (upS hk)) i a (old ha) e hw).app _, fun said => ?_, fun i op hi => ?_, h.size_app, h.gpre_app, h.pre_app, fun i op z hi ho hz hm => ?_, fun i a hi ha hm => ?_, fun i a hi ha hm hw => h.wr i a hi (old ha) hm hw, h.shS⟩
  · rcases h.shq i a (old ha) hm hs with h1 | ⟨h1, h2⟩ | ⟨h1, h2⟩
    · exact .inl h1
    · exact .inr (.inl ⟨h1, g?_app_old h2⟩)
    · refine .inr (.inr ⟨h1.app _, fun k hk => ?_⟩)
      rcases cases' hk with h3 | rfl
      · exact (h2 k h3).app _
      · exact fk h1
  · rcases cases' hk with h3 | rfl
    · exact (h.own k h3 l hl i a (old ha) e).app _
    · exact fk (h.free l (A.memOwn _ l hl) (A.ownSh _ l hl) (fun k hk' => ⟨fun ho => by have := A.own _ _ l ho hl; have := hk'.2; omega, A.ownRd _ _ l hl⟩) i a (old ha) e)
  · rcases cases' hk with h3 | rfl
    · exact (h.rd k h3 l hl i a (old ha) e hw).app _
    · exact fk (h.mine l (A.memRd _ l hl) (A.rdSh _ l hl) (fun k _ ho => A.ownRd _ _ l ho hl) i a (old ha) e hw)
  · have e : t ++ #[x, y] = (t ++ #[x]) ++ #[y] := by apply Array.ext'; simp
    rw [e]
    refine noRace_append (g := N0 + j) (noRace_append (g := 0) (h.nr said) (fun op hop => by simp at hop; rw [hop]; exact hx.1) (fun i a _ op hop b hb _ => by rw [hnt op (by simp at hop ⊢; exact .inl hop)] at hb; cases hb))
      (fun op hop => by simp at hop; rw [hop]; exact hy.1) (fun i a _ op hop b hb _ => by rw [hnt op (by simp at hop ⊢; exact .inr hop)] at hb; cases hb)
  · rcases getElem?_append_cases hi with ⟨_, hi'⟩ | ⟨_, hiu⟩
    · exact Nat.lt_of_lt_of_le (h.gs i op hi') (by omega)
    · simp only [List.mem_toArray, List.mem_cons, List.not_mem_nil, or_false] at hiu
      rcases hiu with rfl | rfl
      · rw [hx.1]; omega
      · rw [hy.1]; omega
  · rcases getElem?_append_cases ho with ⟨_, ho'⟩ | ⟨_, hou⟩
    · exact h.post i op z hi ho' hz hm
    · rw [hnt op hou] at hz; cases hz
  · rcases h.base i a hi (old ha) hm with hb | hb
    · exact .inl hb
    · rcases h.pre i a hi (old ha) hm with h0' | h0'
      · exact .inr fun k hk => (cases' hk).elim (fun h3 => (hb k h3).app _) (fun e => by rw [e]; exact fk h0')
      · exact .inl h0'

/-- what is held of the trace between two phases -/
structure PstD (d : Nat) (Shun : Loc → Prop) (t : Trace) : Prop where
  clean : ∀ said, ¬ Race said t
  known : ∀ i a, touchAt t i = some a → a.loc.isMemory = true → Knows t 0 i ∨ (Shun a.loc ∧ a.kind = .atomic)
  over : t.HandedOver
  hears : Deaf t 0 = d
abbrev Pst := PstD 0

/-- the phase begins -/
theorem PT.start (h : Pst Shun t) (hS : ∀ l, Shun l → F.sh l) (hg : ∀ (i : Nat) (op : MemOp), t[i]? = some op → op.g < N0) : PT F Shun N0 t.size t 0 := by
  have none0 : ∀ k, ¬ Started N0 0 k := fun k hk => by have := hk.1; have := hk.2; omega
  refine ⟨fun i a ha hm hs => ?_, fun k hk => absurd hk (none0 k), fun k hk => absurd hk (none0 k), fun l hm hs _ i a ha e => ?_, fun l hm hs _ i a ha e _ => ?_, h.clean, fun i op hi => hg i op hi, Nat.le_refl _, fun i op _ hi => hg i op hi, fun i a _ ha hm => h.known i a ha hm, fun i op x hi ho => ?_, fun i a _ ha hm => .inr fun k hk => absurd hk (none0 k), fun i a hi ha => (by obtain ⟨op, ho, _⟩ := touch_of ha; have := lt_size_of_getElem? ho; omega), hS⟩
  · rcases h.known i a ha hm with h1 | ⟨_, h1⟩
    · exact .inr (.inr ⟨h1, fun k hk => absurd hk (none0 k)⟩)
    · exact .inl h1
  · rcases h.known i a ha (by rw [e]; exact hm) with h1 | ⟨h1, _⟩
    · exact h1
    · exact absurd (hS _ (e ▸ h1)) hs
  · rcases h.known i a ha (by rw [e]; exact hm) with h1 | ⟨h1, _⟩
    · exact h1
    · exact absurd (hS _ (e ▸ h1)) hs
  · have := lt_size_of_getElem? ho; omega

/-- THE PHASE ENDS: every worker's release lies ahead of goroutine 0's 'acquire'; what a worker did behind its release does not count. -/
theorem PT.finish {wg : Addr} {q : Nat} (h : PT F Shun N0 T0 t j) (h0 : 0 < N0) (hS : ∀ l, Shun l → F.sh l) (all : ∀ k, Started N0 j k → ∃ r, RelBy wg t k r ∧ r < q) (hn : ∀ i, T0 ≤ i → t.act? i ≠ some (.mark (.release wg)))
    (hq : t.act? q = some (.mark (.acquire wg))) (hg : t.g? q = some 0) (hh : t.heard q) (hd : Deaf t 0 = 0) (over : ∀ i g, i < T0 → t.g? i = some g → g ≠ 0 → t.counts i → ∃ j', t.g? j' = some 0 ∧ HappensBefore t i j') : Pst F.sh t := by
  -- what worker k did ahead of its release is known
  have kn : ∀ (i k r : Nat), N0 ≤ k → RelBy wg t k r → r < q → t.g? i = some k → i ≤ r → HappensBefore t i q := fun i k r hk hr hrq hgi hle => by
    have hT : T0 ≤ r := Nat.le_of_not_lt fun hlt => by
      obtain ⟨z, hz, hzg⟩ := Option.map_eq_some_iff.1 hr.g
      have := h.gpre r z hlt hz; omega
    have edge : HappensBefore t r q := .single (.inr ⟨.marked hrq (.inr hr.act) hq (fun k h1 _ => hn k (by omega)), hr.heard, hh⟩)
    rcases Nat.lt_or_ge i r with hlt | hge
    · exact .trans (.single (.inl ⟨hlt, k, hgi, hr.g⟩)) edge
    · obtain rfl : i = r := by omega
      exact edge
  refine ⟨h.nr, fun i a ha hm => ?_, fun i g hgi hne hc => ?_, hd⟩
  · rcases Nat.lt_or_ge i T0 with hlt | hge
    · exact (h.pre i a hlt ha hm).imp id (fun x => ⟨hS _ x.1, x.2⟩)
    · obtain ⟨op, ho, hoa⟩ := touch_of ha
      have hgi : t.g? i = some op.g := by unfold Trace.g?; rw [ho]; rfl
      rcases h.post i op a hge ho hoa hm with h1 | ⟨h1, h2⟩
      · rw [h1] at hgi; exact .inl (knows_said hgi)
      · have hst : Started N0 j op.g := ⟨h1, h.gs i op ho⟩
        obtain ⟨r, hr, hrq⟩ := all op.g hst
        by_cases hle : i ≤ r
        · obtain ⟨z, hz, hzg⟩ := Option.map_eq_some_iff.1 hg
          exact .inl ⟨q, z, hz, hzg, .inr (kn i op.g r h1 hr hrq hgi hle)⟩
        · have hnc := hr.after i (by omega) hgi
          have hka : a.kind = .atomic := Classical.byContradiction fun hk => hnc ⟨a, ha, hm, .inl hk⟩
          exact .inr ⟨h2 hka, hka⟩
  · rcases Nat.lt_or_ge i T0 with hlt | hge
    · exact over i g hlt hgi hne hc
    · obtain ⟨x, hx, hm, hkx⟩ := hc
      obtain ⟨op, ho, hoa⟩ := touch_of hx
      have hg' : t.g? i = some op.g := by unfold Trace.g?; rw [ho]; rfl
      rw [hg'] at hgi
      injection hgi with hgi
      subst hgi
      rcases h.post i op x hge ho hoa hm with h1 | ⟨h1, _⟩
      · exact absurd h1 hne
      · obtain ⟨r, hr, hrq⟩ := all op.g ⟨h1, h.gs i op ho⟩
        exact ⟨q, hg, kn i op.g r h1 hr hrq hg' (Nat.le_of_not_lt fun hlt => hr.after i hlt hg' ⟨x, hx, hm, hkx⟩)⟩
end
end Go.Proofs.Ytinghnaigpenkaa
