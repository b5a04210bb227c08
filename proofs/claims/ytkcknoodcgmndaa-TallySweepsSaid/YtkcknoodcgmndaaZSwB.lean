import Derived.Conc.CrowdMono
import Derived.Test.YtkcknoodcgmndaaZPhD
import Derived.Test.YtkcknoodcgmndaaZWgK
section
/- tally.Sweep's workers: what each act does, in plain words; what holds of all together. -/
namespace Go.Proofs.Ytkcknoodcgmndaa
open Go.ConcN (sumTo upd sumTo_upd upd_same upd_ne sumTo_congr sumTo_upd_out le_sumTo)
set_option linter.unusedVariables false
set_option linter.unusedSimpArgs false

inductive SSt
  | idle | got (v : Nat) | done (won : Bool)
structure SU where
  todo : List Int
  st : SSt
structure SS where
  won : Nat
  lost : Nat
  ws : List Nat
def bitW (ws : List Nat) (k : Nat) : Bool := (ws.getD (k / 64) 0).testBit (k % 64)
def mkU (n : Nat) : List Int → SU
  | [] => ⟨[], .idle⟩
  | x :: r => if 0 ≤ x ∧ x < (n : Int) then ⟨x :: r, .idle⟩ else ⟨x :: r, .done false⟩
def nxt (n : Nat) (u : SU) (σ : SS) : SU × SS :=
  match u.todo, u.st with
  | [], _ => (u, σ)
  | x :: r, .idle => if bitW σ.ws x.toNat then (⟨x :: r, .done false⟩, σ) else (⟨x :: r, .got (σ.ws.getD (x.toNat / 64) 0)⟩, σ)
  | x :: r, .got v => if σ.ws.getD (x.toNat / 64) 0 = v then (⟨x :: r, .done true⟩, { σ with ws := σ.ws.set (x.toNat / 64) (v ^^^ 2 ^ (x.toNat % 64)) }) else (⟨x :: r, .idle⟩, σ)
  | x :: r, .done b => (mkU n r, if b then { σ with won := σ.won + 1 } else { σ with lost := σ.lost + 1 })
def pend1 (u : SU) : Nat := match u.st with | .done true => 1 | _ => 0
def popW (ws : List Nat) : Nat := sumTo (64 * ws.length) fun k => if bitW ws k then 1 else 0
/-- where a worker stands -/
def okSt (n : Nat) (ws : List Nat) (u : SU) : Prop :=
  match u.todo, u.st with
  | [], .idle => True
  | [], _ => False
  | x :: _, .idle => 0 ≤ x ∧ x < (n : Int)
  | x :: _, .got v => (0 ≤ x ∧ x < (n : Int)) ∧ v.testBit (x.toNat % 64) = false
  | x :: _, .done _ => (0 ≤ x ∧ x < (n : Int)) → bitW ws x.toNat = true
structure SJ (n : Nat) (l : List (List Int)) (σ0 σ : SS) (us : Nat → SU) (j : Nat) : Prop where
  jl : j ≤ l.length
  len : σ.ws.length = σ0.ws.length
  rng : ∀ v ∈ σ.ws, v < 2 ^ 64
  suf : ∀ i, i < j → ∃ p, l.getD i [] = p ++ (us i).todo ∧ ∀ x ∈ p, 0 ≤ x → x < (n : Int) → bitW σ.ws x.toNat = true
  stv : ∀ i, i < j → okSt n σ.ws (us i)
  tot : σ.won + σ.lost + sumTo j (fun i => (us i).todo.length) = σ0.won + σ0.lost + sumTo j (fun i => (l.getD i []).length)
  cnt : popW σ.ws + σ0.won = popW σ0.ws + σ.won + sumTo j (fun i => pend1 (us i))
  old : ∀ k, bitW σ0.ws k = true → bitW σ.ws k = true
  new : ∀ k, bitW σ.ws k = true → bitW σ0.ws k = true ∨ ∃ i, i < j ∧ ∃ y ∈ l.getD i [], (0 ≤ y ∧ y < (n : Int)) ∧ y.toNat = k
def cost (ws : List Nat) (u : SU) : Nat :=
  match u.todo with
  | [] => 0
  | x :: r => 4 * r.length + (match u.st with | .idle => 3 | .got v => if ws.getD (x.toNat / 64) 0 = v then 2 else 4 | .done _ => 1)
def muS (l : List (List Int)) (σ : SS) (us : Nat → SU) (j : Nat) : Nat :=
  sumTo j (fun i => cost σ.ws (us i)) + 4 * (sumTo l.length (fun i => (l.getD i []).length) - sumTo j (fun i => (l.getD i []).length)) + (2 * l.length + 1) * (64 * σ.ws.length - popW σ.ws)

theorem sumTo_le {f g : Nat → Nat} : ∀ {j : Nat}, (∀ i, i < j → f i ≤ g i) → sumTo j f ≤ sumTo j g
  | 0, _ => by simp [sumTo]
  | j + 1, h => by
    have := sumTo_le (f := f) (g := g) (j := j) (fun i hi => h i (by omega))
    have := h j (by omega)
    simp only [sumTo]; omega
theorem sumTo_mono {f : Nat → Nat} {i j : Nat} (h : i ≤ j) : sumTo i f ≤ sumTo j f := by
  induction h with
  | refl => exact Nat.le_refl _
  | step _ ih => simp only [sumTo]; omega
theorem sumTo_one {j : Nat} {f : Nat → Nat} (h : ∀ i, i < j → f i ≤ 1) : sumTo j f ≤ j := by
  induction j with
  | zero => simp [sumTo]
  | succ j ih =>
    have := ih fun i hi => h i (by omega)
    have := h j (by omega)
    simp only [sumTo]; omega
theorem popW_le (ws : List Nat) : popW ws ≤ 64 * ws.length := sumTo_one fun i _ => by split <;> omega
/-- one bit more -/
theorem bitW_set {ws : List Nat} {q r : Nat} (hq : q < ws.length) (hr : r < 64) (hv : (ws.getD q 0).testBit r = false) (k : Nat) :
    bitW (ws.set q (ws.getD q 0 ^^^ 2 ^ r)) k = (bitW ws k || decide (k = 64 * q + r)) := by
  unfold bitW
  by_cases e : k / 64 = q
  · subst e
    rw [List.getD_eq_getElem?_getD, List.getElem?_set_self hq, Option.getD_some, Nat.testBit_xor, Nat.testBit_two_pow]
    by_cases e2 : r = k % 64
    · subst e2
      rw [hv]
      have : k = 64 * (k / 64) + k % 64 := by omega
      simp [← this]
    · have : ¬ (k = 64 * (k / 64) + r) := by omega
      simp [e2, this]
  · have e2 : ¬ (k = 64 * q + r) := by omega
    rw [List.getD_eq_getElem?_getD, List.getElem?_set_ne (by omega), ← List.getD_eq_getElem?_getD]
    simp [e2]
theorem popW_set {ws : List Nat} {q r : Nat} (hq : q < ws.length) (hr : r < 64) (hv : (ws.getD q 0).testBit r = false) : popW (ws.set q (ws.getD q 0 ^^^ 2 ^ r)) = popW ws + 1 := by
  unfold popW
  have e : (fun k => if bitW (ws.set q (ws.getD q 0 ^^^ 2 ^ r)) k then 1 else 0) = fun k => upd (fun k => if bitW ws k then 1 else 0) (64 * q + r) 1 k := by
    funext k
    rw [bitW_set hq hr hv]
    by_cases e : k = 64 * q + r
    · subst e; rw [upd_same]; simp
    · rw [upd_ne _ _ e]; simp [e]
  rw [e, List.length_set]
  have h0 : bitW ws (64 * q + r) = false := by
    unfold bitW
    rw [show (64 * q + r) / 64 = q by omega, show (64 * q + r) % 64 = r by omega]
    exact hv
  have := sumTo_upd (fun k => if bitW ws k then 1 else 0) 1 id (i := 64 * q + r) (j := 64 * ws.length) (by omega)
  simp only [id, h0, Bool.false_eq_true, if_false] at this
  omega
theorem cost_mkU (n : Nat) (ws : List Nat) (r : List Int) : cost ws (mkU n r) ≤ 4 * r.length := by
  cases r with
  | nil => simp [mkU, cost]
  | cons x r =>
    simp only [mkU]
    split <;> simp only [cost, List.length_cons] <;> omega
theorem todo_mkU (n : Nat) (r : List Int) : (mkU n r).todo = r := by
  cases r with
  | nil => rfl
  | cons x r => simp only [mkU]; split <;> rfl
theorem ok_mkU (n : Nat) (ws : List Nat) (r : List Int) : okSt n ws (mkU n r) := by
  cases r with
  | nil => trivial
  | cons x r =>
    simp only [mkU]
    split
    · rename_i h; exact h
    · rename_i h; exact fun h' => absurd h' h
theorem pend_mkU (n : Nat) (r : List Int) : pend1 (mkU n r) = 0 := by
  cases r with
  | nil => rfl
  | cons x r => simp only [mkU]; split <;> rfl
theorem cost_turn (ws ws' : List Nat) (u : SU) : cost ws' u ≤ cost ws u + 2 := by
  obtain ⟨todo, st⟩ := u
  cases todo with
  | nil => simp [cost]
  | cons x r => cases st <;> simp only [cost] <;> (try split) <;> (try split) <;> omega

section
variable {n : Nat} {l : List (List Int)} {σ0 σ : SS} {us : Nat → SU} {j : Nat}
theorem SJ.spawn (h : SJ n l σ0 σ us j) (hj : j < l.length) : SJ n l σ0 σ (upd us j (mkU n (l.getD j []))) (j + 1) ∧ muS l σ (upd us j (mkU n (l.getD j []))) (j + 1) ≤ muS l σ us j := by
  have hne : ∀ i, i < j → upd us j (mkU n (l.getD j [])) i = us i := fun i hi => upd_ne us _ (by omega)
  have hs : ∀ f : SU → Nat, sumTo (j + 1) (fun i => f (upd us j (mkU n (l.getD j [])) i)) = sumTo j (fun i => f (us i)) + f (mkU n (l.getD j [])) := fun f => by
    simp only [sumTo, upd_same]
    rw [sumTo_upd_out us _ f (Nat.le_refl _)]
  refine ⟨⟨hj, h.len, h.rng, fun i hi => ?_, fun i hi => ?_, ?_, ?_, h.old, fun k hk => ?_⟩, ?_⟩
  · by_cases e : i = j
    · subst e; rw [upd_same, todo_mkU]; exact ⟨[], rfl, by simp⟩
    · rw [upd_ne us _ e]; exact h.suf i (by omega)
  · by_cases e : i = j
    · subst e; rw [upd_same]; exact ok_mkU _ _ _
    · rw [upd_ne us _ e]; exact h.stv i (by omega)
  · have := h.tot
    rw [hs (fun u => u.todo.length), todo_mkU]
    simp only [sumTo]; omega
  · have := h.cnt
    rw [hs pend1, pend_mkU]; omega
  · rcases h.new k hk with h1 | ⟨i, hi, h1⟩
    · exact .inl h1
    · exact .inr ⟨i, by omega, h1⟩
  · unfold muS
    rw [hs (cost σ.ws)]
    have h1 := cost_mkU n σ.ws (l.getD j [])
    have h2 := sumTo_mono (f := fun i => (l.getD i []).length) (i := j + 1) (j := l.length) hj
    simp only [sumTo] at h2 ⊢
    omega
theorem SJ.step (h : SJ n l σ0 σ us j) (hw : n ≤ 64 * σ0.ws.length) {i : Nat} (hi : i < j) (hne : (us i).todo ≠ []) :
    SJ n l σ0 (nxt n (us i) σ).2 (upd us i (nxt n (us i) σ).1) j ∧ muS l (nxt n (us i) σ).2 (upd us i (nxt n (us i) σ).1) j < muS l σ us j := by
  have hjl := h.jl
  obtain ⟨p, hp, hpb⟩ := h.suf i hi
  have hst := h.stv i hi
  have sm : ∀ (u : SU) (f : SU → Nat), sumTo j (fun a => f (upd us i u a)) + f (us i) = sumTo j (fun a => f (us a)) + f u := fun u f => sumTo_upd us u f hi
  have keep : ∀ (u : SU) (σ' : SS), σ'.ws = σ.ws → (∃ q, l.getD i [] = q ++ u.todo ∧ ∀ x ∈ q, 0 ≤ x → x < (n : Int) → bitW σ.ws x.toNat = true) → okSt n σ.ws u → σ'.won + σ'.lost + u.todo.length = σ.won + σ.lost + (us i).todo.length → σ.won + pend1 (us i) = σ'.won + pend1 u → cost σ.ws u < cost σ.ws (us i) →
      SJ n l σ0 σ' (upd us i u) j ∧ muS l σ' (upd us i u) j < muS l σ us j := by
    intro u σ' hws hq hok htot hcnt hcost
    refine ⟨⟨h.jl, by rw [hws]; exact h.len, by rw [hws]; exact h.rng, fun a ha => ?_, fun a ha => ?_, ?_, ?_, by rw [hws]; exact h.old, by rw [hws]; exact h.new⟩, ?_⟩
    · by_cases e : a = i
      · subst e; rw [upd_same, hws]; exact hq
      · rw [upd_ne us _ e, hws]; exact h.suf a ha
    · by_cases e : a = i
      · subst e; rw [upd_same, hws]; exact hok
      · rw [upd_ne us _ e, hws]; exact h.stv a ha
    · have h1 := h.tot
      have h2 := sm u (fun u => u.todo.length)
      omega
    · have h1 := h.cnt
      have h2 := sm u pend1
      rw [hws]; omega
    · unfold muS
      rw [hws]
      have h2 := sm u (cost σ.ws)
      omega
  generalize hu : us i = u at hne hp hst keep
  obtain ⟨todo, st⟩ := u
  cases todo with
  | nil => exact absurd rfl hne
  | cons x r =>
    have hsame : ∃ q, l.getD i [] = q ++ (x :: r) ∧ ∀ x ∈ q, 0 ≤ x → x < (n : Int) → bitW σ.ws x.toNat = true := ⟨p, hp, hpb⟩
    cases st with
    | idle =>
      have hv : 0 ≤ x ∧ x < (n : Int) := hst
      simp only [nxt]
      split
      · rename_i hb
        exact keep ⟨x :: r, .done false⟩ σ rfl hsame (fun _ => hb) rfl rfl (by simp only [cost]; omega)
      · rename_i hb
        refine keep ⟨x :: r, .got _⟩ σ rfl hsame ⟨hv, ?_⟩ rfl rfl (by simp only [cost, if_true]; omega)
        simpa [bitW] using hb
    | got v =>
      obtain ⟨hv, hvb⟩ := hst
      simp only [nxt]
      split
      · rename_i he
        subst he
        have hq : x.toNat / 64 < σ.ws.length := by rw [h.len]; omega
        have hr : x.toNat % 64 < 64 := Nat.mod_lt _ (by decide)
        have hx : 64 * (x.toNat / 64) + x.toNat % 64 = x.toNat := by omega
        have hbs := bitW_set hq hr hvb
        have hps := popW_set hq hr hvb
        rw [hx] at hbs
        generalize hws : σ.ws.set (x.toNat / 64) (σ.ws.getD (x.toNat / 64) 0 ^^^ 2 ^ (x.toNat % 64)) = ws' at hbs hps
        have hle : ws'.length = σ.ws.length := by rw [← hws, List.length_set]
        have hup : ∀ k, bitW σ.ws k = true → bitW ws' k = true := fun k hk => by rw [hbs, hk]; rfl
        have hme : bitW ws' x.toNat = true := by rw [hbs]; simp
        have hok : ∀ u, okSt n σ.ws u → okSt n ws' u := by
          rintro ⟨td, s⟩ hk
          cases td with
          | nil => cases s <;> exact hk
          | cons y r' =>
            cases s with
            | idle => exact hk
            | got v => exact hk
            | done b => exact fun hy => hup _ (hk hy)
        refine ⟨⟨h.jl, by rw [← h.len]; exact hle, fun v hv' => ?_, fun a ha => ?_, fun a ha => ?_, ?_, ?_, fun k hk => hup k (h.old k hk), fun k hk => ?_⟩, ?_⟩
        · rw [← hws] at hv'
          rcases List.mem_or_eq_of_mem_set hv' with h1 | rfl
          · exact h.rng v h1
          · refine Nat.xor_lt_two_pow ?_ (Nat.pow_lt_pow_right (by decide) hr)
            rw [List.getD_eq_getElem?_getD, List.getElem?_eq_getElem hq, Option.getD_some]
            exact h.rng _ (List.getElem_mem hq)
        · by_cases e : a = i
          · subst e; rw [upd_same]; exact ⟨p, hp, fun y hy h1 h2 => hup _ (hpb y hy h1 h2)⟩
          · rw [upd_ne us _ e]
            obtain ⟨q, h1, h2⟩ := h.suf a ha
            exact ⟨q, h1, fun y hy h3 h4 => hup _ (h2 y hy h3 h4)⟩
        · by_cases e : a = i
          · subst e; rw [upd_same]; exact fun _ => hme
          · rw [upd_ne us _ e]; exact hok _ (h.stv a ha)
        · have h1 := h.tot
          have h2 := sm ⟨x :: r, .done true⟩ (fun u => u.todo.length)
          rw [hu] at h2
          simp only at h2 ⊢
          omega
        · have h1 := h.cnt
          have h2 := sm ⟨x :: r, .done true⟩ pend1
          rw [hu] at h2
          simp only [pend1] at h2 h1 ⊢
          rw [hps]
          omega
        · have : bitW ws' k = true := hk
          rw [hbs, Bool.or_eq_true, decide_eq_true_iff] at this
          rcases this with h1 | rfl
          · exact h.new k h1
          · refine .inr ⟨i, hi, x, by rw [hp]; simp, hv, rfl⟩
        · unfold muS
          simp only
          have h2 := sm ⟨x :: r, .done true⟩ (cost ws')
          rw [hu] at h2
          have h3 : sumTo j (fun a => cost ws' (us a)) ≤ sumTo j (fun a => cost σ.ws (us a)) + 2 * j := by
            have e1 : ∀ j, sumTo j (fun a => cost σ.ws (us a) + 2) = sumTo j (fun a => cost σ.ws (us a)) + 2 * j := by
              intro j
              induction j with
              | zero => rfl
              | succ j ih => simp only [sumTo, ih]; omega
            rw [← e1]
            exact sumTo_le fun a _ => cost_turn _ _ _
          have h4 : cost ws' ⟨x :: r, .done true⟩ + 1 ≤ cost ws' ⟨x :: r, .got (σ.ws.getD (x.toNat / 64) 0)⟩ := by
            simp only [cost]; split <;> omega
          have h5 := popW_le ws'
          rw [hle] at h5 ⊢
          rw [hps] at h5 ⊢
          have h6 : 64 * σ.ws.length - popW σ.ws = (64 * σ.ws.length - (popW σ.ws + 1)) + 1 := by omega
          rw [h6, Nat.mul_add]
          have : 2 * j ≤ 2 * l.length := by omega
          omega
      · rename_i he
        exact keep ⟨x :: r, .idle⟩ σ rfl hsame hv rfl rfl (by simp only [cost, if_neg he]; omega)
    | done b =>
      simp only [nxt]
      have hq : ∃ q, l.getD i [] = q ++ (mkU n r).todo ∧ ∀ x ∈ q, 0 ≤ x → x < (n : Int) → bitW σ.ws x.toNat = true := by
        refine ⟨p ++ [x], by rw [todo_mkU, hp]; simp, fun y hy h1 h2 => ?_⟩
        rcases List.mem_append.1 hy with h3 | h3
        · exact hpb y h3 h1 h2
        · rw [List.mem_singleton.1 h3] at h1 h2 ⊢
          exact hst ⟨h1, h2⟩
      have hc : cost σ.ws (mkU n r) < cost σ.ws ⟨x :: r, .done b⟩ := by
        have := cost_mkU n σ.ws r
        simp only [cost] at this ⊢; omega
      cases b with
      | true => exact keep (mkU n r) { σ with won := σ.won + 1 } rfl hq (ok_mkU _ _ _) (by simp only [todo_mkU, List.length_cons]; omega) (by rw [pend_mkU]; rfl) hc
      | false => exact keep (mkU n r) { σ with lost := σ.lost + 1 } rfl hq (ok_mkU _ _ _) (by simp only [todo_mkU, List.length_cons, Bool.false_eq_true, if_false]; omega) (by rw [pend_mkU]; rfl) hc
end
end Go.Proofs.Ytkcknoodcgmndaa

end
section
/- tally.Sweep as a phase. -/
namespace Go.Proofs.Ytkcknoodcgmndaa
open Go.Conc
open Go.ConcN (sumTo upd)
open Go.ConcR (WgAt stA)
set_option linter.unusedVariables false
set_option linter.unusedSimpArgs false

structure SwP where
  Wg : Nat
  Bb : Nat
  Wb : Nat
  has : Bool
  N0 : Nat
  H0 : Nat
  nn : Nat
  l : List (List Int)
  σ0 : SS
  dead : Nat → Prop
def boardC (a b : Nat) : Array Value := #[.int .i64 a, .int .i64 b, .int .i64 0, .int .i64 0, .int .i64 0, .int .i64 0, .int .i64 0, .int .i64 0, .int .i64 0, .int .i64 0, .int .i64 0, .int .i64 0, .int .i64 0, .int .i64 0, .int .i64 0, .int .i64 0]
structure SwRep (s : SwP) (σ : SS) (w : World) : Prop where
  b : w.heap[s.Bb]? = some (.cells (boardC σ.won σ.lost) 70)
  m : s.has = true → w.heap[s.Wb]? = some (.cells (σ.ws.map (fun v : Nat => Value.int .u64 v)).toArray 78)
def SwP.SB (s : SwP) (b : Nat) : Prop := b = s.Bb ∨ (s.has = true ∧ b = s.Wb)
def swCfg (s : SwP) : Cfg where
  ty := 81
  Wg := s.Wg
  n := s.l.length
  N0 := s.N0
  H0 := s.H0
  SB := s.SB
  sh := fun l => ∃ a : Addr, l = .cell a ∧ (a.block = s.Wg ∨ s.SB a.block ∨ s.dead a.block)
  own := fun _ _ => False
  U := SU
  S := SS
  Rep := SwRep s
  Pre := fun u σ => σ.won + σ.lost < 2 ^ 62 ∧ σ.ws.length = s.σ0.ws.length ∧ (∀ v ∈ σ.ws, v < 2 ^ 64) ∧ okSt s.nn σ.ws u
  Tr := fun u σ u' σ' => nxt s.nn u σ = (u', σ')
  fin := fun u => u.todo = []
  init := fun j => mkU s.nn (s.l.getD j [])
  JU := SJ s.nn s.l s.σ0
  mu := muS s.l
structure SwP.Ok (s : SwP) : Prop where
  few : s.l.length < 2147483648
  N0 : 0 < s.N0
  room : s.nn ≤ 64 * s.σ0.ws.length
  few2 : s.nn ≤ 65536
  small : s.σ0.won + s.σ0.lost + sumTo s.l.length (fun i => (s.l.getD i []).length) < 2 ^ 62
  bw : s.Bb ≠ s.Wg
  mw : s.has = true → s.Wb ≠ s.Wg
  mb : s.has = true → s.Wb ≠ s.Bb
theorem SwRep.same {s : SwP} {σ : SS} {w w' : World} (h : SwRep s σ w) (e : ∀ b, s.SB b → w'.heap[b]? = w.heap[b]?) : SwRep s σ w' :=
  ⟨(e _ (.inl rfl)).trans h.b, fun hh => (e _ (.inr ⟨hh, rfl⟩)).trans (h.m hh)⟩
theorem SwRep.lt {s : SwP} {σ : SS} {w : World} (h : SwRep s σ w) {b : Nat} (hb : s.SB b) : b < w.heap.size := by
  rcases hb with rfl | ⟨hh, rfl⟩
  · exact (Array.getElem?_eq_some_iff.1 h.b).1
  · exact (Array.getElem?_eq_some_iff.1 (h.m hh)).1
theorem SwRep.hard {s : SwP} {σ : SS} {w : World} (h : SwRep s σ w) {b : Nat} (hb : s.SB b) : ¬ Soft w b := by
  rintro ⟨v, hv⟩
  rcases hb with rfl | ⟨hh, rfl⟩
  · rw [h.b] at hv
    have := congrArg (fun o => match o with | some (Obj.cells _ t _) => t | _ => 0) hv
    have h7 : (70 : Nat) = 33 := this
    exact absurd h7 (by decide)
  · rw [h.m hh] at hv
    have := congrArg (fun o => match o with | some (Obj.cells _ t _) => t | _ => 0) hv
    have h7 : (78 : Nat) = 33 := this
    exact absurd h7 (by decide)
theorem swOk {s : SwP} (K : s.Ok) : (swCfg s).Ok where
  hn := K.few
  hN := K.N0
  rep_same := fun σ w w' h e => SwRep.same h e
  sb_hard := fun σ w b h hb => SwRep.hard h hb
  sb_lt := fun σ w b h hb => SwRep.lt h hb
  sbWg := fun hb => by
    rcases hb with h | ⟨hh, h⟩
    · exact K.bw h.symm
    · exact K.mw hh h.symm
  shWg := fun a ha => ⟨a, rfl, .inl ha⟩
  own_sh := fun _ _ h => h.elim
  own_one := fun _ _ _ h => h.elim
  own_mem := fun _ _ h => h.elim
  spawn := fun σ us j hj h => SJ.spawn h hj
  step := fun σ us j i u' σ' hi h hf ht => by
    have := SJ.step h K.room hi hf
    rw [show nxt s.nn (us i) σ = (u', σ') from ht] at this
    exact this
  pre := fun σ us j i hi h hf => by
    refine ⟨?_, h.len, h.rng, h.stv i hi⟩
    have h1 := h.tot
    have h2 := sumTo_mono (f := fun i => (s.l.getD i []).length) h.jl
    have h3 := K.small
    omega
end Go.Proofs.Ytkcknoodcgmndaa

end
