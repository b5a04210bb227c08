/- Updates: the plain law of Runs, Fits, Batch. -/
import Derived.Test.YtfcjkkjgedcgpaaGreatDoorUpdA
namespace Go.Proofs.YtfcjkkjgedcgpaaGreatDoor
open Go.RowKit
set_option linter.unusedSimpArgs false
set_option linter.unusedVariables false

def RunsP (l : List Up) (a : Int) : Prop := ∀ (k : Nat) (u : Up), l[k]? = some u → u.seq ≠ 0 ∧ u.seq - 1 = IntKind.u64.wrap (a + k)
noncomputable def runsB (l : List Up) (a : Int) : Bool := @decide (RunsP l a) (Classical.propDecidable _)
theorem runsB_iff (l : List Up) (a : Int) : runsB l a = true ↔ RunsP l a := by unfold runsB; simp
theorem runsB_no {l : List Up} {a : Int} (h : ¬ RunsP l a) : false = runsB l a := by unfold runsB; simp [h]
theorem runsB_yes {l : List Up} {a : Int} (h : RunsP l a) : true = runsB l a := by unfold runsB; simp [h]
theorem runs_step {l : List Up} {k : Nat} {u : Up} {a : Int} (h : RunsP (l.take k) a) (hu : l[k]? = some u) (h1 : u.seq ≠ 0) (h2 : u.seq - 1 = IntKind.u64.wrap (a + k)) : RunsP (l.take (k + 1)) a := by
  intro j v hj
  by_cases hjk : j < k
  · exact h j v (by rw [← hj, List.getElem?_take_of_lt hjk, List.getElem?_take_of_lt (by omega)])
  · have hj' : j = k := by
      have := (List.getElem?_eq_some_iff.1 hj).1
      rw [List.length_take] at this
      omega
    subst hj'
    rw [List.getElem?_take_of_lt (by omega), hu] at hj
    injection hj with hj
    subst hj
    exact ⟨h1, h2⟩

/-- whoever picks: a state, and what it says of an update -/
def pickL {σ : Type} (step : σ → Up → Bool × σ) : σ → List Up → List Up
  | _, [] => []
  | s, u :: r => if (step s u).1 then u :: pickL step (step s u).2 r else pickL step (step s u).2 r
def pickS {σ : Type} (step : σ → Up → Bool × σ) : σ → List Up → σ
  | s, [] => s
  | s, u :: r => pickS step (step s u).2 r
theorem pickS_snoc {σ : Type} (step : σ → Up → Bool × σ) (s : σ) (l : List Up) (u : Up) : pickS step s (l ++ [u]) = (step (pickS step s l) u).2 := by
  induction l generalizing s with
  | nil => rfl
  | cons a r ih => exact ih _
theorem pickL_snoc {σ : Type} (step : σ → Up → Bool × σ) (s : σ) (l : List Up) (u : Up) : pickL step s (l ++ [u]) = pickL step s l ++ (if (step (pickS step s l) u).1 then [u] else []) := by
  induction l generalizing s with
  | nil => rfl
  | cons a r ih =>
    simp only [List.cons_append, pickL, pickS]
    rw [ih]
    split <;> rfl
theorem take_snoc {α : Type} {l : List α} {k : Nat} {u : α} (h : l[k]? = some u) : l.take (k + 1) = l.take k ++ [u] := by rw [List.take_add_one, h]; rfl
theorem pickL_take {σ : Type} (step : σ → Up → Bool × σ) (s : σ) {l : List Up} {k : Nat} {u : Up} (h : l[k]? = some u) :
    pickL step s (l.take (k + 1)) = pickL step s (l.take k) ++ (if (step (pickS step s (l.take k)) u).1 then [u] else []) := by rw [take_snoc h, pickL_snoc]
theorem pickS_take {σ : Type} (step : σ → Up → Bool × σ) (s : σ) {l : List Up} {k : Nat} {u : Up} (h : l[k]? = some u) :
    pickS step s (l.take (k + 1)) = (step (pickS step s (l.take k)) u).2 := by rw [take_snoc h, pickS_snoc]
theorem pickL_len {σ : Type} (step : σ → Up → Bool × σ) (s : σ) (l : List Up) : (pickL step s l).length ≤ l.length := by
  induction l generalizing s with
  | nil => simp [pickL]
  | cons a r ih =>
    have := ih (step s a).2
    simp only [pickL]
    split <;> simp <;> omega

def fitStep (a : Int) (u : Up) : Bool × Int := if u.seq ≠ 0 ∧ u.seq - 1 = a then (true, u.seq) else (false, a)
def copyStep (_ : Unit) (_ : Up) : Bool × Unit := (true, ())
def batchStep (after : Int) (left : Int) (u : Up) : Bool × Int := if after < u.seq ∧ 1 ≤ left then (true, left - 1) else (false, left)
theorem pickL_yes {σ : Type} {step : σ → Up → Bool × σ} {s s' : σ} {u : Up} (h : step s u = (true, s')) (r : List Up) : pickL step s (u :: r) = u :: pickL step s' r := by simp [pickL, h]
theorem pickL_no {σ : Type} {step : σ → Up → Bool × σ} {s s' : σ} {u : Up} (h : step s u = (false, s')) (r : List Up) : pickL step s (u :: r) = pickL step s' r := by simp [pickL, h]
theorem copy_all (l : List Up) : pickL copyStep () l = l := by
  induction l with
  | nil => rfl
  | cons a r ih => rw [pickL_yes (s' := ()) rfl, ih]

theorem RunsP.cons {u : Up} {r : List Up} {a : Int} (h1 : u.seq ≠ 0) (h2 : u.seq - 1 = IntKind.u64.wrap a) (h : RunsP r (a + 1)) : RunsP (u :: r) a := by
  intro k v hk
  cases k with
  | zero => simp at hk; subst hk; exact ⟨h1, by simpa using h2⟩
  | succ k =>
    have := h k v (by simpa using hk)
    rw [show a + ((k + 1 : Nat) : Int) = a + 1 + (k : Int) from by omega]
    exact this
theorem RunsP.tail {u : Up} {r : List Up} {a : Int} (h : RunsP (u :: r) a) : (u.seq ≠ 0 ∧ u.seq - 1 = IntKind.u64.wrap a) ∧ RunsP r (a + 1) := by
  refine ⟨?_, fun k v hk => ?_⟩
  · have := h 0 u rfl
    simpa using this
  · have := h (k + 1) v (by simpa using hk)
    rw [show a + 1 + (k : Int) = a + ((k + 1 : Nat) : Int) from by omega]
    exact this
theorem fits_runs (l : List Up) (a : Int) (h0 : 0 ≤ a) (h1 : a ≤ 18446744073709551615) (hw : ∀ u ∈ l, u.wf) : RunsP (pickL fitStep a l) a := by
  induction l generalizing a with
  | nil => intro k u hk; simp [pickL] at hk
  | cons u r ih =>
    have hr : ∀ v ∈ r, v.wf := fun v hv => hw v (by simp [hv])
    by_cases hc : u.seq ≠ 0 ∧ u.seq - 1 = a
    · rw [pickL_yes (s' := u.seq) (by rw [fitStep, if_pos hc])]
      have hs := (hw u (by simp)).seq
      refine RunsP.cons hc.1 (by rw [IntKind.wrap_u64]; omega) ?_
      rw [show u.seq = a + 1 from by omega]
      exact ih (a + 1) (by omega) (by omega) hr
    · rw [pickL_no (s' := a) (by rw [fitStep, if_neg hc])]
      exact ih a h0 h1 hr
theorem runs_fits (l : List Up) (a : Int) (h0 : 0 ≤ a) (h1 : a ≤ 18446744073709551615) (hw : ∀ u ∈ l, u.wf) (h : RunsP l a) : pickL fitStep a l = l := by
  induction l generalizing a with
  | nil => rfl
  | cons u r ih =>
    obtain ⟨⟨hu1, hu2⟩, ht⟩ := h.tail
    have hs := (hw u (by simp)).seq
    have ha : u.seq - 1 = a := by rw [IntKind.wrap_u64] at hu2; omega
    have hr : ∀ v ∈ r, v.wf := fun v hv => hw v (by simp [hv])
    rw [pickL_yes (s' := u.seq) (by rw [fitStep, if_pos ⟨hu1, ha⟩])]
    have := ih u.seq (by omega) (by omega) hr (by rw [show u.seq = a + 1 from by omega]; exact ht)
    rw [this]
/-- lists that say the same run alike -/
theorem runs_val {l m : List Up} {a : Int} (h : l.map Up.val = m.map Up.val) : RunsP l a → RunsP m a := by
  intro hl k u hk
  have h1 : (l.map Up.val)[k]? = some u.val := by rw [h, List.getElem?_map, hk]; rfl
  rw [List.getElem?_map] at h1
  cases hv : l[k]? with
  | none => rw [hv] at h1; cases h1
  | some v =>
    rw [hv] at h1
    simp only [Option.map_some, Option.some.injEq] at h1
    have hs : v.seq = u.seq := congrArg Prod.fst h1
    rw [← hs]
    exact hl k v hv
end Go.Proofs.YtfcjkkjgedcgpaaGreatDoor
