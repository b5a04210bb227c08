/- No reader; what Read tells, whether a table or none; small rows. -/
import Derived.Test.YtcmaekkfeilclaaSesL
import Derived.Laws.StructEq
namespace Go.Proofs.Ytcmaekkfeilclaa
open Go.RowKit
set_option linter.unusedSimpArgs false
set_option linter.unusedVariables false
set_option maxHeartbeats 2000000
set_option maxRecDepth 100000
attribute [local go_sem] Rw.agg Rw.cells

theorem getNil (who : Int) (w : World) : Calls Try.prog 8 #[.pointer none, .int .i64 who] w fun e w' => e = .returned (.tuple #[Rw.zero.agg, .bool false]) ∧ w.alloc (.cells Rw.zero.cells 28) = w' := by
  unfold Rw.agg Rw.cells Rw.zero
  go_enter Try.func8, Try.ntmps8
  go_wp2
  refine bodyPost_ret (v := .tuple #[Rw.zero.agg, .bool false]) (by simp [results, Try.results8, go_sem, Rw.zero]) rfl ⟨rfl, rfl⟩
theorem allNil (w : World) : Calls Try.prog 18 #[.pointer none] w fun e w' => e = .returned (.slice none 0 0) ∧ Below w.heap.size w w' := by
  go_enter Try.func18, Try.ntmps18
  go_wp2
  go_loopw [3, 7] (fun v i wr => ∃ k : Nat, k ≤ 6 ∧ i = .int .i64 k ∧ v = .slice none 0 0 ∧ Hid (Below w.heap.size w wr)) (fun _ i _ => 6 - (intOf i).toNat)
  case atStart => exact ⟨0, by omega, rfl, rfl, Lib.hid (Below.refl _ _)⟩
  case round =>
    obtain ⟨k, hk, rfl, rfl, hb⟩ := hrel
    have hs := hb.out.size
    by_cases hlt : k < 6
    · go_wp2_with (first | (go_at_call 8; refine (getNil _ _).mono ?_; rintro e w' ⟨rfl, rfl⟩) | fail)
      go_roundw
      case rel => exact ⟨k + 1, by omega, by go_num, rfl, Lib.hid (((hb.out.alloc hs _).alloc (by simp; omega) _))⟩
      case measure => simp [intOf]; omega
    · obtain rfl : k = 6 := by omega
      go_wp2
      go_ret
      exact ⟨rfl, hb.out⟩
theorem uptoNil (n m : Int) (w : World) :
    Calls Try.prog 36 #[.pointer none, .int .i64 n, .int .u64 m] w fun e w' => e = .returned (.int .u64 0) ∧ w = w' := by
  go_enter Try.func36, Try.ntmps36
  go_wp2_with (fail)
  all_goals first | (go_ret; exact ⟨rfl, rfl⟩) | (go_ret2; exact ⟨rfl, rfl⟩) | (go_end0; exact ⟨rfl, rfl⟩) | (refine bodyPost_ret (results_none rfl _ _ _) rfl ?_; exact ⟨rfl, rfl⟩)
theorem errNil  (w : World) :
    Calls Try.prog 38 #[.pointer none] w fun e w' => e = .returned (.int .i64 2) ∧ w = w' := by
  go_enter Try.func38, Try.ntmps38
  go_wp2_with (fail)
  all_goals first | (go_ret; exact ⟨rfl, rfl⟩) | (go_ret2; exact ⟨rfl, rfl⟩) | (go_end0; exact ⟨rfl, rfl⟩) | (refine bodyPost_ret (results_none rfl _ _ _) rfl ?_; exact ⟨rfl, rfl⟩)

theorem readNil (w : World) : Calls Try.prog 25 #[.pointer none] w fun e w' => e = .returned (.tuple #[.pointer none, .int .i64 2]) ∧ Below w.heap.size w w' := by
  go_enter Try.func25, Try.ntmps25
  go_wp2_with (first | (go_at_call 36; refine (uptoNil _ _ _).mono ?_; rintro e w' ⟨rfl, rfl⟩) | fail)
  refine (sesNew_any _).mono ?_
  rintro e w1 ⟨rfl, ht, hb⟩
  have HB := Lib.hid hb
  clear hb ht
  go_wp2_with (fail)
  go_loopw [14] (fun i wr => i = .int .u64 0 ∧ w1 = wr) (fun i _ => 0)
  case atStart => exact ⟨rfl, rfl⟩
  case round =>
    obtain ⟨rfl, rfl⟩ := hrel
    go_wp2_with (first | (go_at_call 38; refine (errNil _).mono ?_; rintro e w' ⟨rfl, rfl⟩) | fail)
    go_ret2
    exact ⟨rfl, HB.out⟩
/-- All of a table, or of none -/
def UAll (u : Value) (l : List Rw) (w : World) : Prop :=
  ∀ W, Below w.heap.size w W → Calls Try.prog 18 #[u] W fun e w' => ∃ A c, e = .returned (.slice A l.length c) ∧ Reads w' w'.heap.size 5 A l.length (l.flatMap Rw.vals) ∧ Below W.heap.size W w'
theorem UAll.below {u : Value} {l : List Rw} {w w' : World} (h : UAll u l w) (hb : Below w.heap.size w w') : UAll u l w' := fun W hW => h W (hb.trans (hW.mono hb.size))
theorem UAll.tab {w : World} {g : Nat} {R : Nat → Rw} (h : Tab w g R) : UAll (.pointer (some ⟨g, 0, none⟩)) (seg R 0 6) w := fun W hW => all_reads g R W (h.below hW h.lt)
theorem UAll.nil (w : World) : UAll (.pointer none) [] w := fun W _ => (allNil W).mono fun e w' ⟨he, hb⟩ => ⟨none, 0, he, Reads.none_, hb⟩
def RuPost (g B : Nat) (s : FI) (w : World) (e : Ending) (w' : World) : Prop :=
  ∃ u, e = .returned (.tuple #[u, .int .i64 (readE s)]) ∧ UAll u (readL s) w' ∧ InAt w' g B (readI s) ∧ Chg w w' (isG g)
theorem readT_u (g B : Nat) (s : FI) (w : World) (h : InAt w g B s) : Calls Try.prog 25 #[.pointer (some ⟨g, 0, none⟩)] w (RuPost g B s w) :=
  (readT_any g B s w h).mono fun e w' ⟨h1, h2, h3⟩ => by
    rcases h3 with ⟨hE, t, R, he, hT, hR⟩ | ⟨hE, he⟩
    · exact ⟨_, by rw [he, hE], by rw [← hR.eq]; exact UAll.tab hT, h1, h2⟩
    · exact ⟨_, by rw [he], by rw [readL, if_neg hE]; exact UAll.nil _, h1, h2⟩
theorem readL_len (s : FI) : (readL s).length ≤ 6 := by
  unfold readL
  split
  · rw [getRows_len]; exact FI.upto_most _ _ _
  · exact Nat.zero_le _

/-- all rows are small -/
def AllSm (R : Nat → Rw) : Prop := ∀ i, (R i).small
theorem AllSm.zero : AllSm (fun _ => Rw.zero) := by
  have h : Rw.zero.small := ⟨by decide, by decide, by decide, by decide, by decide⟩
  exact fun _ => h
theorem AllSm.seg {R : Nat → Rw} (h : AllSm R) (a n : Nat) : ∀ x ∈ seg R a n, x.small := by
  induction n with
  | zero => exact fun x hx => by cases hx
  | succ n ih =>
    intro x hx
    rw [Proofs.Ytcmaekkfeilclaa.seg, List.mem_append] at hx
    rcases hx with hx | hx
    · exact ih x hx
    · split at hx
      · cases hx
      · rw [List.mem_singleton] at hx; subst hx; exact h _
theorem AllSm.set {R : Nat → Rw} (h : AllSm R) (r : Rw) (hw : r.wf) : AllSm (setT R r) := by
  intro i
  unfold setT
  split
  · rename_i hc
    unfold upd
    split
    · have hf := hc.1
      have h1 := fine_client r hf
      have h2 := fine_num r hf
      unfold Rw.fine at hf
      simp only [Bool.and_eq_true, decide_eq_true_eq] at hf
      obtain ⟨w1, w2, w3, w4, w5⟩ := hw
      exact ⟨by omega, by omega, by omega, by omega, by omega⟩
    · exact h i
  · exact h i
theorem seg_fine (R : Nat → Rw) (h : ∀ i, (R i).n ≠ 0 → (R i).fine = true) (a n : Nat) : ∀ x ∈ seg R a n, x.fine = true := by
  induction n with
  | zero => exact fun x hx => by cases hx
  | succ n ih =>
    intro x hx
    rw [seg, List.mem_append] at hx
    rcases hx with hx | hx
    · exact ih x hx
    · split at hx
      · cases hx
      · rename_i hn; rw [List.mem_singleton] at hx; subst hx; exact h _ hn
theorem fine_set {R : Nat → Rw} (h : ∀ i, (R i).n ≠ 0 → (R i).fine = true) (r : Rw) : ∀ i, (setT R r i).n ≠ 0 → (setT R r i).fine = true := by
  intro i
  unfold setT
  split
  · rename_i hc
    unfold upd
    split
    · exact fun _ => hc.1
    · exact h i
  · exact h i
end Go.Proofs.Ytcmaekkfeilclaa
