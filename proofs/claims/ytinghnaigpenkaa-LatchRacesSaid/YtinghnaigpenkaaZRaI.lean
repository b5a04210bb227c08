/- Seat 05: LatchRaces: the law's walk. -/
import Derived.Test.YtinghnaigpenkaaZRaH
import Derived.Test.YtinghnaigpenkaaZLwE
namespace Go.Proofs.Ytinghnaigpenkaa
open Go.Conc Go.RowKit Go.ConcR.Gen
open Go.ConcR (WgAt stA Payload)
set_option linter.unusedVariables false
set_option linter.unusedSimpArgs false
set_option maxRecDepth 100000
set_option maxHeartbeats 8000000













theorem BelO.of_below {s g : Nat} {w w' : World} (h : Below s w w') : BelO s g w w' := ⟨⟨h.tape, by rw [h.os]; exact .refl _, h.output⟩, h.size, fun k hk _ => h.block k hk⟩
theorem BelO.of_chg {s g : Nat} {w w' : World} (h : Chg w w' (fun k => k = g)) (hs : s ≤ w.heap.size) : BelO s g w w' := ⟨⟨h.tape, by rw [h.os]; exact .refl _, h.output⟩, h.size, fun k hk hn => h.block k (by omega) hn⟩
theorem BelO.trans {s s' g : Nat} {a b c : World} (h : BelO s g a b) (k : BelO s' g b c) (hs : s ≤ s') : BelO s g a c := ⟨h.env.trans k.env, Nat.le_trans h.size k.size, fun i hi hn => (k.block i (by omega) hn).trans (h.block i hi hn)⟩
theorem BelO.at {s g : Nat} {a b c : World} (h : BelO s g a b) (k : AtRel b c) : BelO s g a c := by
  obtain ⟨q, rfl⟩ := k
  exact ⟨h.env.trans (env_at b q), h.size, h.block⟩
theorem latchRaces_X {Post : Value → World → Prop} (set : Bool) (first : Int) (l : List Int) (Al : Option Addr) (cap db off : Nat) (w : World) (hat : 0 < l.length → Al = some ⟨db, off, none⟩) (hdata : ∀ q x, l[q]? = some x → w.cell? ⟨db, off + q, none⟩ = some (.int .u64 x)) :
    CallX Try.prog Post 5 #[.bool set, .int .u64 first, .slice Al l.length cap] w ⟨fun _ => False, 1, 0⟩ (fun v w' x' => v = .bool true ∧ BelO w.heap.size w.heap.size w w' ∧ x'.d = 0) := by
  refine ⟨_, _, Try.func5, by kernel_rfl, rfl, ?_⟩
  simp only [Try.ntmps5]
  walk_nrm
  have hF := atRel_refl w
  generalize hL : l.length = len
  replace hL := Lib.hid hL
  have nS : ∀ w1 : World, ∀ k i, w1.heap.size ≤ k → ¬ (fun _ : Loc => False) (.cell ⟨k, i, none⟩) := fun _ k i _ h => h
  by_cases h60 : len ≤ 60
  rotate_left
  · have e9 : decide ((60 : Int) < (len : Int)) = true := decide_eq_true (by omega)
    (repeat (first | (refine codeX_seq ?_) | (refine codeX_region ?_; simp only [List.size_toArray, List.length_cons, List.length_nil, Nat.reduceAdd, Nat.zero_add, List.range, List.range.loop]) | (refine opsX_nil ?_; simp only [Exit.thenX]) | (refine codeX_of ?_; refine codeW_skip (termsP _) ?_; simp only [Exit.thenX]) | ((first | refine codeX_cond (t := true) rfl ?_ | refine codeX_cond (t := false) rfl ?_); simp only [if_true, if_false, Bool.false_eq_true, ↓reduceIte]) | (refine opsX_unwanted rfl (by rfl) ?_; try walk_nrm) | (refine opsX_cons rfl (by rfl) ?_; intro _ hR K hK; replace hF := atRel_trans _ _ _ hF hR; clear hR; have hs9 := atRel_size hF; go_simp; refine hK _ _ ⟨?_, ?_⟩; (· rw [listed_nil (by simp [go_sem, *])]; exact dp0_nil); clear hK K hs9; try walk_nrm)))
    refine opsX_call rfl (by rfl) rfl ?_ ?_ (Pos := fun v' w' x' => x' = ⟨fun _ => False, 1, 0⟩ ∧ v' = .bool true ∧ Below w.heap.size w w')
    · walk_nrm
      exact callX_rely hF (awake5_X w (nS w))
    rintro _ w7 x' ⟨rfl, rfl, hB7⟩
    clear hF
    have hF := atRel_refl w7
    replace hB7 := Lib.hid hB7
    walk_nrm
    (repeat (first | (refine codeX_seq ?_) | (refine codeX_region ?_; simp only [List.size_toArray, List.length_cons, List.length_nil, Nat.reduceAdd, Nat.zero_add, List.range, List.range.loop]) | (refine opsX_nil ?_; simp only [Exit.thenX]) | (refine codeX_of ?_; refine codeW_skip (termsP _) ?_; simp only [Exit.thenX]) | ((first | refine codeX_cond (t := true) rfl ?_ | refine codeX_cond (t := false) rfl ?_); simp only [if_true, if_false, Bool.false_eq_true, ↓reduceIte]) | (refine opsX_unwanted rfl (by rfl) ?_; try walk_nrm) | (refine opsX_cons rfl (by rfl) ?_; intro _ hR K hK; replace hF := atRel_trans _ _ _ hF hR; clear hR; have hs9 := atRel_size hF; go_simp; refine hK _ _ ⟨?_, ?_⟩; (· rw [listed_nil (by simp [go_sem, *])]; exact dp0_nil); clear hK K hs9; try walk_nrm)))
    (refine codeX_of ?_; refine codeW_ret (termsP _) ?_)
    exact ⟨rfl, _, resultsC_tmp rfl _, rfl, .of_below (atRel_below hF hB7.out), rfl⟩
  have e9 : decide ((60 : Int) < (len : Int)) = false := decide_eq_false (by omega)
  (repeat (first | (refine codeX_seq ?_) | (refine codeX_region ?_; simp only [List.size_toArray, List.length_cons, List.length_nil, Nat.reduceAdd, Nat.zero_add, List.range, List.range.loop]) | (refine opsX_nil ?_; simp only [Exit.thenX]) | (refine codeX_of ?_; refine codeW_skip (termsP _) ?_; simp only [Exit.thenX]) | ((first | refine codeX_cond (t := true) rfl ?_ | refine codeX_cond (t := false) rfl ?_); simp only [if_true, if_false, Bool.false_eq_true, ↓reduceIte]) | (refine opsX_unwanted rfl (by rfl) ?_; try walk_nrm) | (refine opsX_cons rfl (by rfl) ?_; intro _ hR K hK; replace hF := atRel_trans _ _ _ hF hR; clear hR; have hs9 := atRel_size hF; go_simp; refine hK _ _ ⟨?_, ?_⟩; (· rw [listed_nil (by simp [go_sem, *])]; exact dp0_nil); clear hK K hs9; try walk_nrm)))
  obtain ⟨s, hs⟩ : ∃ s, s = w.heap.size := ⟨_, rfl⟩
  refine opsX_call rfl (by rfl) rfl ?_ ?_ (Pos := fun v' w' x' => x' = ⟨fun _ => False, 1, 0⟩ ∧ v' = .pointer (some ⟨s, 0, none⟩) ∧ LatU w' s false 0 ∧ Below s w w')
  · walk_nrm
    rw [hs]
    exact callX_rely hF (newU_X w)
  rintro _ w1 x' ⟨rfl, rfl, hg1, hB1⟩
  clear hF
  have hF := atRel_refl w1
  have hs1 := hg1.lt
  rw [← hs]
  replace hs := Lib.hid hs
  replace hB1 := Lib.hid hB1
  replace hg1 := Lib.hid hg1
  have hdb : ∀ (w2 : World), BelO s s w w2 → ∀ q x, l[q]? = some x → w2.cell? ⟨db, off + q, none⟩ = some (.int .u64 x) := fun w2 hB q x hx => by
    have hx' := hdata q x hx
    have hlt : db < s := by rw [hs.out]; exact World.block_lt_of_cell? w _ hx'
    rw [cell_same (hB.block db hlt (by omega))]
    exact hx'
  have hne : 0 < len → Al = some ⟨db, off, none⟩ ∧ db < s := fun h => by
    have h0 : 0 < l.length := by rw [hL.out]; exact h
    have hlt : db < s := by rw [hs.out]; exact World.block_lt_of_cell? w _ (hdata 0 _ (List.getElem?_eq_getElem h0))
    exact ⟨hat h0, hlt⟩
  replace hdb := Lib.hid hdb
  replace hne := Lib.hid hne
  have RC := fun (b : Bool) (v : Int) (w2 : World) (hbv : b = false → v = 0) (hg : LatU w2 s b v) (hB : BelO s s w w2) => race_X (Post := Post) (n := 1) (l := l) (cap := cap) (Al := Al) (b := b) (v := v) w2 (by omega) (by rw [hL.out]; exact h60) hg hbv (fun h => by have := hne.out (by rw [← hL.out]; exact h); exact ⟨this.1, by omega⟩) (hdb.out w2 hB)
  rw [hL.out] at RC
  have b1 : BelO s s w w1 := .of_below hB1.out
  replace b1 := Lib.hid b1
  clear hB1
  -- the end, all known but awake
  cases set
  · walk_nrm
    (repeat (first | (refine codeX_seq ?_) | (refine codeX_region ?_; simp only [List.size_toArray, List.length_cons, List.length_nil, Nat.reduceAdd, Nat.zero_add, List.range, List.range.loop]) | (refine opsX_nil ?_; simp only [Exit.thenX]) | (refine codeX_of ?_; refine codeW_skip (termsP _) ?_; simp only [Exit.thenX]) | ((first | refine codeX_cond (t := true) rfl ?_ | refine codeX_cond (t := false) rfl ?_); simp only [if_true, if_false, Bool.false_eq_true, ↓reduceIte]) | (refine opsX_unwanted rfl (by rfl) ?_; try walk_nrm) | (refine opsX_cons rfl (by rfl) ?_; intro _ hR K hK; replace hF := atRel_trans _ _ _ hF hR; clear hR; have hs9 := atRel_size hF; go_simp; refine hK _ _ ⟨?_, ?_⟩; (· rw [listed_nil (by simp [go_sem, *])]; exact dp0_nil); clear hK K hs9; try walk_nrm)))
    have RC1 := RC false 0 w1 (fun _ => rfl) hg1.out b1.out
    clear RC
    refine opsX_call rfl (by rfl) rfl ?_ ?_ (Pos := RacePost 1 l s false 0 w1)
    · walk_nrm
      exact callX_rely hF RC1
    rintro _ w3 x' ⟨wn, b', z, S, rfl, hend, rfl, hSh, hSl, hS4, c3, c4, hB3'⟩
    rw [hL.out]
    have hB3 := Lib.hid (b1.out.trans hB3' (by omega))
    have hs3 : s < w3.heap.size := by have := hB3'.size; omega
    clear hF RC1 hB3'
    have hF := atRel_refl w3
    walk_nrm
    (repeat (first | (refine codeX_seq ?_) | (refine codeX_region ?_; simp only [List.size_toArray, List.length_cons, List.length_nil, Nat.reduceAdd, Nat.zero_add, List.range, List.range.loop]) | (refine opsX_nil ?_; simp only [Exit.thenX]) | (refine codeX_of ?_; refine codeW_skip (termsP _) ?_; simp only [Exit.thenX]) | ((first | refine codeX_cond (t := true) rfl ?_ | refine codeX_cond (t := false) rfl ?_); simp only [if_true, if_false, Bool.false_eq_true, ↓reduceIte]) | (refine opsX_unwanted rfl (by rfl) ?_; try walk_nrm) | (refine opsX_cons rfl (by rfl) ?_; intro _ hR K hK; replace hF := atRel_trans _ _ _ hF hR; clear hR; have hs9 := atRel_size hF; go_simp; refine hK _ _ ⟨?_, ?_⟩; (· rw [listed_nil (by simp [go_sem, *])]; exact dp0_nil); clear hK K hs9; try walk_nrm)))
    rcases Nat.eq_zero_or_pos len with h0 | h0
    · obtain ⟨rfl, rfl, rfl⟩ := (hend.2 rfl).1 (by rw [hL.out]; exact h0)
      clear hend
      have e8 : decide ((len : Int) = 0) = true := decide_eq_true (by omega)
      have e7 : ((len : Int) == 0) = true := by simpa using e8
      simp only [Bool.false_eq_true, if_false] at c3
      refine opsX_call rfl (by rfl) rfl ?_ ?_ (Pos := fun v' w' x' => x' = ⟨S, 1 + len, 0⟩ ∧ v' = .tuple #[.int .u64 0, .bool false] ∧ AtRel w3 w')
      · walk_nrm
        exact callX_rely hF (getU_X s false 0 w3 hS4 c3 c4)
      rintro _ w4 x' ⟨rfl, rfl, hF'⟩
      clear hF
      have hF := hF'
      clear hF'
      walk_nrm
      (repeat (first | (refine codeX_seq ?_) | (refine codeX_region ?_; simp only [List.size_toArray, List.length_cons, List.length_nil, Nat.reduceAdd, Nat.zero_add, List.range, List.range.loop]) | (refine opsX_nil ?_; simp only [Exit.thenX]) | (refine codeX_of ?_; refine codeW_skip (termsP _) ?_; simp only [Exit.thenX]) | ((first | refine codeX_cond (t := true) rfl ?_ | refine codeX_cond (t := false) rfl ?_); simp only [if_true, if_false, Bool.false_eq_true, ↓reduceIte]) | (refine opsX_unwanted rfl (by rfl) ?_; try walk_nrm) | (refine opsX_cons rfl (by rfl) ?_; intro _ hR K hK; replace hF := atRel_trans _ _ _ hF hR; clear hR; have hs9 := atRel_size hF; go_simp; refine hK _ _ ⟨?_, ?_⟩; (· rw [listed_nil (by simp [go_sem, *])]; exact dp0_nil); clear hK K hs9; try walk_nrm)))
      refine opsX_call rfl (by rfl) rfl ?_ ?_ (Pos := fun v' w' x' => x' = ⟨S, 1 + len, 0⟩ ∧ v' = .bool true ∧ Below w3.heap.size w3 w')
      · walk_nrm
        exact callX_rely hF (awake5_X w3 hSh)
      rintro _ w7 x' ⟨rfl, rfl, hB7⟩
      clear hF
      have hF := atRel_refl w7
      replace hB7 := Lib.hid hB7
      walk_nrm
      (repeat (first | (refine codeX_seq ?_) | (refine codeX_region ?_; simp only [List.size_toArray, List.length_cons, List.length_nil, Nat.reduceAdd, Nat.zero_add, List.range, List.range.loop]) | (refine opsX_nil ?_; simp only [Exit.thenX]) | (refine codeX_of ?_; refine codeW_skip (termsP _) ?_; simp only [Exit.thenX]) | ((first | refine codeX_cond (t := true) rfl ?_ | refine codeX_cond (t := false) rfl ?_); simp only [if_true, if_false, Bool.false_eq_true, ↓reduceIte]) | (refine opsX_unwanted rfl (by rfl) ?_; try walk_nrm) | (refine opsX_cons rfl (by rfl) ?_; intro _ hR K hK; replace hF := atRel_trans _ _ _ hF hR; clear hR; have hs9 := atRel_size hF; go_simp; refine hK _ _ ⟨?_, ?_⟩; (· rw [listed_nil (by simp [go_sem, *])]; exact dp0_nil); clear hK K hs9; try walk_nrm)))
      (refine codeX_of ?_; refine codeW_ret (termsP _) ?_)
      refine ⟨rfl, _, resultsC_tmp rfl _, rfl, ?_, rfl⟩
      exact hB3.out.trans (s' := w3.heap.size) (.of_below (atRel_below hF hB7.out)) (by omega)
    · obtain ⟨rfl, rfl, hz⟩ := (hend.2 rfl).2 (by rw [hL.out]; omega)
      clear hend
      have e8 : decide ((len : Int) = 0) = false := decide_eq_false (by omega)
      have e7 : ((len : Int) == 0) = false := by simpa using e8
      simp only [if_true] at c3
      refine opsX_call rfl (by rfl) rfl ?_ ?_ (Pos := fun v' w' x' => x' = ⟨S, 1 + len, 0⟩ ∧ v' = .tuple #[.int .u64 z, .bool true] ∧ AtRel w3 w')
      · walk_nrm
        exact callX_rely hF (getU_X s true z w3 hS4 c3 c4)
      rintro _ w4 x' ⟨rfl, rfl, hF'⟩
      clear hF
      have hF := hF'
      clear hF'
      walk_nrm
      (repeat (first | (refine codeX_seq ?_) | (refine codeX_region ?_; simp only [List.size_toArray, List.length_cons, List.length_nil, Nat.reduceAdd, Nat.zero_add, List.range, List.range.loop]) | (refine opsX_nil ?_; simp only [Exit.thenX]) | (refine codeX_of ?_; refine codeW_skip (termsP _) ?_; simp only [Exit.thenX]) | ((first | refine codeX_cond (t := true) rfl ?_ | refine codeX_cond (t := false) rfl ?_); simp only [if_true, if_false, Bool.false_eq_true, ↓reduceIte]) | (refine opsX_unwanted rfl (by rfl) ?_; try walk_nrm) | (refine opsX_cons rfl (by rfl) ?_; intro _ hR K hK; replace hF := atRel_trans _ _ _ hF hR; clear hR; have hs9 := atRel_size hF; go_simp; refine hK _ _ ⟨?_, ?_⟩; (· rw [listed_nil (by simp [go_sem, *])]; exact dp0_nil); clear hK K hs9; try walk_nrm)))
      refine opsX_callW rfl (by rfl) rfl ?_ ?_ (Pos := fun r w' => r = .bool true ∧ AtRel w3 w')
      · walk_nrm
        have hM := among_W (Shun := S) (w := w3) (A := Al) (g := db) (o := off) (c := cap) (xs := l) ⟨fun h => hat h, hdb.out w3 hB3.out⟩ z (fun o => hSl db o (by have := (hne.out h0).2; omega) (by have := (hne.out h0).2; omega)) (by rw [hL.out]; omega)
        rw [decide_eq_true hz, hL.out] at hM
        exact CallsW.rely (termsP _) hM hF
      rintro _ w5 ⟨rfl, hF'⟩
      clear hF
      have hF := hF'
      clear hF'
      walk_nrm
      (repeat (first | (refine codeX_seq ?_) | (refine codeX_region ?_; simp only [List.size_toArray, List.length_cons, List.length_nil, Nat.reduceAdd, Nat.zero_add, List.range, List.range.loop]) | (refine opsX_nil ?_; simp only [Exit.thenX]) | (refine codeX_of ?_; refine codeW_skip (termsP _) ?_; simp only [Exit.thenX]) | ((first | refine codeX_cond (t := true) rfl ?_ | refine codeX_cond (t := false) rfl ?_); simp only [if_true, if_false, Bool.false_eq_true, ↓reduceIte]) | (refine opsX_unwanted rfl (by rfl) ?_; try walk_nrm) | (refine opsX_cons rfl (by rfl) ?_; intro _ hR K hK; replace hF := atRel_trans _ _ _ hF hR; clear hR; have hs9 := atRel_size hF; go_simp; refine hK _ _ ⟨?_, ?_⟩; (· rw [listed_nil (by simp [go_sem, *])]; exact dp0_nil); clear hK K hs9; try walk_nrm)))
      refine opsX_call rfl (by rfl) rfl ?_ ?_ (Pos := fun v' w' x' => x' = ⟨S, 1 + len, 0⟩ ∧ v' = .bool true ∧ Below w3.heap.size w3 w')
      · walk_nrm
        exact callX_rely hF (awake5_X w3 hSh)
      rintro _ w7 x' ⟨rfl, rfl, hB7⟩
      clear hF
      have hF := atRel_refl w7
      replace hB7 := Lib.hid hB7
      walk_nrm
      (repeat (first | (refine codeX_seq ?_) | (refine codeX_region ?_; simp only [List.size_toArray, List.length_cons, List.length_nil, Nat.reduceAdd, Nat.zero_add, List.range, List.range.loop]) | (refine opsX_nil ?_; simp only [Exit.thenX]) | (refine codeX_of ?_; refine codeW_skip (termsP _) ?_; simp only [Exit.thenX]) | ((first | refine codeX_cond (t := true) rfl ?_ | refine codeX_cond (t := false) rfl ?_); simp only [if_true, if_false, Bool.false_eq_true, ↓reduceIte]) | (refine opsX_unwanted rfl (by rfl) ?_; try walk_nrm) | (refine opsX_cons rfl (by rfl) ?_; intro _ hR K hK; replace hF := atRel_trans _ _ _ hF hR; clear hR; have hs9 := atRel_size hF; go_simp; refine hK _ _ ⟨?_, ?_⟩; (· rw [listed_nil (by simp [go_sem, *])]; exact dp0_nil); clear hK K hs9; try walk_nrm)))
      (refine codeX_of ?_; refine codeW_ret (termsP _) ?_)
      refine ⟨rfl, _, resultsC_tmp rfl _, rfl, ?_, rfl⟩
      exact hB3.out.trans (s' := w3.heap.size) (.of_below (atRel_below hF hB7.out)) (by omega)
  · walk_nrm
    (repeat (first | (refine codeX_seq ?_) | (refine codeX_region ?_; simp only [List.size_toArray, List.length_cons, List.length_nil, Nat.reduceAdd, Nat.zero_add, List.range, List.range.loop]) | (refine opsX_nil ?_; simp only [Exit.thenX]) | (refine codeX_of ?_; refine codeW_skip (termsP _) ?_; simp only [Exit.thenX]) | ((first | refine codeX_cond (t := true) rfl ?_ | refine codeX_cond (t := false) rfl ?_); simp only [if_true, if_false, Bool.false_eq_true, ↓reduceIte]) | (refine opsX_unwanted rfl (by rfl) ?_; try walk_nrm) | (refine opsX_cons rfl (by rfl) ?_; intro _ hR K hK; replace hF := atRel_trans _ _ _ hF hR; clear hR; have hs9 := atRel_size hF; go_simp; refine hK _ _ ⟨?_, ?_⟩; (· rw [listed_nil (by simp [go_sem, *])]; exact dp0_nil); clear hK K hs9; try walk_nrm)))
    refine opsX_call rfl (by rfl) rfl ?_ ?_ (Pos := fun v' w' x' => x' = ⟨fun _ => False, 1, 0⟩ ∧ v' = .bool true ∧ LatU w' s true first ∧ Chg w1 w' (fun k => k = s))
    · walk_nrm
      exact callX_rely hF (setU_X s false 0 first w1 (fun _ _ _ h => h) hg1.out)
    rintro _ w2 x' ⟨rfl, rfl, hg2, hC2⟩
    have b2 := Lib.hid (b1.out.trans (s' := s) (.of_chg hC2 (by omega)) (Nat.le_refl _))
    have hs2 := hC2.size
    clear hF hg1 hC2 b1
    replace hg2 := Lib.hid hg2
    have hF := atRel_refl w2
    walk_nrm
    (repeat (first | (refine codeX_seq ?_) | (refine codeX_region ?_; simp only [List.size_toArray, List.length_cons, List.length_nil, Nat.reduceAdd, Nat.zero_add, List.range, List.range.loop]) | (refine opsX_nil ?_; simp only [Exit.thenX]) | (refine codeX_of ?_; refine codeW_skip (termsP _) ?_; simp only [Exit.thenX]) | ((first | refine codeX_cond (t := true) rfl ?_ | refine codeX_cond (t := false) rfl ?_); simp only [if_true, if_false, Bool.false_eq_true, ↓reduceIte]) | (refine opsX_unwanted rfl (by rfl) ?_; try walk_nrm) | (refine opsX_cons rfl (by rfl) ?_; intro _ hR K hK; replace hF := atRel_trans _ _ _ hF hR; clear hR; have hs9 := atRel_size hF; go_simp; refine hK _ _ ⟨?_, ?_⟩; (· rw [listed_nil (by simp [go_sem, *])]; exact dp0_nil); clear hK K hs9; try walk_nrm)))
    have RC1 := RC true first w2 (fun h => by cases h) hg2.out b2.out
    clear RC
    have hs1 : s < w2.heap.size := by omega
    have b1 := b2
    refine opsX_call rfl (by rfl) rfl ?_ ?_ (Pos := RacePost 1 l s true first w2)
    · walk_nrm
      exact callX_rely hF RC1
    rintro _ w3 x' ⟨wn, b', z, S, rfl, hend, rfl, hSh, hSl, hS4, c3, c4, hB3'⟩
    rw [hL.out]
    have hB3 := Lib.hid (b1.out.trans hB3' (by omega))
    have hs3 : s < w3.heap.size := by have := hB3'.size; omega
    clear hF RC1 hB3'
    have hF := atRel_refl w3
    walk_nrm
    (repeat (first | (refine codeX_seq ?_) | (refine codeX_region ?_; simp only [List.size_toArray, List.length_cons, List.length_nil, Nat.reduceAdd, Nat.zero_add, List.range, List.range.loop]) | (refine opsX_nil ?_; simp only [Exit.thenX]) | (refine codeX_of ?_; refine codeW_skip (termsP _) ?_; simp only [Exit.thenX]) | ((first | refine codeX_cond (t := true) rfl ?_ | refine codeX_cond (t := false) rfl ?_); simp only [if_true, if_false, Bool.false_eq_true, ↓reduceIte]) | (refine opsX_unwanted rfl (by rfl) ?_; try walk_nrm) | (refine opsX_cons rfl (by rfl) ?_; intro _ hR K hK; replace hF := atRel_trans _ _ _ hF hR; clear hR; have hs9 := atRel_size hF; go_simp; refine hK _ _ ⟨?_, ?_⟩; (· rw [listed_nil (by simp [go_sem, *])]; exact dp0_nil); clear hK K hs9; try walk_nrm)))
    obtain ⟨rfl, rfl, rfl⟩ := hend.1 rfl
    clear hend
    simp only [if_true] at c3
    refine opsX_call rfl (by rfl) rfl ?_ ?_ (Pos := fun v' w' x' => x' = ⟨S, 1 + len, 0⟩ ∧ v' = .tuple #[.int .u64 z, .bool true] ∧ AtRel w3 w')
    · walk_nrm
      exact callX_rely hF (getU_X s true z w3 hS4 c3 c4)
    rintro _ w4 x' ⟨rfl, rfl, hF'⟩
    clear hF
    have hF := hF'
    clear hF'
    walk_nrm
    (repeat (first | (refine codeX_seq ?_) | (refine codeX_region ?_; simp only [List.size_toArray, List.length_cons, List.length_nil, Nat.reduceAdd, Nat.zero_add, List.range, List.range.loop]) | (refine opsX_nil ?_; simp only [Exit.thenX]) | (refine codeX_of ?_; refine codeW_skip (termsP _) ?_; simp only [Exit.thenX]) | ((first | refine codeX_cond (t := true) rfl ?_ | refine codeX_cond (t := false) rfl ?_); simp only [if_true, if_false, Bool.false_eq_true, ↓reduceIte]) | (refine opsX_unwanted rfl (by rfl) ?_; try walk_nrm) | (refine opsX_cons rfl (by rfl) ?_; intro _ hR K hK; replace hF := atRel_trans _ _ _ hF hR; clear hR; have hs9 := atRel_size hF; go_simp; refine hK _ _ ⟨?_, ?_⟩; (· rw [listed_nil (by simp [go_sem, *])]; exact dp0_nil); clear hK K hs9; try walk_nrm)))
    refine opsX_call rfl (by rfl) rfl ?_ ?_ (Pos := fun v' w' x' => x' = ⟨S, 1 + len, 0⟩ ∧ v' = .bool true ∧ Below w3.heap.size w3 w')
    · walk_nrm
      exact callX_rely hF (awake5_X w3 hSh)
    rintro _ w7 x' ⟨rfl, rfl, hB7⟩
    clear hF
    have hF := atRel_refl w7
    replace hB7 := Lib.hid hB7
    walk_nrm
    (repeat (first | (refine codeX_seq ?_) | (refine codeX_region ?_; simp only [List.size_toArray, List.length_cons, List.length_nil, Nat.reduceAdd, Nat.zero_add, List.range, List.range.loop]) | (refine opsX_nil ?_; simp only [Exit.thenX]) | (refine codeX_of ?_; refine codeW_skip (termsP _) ?_; simp only [Exit.thenX]) | ((first | refine codeX_cond (t := true) rfl ?_ | refine codeX_cond (t := false) rfl ?_); simp only [if_true, if_false, Bool.false_eq_true, ↓reduceIte]) | (refine opsX_unwanted rfl (by rfl) ?_; try walk_nrm) | (refine opsX_cons rfl (by rfl) ?_; intro _ hR K hK; replace hF := atRel_trans _ _ _ hF hR; clear hR; have hs9 := atRel_size hF; go_simp; refine hK _ _ ⟨?_, ?_⟩; (· rw [listed_nil (by simp [go_sem, *])]; exact dp0_nil); clear hK K hs9; try walk_nrm)))
    (refine codeX_of ?_; refine codeW_ret (termsP _) ?_)
    refine ⟨rfl, _, resultsC_tmp rfl _, rfl, ?_, rfl⟩
    exact hB3.out.trans (s' := w3.heap.size) (.of_below (atRel_below hF hB7.out)) (by omega)
end Go.Proofs.Ytinghnaigpenkaa
