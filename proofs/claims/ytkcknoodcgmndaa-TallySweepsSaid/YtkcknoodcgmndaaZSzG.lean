/- TallySweeps: the law's walk. -/
import Derived.Test.YtkcknoodcgmndaaZSzF
import Derived.Test.YtkcknoodcgmndaaZMqE
namespace Go.Proofs.Ytkcknoodcgmndaa
open Go.Conc Go.RowKit
open Go.ConcN (sumTo)
set_option linter.unusedVariables false
set_option linter.unusedSimpArgs false
set_option maxRecDepth 100000
set_option maxHeartbeats 8000000


















theorem sweepsX {Post : Value → World → Prop} (n : Int) (fA : Option Addr) (fcap fb fo : Nat) (fl : List Int) (l : List (List Int)) (A : Option Addr) (cap lb lo : Nat) (pA : Nat → Option Addr) (pd po pc : Nat → Nat) (w : World) (hin : LsIn w l A lb lo pA pd po pc) (hlen : l.length ≤ 17592186044416)
    (hfA : fl ≠ [] → fb < w.heap.size ∧ fA = some ⟨fb, fo, none⟩) (hfc : ∀ q z, fl[q]? = some z → w.cell? ⟨fb, fo + q, none⟩ = some (.int .i64 z)) (hfl : fl.length ≤ 17592186044416) :
    CallX Try.prog Post 4 #[.int .i64 n, .slice fA fl.length fcap, .slice A l.length cap] w ⟨blkS (fun _ => False), 1⟩ (fun v w' x' => v = .bool true ∧ Below w.heap.size w w') := by
  have T9 := termsP (blkS (fun _ => False))
  have hS : ∀ l, ¬ blkS (fun _ => False) l := fun l ⟨_, _, h⟩ => h
  refine ⟨_, _, Try.func4, by kernel_rfl, rfl, ?_⟩
  simp only [Try.ntmps4]
  walk_nrm
  have hF := atRel_refl w
  have hbw := below_self w.heap.size w
  generalize hll : l.length = ll
  replace hll : RowKit.Hid _ := hll
  generalize hfl9 : fl.length = len
  replace hfl9 : RowKit.Hid _ := hfl9
  (refine codeX_seq ?_)
  refine codeX_of ?_
  (repeat (first | (refine codeW_seq T9 ?_) | (refine codeW_region T9 ?_; simp only [List.size_toArray, List.length_cons, List.length_nil, Nat.reduceAdd, Nat.zero_add, List.range, List.range.loop]) | (refine opsW_nil T9 ?_; simp only [Exit.then, Exit.inBlock, Exit.thenX]) | (refine codeW_skip T9 ?_; simp only [Exit.then, Exit.inBlock, Exit.thenX]) | ((first | refine codeW_cond T9 (t := true) rfl ?_ | refine codeW_cond T9 (t := false) rfl ?_); simp only [if_true, if_false, Bool.false_eq_true, ↓reduceIte]) | (refine opsW_unwanted T9 rfl (by rfl) ?_; try walk_nrm) | (refine opsW_cons rfl (by rfl) ?_; intro _ hR K hK; replace hF := atRel_trans _ _ _ hF hR; clear hR; have hs9 := atRel_size hF; go_simp; refine hK _ _ ⟨?_, ?_⟩; (· rw [listed_nil (by simp [go_sem, *])]; exact dp0_nil); clear hK K hs9; try walk_nrm) | (refine codeW_block T9 ?_)))
  (refine codeX_seq ?_)
  by_cases hbig : n < 0 ∨ 300 < n ∨ 8 < ll
  · have hsplit : n < 0 ∨ (¬ n < 0 ∧ 300 < n) ∨ (¬ n < 0 ∧ ¬ 300 < n ∧ 8 < ll) := by omega
    clear hbig
    rcases hsplit with s1 | ⟨s1, s2⟩ | ⟨s1, s2, s3⟩
    · have e1 : decide (n < 0) = true := decide_eq_true s1
      clear s1
      (refine codeX_seq ?_)
      refine codeX_of ?_
      (repeat (first | (refine codeW_seq T9 ?_) | (refine codeW_region T9 ?_; simp only [List.size_toArray, List.length_cons, List.length_nil, Nat.reduceAdd, Nat.zero_add, List.range, List.range.loop]) | (refine opsW_nil T9 ?_; simp only [Exit.then, Exit.inBlock, Exit.thenX]) | (refine codeW_skip T9 ?_; simp only [Exit.then, Exit.inBlock, Exit.thenX]) | ((first | refine codeW_cond T9 (t := true) rfl ?_ | refine codeW_cond T9 (t := false) rfl ?_); simp only [if_true, if_false, Bool.false_eq_true, ↓reduceIte]) | (refine opsW_unwanted T9 rfl (by rfl) ?_; try walk_nrm) | (refine opsW_cons rfl (by rfl) ?_; intro _ hR K hK; replace hF := atRel_trans _ _ _ hF hR; clear hR; have hs9 := atRel_size hF; go_simp; refine hK _ _ ⟨?_, ?_⟩; (· rw [listed_nil (by simp [go_sem, *])]; exact dp0_nil); clear hK K hs9; try walk_nrm) | (refine codeW_block T9 ?_)))
      refine codeX_cond (t := true) rfl ?_
      simp only [↓reduceIte]
      (refine codeX_seq ?_)
      refine codeX_region ?_
      simp only [List.size_toArray, List.length_cons, List.length_nil, Nat.reduceAdd, Nat.zero_add, List.range, List.range.loop]
      obtain ⟨q, rfl⟩ := hF
      have hb2 : Below w.heap.size w (w.at q) := ⟨hbw.os, hbw.tape, hbw.output, hbw.size, hbw.block⟩
      refine opsX_call (Pos := fun v w' x' => v = .bool true ∧ Below w.heap.size w w') rfl (by rfl) rfl ?_ ?_
      · walk_nrm
        obtain ⟨fnn, cd, h1, h2, h3, h4⟩ := awakeX (Post := Post) (fun _ => False) 1 (w.at q) (by omega) (fun b h => h.elim)
        refine ⟨fnn, cd, h1, h2, h3, codeX_mono h4 fun e a w3 x3 y => ?_⟩
        cases e <;> first | exact ⟨y.1, y.2.choose, y.2.choose_spec.1, y.2.choose_spec.2.1, hb2.trans ⟨y.2.choose_spec.2.2.os, y.2.choose_spec.2.2.tape, y.2.choose_spec.2.2.output, y.2.choose_spec.2.2.size, fun g hg => y.2.choose_spec.2.2.block g (Nat.lt_of_lt_of_le hg hbw.size)⟩⟩ | exact y
      rintro _ w' x' ⟨rfl, hbf⟩
      have hF := atRel_refl w'
      clear T9
      have T9 := termsP x'.S
      walk_nrm
      (repeat (first | (refine opsX_unwanted rfl (by rfl) ?_; try walk_nrm) | (refine opsX_cons rfl (by rfl) ?_; intro _ hR K hK; replace hF := atRel_trans _ _ _ hF hR; clear hR; have hs9 := atRel_size hF; go_simp; refine hK _ _ ⟨?_, ?_⟩; (· rw [listed_nil (by simp [go_sem, *])]; exact dp0_nil); clear hK K hs9; try walk_nrm)))
      refine opsX_nil ?_
      simp only [Exit.thenX]
      refine codeX_of (codeW_ret T9 ?_)
      obtain ⟨q2, rfl⟩ := hF
      exact ⟨rfl, _, resultsC_tmp rfl _, rfl, ⟨hbf.os, hbf.tape, hbf.output, hbf.size, hbf.block⟩⟩
    · have e1 : decide (n < 0) = false := decide_eq_false s1
      have e2 : decide (300 < n) = true := decide_eq_true s2
      clear s1 s2
      (refine codeX_seq ?_)
      refine codeX_of ?_
      (repeat (first | (refine codeW_seq T9 ?_) | (refine codeW_region T9 ?_; simp only [List.size_toArray, List.length_cons, List.length_nil, Nat.reduceAdd, Nat.zero_add, List.range, List.range.loop]) | (refine opsW_nil T9 ?_; simp only [Exit.then, Exit.inBlock, Exit.thenX]) | (refine codeW_skip T9 ?_; simp only [Exit.then, Exit.inBlock, Exit.thenX]) | ((first | refine codeW_cond T9 (t := true) rfl ?_ | refine codeW_cond T9 (t := false) rfl ?_); simp only [if_true, if_false, Bool.false_eq_true, ↓reduceIte]) | (refine opsW_unwanted T9 rfl (by rfl) ?_; try walk_nrm) | (refine opsW_cons rfl (by rfl) ?_; intro _ hR K hK; replace hF := atRel_trans _ _ _ hF hR; clear hR; have hs9 := atRel_size hF; go_simp; refine hK _ _ ⟨?_, ?_⟩; (· rw [listed_nil (by simp [go_sem, *])]; exact dp0_nil); clear hK K hs9; try walk_nrm) | (refine codeW_block T9 ?_)))
      refine codeX_cond (t := true) rfl ?_
      simp only [↓reduceIte]
      (refine codeX_seq ?_)
      refine codeX_region ?_
      simp only [List.size_toArray, List.length_cons, List.length_nil, Nat.reduceAdd, Nat.zero_add, List.range, List.range.loop]
      obtain ⟨q, rfl⟩ := hF
      have hb2 : Below w.heap.size w (w.at q) := ⟨hbw.os, hbw.tape, hbw.output, hbw.size, hbw.block⟩
      refine opsX_call (Pos := fun v w' x' => v = .bool true ∧ Below w.heap.size w w') rfl (by rfl) rfl ?_ ?_
      · walk_nrm
        obtain ⟨fnn, cd, h1, h2, h3, h4⟩ := awakeX (Post := Post) (fun _ => False) 1 (w.at q) (by omega) (fun b h => h.elim)
        refine ⟨fnn, cd, h1, h2, h3, codeX_mono h4 fun e a w3 x3 y => ?_⟩
        cases e <;> first | exact ⟨y.1, y.2.choose, y.2.choose_spec.1, y.2.choose_spec.2.1, hb2.trans ⟨y.2.choose_spec.2.2.os, y.2.choose_spec.2.2.tape, y.2.choose_spec.2.2.output, y.2.choose_spec.2.2.size, fun g hg => y.2.choose_spec.2.2.block g (Nat.lt_of_lt_of_le hg hbw.size)⟩⟩ | exact y
      rintro _ w' x' ⟨rfl, hbf⟩
      have hF := atRel_refl w'
      clear T9
      have T9 := termsP x'.S
      walk_nrm
      (repeat (first | (refine opsX_unwanted rfl (by rfl) ?_; try walk_nrm) | (refine opsX_cons rfl (by rfl) ?_; intro _ hR K hK; replace hF := atRel_trans _ _ _ hF hR; clear hR; have hs9 := atRel_size hF; go_simp; refine hK _ _ ⟨?_, ?_⟩; (· rw [listed_nil (by simp [go_sem, *])]; exact dp0_nil); clear hK K hs9; try walk_nrm)))
      refine opsX_nil ?_
      simp only [Exit.thenX]
      refine codeX_of (codeW_ret T9 ?_)
      obtain ⟨q2, rfl⟩ := hF
      exact ⟨rfl, _, resultsC_tmp rfl _, rfl, ⟨hbf.os, hbf.tape, hbf.output, hbf.size, hbf.block⟩⟩
    · have e1 : decide (n < 0) = false := decide_eq_false s1
      have e2 : decide (300 < n) = false := decide_eq_false s2
      have e3 : decide (8 < (ll : Int)) = true := decide_eq_true (by omega)
      clear s1 s2 s3
      (refine codeX_seq ?_)
      refine codeX_of ?_
      (repeat (first | (refine codeW_seq T9 ?_) | (refine codeW_region T9 ?_; simp only [List.size_toArray, List.length_cons, List.length_nil, Nat.reduceAdd, Nat.zero_add, List.range, List.range.loop]) | (refine opsW_nil T9 ?_; simp only [Exit.then, Exit.inBlock, Exit.thenX]) | (refine codeW_skip T9 ?_; simp only [Exit.then, Exit.inBlock, Exit.thenX]) | ((first | refine codeW_cond T9 (t := true) rfl ?_ | refine codeW_cond T9 (t := false) rfl ?_); simp only [if_true, if_false, Bool.false_eq_true, ↓reduceIte]) | (refine opsW_unwanted T9 rfl (by rfl) ?_; try walk_nrm) | (refine opsW_cons rfl (by rfl) ?_; intro _ hR K hK; replace hF := atRel_trans _ _ _ hF hR; clear hR; have hs9 := atRel_size hF; go_simp; refine hK _ _ ⟨?_, ?_⟩; (· rw [listed_nil (by simp [go_sem, *])]; exact dp0_nil); clear hK K hs9; try walk_nrm) | (refine codeW_block T9 ?_)))
      refine codeX_cond (t := true) rfl ?_
      simp only [↓reduceIte]
      (refine codeX_seq ?_)
      refine codeX_region ?_
      simp only [List.size_toArray, List.length_cons, List.length_nil, Nat.reduceAdd, Nat.zero_add, List.range, List.range.loop]
      obtain ⟨q, rfl⟩ := hF
      have hb2 : Below w.heap.size w (w.at q) := ⟨hbw.os, hbw.tape, hbw.output, hbw.size, hbw.block⟩
      refine opsX_call (Pos := fun v w' x' => v = .bool true ∧ Below w.heap.size w w') rfl (by rfl) rfl ?_ ?_
      · walk_nrm
        obtain ⟨fnn, cd, h1, h2, h3, h4⟩ := awakeX (Post := Post) (fun _ => False) 1 (w.at q) (by omega) (fun b h => h.elim)
        refine ⟨fnn, cd, h1, h2, h3, codeX_mono h4 fun e a w3 x3 y => ?_⟩
        cases e <;> first | exact ⟨y.1, y.2.choose, y.2.choose_spec.1, y.2.choose_spec.2.1, hb2.trans ⟨y.2.choose_spec.2.2.os, y.2.choose_spec.2.2.tape, y.2.choose_spec.2.2.output, y.2.choose_spec.2.2.size, fun g hg => y.2.choose_spec.2.2.block g (Nat.lt_of_lt_of_le hg hbw.size)⟩⟩ | exact y
      rintro _ w' x' ⟨rfl, hbf⟩
      have hF := atRel_refl w'
      clear T9
      have T9 := termsP x'.S
      walk_nrm
      (repeat (first | (refine opsX_unwanted rfl (by rfl) ?_; try walk_nrm) | (refine opsX_cons rfl (by rfl) ?_; intro _ hR K hK; replace hF := atRel_trans _ _ _ hF hR; clear hR; have hs9 := atRel_size hF; go_simp; refine hK _ _ ⟨?_, ?_⟩; (· rw [listed_nil (by simp [go_sem, *])]; exact dp0_nil); clear hK K hs9; try walk_nrm)))
      refine opsX_nil ?_
      simp only [Exit.thenX]
      refine codeX_of (codeW_ret T9 ?_)
      obtain ⟨q2, rfl⟩ := hF
      exact ⟨rfl, _, resultsC_tmp rfl _, rfl, ⟨hbf.os, hbf.tape, hbf.output, hbf.size, hbf.block⟩⟩
  have hn0 : 0 ≤ n := by omega
  have hn4 : n ≤ 300 := by omega
  have h8 : RowKit.Hid (ll ≤ 8) := by show ll ≤ 8; omega
  obtain ⟨n, rfl⟩ := Int.eq_ofNat_of_zero_le hn0
  have e1 : decide ((n : Int) < 0) = false := decide_eq_false (by omega)
  have e2 : decide (300 < (n : Int)) = false := decide_eq_false (by omega)
  have e3 : decide (8 < (ll : Int)) = false := decide_eq_false (by omega)
  have hn65 : RowKit.Hid (n ≤ 65536) := by show n ≤ 65536; omega
  clear hbig hn0 hn4
  (refine codeX_seq ?_)
  refine codeX_of ?_
  (repeat (first | (refine codeW_seq T9 ?_) | (refine codeW_region T9 ?_; simp only [List.size_toArray, List.length_cons, List.length_nil, Nat.reduceAdd, Nat.zero_add, List.range, List.range.loop]) | (refine opsW_nil T9 ?_; simp only [Exit.then, Exit.inBlock, Exit.thenX]) | (refine codeW_skip T9 ?_; simp only [Exit.then, Exit.inBlock, Exit.thenX]) | ((first | refine codeW_cond T9 (t := true) rfl ?_ | refine codeW_cond T9 (t := false) rfl ?_); simp only [if_true, if_false, Bool.false_eq_true, ↓reduceIte]) | (refine opsW_unwanted T9 rfl (by rfl) ?_; try walk_nrm) | (refine opsW_cons rfl (by rfl) ?_; intro _ hR K hK; replace hF := atRel_trans _ _ _ hF hR; clear hR; have hs9 := atRel_size hF; go_simp; refine hK _ _ ⟨?_, ?_⟩; (· rw [listed_nil (by simp [go_sem, *])]; exact dp0_nil); clear hK K hs9; try walk_nrm) | (refine codeW_block T9 ?_)))
  refine codeX_cond (t := false) rfl ?_
  simp only [Bool.false_eq_true, ↓reduceIte]
  refine codeX_of ?_
  (refine codeW_skip T9 ?_; simp only [Exit.then, Exit.inBlock, Exit.thenX])
  clear e1 e2 e3
  (refine codeX_seq ?_)
  refine codeX_of ?_
  (refine codeW_region T9 ?_; simp only [List.size_toArray, List.length_cons, List.length_nil, Nat.reduceAdd, Nat.zero_add, List.range, List.range.loop])
  (refine opsW_cons rfl (by rfl) ?_; intro _ hR K hK; replace hF := atRel_trans _ _ _ hF hR; clear hR; have hs9 := atRel_size hF; go_simp; refine hK _ _ ⟨?_, ?_⟩; (· rw [listed_nil (by simp [go_sem, *])]; exact dp0_nil); clear hK K hs9; try walk_nrm)
  co_apply opsW_call T9 rfl (by rfl) rfl
  · walk_nrm
    exact newMarks_W n hn65.out _
  rintro _ w' ⟨rfl, hF'⟩
  obtain ⟨q, rfl⟩ := hF
  have hz1 : RowKit.Hid (KAs w n (List.replicate ((n + 63) / 64) 0) (List.replicate ((n + 63) / 64) 0) (.slice none 0 0) w') := by
    obtain ⟨q2, rfl⟩ := hF'
    have z := (KAt.new w n hn65.out).at ⟨q2, rfl⟩
    exact ⟨z.bel, z.mm, z.own, z.size, z.clean, z.clean, rfl⟩
  rw [show (w.at q).heap.size = w.heap.size from rfl]
  clear hF'
  have hF := atRel_refl w'
  walk_nrm
  (repeat (first | (refine codeW_seq T9 ?_) | (refine codeW_region T9 ?_; simp only [List.size_toArray, List.length_cons, List.length_nil, Nat.reduceAdd, Nat.zero_add, List.range, List.range.loop]) | (refine opsW_nil T9 ?_; simp only [Exit.then, Exit.inBlock, Exit.thenX]) | (refine codeW_skip T9 ?_; simp only [Exit.then, Exit.inBlock, Exit.thenX]) | ((first | refine codeW_cond T9 (t := true) rfl ?_ | refine codeW_cond T9 (t := false) rfl ?_); simp only [if_true, if_false, Bool.false_eq_true, ↓reduceIte]) | (refine opsW_unwanted T9 rfl (by rfl) ?_; try walk_nrm) | (refine opsW_cons rfl (by rfl) ?_; intro _ hR K hK; replace hF := atRel_trans _ _ _ hF hR; clear hR; have hs9 := atRel_size hF; go_simp; refine hK _ _ ⟨?_, ?_⟩; (· rw [listed_nil (by simp [go_sem, *])]; exact dp0_nil); clear hK K hs9; try walk_nrm) | (refine codeW_block T9 ?_)))
  (refine codeX_seq ?_)
  refine codeX_of ?_
  (repeat (first | (refine codeW_seq T9 ?_) | (refine codeW_region T9 ?_; simp only [List.size_toArray, List.length_cons, List.length_nil, Nat.reduceAdd, Nat.zero_add, List.range, List.range.loop]) | (refine opsW_nil T9 ?_; simp only [Exit.then, Exit.inBlock, Exit.thenX]) | (refine codeW_skip T9 ?_; simp only [Exit.then, Exit.inBlock, Exit.thenX]) | ((first | refine codeW_cond T9 (t := true) rfl ?_ | refine codeW_cond T9 (t := false) rfl ?_); simp only [if_true, if_false, Bool.false_eq_true, ↓reduceIte]) | (refine opsW_unwanted T9 rfl (by rfl) ?_; try walk_nrm) | (refine opsW_cons rfl (by rfl) ?_; intro _ hR K hK; replace hF := atRel_trans _ _ _ hF hR; clear hR; have hs9 := atRel_size hF; go_simp; refine hK _ _ ⟨?_, ?_⟩; (· rw [listed_nil (by simp [go_sem, *])]; exact dp0_nil); clear hK K hs9; try walk_nrm) | (refine codeW_block T9 ?_)))
  (refine codeX_seq ?_)
  refine codeX_of ?_
  (refine codeW_seq T9 ?_)
  (refine codeW_region T9 ?_; simp only [List.size_toArray, List.length_cons, List.length_nil, Nat.reduceAdd, Nat.zero_add, List.range, List.range.loop])
  (refine opsW_cons rfl (by rfl) ?_; intro _ hR K hK; replace hF := atRel_trans _ _ _ hF hR; clear hR; have hs9 := atRel_size hF; go_simp; refine hK _ _ ⟨?_, ?_⟩; (· rw [listed_nil (by simp [go_sem, *])]; exact dp0_nil); clear hK K hs9; try walk_nrm)
  (refine opsW_nil T9 ?_; simp only [Exit.then, Exit.inBlock, Exit.thenX])
  (refine codeW_block T9 ?_)
  replace hz1 := hz1.out.at hF
  refine codeW_loop T9 (fun a' w' => ∃ (T : Array Value) (j : Nat) (ws : List Nat) (v : Value), a' = ⟨T, []⟩ ∧ T.size = 151 ∧ T[0]? = some (.int .i64 n) ∧ T[1]? = some (.slice fA len fcap) ∧ T[2]? = some (.slice A ll cap) ∧ T[7]? = some (.pointer (some ⟨w.heap.size + 1, 0, none⟩)) ∧ T[9]? = some v ∧ T[10]? = some (.int .i64 j) ∧ j ≤ len ∧ j ≤ 50 ∧ KAs w n ws ws v w')
    (fun a _ => match a.tmps.getD 10 undef with | .int _ i => ((50 : Int) - i).toNat | _ => 0) ⟨_, 0, _, _, rfl, rfl, rfl, rfl, rfl, rfl, rfl, rfl, Nat.zero_le _, Nat.zero_le _, hz1⟩ ?_
  clear hF hz1
  rintro _ w2 ⟨T, j, ws, v, rfl, hT, t0, t1, t2, t7, t9, t10, hj, hj5, hck⟩
  revert t0 t1 t2 t7 t9 t10
  apply arr151E hT
  intro v0 v1 v2 v3 v4 v5 v6 v7 v8 v9 v10 v11 v12 v13 v14 v15 v16 v17 v18 v19 v20 v21 v22 v23 v24 v25 v26 v27 v28 v29 v30 v31 v32 v33 v34 v35 v36 v37 v38 v39 v40 v41 v42 v43 v44 v45 v46 v47 v48 v49 v50 v51 v52 v53 v54 v55 v56 v57 v58 v59 v60 v61 v62 v63 v64 v65 v66 v67 v68 v69 v70 v71 v72 v73 v74 v75 v76 v77 v78 v79 v80 v81 v82 v83 v84 v85 v86 v87 v88 v89 v90 v91 v92 v93 v94 v95 v96 v97 v98 v99 v100 v101 v102 v103 v104 v105 v106 v107 v108 v109 v110 v111 v112 v113 v114 v115 v116 v117 v118 v119 v120 v121 v122 v123 v124 v125 v126 v127 v128 v129 v130 v131 v132 v133 v134 v135 v136 v137 v138 v139 v140 v141 v142 v143 v144 v145 v146 v147 v148 v149 v150 t0 t1 t2 t7 t9 t10
  simp only [List.getElem?_toArray, List.getElem?_cons_succ, List.getElem?_cons_zero, Option.some.injEq] at t0 t1 t2 t7 t9 t10
  subst t0 t1 t2 t7 t9 t10
  have hF := atRel_refl w2
  replace hck : RowKit.Hid _ := hck
  by_cases hl : j < len
  · have e9 : decide ((j : Int) < (len : Int)) = true := decide_eq_true (by omega)
    by_cases h50 : j < 50
    · obtain ⟨x, hx⟩ := getq (xs := fl) (q := j) (by rw [hfl9.out]; exact hl)
      have hne : fl ≠ [] := by intro e; rw [e] at hx; simp at hx
      obtain ⟨hfb, rfl⟩ := hfA hne
      have hcx := (cell_same (hck.out.bel.block fb hfb) _).trans (hfc j x hx)
      refine codeW_mono (round1S (Q := Exit.then _ _) len fcap fb fo j n x w w2 ws v9 hl h50 hcx hfb hck.out ?_) (fun _ _ _ q => q)
      intro T ws' v' w' hT t0 t1 t2 t7 t9 t10 hb
      simp only [Exit.then]
      refine ⟨⟨T, j + 1, ws', v', rfl, hT, t0, t1, t2, t7, t9, t10, by omega, by omega, hb⟩, ?_⟩
      rw [show T.getD 10 undef = .int .i64 ((j : Int) + 1) from by rw [Array.getD_eq_getD_getElem?, t10]; rfl]
      simp
      omega
    · have e8 : decide ((j : Int) < 50) = false := decide_eq_false (by omega)
      (repeat (first | (refine codeW_seq T9 ?_) | (refine codeW_region T9 ?_; simp only [List.size_toArray, List.length_cons, List.length_nil, Nat.reduceAdd, Nat.zero_add, List.range, List.range.loop]) | (refine opsW_nil T9 ?_; simp only [Exit.then, Exit.inBlock, Exit.thenX]) | (refine codeW_skip T9 ?_; simp only [Exit.then, Exit.inBlock, Exit.thenX]) | ((first | refine codeW_cond T9 (t := true) rfl ?_ | refine codeW_cond T9 (t := false) rfl ?_); simp only [if_true, if_false, Bool.false_eq_true, ↓reduceIte]) | (refine opsW_unwanted T9 rfl (by rfl) ?_; try walk_nrm) | (refine opsW_cons rfl (by rfl) ?_; intro _ hR K hK; replace hF := atRel_trans _ _ _ hF hR; clear hR; have hs9 := atRel_size hF; go_simp; refine hK _ _ ⟨?_, ?_⟩; (· rw [listed_nil (by simp [go_sem, *])]; exact dp0_nil); clear hK K hs9; try walk_nrm) | (refine codeW_block T9 ?_)))
      (refine codeW_exit T9 ?_; simp only [Exit.then, Exit.inBlock, Exit.thenX, if_true, if_false, reduceIte, Nat.reduceEqDiff])
      obtain rfl := hll.out
      exact rest1X n l A cap lb lo pA pd po pc w _ ws v9 _ hin h8.out (hck.out.at hF) rfl rfl rfl rfl rfl
  · have e9 : decide ((j : Int) < (len : Int)) = false := decide_eq_false (by omega)
    (repeat (first | (refine codeW_seq T9 ?_) | (refine codeW_region T9 ?_; simp only [List.size_toArray, List.length_cons, List.length_nil, Nat.reduceAdd, Nat.zero_add, List.range, List.range.loop]) | (refine opsW_nil T9 ?_; simp only [Exit.then, Exit.inBlock, Exit.thenX]) | (refine codeW_skip T9 ?_; simp only [Exit.then, Exit.inBlock, Exit.thenX]) | ((first | refine codeW_cond T9 (t := true) rfl ?_ | refine codeW_cond T9 (t := false) rfl ?_); simp only [if_true, if_false, Bool.false_eq_true, ↓reduceIte]) | (refine opsW_unwanted T9 rfl (by rfl) ?_; try walk_nrm) | (refine opsW_cons rfl (by rfl) ?_; intro _ hR K hK; replace hF := atRel_trans _ _ _ hF hR; clear hR; have hs9 := atRel_size hF; go_simp; refine hK _ _ ⟨?_, ?_⟩; (· rw [listed_nil (by simp [go_sem, *])]; exact dp0_nil); clear hK K hs9; try walk_nrm) | (refine codeW_block T9 ?_)))
    (refine codeW_exit T9 ?_; simp only [Exit.then, Exit.inBlock, Exit.thenX, if_true, if_false, reduceIte, Nat.reduceEqDiff])
    obtain rfl := hll.out
    exact rest1X n l A cap lb lo pA pd po pc w _ ws v9 _ hin h8.out (hck.out.at hF) rfl rfl rfl rfl rfl
end Go.Proofs.Ytkcknoodcgmndaa
