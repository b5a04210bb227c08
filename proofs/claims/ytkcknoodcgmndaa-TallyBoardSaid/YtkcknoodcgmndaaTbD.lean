/- TallyBoard: a round, whole. -/
import Derived.Test.YtkcknoodcgmndaaTbC
namespace Go.Proofs.Ytkcknoodcgmndaa
open Go.Conc Go.RowKit
set_option linter.unusedVariables false
set_option linter.unusedSimpArgs false
set_option maxRecDepth 100000
set_option maxHeartbeats 4000000














theorem roundB {Q : Exit → Act → World → Prop} (lA : Option Addr) (len cap sb so j : Nat) (kj nj : Int) (f : Nat → Int) (w w2 : World) (hlA : lA = some ⟨sb, so, none⟩) (hl : j < len) (h60 : j < 60)
    (hk : w2.cell? ⟨sb, so + j * 2, none⟩ = some (.int .i64 kj)) (hn : w2.cell? ⟨sb, so + j * 2 + 1, none⟩ = some (.int .i64 nj)) (hck : BdAt w f f w2)
    (hQ : ∀ (T : Array Value) (f' : Nat → Int) (w' : World), T.size = 101 → T[0]? = some (.slice lA len cap) → T[3]? = some (.pointer (some ⟨w.heap.size, 0, none⟩)) → T[4]? = some (.pointer (some ⟨w.heap.size + 1, 0, none⟩)) → T[5]? = some (.int .i64 ((j : Int) + 1)) → BdAt w f' f' w' → Q .normal ⟨T, []⟩ w')
    {v1 v2 v6 v7 v8 v9 v10 v11 v12 v13 v14 v15 v16 v17 v18 v19 v20 v21 v22 v23 v24 v25 v26 v27 v28 v29 v30 v31 v32 v33 v34 v35 v36 v37 v38 v39 v40 v41 v42 v43 v44 v45 v46 v47 v48 v49 v50 v51 v52 v53 v54 v55 v56 v57 v58 v59 v60 v61 v62 v63 v64 v65 v66 v67 v68 v69 v70 v71 v72 v73 v74 v75 v76 v77 v78 v79 v80 v81 v82 v83 v84 v85 v86 v87 v88 v89 v90 v91 v92 v93 v94 v95 v96 v97 v98 v99 v100 : Value} :
    CodeW Try.prog true AtRel (DP0 (blkS (fun _ => False))) 3 bodyB Q ⟨(List.toArray (.slice lA len cap :: v1 :: v2 :: .pointer (some ⟨w.heap.size, 0, none⟩) :: .pointer (some ⟨w.heap.size + 1, 0, none⟩) :: .int .i64 j :: v6 :: v7 :: v8 :: v9 :: v10 :: v11 :: v12 :: v13 :: v14 :: v15 :: v16 :: v17 :: v18 :: v19 :: v20 :: v21 :: v22 :: v23 :: v24 :: v25 :: v26 :: v27 :: v28 :: v29 :: v30 :: v31 :: v32 :: v33 :: v34 :: v35 :: v36 :: v37 :: v38 :: v39 :: v40 :: v41 :: v42 :: v43 :: v44 :: v45 :: v46 :: v47 :: v48 :: v49 :: v50 :: v51 :: v52 :: v53 :: v54 :: v55 :: v56 :: v57 :: v58 :: v59 :: v60 :: v61 :: v62 :: v63 :: v64 :: v65 :: v66 :: v67 :: v68 :: v69 :: v70 :: v71 :: v72 :: v73 :: v74 :: v75 :: v76 :: v77 :: v78 :: v79 :: v80 :: v81 :: v82 :: v83 :: v84 :: v85 :: v86 :: v87 :: v88 :: v89 :: v90 :: v91 :: v92 :: v93 :: v94 :: v95 :: v96 :: v97 :: v98 :: v99 :: v100 :: [])), []⟩ w2 := by
  have T9 := termsP (blkS (fun _ => False))
  have hS : ∀ l, ¬ blkS (fun _ => False) l := fun l ⟨_, _, h⟩ => h
  have hF := atRel_refl w2
  have evb1 : ∀ (w : World), (binOp .neq 4 (.bool true) (.bool true)).events Try.prog w #[] = #[] := fun w => by kernel_rfl
  have evb0 : ∀ (w : World), (binOp .neq 4 (.bool false) (.bool false)).events Try.prog w #[] = #[] := fun w => by kernel_rfl
  subst hlA
  rw [show bodyB = _ from (by unfold bodyB; simp only [Try.f3, Option.getD_some]; try rfl)]
  have e9 : decide ((j : Int) < (len : Int)) = true := decide_eq_true (by omega)
  have e8 : decide ((j : Int) < 60) = true := decide_eq_true (by omega)
  (refine codeW_seq T9 ?_)
  (refine codeW_seq T9 ?_)
  (refine codeW_region T9 ?_; simp only [List.size_toArray, List.length_cons, List.length_nil, Nat.reduceAdd, Nat.zero_add, List.range, List.range.loop])
  repeat (first | (refine opsW_unwanted T9 rfl (by rfl) ?_; try walk_nrm) | (refine opsW_cons rfl (by rfl) ?_; intro _ hR K hK; replace hF := atRel_trans _ _ _ hF hR; clear hR; have hs9 := atRel_size hF; go_simp; refine hK _ _ ⟨?_, ?_⟩; (· rw [listed_nil (by simp [go_sem, *])]; exact dp0_nil); clear hK K hs9; try walk_nrm))
  (refine opsW_nil T9 ?_; simp only [Exit.then, Exit.inBlock, Exit.thenX])
  ((first | refine codeW_cond T9 (t := true) rfl ?_ | refine codeW_cond T9 (t := false) rfl ?_); simp only [if_true, if_false, Bool.false_eq_true, ↓reduceIte])
  (refine codeW_skip T9 ?_; simp only [Exit.then, Exit.inBlock, Exit.thenX])
  clear e9 e8
  obtain ⟨q0, rfl⟩ := hF
  (refine codeW_seq T9 ?_)
  (refine codeW_block T9 ?_)
  (refine codeW_seq T9 ?_)
  refine codeW_mono (reg6 (by kernel_rfl) _ len cap sb so j kj nj (w2.at q0) rfl hl hk hn) ?_
  rintro e a' w' ⟨rfl, u22, u23, u24, u25, rfl, hF'⟩
  simp only [Exit.then]
  have hck3 : RowKit.Hid (BdAt w f f w') := by
    have x1 : BdAt w f f (w2.at q0) := hck.at ⟨q0, rfl⟩
    exact (((x1.box _).setBox _ (by have := hck.size; exact this) _).setBox _ (by have := hck.size; exact this) _).at hF'
  have hA0 : ((w2.at q0).alloc (.cells #[.int .i64 0, .int .i64 0] 27)).heap[(w2.at q0).heap.size]? = some (.cells #[.int .i64 0, .int .i64 0] 27) := alloc_new (w2.at q0) _
  have b0 : w'.cell? ⟨(w2.at q0).heap.size, 0, none⟩ = some (.int .i64 kj) := by
    rw [atRel_cell hF']
    refine (World.cell?_setCell_other _ _ _ _ (by intro h; injection h with h1 h2; omega)).trans ?_
    exact World.cell?_setCell_same _ _ _ (u := .int .i64 0) (by simp only [World.cell?, hA0]; rfl)
  have b1 : w'.cell? ⟨(w2.at q0).heap.size, 1, none⟩ = some (.int .i64 nj) := by
    rw [atRel_cell hF']
    refine World.cell?_setCell_same _ _ _ (u := .int .i64 0) ?_
    refine (World.cell?_setCell_other _ _ _ _ (by intro h; injection h with h1 h2; omega)).trans ?_
    simp only [World.cell?, hA0]; rfl
  have hB2 : RowKit.Hid (w.heap.size + 2 ≤ (w2.at q0).heap.size) := by have := hck.size; exact this
  clear hA0 hF' hk hn hck
  generalize (w2.at q0).heap.size = B at *
  have hF := atRel_refl w'
  replace b0 : RowKit.Hid _ := b0
  replace b1 : RowKit.Hid _ := b1
  by_cases i0 : 0 ≤ kj
  · have e9 : decide (0 ≤ kj) = true := decide_eq_true i0
    by_cases i1 : kj < 16
    · have e8 : decide (kj < 16) = true := decide_eq_true i1
      (refine codeW_seq T9 ?_)
      (refine codeW_region T9 ?_; simp only [List.size_toArray, List.length_cons, List.length_nil, Nat.reduceAdd, Nat.zero_add, List.range, List.range.loop])
      (refine opsW_cons rfl (by rfl) ?_; intro _ hR K hK; replace hF := atRel_trans _ _ _ hF hR; clear hR; have hs9 := atRel_size hF; go_simp; refine hK _ _ ⟨?_, ?_⟩; (· rw [listed_nil (by simp [go_sem, *])]; exact dp0_nil); clear hK K hs9; try walk_nrm)
      have hc1 := b0.out
      (refine opsW_cons rfl (by rfl) ?_; intro _ hR K hK; replace hF := atRel_trans _ _ _ hF hR; clear hR; have hl9 := (atRel_cell hF _).trans hc1; go_simp; refine hK _ _ ⟨?_, ?_⟩; (· intro e he; have hm := mem_listed he; simp [go_sem, hl9] at hm; rw [hm]; exact evP_cell _ (hS _)); clear hK K hl9; try walk_nrm)
      repeat (first | (refine opsW_unwanted T9 rfl (by rfl) ?_; try walk_nrm) | (refine opsW_cons rfl (by rfl) ?_; intro _ hR K hK; replace hF := atRel_trans _ _ _ hF hR; clear hR; have hs9 := atRel_size hF; go_simp; refine hK _ _ ⟨?_, ?_⟩; (· rw [listed_nil (by simp [go_sem, *])]; exact dp0_nil); clear hK K hs9; try walk_nrm))
      (refine opsW_cons rfl (by rfl) ?_; intro _ hR K hK; replace hF := atRel_trans _ _ _ hF hR; clear hR; have hl9 := (atRel_cell hF _).trans hc1; go_simp; refine hK _ _ ⟨?_, ?_⟩; (· intro e he; have hm := mem_listed he; simp [go_sem, hl9] at hm; rw [hm]; exact evP_cell _ (hS _)); clear hK K hl9; try walk_nrm)
      clear hc1
      repeat (first | (refine opsW_unwanted T9 rfl (by rfl) ?_; try walk_nrm) | (refine opsW_cons rfl (by rfl) ?_; intro _ hR K hK; replace hF := atRel_trans _ _ _ hF hR; clear hR; have hs9 := atRel_size hF; go_simp; refine hK _ _ ⟨?_, ?_⟩; (· rw [listed_nil (by simp [go_sem, *])]; exact dp0_nil); clear hK K hs9; try walk_nrm))
      (refine opsW_nil T9 ?_; simp only [Exit.then, Exit.inBlock, Exit.thenX])
      (refine codeW_seq T9 ?_)
      (refine codeW_seq T9 ?_)
      (refine codeW_region T9 ?_; simp only [List.size_toArray, List.length_cons, List.length_nil, Nat.reduceAdd, Nat.zero_add, List.range, List.range.loop])
      repeat (first | (refine opsW_unwanted T9 rfl (by rfl) ?_; try walk_nrm) | (refine opsW_cons rfl (by rfl) ?_; intro _ hR K hK; replace hF := atRel_trans _ _ _ hF hR; clear hR; have hs9 := atRel_size hF; go_simp; refine hK _ _ ⟨?_, ?_⟩; (· rw [listed_nil (by simp [go_sem, *])]; exact dp0_nil); clear hK K hs9; try walk_nrm))
      (refine opsW_nil T9 ?_; simp only [Exit.then, Exit.inBlock, Exit.thenX])
      ((first | refine codeW_cond T9 (t := true) rfl ?_ | refine codeW_cond T9 (t := false) rfl ?_); simp only [if_true, if_false, Bool.false_eq_true, ↓reduceIte])
      refine codeW_mono (reg9 (by kernel_rfl) (w.heap.size + 1) B kj nj (f kj.toNat) _ i0 i1 ((atRel_cell hF _).trans b0.out) ((atRel_cell hF _).trans b1.out) (by have := hB2.out; omega) ((atRel_cell hF _).trans (hck3.out.n _ (by omega))) ((atRel_frozen hF _).trans (hck3.out.nz _ (by omega)))) ?_
      rintro e a'' w'' ⟨rfl, ⟨u35, u36, u37, u38, u39, u40, u41, u42, u43, u44, rfl⟩, hF'⟩
      simp only [Exit.then]
      have hck4 : RowKit.Hid (BdAt w f (fset f kj.toNat (IntKind.i64.wrap (f kj.toNat + nj))) w'') := ((hck3.out.at hF).setN kj.toNat _).at hF'
      replace b0 : RowKit.Hid _ := ((atRel_cell hF' _).trans (cell_set9 _ (by have := hB2.out; show B ≠ w.heap.size + 1; omega))).trans ((atRel_cell hF _).trans b0.out)
      replace b1 : RowKit.Hid _ := ((atRel_cell hF' _).trans (cell_set9 _ (by have := hB2.out; show B ≠ w.heap.size + 1; omega))).trans ((atRel_cell hF _).trans b1.out)
      clear hF hF' hck3 e9 e8
      have hF := atRel_refl w''
      (refine codeW_seq T9 ?_)
      (refine codeW_region T9 ?_; simp only [List.size_toArray, List.length_cons, List.length_nil, Nat.reduceAdd, Nat.zero_add, List.range, List.range.loop])
      repeat (first | (refine opsW_unwanted T9 rfl (by rfl) ?_; try walk_nrm) | (refine opsW_cons rfl (by rfl) ?_; intro _ hR K hK; replace hF := atRel_trans _ _ _ hF hR; clear hR; have hs9 := atRel_size hF; go_simp; refine hK _ _ ⟨?_, ?_⟩; (· rw [listed_nil (by simp [go_sem, *])]; exact dp0_nil); clear hK K hs9; try walk_nrm))
      have hc1 := b0.out
      (refine opsW_cons rfl (by rfl) ?_; intro _ hR K hK; replace hF := atRel_trans _ _ _ hF hR; clear hR; have hl9 := (atRel_cell hF _).trans hc1; go_simp; refine hK _ _ ⟨?_, ?_⟩; (· intro e he; have hm := mem_listed he; simp [go_sem, hl9] at hm; rw [hm]; exact evP_cell _ (hS _)); clear hK K hl9; try walk_nrm)
      clear hc1
      repeat (first | (refine opsW_unwanted T9 rfl (by rfl) ?_; try walk_nrm) | (refine opsW_cons rfl (by rfl) ?_; intro _ hR K hK; replace hF := atRel_trans _ _ _ hF hR; clear hR; have hs9 := atRel_size hF; go_simp; refine hK _ _ ⟨?_, ?_⟩; (· rw [listed_nil (by simp [go_sem, *])]; exact dp0_nil); clear hK K hs9; try walk_nrm))
      have hc1 := b1.out
      (refine opsW_cons rfl (by rfl) ?_; intro _ hR K hK; replace hF := atRel_trans _ _ _ hF hR; clear hR; have hl9 := (atRel_cell hF _).trans hc1; go_simp; refine hK _ _ ⟨?_, ?_⟩; (· intro e he; have hm := mem_listed he; simp [go_sem, hl9] at hm; rw [hm]; exact evP_cell _ (hS _)); clear hK K hl9; try walk_nrm)
      clear hc1
      co_apply opsW_call T9 rfl (by rfl) rfl
      · walk_nrm
        exact add9_W _ _ _ _ _ i0 i1 ((atRel_cell hF _).trans (hck4.out.b _ (by omega))) ((atRel_frozen hF _).trans (hck4.out.bz _ (by omega)))
      rintro _ w5 ⟨rfl, hF'⟩
      have hck5 : RowKit.Hid (BdAt w (fset f kj.toNat (IntKind.i64.wrap (f kj.toNat + nj))) (fset f kj.toNat (IntKind.i64.wrap (f kj.toNat + nj))) w5) := ((hck4.out.at hF).setB kj.toNat _).at hF'
      clear hF hF' hck4
      have hF := atRel_refl w5
      have d7 : IntKind.i64.wrap ((j : Int) + 1) = (j : Int) + 1 := by rw [IntKind.wrap_i64]; omega
      clear i0 i1 hB2 b0 b1
      walk_nrm
      (repeat (first | (refine codeW_seq T9 ?_) | (refine codeW_region T9 ?_; simp only [List.size_toArray, List.length_cons, List.length_nil, Nat.reduceAdd, Nat.zero_add, List.range, List.range.loop]) | (refine opsW_nil T9 ?_; simp only [Exit.then, Exit.inBlock, Exit.thenX]) | (refine codeW_skip T9 ?_; simp only [Exit.then, Exit.inBlock, Exit.thenX]) | ((first | refine codeW_cond T9 (t := true) rfl ?_ | refine codeW_cond T9 (t := false) rfl ?_); simp only [if_true, if_false, Bool.false_eq_true, ↓reduceIte]) | (refine opsW_unwanted T9 rfl (by rfl) ?_; try walk_nrm) | (refine opsW_cons rfl (by rfl) ?_; intro _ hR K hK; replace hF := atRel_trans _ _ _ hF hR; clear hR; have hs9 := atRel_size hF; go_simp; refine hK _ _ ⟨?_, ?_⟩; (· rw [listed_nil (by simp [go_sem, *])]; exact dp0_nil); clear hK K hs9; try walk_nrm) | (refine codeW_block T9 ?_)))
      exact opsW_nil T9 (hQ _ _ _ (by rfl) (by rfl) (by rfl) (by rfl) (by rfl) (hck5.out.at hF))
    · have e8 : decide (kj < 16) = false := decide_eq_false i1
      have hoff : (some ⟨w.heap.size, 0, none⟩ : Option Addr) = none ∨ kj < 0 ∨ 16 ≤ kj := .inr (by omega)
      (refine codeW_seq T9 ?_)
      (refine codeW_region T9 ?_; simp only [List.size_toArray, List.length_cons, List.length_nil, Nat.reduceAdd, Nat.zero_add, List.range, List.range.loop])
      (refine opsW_cons rfl (by rfl) ?_; intro _ hR K hK; replace hF := atRel_trans _ _ _ hF hR; clear hR; have hs9 := atRel_size hF; go_simp; refine hK _ _ ⟨?_, ?_⟩; (· rw [listed_nil (by simp [go_sem, *])]; exact dp0_nil); clear hK K hs9; try walk_nrm)
      have hc1 := b0.out
      (refine opsW_cons rfl (by rfl) ?_; intro _ hR K hK; replace hF := atRel_trans _ _ _ hF hR; clear hR; have hl9 := (atRel_cell hF _).trans hc1; go_simp; refine hK _ _ ⟨?_, ?_⟩; (· intro e he; have hm := mem_listed he; simp [go_sem, hl9] at hm; rw [hm]; exact evP_cell _ (hS _)); clear hK K hl9; try walk_nrm)
      repeat (first | (refine opsW_unwanted T9 rfl (by rfl) ?_; try walk_nrm) | (refine opsW_cons rfl (by rfl) ?_; intro _ hR K hK; replace hF := atRel_trans _ _ _ hF hR; clear hR; have hs9 := atRel_size hF; go_simp; refine hK _ _ ⟨?_, ?_⟩; (· rw [listed_nil (by simp [go_sem, *])]; exact dp0_nil); clear hK K hs9; try walk_nrm))
      (refine opsW_cons rfl (by rfl) ?_; intro _ hR K hK; replace hF := atRel_trans _ _ _ hF hR; clear hR; have hl9 := (atRel_cell hF _).trans hc1; go_simp; refine hK _ _ ⟨?_, ?_⟩; (· intro e he; have hm := mem_listed he; simp [go_sem, hl9] at hm; rw [hm]; exact evP_cell _ (hS _)); clear hK K hl9; try walk_nrm)
      repeat (first | (refine opsW_unwanted T9 rfl (by rfl) ?_; try walk_nrm) | (refine opsW_cons rfl (by rfl) ?_; intro _ hR K hK; replace hF := atRel_trans _ _ _ hF hR; clear hR; have hs9 := atRel_size hF; go_simp; refine hK _ _ ⟨?_, ?_⟩; (· rw [listed_nil (by simp [go_sem, *])]; exact dp0_nil); clear hK K hs9; try walk_nrm))
      clear hc1
      (refine opsW_nil T9 ?_; simp only [Exit.then, Exit.inBlock, Exit.thenX])
      (refine codeW_seq T9 ?_)
      (refine codeW_seq T9 ?_)
      (refine codeW_region T9 ?_; simp only [List.size_toArray, List.length_cons, List.length_nil, Nat.reduceAdd, Nat.zero_add, List.range, List.range.loop])
      repeat (first | (refine opsW_unwanted T9 rfl (by rfl) ?_; try walk_nrm) | (refine opsW_cons rfl (by rfl) ?_; intro _ hR K hK; replace hF := atRel_trans _ _ _ hF hR; clear hR; have hs9 := atRel_size hF; go_simp; refine hK _ _ ⟨?_, ?_⟩; (· rw [listed_nil (by simp [go_sem, *])]; exact dp0_nil); clear hK K hs9; try walk_nrm))
      (refine opsW_nil T9 ?_; simp only [Exit.then, Exit.inBlock, Exit.thenX])
      ((first | refine codeW_cond T9 (t := true) rfl ?_ | refine codeW_cond T9 (t := false) rfl ?_); simp only [if_true, if_false, Bool.false_eq_true, ↓reduceIte])
      (refine codeW_skip T9 ?_; simp only [Exit.then, Exit.inBlock, Exit.thenX])
      (refine codeW_seq T9 ?_)
      (refine codeW_region T9 ?_; simp only [List.size_toArray, List.length_cons, List.length_nil, Nat.reduceAdd, Nat.zero_add, List.range, List.range.loop])
      repeat (first | (refine opsW_unwanted T9 rfl (by rfl) ?_; try walk_nrm) | (refine opsW_cons rfl (by rfl) ?_; intro _ hR K hK; replace hF := atRel_trans _ _ _ hF hR; clear hR; have hs9 := atRel_size hF; go_simp; refine hK _ _ ⟨?_, ?_⟩; (· rw [listed_nil (by simp [go_sem, *])]; exact dp0_nil); clear hK K hs9; try walk_nrm))
      have hc1 := b0.out
      (refine opsW_cons rfl (by rfl) ?_; intro _ hR K hK; replace hF := atRel_trans _ _ _ hF hR; clear hR; have hl9 := (atRel_cell hF _).trans hc1; go_simp; refine hK _ _ ⟨?_, ?_⟩; (· intro e he; have hm := mem_listed he; simp [go_sem, hl9] at hm; rw [hm]; exact evP_cell _ (hS _)); clear hK K hl9; try walk_nrm)
      clear hc1
      repeat (first | (refine opsW_unwanted T9 rfl (by rfl) ?_; try walk_nrm) | (refine opsW_cons rfl (by rfl) ?_; intro _ hR K hK; replace hF := atRel_trans _ _ _ hF hR; clear hR; have hs9 := atRel_size hF; go_simp; refine hK _ _ ⟨?_, ?_⟩; (· rw [listed_nil (by simp [go_sem, *])]; exact dp0_nil); clear hK K hs9; try walk_nrm))
      have hc1 := b1.out
      (refine opsW_cons rfl (by rfl) ?_; intro _ hR K hK; replace hF := atRel_trans _ _ _ hF hR; clear hR; have hl9 := (atRel_cell hF _).trans hc1; go_simp; refine hK _ _ ⟨?_, ?_⟩; (· intro e he; have hm := mem_listed he; simp [go_sem, hl9] at hm; rw [hm]; exact evP_cell _ (hS _)); clear hK K hl9; try walk_nrm)
      clear hc1
      co_apply opsW_call T9 rfl (by rfl) rfl
      · walk_nrm
        exact add9Off_W _ _ _ _ hoff
      rintro _ w5 ⟨rfl, hF'⟩
      replace hF := atRel_trans _ _ _ hF hF'
      clear hF' hoff i0 hB2 b0 b1
      have d7 : IntKind.i64.wrap ((j : Int) + 1) = (j : Int) + 1 := by rw [IntKind.wrap_i64]; omega
      walk_nrm
      (repeat (first | (refine codeW_seq T9 ?_) | (refine codeW_region T9 ?_; simp only [List.size_toArray, List.length_cons, List.length_nil, Nat.reduceAdd, Nat.zero_add, List.range, List.range.loop]) | (refine opsW_nil T9 ?_; simp only [Exit.then, Exit.inBlock, Exit.thenX]) | (refine codeW_skip T9 ?_; simp only [Exit.then, Exit.inBlock, Exit.thenX]) | ((first | refine codeW_cond T9 (t := true) rfl ?_ | refine codeW_cond T9 (t := false) rfl ?_); simp only [if_true, if_false, Bool.false_eq_true, ↓reduceIte]) | (refine opsW_unwanted T9 rfl (by rfl) ?_; try walk_nrm) | (refine opsW_cons rfl (by rfl) ?_; intro _ hR K hK; replace hF := atRel_trans _ _ _ hF hR; clear hR; have hs9 := atRel_size hF; go_simp; refine hK _ _ ⟨?_, ?_⟩; (· rw [listed_nil (by simp [go_sem, *])]; exact dp0_nil); clear hK K hs9; try walk_nrm) | (refine codeW_block T9 ?_)))
      exact opsW_nil T9 (hQ _ _ _ (by rfl) (by rfl) (by rfl) (by rfl) (by rfl) (hck3.out.at hF))
  · have e9 : decide (0 ≤ kj) = false := decide_eq_false i0
    have hoff : (some ⟨w.heap.size, 0, none⟩ : Option Addr) = none ∨ kj < 0 ∨ 16 ≤ kj := .inr (by omega)
    (refine codeW_seq T9 ?_)
    (refine codeW_region T9 ?_; simp only [List.size_toArray, List.length_cons, List.length_nil, Nat.reduceAdd, Nat.zero_add, List.range, List.range.loop])
    (refine opsW_cons rfl (by rfl) ?_; intro _ hR K hK; replace hF := atRel_trans _ _ _ hF hR; clear hR; have hs9 := atRel_size hF; go_simp; refine hK _ _ ⟨?_, ?_⟩; (· rw [listed_nil (by simp [go_sem, *])]; exact dp0_nil); clear hK K hs9; try walk_nrm)
    have hc1 := b0.out
    (refine opsW_cons rfl (by rfl) ?_; intro _ hR K hK; replace hF := atRel_trans _ _ _ hF hR; clear hR; have hl9 := (atRel_cell hF _).trans hc1; go_simp; refine hK _ _ ⟨?_, ?_⟩; (· intro e he; have hm := mem_listed he; simp [go_sem, hl9] at hm; rw [hm]; exact evP_cell _ (hS _)); clear hK K hl9; try walk_nrm)
    repeat (first | (refine opsW_unwanted T9 rfl (by rfl) ?_; try walk_nrm) | (refine opsW_cons rfl (by rfl) ?_; intro _ hR K hK; replace hF := atRel_trans _ _ _ hF hR; clear hR; have hs9 := atRel_size hF; go_simp; refine hK _ _ ⟨?_, ?_⟩; (· rw [listed_nil (by simp [go_sem, *])]; exact dp0_nil); clear hK K hs9; try walk_nrm))
    clear hc1
    (refine opsW_nil T9 ?_; simp only [Exit.then, Exit.inBlock, Exit.thenX])
    (refine codeW_seq T9 ?_)
    (refine codeW_seq T9 ?_)
    (refine codeW_region T9 ?_; simp only [List.size_toArray, List.length_cons, List.length_nil, Nat.reduceAdd, Nat.zero_add, List.range, List.range.loop])
    repeat (first | (refine opsW_unwanted T9 rfl (by rfl) ?_; try walk_nrm) | (refine opsW_cons rfl (by rfl) ?_; intro _ hR K hK; replace hF := atRel_trans _ _ _ hF hR; clear hR; have hs9 := atRel_size hF; go_simp; refine hK _ _ ⟨?_, ?_⟩; (· rw [listed_nil (by simp [go_sem, *])]; exact dp0_nil); clear hK K hs9; try walk_nrm))
    (refine opsW_nil T9 ?_; simp only [Exit.then, Exit.inBlock, Exit.thenX])
    ((first | refine codeW_cond T9 (t := true) rfl ?_ | refine codeW_cond T9 (t := false) rfl ?_); simp only [if_true, if_false, Bool.false_eq_true, ↓reduceIte])
    (refine codeW_skip T9 ?_; simp only [Exit.then, Exit.inBlock, Exit.thenX])
    (refine codeW_seq T9 ?_)
    (refine codeW_region T9 ?_; simp only [List.size_toArray, List.length_cons, List.length_nil, Nat.reduceAdd, Nat.zero_add, List.range, List.range.loop])
    repeat (first | (refine opsW_unwanted T9 rfl (by rfl) ?_; try walk_nrm) | (refine opsW_cons rfl (by rfl) ?_; intro _ hR K hK; replace hF := atRel_trans _ _ _ hF hR; clear hR; have hs9 := atRel_size hF; go_simp; refine hK _ _ ⟨?_, ?_⟩; (· rw [listed_nil (by simp [go_sem, *])]; exact dp0_nil); clear hK K hs9; try walk_nrm))
    have hc1 := b0.out
    (refine opsW_cons rfl (by rfl) ?_; intro _ hR K hK; replace hF := atRel_trans _ _ _ hF hR; clear hR; have hl9 := (atRel_cell hF _).trans hc1; go_simp; refine hK _ _ ⟨?_, ?_⟩; (· intro e he; have hm := mem_listed he; simp [go_sem, hl9] at hm; rw [hm]; exact evP_cell _ (hS _)); clear hK K hl9; try walk_nrm)
    clear hc1
    repeat (first | (refine opsW_unwanted T9 rfl (by rfl) ?_; try walk_nrm) | (refine opsW_cons rfl (by rfl) ?_; intro _ hR K hK; replace hF := atRel_trans _ _ _ hF hR; clear hR; have hs9 := atRel_size hF; go_simp; refine hK _ _ ⟨?_, ?_⟩; (· rw [listed_nil (by simp [go_sem, *])]; exact dp0_nil); clear hK K hs9; try walk_nrm))
    have hc1 := b1.out
    (refine opsW_cons rfl (by rfl) ?_; intro _ hR K hK; replace hF := atRel_trans _ _ _ hF hR; clear hR; have hl9 := (atRel_cell hF _).trans hc1; go_simp; refine hK _ _ ⟨?_, ?_⟩; (· intro e he; have hm := mem_listed he; simp [go_sem, hl9] at hm; rw [hm]; exact evP_cell _ (hS _)); clear hK K hl9; try walk_nrm)
    clear hc1
    co_apply opsW_call T9 rfl (by rfl) rfl
    · walk_nrm
      exact add9Off_W _ _ _ _ hoff
    rintro _ w5 ⟨rfl, hF'⟩
    replace hF := atRel_trans _ _ _ hF hF'
    clear hF' hoff i0 hB2 b0 b1
    have d7 : IntKind.i64.wrap ((j : Int) + 1) = (j : Int) + 1 := by rw [IntKind.wrap_i64]; omega
    walk_nrm
    (repeat (first | (refine codeW_seq T9 ?_) | (refine codeW_region T9 ?_; simp only [List.size_toArray, List.length_cons, List.length_nil, Nat.reduceAdd, Nat.zero_add, List.range, List.range.loop]) | (refine opsW_nil T9 ?_; simp only [Exit.then, Exit.inBlock, Exit.thenX]) | (refine codeW_skip T9 ?_; simp only [Exit.then, Exit.inBlock, Exit.thenX]) | ((first | refine codeW_cond T9 (t := true) rfl ?_ | refine codeW_cond T9 (t := false) rfl ?_); simp only [if_true, if_false, Bool.false_eq_true, ↓reduceIte]) | (refine opsW_unwanted T9 rfl (by rfl) ?_; try walk_nrm) | (refine opsW_cons rfl (by rfl) ?_; intro _ hR K hK; replace hF := atRel_trans _ _ _ hF hR; clear hR; have hs9 := atRel_size hF; go_simp; refine hK _ _ ⟨?_, ?_⟩; (· rw [listed_nil (by simp [go_sem, *])]; exact dp0_nil); clear hK K hs9; try walk_nrm) | (refine codeW_block T9 ?_)))
    exact opsW_nil T9 (hQ _ _ _ (by rfl) (by rfl) (by rfl) (by rfl) (by rfl) (hck3.out.at hF))
end Go.Proofs.Ytkcknoodcgmndaa
