/- TallyMarks: a claim, a freeing. -/
import Derived.Test.YtkcknoodcgmndaaZMqA
import Derived.Test.YtkcknoodcgmndaaZReG
namespace Go.Proofs.Ytkcknoodcgmndaa
open Go.Conc Go.RowKit
set_option linter.unusedVariables false
set_option linter.unusedSimpArgs false
set_option maxRecDepth 100000
set_option maxHeartbeats 8000000















noncomputable def codeAM : Code := match bodyM with
  | .seq _ (.seq (.block _ (.seq _ (.seq _ (.seq _ (.seq (.seq _ (.cond _ c _)) _))))) _) => c
  | _ => .skip
noncomputable def codeBM : Code := match bodyM with
  | .seq _ (.seq (.block _ (.seq _ (.seq _ (.seq _ (.seq (.seq _ (.cond _ _ c)) _))))) _) => c
  | _ => .skip
theorem Own.open2 {base : Nat} {w : World} {v : Value} {xs : List Int} (h : Own base w v xs) : ∃ A g c, v = .slice A xs.length c ∧ xs.length ≤ c ∧ (0 < xs.length → g < w.heap.size) ∧ base ≤ g ∧ SlI w A g xs ∧ ((A = none ∧ c = 0 ∧ xs = []) ∨ A = some ⟨g, 0, none⟩) := by
  rcases h.2 with ⟨rfl, h0⟩ | ⟨g, cap, cur, rfl, hb, hg, hn, hm, hs, ht⟩
  · obtain rfl : xs = [] := List.length_eq_zero_iff.1 h0
    exact ⟨none, base, 0, rfl, Nat.le_refl _, fun h => by simp at h, Nat.le_refl _, ⟨fun h => by simp at h, fun q x hx => by simp at hx⟩, .inl ⟨rfl, rfl, rfl⟩⟩
  · refine ⟨some ⟨g, 0, none⟩, g, cap, rfl, hn, fun _ => (Array.getElem?_eq_some_iff.1 hg).1, hb, ⟨fun _ => rfl, fun q x hx => ?_⟩, .inr rfl⟩
    have hq : q < xs.length := (List.getElem?_eq_some_iff.1 hx).1
    have h1 : (cur.toList.take (xs.length * 1))[q]? = some (.int .i64 x) := by
      rw [ht, List.getElem?_map, hx]
      rfl
    rw [List.getElem?_take_of_lt (by omega)] at h1
    simp only [World.cell?, hg]
    simpa using h1
theorem partA {ca : Code} (hca : ca = codeAM) (w0 w2 : World) (n : Nat) (ws : List Nat) (A : Option Addr) (c len B j : Nat) (x : Int) (sl : Value) (is was : Bool) (hk : KAt w0 n ws (.slice A len c) w2) (hx : w2.cell? ⟨B, 1, none⟩ = some (.int .i64 x)) (hB : w0.heap.size + 2 ≤ B)
    (his : is = decide (0 ≤ x ∧ x < (n : Int))) (hwas : was = decide (x ∈ markL ws n)) {v2 v3 v4 v6 v12 v13 v14 v15 v16 v17 v18 v19 v20 v21 v22 v23 v24 v25 v26 v27 v28 v29 v30 v31 v32 v33 v34 v35 v36 v37 v38 v39 v40 v41 v42 v43 v44 v45 v46 v47 v48 v49 v50 v51 v52 v53 v54 v55 v56 v57 v58 v59 v60 v61 v62 v63 v64 v65 v66 v67 v68 v69 v70 v71 v72 v73 v74 v75 v76 v77 v78 v79 v80 v81 v82 v83 v84 v85 v86 v87 v88 v89 v90 v91 v92 v93 v94 v95 v96 v97 v98 v99 v100 v101 v102 v103 v104 v105 v106 v107 v108 v109 v110 v111 v112 v113 v114 v115 v116 v117 v118 v119 v120 v121 v122 v123 v124 v125 v126 v127 : Value} :
    CodeW Try.prog true AtRel (DP0 (blkS (fun _ => False))) 6 ca (fun e a' w' => e = .normal ∧ ∃ (T : Array Value) (ws' : List Nat) (v' : Value), a' = ⟨T, []⟩ ∧ T.size = 128 ∧ T[0]? = some (.int .i64 n) ∧ T[1]? = some sl ∧ T[5]? = some (.pointer (some ⟨w0.heap.size + 1, 0, none⟩)) ∧ T[6]? = some v6 ∧ T[7]? = some v' ∧ T[8]? = some (.int .i64 j) ∧ T[9]? = some (.pointer (some ⟨B, 0, none⟩)) ∧ KAt w0 n ws' v' w' ∧ w'.cell? ⟨B, 1, none⟩ = some (.int .i64 x)) ⟨List.toArray (.int .i64 n :: sl :: v2 :: v3 :: v4 :: .pointer (some ⟨w0.heap.size + 1, 0, none⟩) :: v6 :: .slice A len c :: .int .i64 j :: .pointer (some ⟨B, 0, none⟩) :: .bool is :: .bool was :: v12 :: v13 :: v14 :: v15 :: v16 :: v17 :: v18 :: v19 :: v20 :: v21 :: v22 :: v23 :: v24 :: v25 :: v26 :: v27 :: v28 :: v29 :: v30 :: v31 :: v32 :: v33 :: v34 :: v35 :: v36 :: v37 :: v38 :: v39 :: v40 :: v41 :: v42 :: v43 :: v44 :: v45 :: v46 :: v47 :: v48 :: v49 :: v50 :: v51 :: v52 :: v53 :: v54 :: v55 :: v56 :: v57 :: v58 :: v59 :: v60 :: v61 :: v62 :: v63 :: v64 :: v65 :: v66 :: v67 :: v68 :: v69 :: v70 :: v71 :: v72 :: v73 :: v74 :: v75 :: v76 :: v77 :: v78 :: v79 :: v80 :: v81 :: v82 :: v83 :: v84 :: v85 :: v86 :: v87 :: v88 :: v89 :: v90 :: v91 :: v92 :: v93 :: v94 :: v95 :: v96 :: v97 :: v98 :: v99 :: v100 :: v101 :: v102 :: v103 :: v104 :: v105 :: v106 :: v107 :: v108 :: v109 :: v110 :: v111 :: v112 :: v113 :: v114 :: v115 :: v116 :: v117 :: v118 :: v119 :: v120 :: v121 :: v122 :: v123 :: v124 :: v125 :: v126 :: v127 :: []), []⟩ w2 := by
  have T9 := termsP (blkS (fun _ => False))
  have hS : ∀ l, ¬ blkS (fun _ => False) l := fun l ⟨_, _, h⟩ => h
  have evb1 : ∀ (w : World), (binOp .neq 4 (.bool true) (.bool true)).events Try.prog w #[] = #[] := fun w => by kernel_rfl
  have evb0 : ∀ (w : World), (binOp .neq 4 (.bool false) (.bool false)).events Try.prog w #[] = #[] := fun w => by kernel_rfl
  rw [hca, show codeAM = _ from (by unfold codeAM bodyM; simp only [Try.f6, Option.getD_some]; try rfl)]
  have hF := atRel_refl w2
  obtain ⟨A', g, c', e1, hlc, hg, hbg, hsl, hA⟩ := Own.open2 hk.own
  injection e1 with eA el ec
  subst eA ec el
  have hB2 : B < w2.heap.size := World.block_lt_of_cell? w2 _ hx
  have hfew := hk.mm.few
  have hln := markL_len ws n
  have hdm := dec_markL ws n x
  rw [← hwas, ← his] at hdm
  cases is with
  | false =>
    have hno : ¬ (0 ≤ x ∧ x < (n : Int)) := fun h => by rw [decide_eq_true h] at his; cases his
    clear hdm his hwas
    (refine codeW_seq T9 ?_)
    (refine codeW_seq T9 ?_)
    (refine codeW_region T9 ?_; simp only [List.size_toArray, List.length_cons, List.length_nil, Nat.reduceAdd, Nat.zero_add, List.range, List.range.loop])
    (refine opsW_cons rfl (by rfl) ?_; intro _ hR K hK; replace hF := atRel_trans _ _ _ hF hR; clear hR; have hs9 := atRel_size hF; go_simp; refine hK _ _ ⟨?_, ?_⟩; (· rw [listed_nil (by simp [go_sem, *])]; exact dp0_nil); clear hK K hs9; try walk_nrm)
    (refine opsW_nil T9 ?_; simp only [Exit.then, Exit.inBlock])
    ((first | refine codeW_cond T9 (t := true) rfl ?_ | refine codeW_cond T9 (t := false) rfl ?_); simp only [if_true, if_false, Bool.false_eq_true, ↓reduceIte])
    (refine codeW_skip T9 ?_; simp only [Exit.then, Exit.inBlock])
    (refine codeW_seq T9 ?_)
    (refine codeW_region T9 ?_; simp only [List.size_toArray, List.length_cons, List.length_nil, Nat.reduceAdd, Nat.zero_add, List.range, List.range.loop])
    (refine opsW_cons rfl (by rfl) ?_; intro _ hR K hK; replace hF := atRel_trans _ _ _ hF hR; clear hR; have hs9 := atRel_size hF; go_simp; refine hK _ _ ⟨?_, ?_⟩; (· rw [listed_nil (by simp [go_sem, *])]; exact dp0_nil); clear hK K hs9; try walk_nrm)
    (refine opsW_cons rfl (by rfl) ?_; intro _ hR K hK; replace hF := atRel_trans _ _ _ hF hR; clear hR; have hs9 := atRel_size hF; go_simp; refine hK _ _ ⟨?_, ?_⟩; (· rw [listed_nil (by simp [go_sem, *])]; exact dp0_nil); clear hK K hs9; try walk_nrm)
    have hc1 := hx
    (refine opsW_cons rfl (by rfl) ?_; intro _ hR K hK; replace hF := atRel_trans _ _ _ hF hR; clear hR; have hl9 := (atRel_cell hF _).trans hc1; go_simp; refine hK _ _ ⟨?_, ?_⟩; (· intro e he; have hm := mem_listed he; simp [go_sem, hl9] at hm; rw [hm]; exact evP_cell _ (hS _)); clear hK K hl9; try walk_nrm)
    clear hc1
    obtain ⟨q, rfl⟩ := hF
    co_apply opsW_call T9 rfl (by rfl) rfl
    · walk_nrm
      exact claim14_W (hk.mm.at ⟨q, rfl⟩) x (fun o => hS _)
    rintro v w' (⟨rfl, hF, _⟩ | ⟨_, h, _⟩)
    rotate_left
    · exact absurd h.1 hno
    replace hF : AtRel w2 w' := by obtain ⟨q3, rfl⟩ := hF; exact ⟨q3, rfl⟩
    walk_nrm
    repeat (first | (refine opsW_unwanted T9 rfl (by rfl) ?_; try walk_nrm) | (refine opsW_cons rfl (by rfl) ?_; intro _ hR K hK; replace hF := atRel_trans _ _ _ hF hR; clear hR; have hs9 := atRel_size hF; go_simp; refine hK _ _ ⟨?_, ?_⟩; (· rw [listed_nil (by simp [go_sem, *])]; exact dp0_nil); clear hK K hs9; try walk_nrm))
    (refine opsW_nil T9 ?_; simp only [Exit.then, Exit.inBlock])
    ((first | refine codeW_cond T9 (t := true) rfl ?_ | refine codeW_cond T9 (t := false) rfl ?_); simp only [if_true, if_false, Bool.false_eq_true, ↓reduceIte])
    (refine codeW_skip T9 ?_; simp only [Exit.then, Exit.inBlock])
    exact ⟨by trivial, _, ws, _, rfl, rfl, rfl, rfl, rfl, rfl, rfl, rfl, rfl, hk.at hF, (atRel_cell hF _).trans hx⟩
  | true =>
    have hyes : 0 ≤ x ∧ x < (n : Int) := of_decide_eq_true his.symm
    have hq : x.toNat / 64 < ws.length := by have := hk.mm.room; omega
    clear his
    rw [Bool.true_and] at hdm
    replace hyes : RowKit.Hid _ := hyes
    replace hA : RowKit.Hid _ := hA
    (refine codeW_seq T9 ?_)
    (refine codeW_seq T9 ?_)
    (refine codeW_region T9 ?_; simp only [List.size_toArray, List.length_cons, List.length_nil, Nat.reduceAdd, Nat.zero_add, List.range, List.range.loop])
    (refine opsW_cons rfl (by rfl) ?_; intro _ hR K hK; replace hF := atRel_trans _ _ _ hF hR; clear hR; have hs9 := atRel_size hF; go_simp; refine hK _ _ ⟨?_, ?_⟩; (· rw [listed_nil (by simp [go_sem, *])]; exact dp0_nil); clear hK K hs9; try walk_nrm)
    (refine opsW_nil T9 ?_; simp only [Exit.then, Exit.inBlock])
    ((first | refine codeW_cond T9 (t := true) rfl ?_ | refine codeW_cond T9 (t := false) rfl ?_); simp only [if_true, if_false, Bool.false_eq_true, ↓reduceIte])
    (refine codeW_region T9 ?_; simp only [List.size_toArray, List.length_cons, List.length_nil, Nat.reduceAdd, Nat.zero_add, List.range, List.range.loop])
    (refine opsW_cons rfl (by rfl) ?_; intro _ hR K hK; replace hF := atRel_trans _ _ _ hF hR; clear hR; have hs9 := atRel_size hF; go_simp; refine hK _ _ ⟨?_, ?_⟩; (· rw [listed_nil (by simp [go_sem, *])]; exact dp0_nil); clear hK K hs9; try walk_nrm)
    (refine opsW_cons rfl (by rfl) ?_; intro _ hR K hK; replace hF := atRel_trans _ _ _ hF hR; clear hR; have hs9 := atRel_size hF; go_simp; refine hK _ _ ⟨?_, ?_⟩; (· rw [listed_nil (by simp [go_sem, *])]; exact dp0_nil); clear hK K hs9; try walk_nrm)
    have hc1 := hx
    (refine opsW_cons rfl (by rfl) ?_; intro _ hR K hK; replace hF := atRel_trans _ _ _ hF hR; clear hR; have hl9 := (atRel_cell hF _).trans hc1; go_simp; refine hK _ _ ⟨?_, ?_⟩; (· intro e he; have hm := mem_listed he; simp [go_sem, hl9] at hm; rw [hm]; exact evP_cell _ (hS _)); clear hK K hl9; try walk_nrm)
    clear hc1
    obtain ⟨q, rfl⟩ := hF
    replace hdm : RowKit.Hid _ := hdm
    cases was with
    | true =>
      have hmem0 : x ∈ markL ws n := of_decide_eq_true hwas.symm
      have hmem : RowKit.Hid (x ∈ markL ws n) := hmem0
      clear hmem0
      clear hwas
      co_apply opsW_call T9 rfl (by rfl) rfl
      · walk_nrm
        exact with15_W x (hsl.at ⟨q, rfl⟩) hA.out hlc hg (fun a _ => hS _) (fun a _ => hS _) (by omega)
      rintro v w' (⟨_, rfl, hF⟩ | ⟨h, _⟩)
      rotate_left
      · exact absurd hmem.out h
      replace hF : AtRel w2 w' := by obtain ⟨q3, rfl⟩ := hF; exact ⟨q3, rfl⟩
      walk_nrm
      (refine opsW_cons rfl (by rfl) ?_; intro _ hR K hK; replace hF := atRel_trans _ _ _ hF hR; clear hR; have hs9 := atRel_size hF; go_simp; refine hK _ _ ⟨?_, ?_⟩; (· rw [listed_nil (by simp [go_sem, *])]; exact dp0_nil); clear hK K hs9; try walk_nrm)
      (refine opsW_nil T9 ?_; simp only [Exit.then, Exit.inBlock])
      (refine codeW_seq T9 ?_)
      (refine codeW_region T9 ?_; simp only [List.size_toArray, List.length_cons, List.length_nil, Nat.reduceAdd, Nat.zero_add, List.range, List.range.loop])
      (refine opsW_cons rfl (by rfl) ?_; intro _ hR K hK; replace hF := atRel_trans _ _ _ hF hR; clear hR; have hs9 := atRel_size hF; go_simp; refine hK _ _ ⟨?_, ?_⟩; (· rw [listed_nil (by simp [go_sem, *])]; exact dp0_nil); clear hK K hs9; try walk_nrm)
      (refine opsW_cons rfl (by rfl) ?_; intro _ hR K hK; replace hF := atRel_trans _ _ _ hF hR; clear hR; have hs9 := atRel_size hF; go_simp; refine hK _ _ ⟨?_, ?_⟩; (· rw [listed_nil (by simp [go_sem, *])]; exact dp0_nil); clear hK K hs9; try walk_nrm)
      have hc1 := hx
      (refine opsW_cons rfl (by rfl) ?_; intro _ hR K hK; replace hF := atRel_trans _ _ _ hF hR; clear hR; have hl9 := (atRel_cell hF _).trans hc1; go_simp; refine hK _ _ ⟨?_, ?_⟩; (· intro e he; have hm := mem_listed he; simp [go_sem, hl9] at hm; rw [hm]; exact evP_cell _ (hS _)); clear hK K hl9; try walk_nrm)
      clear hc1
      obtain ⟨q2, rfl⟩ := hF
      co_apply opsW_call T9 rfl (by rfl) rfl
      · walk_nrm
        exact claim14_W (hk.mm.at ⟨q2, rfl⟩) x (fun o => hS _)
      rintro v w' (⟨rfl, hF, _⟩ | ⟨_, h, _⟩)
      rotate_left
      · exact absurd hdm.out.symm h.2
      replace hF : AtRel w2 w' := by obtain ⟨q3, rfl⟩ := hF; exact ⟨q3, rfl⟩
      walk_nrm
      repeat (first | (refine opsW_unwanted T9 rfl (by rfl) ?_; try walk_nrm) | (refine opsW_cons rfl (by rfl) ?_; intro _ hR K hK; replace hF := atRel_trans _ _ _ hF hR; clear hR; have hs9 := atRel_size hF; go_simp; refine hK _ _ ⟨?_, ?_⟩; (· rw [listed_nil (by simp [go_sem, *])]; exact dp0_nil); clear hK K hs9; try walk_nrm))
      (refine opsW_nil T9 ?_; simp only [Exit.then, Exit.inBlock])
      ((first | refine codeW_cond T9 (t := true) rfl ?_ | refine codeW_cond T9 (t := false) rfl ?_); simp only [if_true, if_false, Bool.false_eq_true, ↓reduceIte])
      (refine codeW_skip T9 ?_; simp only [Exit.then, Exit.inBlock])
      exact ⟨by trivial, _, ws, _, rfl, rfl, rfl, rfl, rfl, rfl, rfl, rfl, rfl, hk.at hF, (atRel_cell hF _).trans hx⟩
    | false =>
      have hmem0 : x ∉ markL ws n := of_decide_eq_false hwas.symm
      have hmem : RowKit.Hid (x ∉ markL ws n) := hmem0
      clear hmem0
      clear hwas
      co_apply opsW_call T9 rfl (by rfl) rfl
      · walk_nrm
        exact with15_W x (hsl.at ⟨q, rfl⟩) hA.out hlc hg (fun a _ => hS _) (fun a _ => hS _) (by omega)
      rintro v w' (⟨h, _⟩ | ⟨_, hbw, i9, hi1, hi2, hi3, hown⟩)
      · exact absurd h hmem.out
      have hown9 : Own (w0.heap.size + 2) w' v (markL (flipW ws x.toNat) n) := by
        rw [← markL_with hyes.out.1 hyes.out.2 hq hdm.out.symm hi2 hi3]
        exact Own.weak hown hk.size
      replace hk : KAt w0 n ws (.slice A (markL ws n).length c) w' := (hk.at ⟨q, rfl⟩).below hbw
      replace hx : w'.cell? ⟨B, 1, none⟩ = some (.int .i64 x) := (cell_same (hbw.block B hB2) 1).trans hx
      clear hbw hsl hown hi1 hi2 hi3 hg
      have hF := atRel_refl w'
      walk_nrm
      (refine opsW_cons rfl (by rfl) ?_; intro _ hR K hK; replace hF := atRel_trans _ _ _ hF hR; clear hR; have hs9 := atRel_size hF; go_simp; refine hK _ _ ⟨?_, ?_⟩; (· rw [listed_nil (by simp [go_sem, *])]; exact dp0_nil); clear hK K hs9; try walk_nrm)
      (refine opsW_nil T9 ?_; simp only [Exit.then, Exit.inBlock])
      (refine codeW_seq T9 ?_)
      (refine codeW_region T9 ?_; simp only [List.size_toArray, List.length_cons, List.length_nil, Nat.reduceAdd, Nat.zero_add, List.range, List.range.loop])
      (refine opsW_cons rfl (by rfl) ?_; intro _ hR K hK; replace hF := atRel_trans _ _ _ hF hR; clear hR; have hs9 := atRel_size hF; go_simp; refine hK _ _ ⟨?_, ?_⟩; (· rw [listed_nil (by simp [go_sem, *])]; exact dp0_nil); clear hK K hs9; try walk_nrm)
      (refine opsW_cons rfl (by rfl) ?_; intro _ hR K hK; replace hF := atRel_trans _ _ _ hF hR; clear hR; have hs9 := atRel_size hF; go_simp; refine hK _ _ ⟨?_, ?_⟩; (· rw [listed_nil (by simp [go_sem, *])]; exact dp0_nil); clear hK K hs9; try walk_nrm)
      have hc1 := hx
      (refine opsW_cons rfl (by rfl) ?_; intro _ hR K hK; replace hF := atRel_trans _ _ _ hF hR; clear hR; have hl9 := (atRel_cell hF _).trans hc1; go_simp; refine hK _ _ ⟨?_, ?_⟩; (· intro e he; have hm := mem_listed he; simp [go_sem, hl9] at hm; rw [hm]; exact evP_cell _ (hS _)); clear hK K hl9; try walk_nrm)
      clear hc1
      obtain ⟨q2, rfl⟩ := hF
      co_apply opsW_call T9 rfl (by rfl) rfl
      · walk_nrm
        exact claim14_W (hk.mm.at ⟨q2, rfl⟩) x (fun o => hS _)
      rintro v9 w9 (⟨_, _, h⟩ | ⟨rfl, _, hF⟩)
      · exact absurd ⟨hyes.out, by rw [← hdm.out]; simp⟩ h
      have hk9 : KAt w0 n (flipW ws x.toNat) v w9 := hk.flip (by have := hyes.out; omega) hown9 (by obtain ⟨q3, rfl⟩ := hF; exact ⟨q3, rfl⟩)
      have hx9 : w9.cell? ⟨B, 1, none⟩ = some (.int .i64 x) := (atRel_cell hF _).trans ((cell_set9 _ (by show B ≠ w0.heap.size; omega)).trans hx)
      clear hF
      have hF := atRel_refl w9
      walk_nrm
      repeat (first | (refine opsW_unwanted T9 rfl (by rfl) ?_; try walk_nrm) | (refine opsW_cons rfl (by rfl) ?_; intro _ hR K hK; replace hF := atRel_trans _ _ _ hF hR; clear hR; have hs9 := atRel_size hF; go_simp; refine hK _ _ ⟨?_, ?_⟩; (· rw [listed_nil (by simp [go_sem, *])]; exact dp0_nil); clear hK K hs9; try walk_nrm))
      (refine opsW_nil T9 ?_; simp only [Exit.then, Exit.inBlock])
      ((first | refine codeW_cond T9 (t := true) rfl ?_ | refine codeW_cond T9 (t := false) rfl ?_); simp only [if_true, if_false, Bool.false_eq_true, ↓reduceIte])
      (refine codeW_skip T9 ?_; simp only [Exit.then, Exit.inBlock])
      exact ⟨by trivial, _, flipW ws x.toNat, v, rfl, rfl, rfl, rfl, rfl, rfl, rfl, rfl, rfl, hk9.at hF, (atRel_cell hF _).trans hx9⟩
theorem partB {cb : Code} (hcb : cb = codeBM) (w0 w2 : World) (n : Nat) (ws : List Nat) (A : Option Addr) (c len B j : Nat) (x : Int) (sl : Value) (was : Bool) (hk : KAt w0 n ws (.slice A len c) w2) (hx : w2.cell? ⟨B, 1, none⟩ = some (.int .i64 x)) (hB : w0.heap.size + 2 ≤ B)
    (hwas : was = decide (x ∈ markL ws n)) {v2 v3 v4 v6 v10 v12 v13 v14 v15 v16 v17 v18 v19 v20 v21 v22 v23 v24 v25 v26 v27 v28 v29 v30 v31 v32 v33 v34 v35 v36 v37 v38 v39 v40 v41 v42 v43 v44 v45 v46 v47 v48 v49 v50 v51 v52 v53 v54 v55 v56 v57 v58 v59 v60 v61 v62 v63 v64 v65 v66 v67 v68 v69 v70 v71 v72 v73 v74 v75 v76 v77 v78 v79 v80 v81 v82 v83 v84 v85 v86 v87 v88 v89 v90 v91 v92 v93 v94 v95 v96 v97 v98 v99 v100 v101 v102 v103 v104 v105 v106 v107 v108 v109 v110 v111 v112 v113 v114 v115 v116 v117 v118 v119 v120 v121 v122 v123 v124 v125 v126 v127 : Value} :
    CodeW Try.prog true AtRel (DP0 (blkS (fun _ => False))) 6 cb (fun e a' w' => e = .normal ∧ ∃ (T : Array Value) (ws' : List Nat) (v' : Value), a' = ⟨T, []⟩ ∧ T.size = 128 ∧ T[0]? = some (.int .i64 n) ∧ T[1]? = some sl ∧ T[5]? = some (.pointer (some ⟨w0.heap.size + 1, 0, none⟩)) ∧ T[6]? = some v6 ∧ T[7]? = some v' ∧ T[8]? = some (.int .i64 j) ∧ T[9]? = some (.pointer (some ⟨B, 0, none⟩)) ∧ KAt w0 n ws' v' w' ∧ w'.cell? ⟨B, 1, none⟩ = some (.int .i64 x)) ⟨List.toArray (.int .i64 n :: sl :: v2 :: v3 :: v4 :: .pointer (some ⟨w0.heap.size + 1, 0, none⟩) :: v6 :: .slice A len c :: .int .i64 j :: .pointer (some ⟨B, 0, none⟩) :: v10 :: .bool was :: v12 :: v13 :: v14 :: v15 :: v16 :: v17 :: v18 :: v19 :: v20 :: v21 :: v22 :: v23 :: v24 :: v25 :: v26 :: v27 :: v28 :: v29 :: v30 :: v31 :: v32 :: v33 :: v34 :: v35 :: v36 :: v37 :: v38 :: v39 :: v40 :: v41 :: v42 :: v43 :: v44 :: v45 :: v46 :: v47 :: v48 :: v49 :: v50 :: v51 :: v52 :: v53 :: v54 :: v55 :: v56 :: v57 :: v58 :: v59 :: v60 :: v61 :: v62 :: v63 :: v64 :: v65 :: v66 :: v67 :: v68 :: v69 :: v70 :: v71 :: v72 :: v73 :: v74 :: v75 :: v76 :: v77 :: v78 :: v79 :: v80 :: v81 :: v82 :: v83 :: v84 :: v85 :: v86 :: v87 :: v88 :: v89 :: v90 :: v91 :: v92 :: v93 :: v94 :: v95 :: v96 :: v97 :: v98 :: v99 :: v100 :: v101 :: v102 :: v103 :: v104 :: v105 :: v106 :: v107 :: v108 :: v109 :: v110 :: v111 :: v112 :: v113 :: v114 :: v115 :: v116 :: v117 :: v118 :: v119 :: v120 :: v121 :: v122 :: v123 :: v124 :: v125 :: v126 :: v127 :: []), []⟩ w2 := by
  have T9 := termsP (blkS (fun _ => False))
  have hS : ∀ l, ¬ blkS (fun _ => False) l := fun l ⟨_, _, h⟩ => h
  have evb1 : ∀ (w : World), (binOp .neq 4 (.bool true) (.bool true)).events Try.prog w #[] = #[] := fun w => by kernel_rfl
  have evb0 : ∀ (w : World), (binOp .neq 4 (.bool false) (.bool false)).events Try.prog w #[] = #[] := fun w => by kernel_rfl
  rw [hcb, show codeBM = _ from (by unfold codeBM bodyM; simp only [Try.f6, Option.getD_some]; try rfl)]
  have hF := atRel_refl w2
  obtain ⟨A', g, c', e1, hlc, hg, hbg, hsl, hA⟩ := Own.open2 hk.own
  injection e1 with eA el ec
  subst eA ec el
  have hB2 : B < w2.heap.size := World.block_lt_of_cell? w2 _ hx
  have hfew := hk.mm.few
  have hln := markL_len ws n
  have hdm := dec_markL ws n x
  rw [← hwas] at hdm
  replace hA : RowKit.Hid _ := hA
  replace hdm : RowKit.Hid _ := hdm
  replace hwas : RowKit.Hid _ := hwas
  (refine codeW_seq T9 ?_)
  (refine codeW_region T9 ?_; simp only [List.size_toArray, List.length_cons, List.length_nil, Nat.reduceAdd, Nat.zero_add, List.range, List.range.loop])
  (refine opsW_cons rfl (by rfl) ?_; intro _ hR K hK; replace hF := atRel_trans _ _ _ hF hR; clear hR; have hs9 := atRel_size hF; go_simp; refine hK _ _ ⟨?_, ?_⟩; (· rw [listed_nil (by simp [go_sem, *])]; exact dp0_nil); clear hK K hs9; try walk_nrm)
  (refine opsW_cons rfl (by rfl) ?_; intro _ hR K hK; replace hF := atRel_trans _ _ _ hF hR; clear hR; have hs9 := atRel_size hF; go_simp; refine hK _ _ ⟨?_, ?_⟩; (· rw [listed_nil (by simp [go_sem, *])]; exact dp0_nil); clear hK K hs9; try walk_nrm)
  have hc1 := hx
  (refine opsW_cons rfl (by rfl) ?_; intro _ hR K hK; replace hF := atRel_trans _ _ _ hF hR; clear hR; have hl9 := (atRel_cell hF _).trans hc1; go_simp; refine hK _ _ ⟨?_, ?_⟩; (· intro e he; have hm := mem_listed he; simp [go_sem, hl9] at hm; rw [hm]; exact evP_cell _ (hS _)); clear hK K hl9; try walk_nrm)
  clear hc1
  obtain ⟨q, rfl⟩ := hF
  co_apply opsW_call T9 rfl (by rfl) rfl
  · walk_nrm
    exact without25_W (hsl.at ⟨q, rfl⟩) x hg (fun o => hS _) (fun a _ => hS _) (by omega)
  rintro v w' ⟨hown, hbw⟩
  have hown9 : Own (w0.heap.size + 2) w' v ((markL ws n).filter (fun y => y != x)) := Own.weak hown hk.size
  replace hk : KAt w0 n ws (.slice A (markL ws n).length c) w' := (hk.at ⟨q, rfl⟩).below hbw
  replace hx : w'.cell? ⟨B, 1, none⟩ = some (.int .i64 x) := (cell_same (hbw.block B hB2) 1).trans hx
  clear hbw hsl hown hg
  have hF := atRel_refl w'
  walk_nrm
  (refine opsW_cons rfl (by rfl) ?_; intro _ hR K hK; replace hF := atRel_trans _ _ _ hF hR; clear hR; have hs9 := atRel_size hF; go_simp; refine hK _ _ ⟨?_, ?_⟩; (· rw [listed_nil (by simp [go_sem, *])]; exact dp0_nil); clear hK K hs9; try walk_nrm)
  (refine opsW_nil T9 ?_; simp only [Exit.then, Exit.inBlock])
  (refine codeW_seq T9 ?_)
  (refine codeW_region T9 ?_; simp only [List.size_toArray, List.length_cons, List.length_nil, Nat.reduceAdd, Nat.zero_add, List.range, List.range.loop])
  (refine opsW_cons rfl (by rfl) ?_; intro _ hR K hK; replace hF := atRel_trans _ _ _ hF hR; clear hR; have hs9 := atRel_size hF; go_simp; refine hK _ _ ⟨?_, ?_⟩; (· rw [listed_nil (by simp [go_sem, *])]; exact dp0_nil); clear hK K hs9; try walk_nrm)
  (refine opsW_cons rfl (by rfl) ?_; intro _ hR K hK; replace hF := atRel_trans _ _ _ hF hR; clear hR; have hs9 := atRel_size hF; go_simp; refine hK _ _ ⟨?_, ?_⟩; (· rw [listed_nil (by simp [go_sem, *])]; exact dp0_nil); clear hK K hs9; try walk_nrm)
  have hc1 := hx
  (refine opsW_cons rfl (by rfl) ?_; intro _ hR K hK; replace hF := atRel_trans _ _ _ hF hR; clear hR; have hl9 := (atRel_cell hF _).trans hc1; go_simp; refine hK _ _ ⟨?_, ?_⟩; (· intro e he; have hm := mem_listed he; simp [go_sem, hl9] at hm; rw [hm]; exact evP_cell _ (hS _)); clear hK K hl9; try walk_nrm)
  clear hc1
  obtain ⟨q2, rfl⟩ := hF
  co_apply opsW_call T9 rfl (by rfl) rfl
  · walk_nrm
    exact free26_W (hk.mm.at ⟨q2, rfl⟩) x (fun o => hS _)
  rintro v9 w9 (⟨rfl, hF, hno⟩ | ⟨rfl, hyes, hF⟩)
  · have hwf : was = false := by
      cases was with
      | false => rfl
      | true =>
        exfalso
        have h9 := hdm.out
        have h8 := Bool.and_eq_true_iff.1 h9.symm
        exact hno ⟨of_decide_eq_true h8.1, by rw [h8.2]; simp⟩
    subst hwf
    have hk9 : KAt w0 n ws v w9 := (hk.swap (by
      rw [← markL_without_out (fun h => hno ⟨h.1, by rw [h.2]; simp⟩)]
      exact hown9)).at (by obtain ⟨q3, rfl⟩ := hF; exact ⟨_, rfl⟩)
    have hx9 : w9.cell? ⟨B, 1, none⟩ = some (.int .i64 x) := (atRel_cell hF _).trans hx
    clear hF
    have hF := atRel_refl w9
    walk_nrm
    repeat (first | (refine opsW_unwanted T9 rfl (by rfl) ?_; try walk_nrm) | (refine opsW_cons rfl (by rfl) ?_; intro _ hR K hK; replace hF := atRel_trans _ _ _ hF hR; clear hR; have hs9 := atRel_size hF; go_simp; refine hK _ _ ⟨?_, ?_⟩; (· rw [listed_nil (by simp [go_sem, *])]; exact dp0_nil); clear hK K hs9; try walk_nrm))
    (refine opsW_nil T9 ?_; simp only [Exit.then, Exit.inBlock])
    ((first | refine codeW_cond T9 (t := true) rfl ?_ | refine codeW_cond T9 (t := false) rfl ?_); simp only [if_true, if_false, Bool.false_eq_true, ↓reduceIte])
    (refine codeW_skip T9 ?_; simp only [Exit.then, Exit.inBlock])
    exact ⟨by trivial, _, ws, v, rfl, rfl, rfl, rfl, rfl, rfl, rfl, rfl, rfl, hk9.at hF, (atRel_cell hF _).trans hx9⟩
  · have hbt : bitW ws x.toNat = true := by
      have := hyes.2
      cases h : bitW ws x.toNat with
      | true => rfl
      | false => exact absurd h this
    have hwt : was = true := by
      have h9 := hdm.out
      rw [decide_eq_true hyes.1, hbt] at h9
      exact h9
    subst hwt
    have hq : x.toNat / 64 < ws.length := by have := hk.mm.room; omega
    have hk9 : KAt w0 n (flipW ws x.toNat) v w9 := hk.flip (by omega) (by rw [← markL_without_in hyes.1.1 hyes.1.2 hq hbt]; exact hown9) (by obtain ⟨q3, rfl⟩ := hF; exact ⟨q3, rfl⟩)
    have hx9 : w9.cell? ⟨B, 1, none⟩ = some (.int .i64 x) := (atRel_cell hF _).trans ((cell_set9 _ (by show B ≠ w0.heap.size; omega)).trans hx)
    clear hF
    have hF := atRel_refl w9
    walk_nrm
    repeat (first | (refine opsW_unwanted T9 rfl (by rfl) ?_; try walk_nrm) | (refine opsW_cons rfl (by rfl) ?_; intro _ hR K hK; replace hF := atRel_trans _ _ _ hF hR; clear hR; have hs9 := atRel_size hF; go_simp; refine hK _ _ ⟨?_, ?_⟩; (· rw [listed_nil (by simp [go_sem, *])]; exact dp0_nil); clear hK K hs9; try walk_nrm))
    (refine opsW_nil T9 ?_; simp only [Exit.then, Exit.inBlock])
    ((first | refine codeW_cond T9 (t := true) rfl ?_ | refine codeW_cond T9 (t := false) rfl ?_); simp only [if_true, if_false, Bool.false_eq_true, ↓reduceIte])
    (refine codeW_skip T9 ?_; simp only [Exit.then, Exit.inBlock])
    exact ⟨by trivial, _, flipW ws x.toNat, v, rfl, rfl, rfl, rfl, rfl, rfl, rfl, rfl, rfl, hk9.at hF, (atRel_cell hF _).trans hx9⟩
end Go.Proofs.Ytkcknoodcgmndaa
