/- Seat 05: LatchNil: the law's walk. -/
import Derived.Test.YtinghnaigpenkaaNiF
namespace Go.Proofs.Ytinghnaigpenkaa
open Go.Conc Go.RowKit Go.ConcR.Gen
open Go.ConcR (WgAt stA Payload)
set_option linter.unusedVariables false
set_option linter.unusedSimpArgs false
set_option maxRecDepth 100000
set_option maxHeartbeats 8000000
theorem cons9 {l : List Value} {n : Nat} (h : l.length = n + 1) : ∃ v r, l = v :: r ∧ r.length = n := by
  cases l with
  | nil => simp at h
  | cons v r => exact ⟨v, r, rfl, by simpa using h⟩
theorem arr77E {C : Array Value → Prop} {T : Array Value} (h : T.size = 77) (H : ∀ v0 v1 v2 v3 v4 v5 v6 v7 v8 v9 v10 v11 v12 v13 v14 v15 v16 v17 v18 v19 v20 v21 v22 v23 v24 v25 v26 v27 v28 v29 v30 v31 v32 v33 v34 v35 v36 v37 v38 v39 v40 v41 v42 v43 v44 v45 v46 v47 v48 v49 v50 v51 v52 v53 v54 v55 v56 v57 v58 v59 v60 v61 v62 v63 v64 v65 v66 v67 v68 v69 v70 v71 v72 v73 v74 v75 v76 : Value, C (List.toArray (v0 :: v1 :: v2 :: v3 :: v4 :: v5 :: v6 :: v7 :: v8 :: v9 :: v10 :: v11 :: v12 :: v13 :: v14 :: v15 :: v16 :: v17 :: v18 :: v19 :: v20 :: v21 :: v22 :: v23 :: v24 :: v25 :: v26 :: v27 :: v28 :: v29 :: v30 :: v31 :: v32 :: v33 :: v34 :: v35 :: v36 :: v37 :: v38 :: v39 :: v40 :: v41 :: v42 :: v43 :: v44 :: v45 :: v46 :: v47 :: v48 :: v49 :: v50 :: v51 :: v52 :: v53 :: v54 :: v55 :: v56 :: v57 :: v58 :: v59 :: v60 :: v61 :: v62 :: v63 :: v64 :: v65 :: v66 :: v67 :: v68 :: v69 :: v70 :: v71 :: v72 :: v73 :: v74 :: v75 :: v76 :: []))) : C T := by
  obtain ⟨l⟩ := T
  replace h : l.length = 77 := h
  have h0 := h
  clear h
  obtain ⟨v0, l, e, h1⟩ := cons9 h0
  subst e
  clear h0
  obtain ⟨v1, l, e, h2⟩ := cons9 h1
  subst e
  clear h1
  obtain ⟨v2, l, e, h3⟩ := cons9 h2
  subst e
  clear h2
  obtain ⟨v3, l, e, h4⟩ := cons9 h3
  subst e
  clear h3
  obtain ⟨v4, l, e, h5⟩ := cons9 h4
  subst e
  clear h4
  obtain ⟨v5, l, e, h6⟩ := cons9 h5
  subst e
  clear h5
  obtain ⟨v6, l, e, h7⟩ := cons9 h6
  subst e
  clear h6
  obtain ⟨v7, l, e, h8⟩ := cons9 h7
  subst e
  clear h7
  obtain ⟨v8, l, e, h9⟩ := cons9 h8
  subst e
  clear h8
  obtain ⟨v9, l, e, h10⟩ := cons9 h9
  subst e
  clear h9
  obtain ⟨v10, l, e, h11⟩ := cons9 h10
  subst e
  clear h10
  obtain ⟨v11, l, e, h12⟩ := cons9 h11
  subst e
  clear h11
  obtain ⟨v12, l, e, h13⟩ := cons9 h12
  subst e
  clear h12
  obtain ⟨v13, l, e, h14⟩ := cons9 h13
  subst e
  clear h13
  obtain ⟨v14, l, e, h15⟩ := cons9 h14
  subst e
  clear h14
  obtain ⟨v15, l, e, h16⟩ := cons9 h15
  subst e
  clear h15
  obtain ⟨v16, l, e, h17⟩ := cons9 h16
  subst e
  clear h16
  obtain ⟨v17, l, e, h18⟩ := cons9 h17
  subst e
  clear h17
  obtain ⟨v18, l, e, h19⟩ := cons9 h18
  subst e
  clear h18
  obtain ⟨v19, l, e, h20⟩ := cons9 h19
  subst e
  clear h19
  obtain ⟨v20, l, e, h21⟩ := cons9 h20
  subst e
  clear h20
  obtain ⟨v21, l, e, h22⟩ := cons9 h21
  subst e
  clear h21
  obtain ⟨v22, l, e, h23⟩ := cons9 h22
  subst e
  clear h22
  obtain ⟨v23, l, e, h24⟩ := cons9 h23
  subst e
  clear h23
  obtain ⟨v24, l, e, h25⟩ := cons9 h24
  subst e
  clear h24
  obtain ⟨v25, l, e, h26⟩ := cons9 h25
  subst e
  clear h25
  obtain ⟨v26, l, e, h27⟩ := cons9 h26
  subst e
  clear h26
  obtain ⟨v27, l, e, h28⟩ := cons9 h27
  subst e
  clear h27
  obtain ⟨v28, l, e, h29⟩ := cons9 h28
  subst e
  clear h28
  obtain ⟨v29, l, e, h30⟩ := cons9 h29
  subst e
  clear h29
  obtain ⟨v30, l, e, h31⟩ := cons9 h30
  subst e
  clear h30
  obtain ⟨v31, l, e, h32⟩ := cons9 h31
  subst e
  clear h31
  obtain ⟨v32, l, e, h33⟩ := cons9 h32
  subst e
  clear h32
  obtain ⟨v33, l, e, h34⟩ := cons9 h33
  subst e
  clear h33
  obtain ⟨v34, l, e, h35⟩ := cons9 h34
  subst e
  clear h34
  obtain ⟨v35, l, e, h36⟩ := cons9 h35
  subst e
  clear h35
  obtain ⟨v36, l, e, h37⟩ := cons9 h36
  subst e
  clear h36
  obtain ⟨v37, l, e, h38⟩ := cons9 h37
  subst e
  clear h37
  obtain ⟨v38, l, e, h39⟩ := cons9 h38
  subst e
  clear h38
  obtain ⟨v39, l, e, h40⟩ := cons9 h39
  subst e
  clear h39
  obtain ⟨v40, l, e, h41⟩ := cons9 h40
  subst e
  clear h40
  obtain ⟨v41, l, e, h42⟩ := cons9 h41
  subst e
  clear h41
  obtain ⟨v42, l, e, h43⟩ := cons9 h42
  subst e
  clear h42
  obtain ⟨v43, l, e, h44⟩ := cons9 h43
  subst e
  clear h43
  obtain ⟨v44, l, e, h45⟩ := cons9 h44
  subst e
  clear h44
  obtain ⟨v45, l, e, h46⟩ := cons9 h45
  subst e
  clear h45
  obtain ⟨v46, l, e, h47⟩ := cons9 h46
  subst e
  clear h46
  obtain ⟨v47, l, e, h48⟩ := cons9 h47
  subst e
  clear h47
  obtain ⟨v48, l, e, h49⟩ := cons9 h48
  subst e
  clear h48
  obtain ⟨v49, l, e, h50⟩ := cons9 h49
  subst e
  clear h49
  obtain ⟨v50, l, e, h51⟩ := cons9 h50
  subst e
  clear h50
  obtain ⟨v51, l, e, h52⟩ := cons9 h51
  subst e
  clear h51
  obtain ⟨v52, l, e, h53⟩ := cons9 h52
  subst e
  clear h52
  obtain ⟨v53, l, e, h54⟩ := cons9 h53
  subst e
  clear h53
  obtain ⟨v54, l, e, h55⟩ := cons9 h54
  subst e
  clear h54
  obtain ⟨v55, l, e, h56⟩ := cons9 h55
  subst e
  clear h55
  obtain ⟨v56, l, e, h57⟩ := cons9 h56
  subst e
  clear h56
  obtain ⟨v57, l, e, h58⟩ := cons9 h57
  subst e
  clear h57
  obtain ⟨v58, l, e, h59⟩ := cons9 h58
  subst e
  clear h58
  obtain ⟨v59, l, e, h60⟩ := cons9 h59
  subst e
  clear h59
  obtain ⟨v60, l, e, h61⟩ := cons9 h60
  subst e
  clear h60
  obtain ⟨v61, l, e, h62⟩ := cons9 h61
  subst e
  clear h61
  obtain ⟨v62, l, e, h63⟩ := cons9 h62
  subst e
  clear h62
  obtain ⟨v63, l, e, h64⟩ := cons9 h63
  subst e
  clear h63
  obtain ⟨v64, l, e, h65⟩ := cons9 h64
  subst e
  clear h64
  obtain ⟨v65, l, e, h66⟩ := cons9 h65
  subst e
  clear h65
  obtain ⟨v66, l, e, h67⟩ := cons9 h66
  subst e
  clear h66
  obtain ⟨v67, l, e, h68⟩ := cons9 h67
  subst e
  clear h67
  obtain ⟨v68, l, e, h69⟩ := cons9 h68
  subst e
  clear h68
  obtain ⟨v69, l, e, h70⟩ := cons9 h69
  subst e
  clear h69
  obtain ⟨v70, l, e, h71⟩ := cons9 h70
  subst e
  clear h70
  obtain ⟨v71, l, e, h72⟩ := cons9 h71
  subst e
  clear h71
  obtain ⟨v72, l, e, h73⟩ := cons9 h72
  subst e
  clear h72
  obtain ⟨v73, l, e, h74⟩ := cons9 h73
  subst e
  clear h73
  obtain ⟨v74, l, e, h75⟩ := cons9 h74
  subst e
  clear h74
  obtain ⟨v75, l, e, h76⟩ := cons9 h75
  subst e
  clear h75
  obtain ⟨v76, l, e, h77⟩ := cons9 h76
  subst e
  clear h76
  obtain rfl : l = [] := List.length_eq_zero_iff.1 h77
  exact H v0 v1 v2 v3 v4 v5 v6 v7 v8 v9 v10 v11 v12 v13 v14 v15 v16 v17 v18 v19 v20 v21 v22 v23 v24 v25 v26 v27 v28 v29 v30 v31 v32 v33 v34 v35 v36 v37 v38 v39 v40 v41 v42 v43 v44 v45 v46 v47 v48 v49 v50 v51 v52 v53 v54 v55 v56 v57 v58 v59 v60 v61 v62 v63 v64 v65 v66 v67 v68 v69 v70 v71 v72 v73 v74 v75 v76

























theorem latchNil_X {Post : Value → World → Prop} (l : List Int) (Al : Option Addr) (cap db off : Nat) (nn : Int) (w : World) (hat : 0 < l.length → Al = some ⟨db, off, none⟩) (hdata : ∀ q x, l[q]? = some x → w.cell? ⟨db, off + q, none⟩ = some (.int .u64 x)) :
    CallX Try.prog Post 7 #[.slice Al l.length cap, .int .i64 nn] w ⟨blkS (fun _ => False), 1, 0⟩ (fun v w' x' => v = .bool true ∧ Below w.heap.size w w' ∧ x'.d = 0) := by
  have ev9 := fun (p : Option Addr) (w : World) => ev_eql_nil (P := Try.prog) Try.underlying23 p w
  refine ⟨_, _, Try.func7, by kernel_rfl, rfl, ?_⟩
  simp only [Try.ntmps7]
  walk_nrm
  have hF := atRel_refl w
  generalize hL : l.length = len
  replace hL := Lib.hid hL
  have nS : ∀ k i, w.heap.size ≤ k → ¬ blkS (fun _ => False) (.cell ⟨k, i, none⟩) := fun k i _ ⟨_, _, h⟩ => h
  (refine codeX_seq ?_)
  (refine codeX_region ?_; simp only [List.size_toArray, List.length_cons, List.length_nil, Nat.reduceAdd, Nat.zero_add, List.range, List.range.loop])
  (repeat (first | (refine opsX_unwanted rfl (by rfl) ?_; try walk_nrm) | (refine opsX_cons rfl (by rfl) ?_; intro _ hR K hK; replace hF := atRel_trans _ _ _ hF hR; clear hR; have hs9 := atRel_size hF; go_simp; refine hK _ _ ⟨?_, ?_⟩; (· rw [listed_nil (by simp [go_sem, ev_max, ev_min, *])]; exact dp0_nil); clear hK K hs9; try walk_nrm)))
  (refine opsX_nil ?_; simp only [Exit.thenX])
  (refine codeX_seq ?_)
  by_cases h60 : len ≤ 60
  rotate_left
  · have e9 : decide ((60 : Int) < (len : Int)) = true := decide_eq_true (by omega)
    (refine codeX_seq ?_)
    (refine codeX_region ?_; simp only [List.size_toArray, List.length_cons, List.length_nil, Nat.reduceAdd, Nat.zero_add, List.range, List.range.loop])
    (repeat (first | (refine opsX_unwanted rfl (by rfl) ?_; try walk_nrm) | (refine opsX_cons rfl (by rfl) ?_; intro _ hR K hK; replace hF := atRel_trans _ _ _ hF hR; clear hR; have hs9 := atRel_size hF; go_simp; refine hK _ _ ⟨?_, ?_⟩; (· rw [listed_nil (by simp [go_sem, ev_max, ev_min, *])]; exact dp0_nil); clear hK K hs9; try walk_nrm)))
    (refine opsX_nil ?_; simp only [Exit.thenX])
    ((first | refine codeX_cond (t := true) rfl ?_ | refine codeX_cond (t := false) rfl ?_); simp only [if_true, if_false, Bool.false_eq_true, ↓reduceIte])
    (refine codeX_seq ?_)
    (refine codeX_region ?_; simp only [List.size_toArray, List.length_cons, List.length_nil, Nat.reduceAdd, Nat.zero_add, List.range, List.range.loop])
    refine opsX_call rfl (by rfl) rfl ?_ ?_ (Pos := fun v' w' x' => x' = ⟨blkS (fun _ => False), 1, 0⟩ ∧ v' = .bool true ∧ Below w.heap.size w w')
    · walk_nrm
      exact callX_rely hF (awake5_X w nS)
    rintro _ w7 x' ⟨rfl, rfl, hB7⟩
    clear hF
    have hF := atRel_refl w7
    replace hB7 := Lib.hid hB7
    walk_nrm
    (repeat (first | (refine opsX_unwanted rfl (by rfl) ?_; try walk_nrm) | (refine opsX_cons rfl (by rfl) ?_; intro _ hR K hK; replace hF := atRel_trans _ _ _ hF hR; clear hR; have hs9 := atRel_size hF; go_simp; refine hK _ _ ⟨?_, ?_⟩; (· rw [listed_nil (by simp [go_sem, ev_max, ev_min, *])]; exact dp0_nil); clear hK K hs9; try walk_nrm)))
    (refine opsX_nil ?_; simp only [Exit.thenX])
    (refine codeX_of ?_; refine codeW_ret (termsP _) ?_)
    exact ⟨rfl, _, resultsC_tmp rfl _, rfl, atRel_below hF hB7.out, rfl⟩
  have e9 : decide ((60 : Int) < (len : Int)) = false := decide_eq_false (by omega)
  (refine codeX_seq ?_)
  (refine codeX_region ?_; simp only [List.size_toArray, List.length_cons, List.length_nil, Nat.reduceAdd, Nat.zero_add, List.range, List.range.loop])
  (repeat (first | (refine opsX_unwanted rfl (by rfl) ?_; try walk_nrm) | (refine opsX_cons rfl (by rfl) ?_; intro _ hR K hK; replace hF := atRel_trans _ _ _ hF hR; clear hR; have hs9 := atRel_size hF; go_simp; refine hK _ _ ⟨?_, ?_⟩; (· rw [listed_nil (by simp [go_sem, ev_max, ev_min, *])]; exact dp0_nil); clear hK K hs9; try walk_nrm)))
  (refine opsX_nil ?_; simp only [Exit.thenX])
  ((first | refine codeX_cond (t := true) rfl ?_ | refine codeX_cond (t := false) rfl ?_); simp only [if_true, if_false, Bool.false_eq_true, ↓reduceIte])
  (refine codeX_of ?_; refine codeW_skip (termsP _) ?_; simp only [Exit.thenX])
  clear e9
  (refine codeX_seq ?_)
  (refine codeX_region ?_; simp only [List.size_toArray, List.length_cons, List.length_nil, Nat.reduceAdd, Nat.zero_add, List.range, List.range.loop])
  (repeat (first | (refine opsX_unwanted rfl (by rfl) ?_; try walk_nrm) | (refine opsX_cons rfl (by rfl) ?_; intro _ hR K hK; replace hF := atRel_trans _ _ _ hF hR; clear hR; have hs9 := atRel_size hF; go_simp; refine hK _ _ ⟨?_, ?_⟩; (· rw [listed_nil (by simp [go_sem, ev_max, ev_min, *])]; exact dp0_nil); clear hK K hs9; try walk_nrm)))
  (refine opsX_nil ?_; simp only [Exit.thenX])
  (refine codeX_seq ?_)
  (refine codeX_region ?_; simp only [List.size_toArray, List.length_cons, List.length_nil, Nat.reduceAdd, Nat.zero_add, List.range, List.range.loop])
  (repeat (first | (refine opsX_unwanted rfl (by rfl) ?_; try walk_nrm) | (refine opsX_cons rfl (by rfl) ?_; intro _ hR K hK; replace hF := atRel_trans _ _ _ hF hR; clear hR; have hs9 := atRel_size hF; go_simp; refine hK _ _ ⟨?_, ?_⟩; (· rw [listed_nil (by simp [go_sem, ev_max, ev_min, *])]; exact dp0_nil); clear hK K hs9; try walk_nrm)))
  (refine opsX_nil ?_; simp only [Exit.thenX])
  (refine codeX_seq ?_)
  (refine codeX_region ?_; simp only [List.size_toArray, List.length_cons, List.length_nil, Nat.reduceAdd, Nat.zero_add, List.range, List.range.loop])
  (refine opsX_cons rfl (by rfl) ?_; intro _ hR K hK; replace hF := atRel_trans _ _ _ hF hR; clear hR; have hs9 := atRel_size hF; go_simp; refine hK _ _ ⟨?_, ?_⟩; (· rw [listed_nil (by simp [go_sem, ev_max, ev_min, *])]; exact dp0_nil); clear hK K hs9; try walk_nrm)
  refine opsX_callW rfl (by rfl) rfl ?_ ?_ (Pos := fun r w' => r = .tuple #[.int .u64 0, .bool false] ∧ AtRel w w')
  · walk_nrm
    exact CallsW.rely (termsP _) (getNil_W w) hF
  rintro _ w1 ⟨rfl, hF'⟩
  clear hF
  have hF := hF'
  clear hF'
  walk_nrm
  (repeat (first | (refine opsX_unwanted rfl (by rfl) ?_; try walk_nrm) | (refine opsX_cons rfl (by rfl) ?_; intro _ hR K hK; replace hF := atRel_trans _ _ _ hF hR; clear hR; have hs9 := atRel_size hF; go_simp; refine hK _ _ ⟨?_, ?_⟩; (· rw [listed_nil (by simp [go_sem, ev_max, ev_min, *])]; exact dp0_nil); clear hK K hs9; try walk_nrm)))
  (refine opsX_nil ?_; simp only [Exit.thenX])
  (refine codeX_seq ?_)
  (refine codeX_region ?_; simp only [List.size_toArray, List.length_cons, List.length_nil, Nat.reduceAdd, Nat.zero_add, List.range, List.range.loop])
  (refine opsX_cons rfl (by rfl) ?_; intro _ hR K hK; replace hF := atRel_trans _ _ _ hF hR; clear hR; have hs9 := atRel_size hF; go_simp; refine hK _ _ ⟨?_, ?_⟩; (· rw [listed_nil (by simp [go_sem, ev_max, ev_min, *])]; exact dp0_nil); clear hK K hs9; try walk_nrm)
  (refine opsX_cons rfl (by rfl) ?_; intro _ hR K hK; replace hF := atRel_trans _ _ _ hF hR; clear hR; have hs9 := atRel_size hF; go_simp; refine hK _ _ ⟨?_, ?_⟩; (· rw [listed_nil (by simp [go_sem, ev_max, ev_min, *])]; exact dp0_nil); clear hK K hs9; try walk_nrm)
  obtain ⟨many, hmany⟩ : ∃ many : Nat, (many : Int) = min (max nn 0) 64 := ⟨(min (max nn 0) 64).toNat, by omega⟩
  replace hmany := Lib.hid hmany
  refine opsX_call rfl (by rfl) rfl ?_ ?_ (Pos := fun v w' x' => v = .slice (some ⟨w.heap.size + 1, 0, none⟩) many many ∧ x' = ⟨blkS fun b => b = w.heap.size + 4 ∨ False, 1 + many, 0⟩ ∧ w'.heap[w.heap.size + 1]? = some (.cells (Array.replicate many (.int .u64 0)) 25) ∧ Below w.heap.size w w' ∧ w.heap.size + 5 ≤ w'.heap.size)
  · walk_nrm
    exact callX_rely hF (rushNil_X nn many hmany.out w (by omega) (fun b h => h.elim))
  rintro _ w2 x' ⟨rfl, rfl, hO, hB2, hs2⟩
  clear hF nS
  have hF := atRel_refl w2
  replace hB2 := Lib.hid hB2
  replace hO := Lib.hid hO
  replace hs2 := Lib.hid hs2
  walk_nrm
  (repeat (first | (refine opsX_unwanted rfl (by rfl) ?_; try walk_nrm) | (refine opsX_cons rfl (by rfl) ?_; intro _ hR K hK; replace hF := atRel_trans _ _ _ hF hR; clear hR; have hs9 := atRel_size hF; go_simp; refine hK _ _ ⟨?_, ?_⟩; (· rw [listed_nil (by simp [go_sem, ev_max, ev_min, *])]; exact dp0_nil); clear hK K hs9; try walk_nrm)))
  (refine opsX_nil ?_; simp only [Exit.thenX])
  have T9 := termsP (blkS fun b => b = w.heap.size + 4 ∨ False)
  (refine codeX_seq ?_)
  refine codeX_of ?_
  (refine codeW_seq T9 ?_)
  (refine codeW_region T9 ?_; simp only [List.size_toArray, List.length_cons, List.length_nil, Nat.reduceAdd, Nat.zero_add, List.range, List.range.loop])
  (repeat (refine opsW_cons rfl (by rfl) ?_; intro _ hR K hK; replace hF := atRel_trans _ _ _ hF hR; clear hR; have hs9 := atRel_size hF; go_simp; refine hK _ _ ⟨?_, ?_⟩; (· rw [listed_nil (by simp [go_sem, *])]; exact dp0_nil); clear hK K hs9; try walk_nrm))
  (refine opsW_nil T9 ?_; simp only [Exit.then])
  (refine codeW_block T9 ?_)
  generalize hgs : w.heap.size = s at hB2 hO hs2 T9 hF ⊢
  replace hgs := Lib.hid hgs
  have hm64 : many ≤ 64 := by have := hmany.out; omega
  refine codeW_loop T9 (fun a' w' => ∃ (T : Array Value) (j : Nat), a' = ⟨T, []⟩ ∧ T.size = 77 ∧ T[0]? = some (.slice Al len cap) ∧ T[1]? = some (.int .i64 nn) ∧ T[5]? = some (.pointer none) ∧ T[6]? = some (.pointer none) ∧ T[7]? = some (.int .u64 0) ∧ T[8]? = some (.bool false) ∧ T[9]? = some (.slice (some ⟨s + 1, 0, none⟩) many many) ∧ T[10]? = some (.int .i64 j) ∧ j ≤ many ∧ AtRel w2 w')
    (fun a _ => match a.tmps.getD 10 undef with | .int _ i => ((many : Int) - i).toNat | _ => 0) ⟨_, 0, rfl, rfl, rfl, rfl, rfl, rfl, rfl, rfl, rfl, rfl, Nat.zero_le _, hF⟩ ?_
  clear hF
  rintro _ w3 ⟨T, j, rfl, hT, t0, t1, t5, t6, t7, t8, t9, t10, hj, hr⟩
  revert t0 t1 t5 t6 t7 t8 t9 t10
  apply arr77E hT
  intro v0 v1 v2 v3 v4 v5 v6 v7 v8 v9 v10 v11 v12 v13 v14 v15 v16 v17 v18 v19 v20 v21 v22 v23 v24 v25 v26 v27 v28 v29 v30 v31 v32 v33 v34 v35 v36 v37 v38 v39 v40 v41 v42 v43 v44 v45 v46 v47 v48 v49 v50 v51 v52 v53 v54 v55 v56 v57 v58 v59 v60 v61 v62 v63 v64 v65 v66 v67 v68 v69 v70 v71 v72 v73 v74 v75 v76 t0 t1 t5 t6 t7 t8 t9 t10
  simp only [List.getElem?_toArray, List.getElem?_cons_succ, List.getElem?_cons_zero, Option.some.injEq] at t0 t1 t5 t6 t7 t8 t9 t10
  subst t0 t1 t5 t6 t7 t8 t9 t10
  clear hT
  have hF := atRel_refl w3
  replace hr := Lib.hid hr
  by_cases hl : j < many
  · have e9 : decide ((j : Int) < (many : Int)) = true := decide_eq_true (by omega)
    have q1 : (j : Int) < (many : Int) := by omega
    have d7 : IntKind.i64.wrap ((j : Int) + 1) = (j : Int) + 1 := by rw [IntKind.wrap_i64]; omega
    have ad9 : (if j = 0 then (⟨s + 1, 0, none⟩ : Addr) else ⟨s + 1, 0 + j, none⟩) = ⟨s + 1, j, none⟩ := by
      by_cases h : j = 0
      · subst h; rfl
      · rw [if_neg h, Nat.zero_add]
    have ad8 : (if j = 0 then (⟨s + 1, 0, none⟩ : Addr) else ⟨s + 1, j, none⟩) = ⟨s + 1, j, none⟩ := by
      by_cases h : j = 0
      · subst h; rfl
      · rw [if_neg h]
    have hk : w3.cell? ⟨s + 1, j, none⟩ = some (.int .u64 0) := by
      rw [atRel_cell hr.out]
      simp [World.cell?, hO.out, hl]
    replace hk := Lib.hid hk
    (repeat (first | (refine codeW_seq T9 ?_) | (refine codeW_region T9 ?_; simp only [List.size_toArray, List.length_cons, List.length_nil, Nat.reduceAdd, Nat.zero_add, List.range, List.range.loop]) | (refine opsW_nil T9 ?_; simp only [Exit.then]) | (refine codeW_skip T9 ?_; simp only [Exit.then, Exit.inBlock, Exit.thenX]) | ((first | refine codeW_cond T9 (t := true) rfl ?_ | refine codeW_cond T9 (t := false) rfl ?_); simp only [if_true, if_false, Bool.false_eq_true, ↓reduceIte]) | (refine opsW_unwanted T9 rfl (by rfl) ?_; try walk_nrm) | (refine opsW_cons rfl (by rfl) ?_; intro _ hR K hK; replace hF := atRel_trans _ _ _ hF hR; clear hR; have hs9 := atRel_size hF; go_simp; refine hK _ _ ⟨?_, ?_⟩; (· rw [listed_nil (by simp [go_sem, *])]; exact dp0_nil); clear hK K hs9; try walk_nrm) | (refine codeW_block T9 ?_)))
    (have hc1 := hk.out; have hS9 : ¬ blkS (fun b => b = s + 4 ∨ False) (.cell ⟨s + 1, j, none⟩) := (by
      rintro ⟨a, e, h⟩
      injection e with e
      subst e
      rcases h with h | h
      · simp only at h; omega
      · exact h); (refine opsW_cons rfl (by rfl) ?_; intro _ hR K hK; replace hF := atRel_trans _ _ _ hF hR; clear hR; have hl9 := (atRel_cell hF _).trans hc1; go_simp; refine hK _ _ ⟨?_, ?_⟩; (· intro e he; have hm := mem_listed he; simp [go_sem, hl9] at hm; rw [hm]; exact evP_cell _ hS9); clear hK K hl9 hc1 hS9; try walk_nrm))
    (repeat (first | (refine codeW_seq T9 ?_) | (refine codeW_region T9 ?_; simp only [List.size_toArray, List.length_cons, List.length_nil, Nat.reduceAdd, Nat.zero_add, List.range, List.range.loop]) | (refine opsW_nil T9 ?_; simp only [Exit.then]) | (refine codeW_skip T9 ?_; simp only [Exit.then, Exit.inBlock, Exit.thenX]) | ((first | refine codeW_cond T9 (t := true) rfl ?_ | refine codeW_cond T9 (t := false) rfl ?_); simp only [if_true, if_false, Bool.false_eq_true, ↓reduceIte]) | (refine opsW_unwanted T9 rfl (by rfl) ?_; try walk_nrm) | (refine opsW_cons rfl (by rfl) ?_; intro _ hR K hK; replace hF := atRel_trans _ _ _ hF hR; clear hR; have hs9 := atRel_size hF; go_simp; refine hK _ _ ⟨?_, ?_⟩; (· rw [listed_nil (by simp [go_sem, *])]; exact dp0_nil); clear hK K hs9; try walk_nrm) | (refine codeW_block T9 ?_)))
    refine ⟨⟨_, j + 1, rfl, rfl, rfl, rfl, rfl, rfl, rfl, rfl, rfl, rfl, by omega, atRel_trans _ _ _ hr.out hF⟩, ?_⟩
    simp
    omega
  · have e9 : decide ((j : Int) < (many : Int)) = false := decide_eq_false (by omega)
    obtain rfl : j = many := by omega
    (repeat (first | (refine codeW_seq T9 ?_) | (refine codeW_region T9 ?_; simp only [List.size_toArray, List.length_cons, List.length_nil, Nat.reduceAdd, Nat.zero_add, List.range, List.range.loop]) | (refine opsW_nil T9 ?_; simp only [Exit.then]) | (refine codeW_skip T9 ?_; simp only [Exit.then, Exit.inBlock, Exit.thenX]) | ((first | refine codeW_cond T9 (t := true) rfl ?_ | refine codeW_cond T9 (t := false) rfl ?_); simp only [if_true, if_false, Bool.false_eq_true, ↓reduceIte]) | (refine opsW_unwanted T9 rfl (by rfl) ?_; try walk_nrm) | (refine opsW_cons rfl (by rfl) ?_; intro _ hR K hK; replace hF := atRel_trans _ _ _ hF hR; clear hR; have hs9 := atRel_size hF; go_simp; refine hK _ _ ⟨?_, ?_⟩; (· rw [listed_nil (by simp [go_sem, *])]; exact dp0_nil); clear hK K hs9; try walk_nrm) | (refine codeW_block T9 ?_)))
    (refine codeW_exit T9 ?_; simp only [Exit.then, Exit.inBlock, Exit.thenX, if_true, if_false, reduceIte, Nat.reduceEqDiff])
    rename_i w9
    have hBr := atRel_below (atRel_trans _ _ _ hr.out hF) hB2.out
    have hz3 := atRel_size (atRel_trans _ _ _ hr.out hF)
    have hs := hs2.out
    obtain rfl := hL.out
    refine codeX_mono (nilEnd (Post := Post) (d := fun b => b = s + 4 ∨ False) (n := 1 + j) l Al cap db off j nn (some ⟨s + 1, 0, none⟩) hmany.out h60 w9 (by omega) (fun b hb => by rcases hb with hb | hb; omega; exact hb.elim) (fun hp => ⟨hat hp, by
      have hx : ∃ x, l[0]? = some x := ⟨_, List.getElem?_eq_getElem hp⟩
      obtain ⟨x, hx⟩ := hx
      have := World.block_lt_of_cell? w _ (hdata 0 x hx)
      have hh := hgs.out
      rintro (h | h)
      · simp only at this; omega
      · exact h⟩) (fun q x hx => by
      have hx' := hdata q x hx
      have hh := hgs.out
      have := World.block_lt_of_cell? w _ hx'
      rw [hBr.cell (p := ⟨db, off + q, none⟩) (by simp only at this ⊢; omega)]
      exact hx') _ _ _ _ _ _ _ _ _ _ _ _ _ _ _ _ _ _ _ _ _ _ _ _ _ _ _ _ _ _ _ _ _ _ _ _ _ _ _ _ _ _ _ _ _ _ _ _ _ _ _ _ _ _ _ _ _ _ _ _ _ _ _ _ _ _ _ _ _ _) fun e a w5 x5 q => ?_
    have up : ∀ (v : Value) (w5 : World) (x5 : XS), (v = .bool true ∧ Below w9.heap.size w9 w5 ∧ x5.d = 0) → (v = .bool true ∧ Below s w w5 ∧ x5.d = 0) := fun v w5 x5 h => ⟨h.1, hBr.trans (h.2.1.mono (by omega)), h.2.2⟩
    cases e <;> first | exact ⟨q.1, q.2.choose, q.2.choose_spec.1, up _ _ _ q.2.choose_spec.2⟩ | exact q
end Go.Proofs.Ytinghnaigpenkaa
