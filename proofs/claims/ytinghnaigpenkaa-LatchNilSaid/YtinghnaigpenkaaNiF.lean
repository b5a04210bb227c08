/- Seat 05: no latch, no lazy value: the calls of goroutine 0; the law's end. -/
import Derived.Test.YtinghnaigpenkaaNiE
namespace Go.Proofs.Ytinghnaigpenkaa
open Go.Conc Go.RowKit Go.ConcR.Gen
open Go.ConcR (WgAt stA Payload)
set_option linter.unusedVariables false
set_option linter.unusedSimpArgs false
set_option maxRecDepth 100000
set_option maxHeartbeats 8000000






















section
variable {S : Loc → Prop}
theorem lzGetNil_W (w : World) : CW S 18 #[.pointer none] w (fun r w' => r = .int .u64 0 ∧ AtRel w w') := by
  have T9 := termsP S
  have ev9 := fun (p : Option Addr) (w : World) => ev_eql_nil (P := Try.prog) Try.underlying39 p w
  refine callsW_enter Try.func18 (by kernel_rfl) rfl ?_
  simp only [Try.ntmps18]
  walk_nrm
  have hF := atRel_refl w
  (repeat (first | (refine codeW_seq T9 ?_) | (refine codeW_region T9 ?_; simp only [List.size_toArray, List.length_cons, List.length_nil, Nat.reduceAdd, Nat.zero_add, List.range, List.range.loop]) | (refine opsW_nil T9 ?_; simp only [Exit.then]) | (refine codeW_skip T9 ?_; simp only [Exit.then, Exit.inBlock, Exit.thenX]) | ((first | refine codeW_cond T9 (t := true) rfl ?_ | refine codeW_cond T9 (t := false) rfl ?_); simp only [if_true, if_false, Bool.false_eq_true, ↓reduceIte]) | (refine opsW_unwanted T9 rfl (by rfl) ?_; try walk_nrm) | (refine opsW_cons rfl (by rfl) ?_; intro _ hR K hK; replace hF := atRel_trans _ _ _ hF hR; clear hR; have hs9 := atRel_size hF; go_simp; refine hK _ _ ⟨?_, ?_⟩; (· rw [listed_nil (by simp [go_sem, *])]; exact dp0_nil); clear hK K hs9; try walk_nrm)))
  (refine codeW_ret T9 ?_)
  exact ⟨rfl, _, resultsC_tmp rfl _, rfl, hF⟩
theorem runsNil_W (w : World) : CW S 17 #[.pointer none] w (fun r w' => r = .int .i64 0 ∧ AtRel w w') := by
  have T9 := termsP S
  have ev9 := fun (p : Option Addr) (w : World) => ev_eql_nil (P := Try.prog) Try.underlying39 p w
  refine callsW_enter Try.func17 (by kernel_rfl) rfl ?_
  simp only [Try.ntmps17]
  walk_nrm
  have hF := atRel_refl w
  (repeat (first | (refine codeW_seq T9 ?_) | (refine codeW_region T9 ?_; simp only [List.size_toArray, List.length_cons, List.length_nil, Nat.reduceAdd, Nat.zero_add, List.range, List.range.loop]) | (refine opsW_nil T9 ?_; simp only [Exit.then]) | (refine codeW_skip T9 ?_; simp only [Exit.then, Exit.inBlock, Exit.thenX]) | ((first | refine codeW_cond T9 (t := true) rfl ?_ | refine codeW_cond T9 (t := false) rfl ?_); simp only [if_true, if_false, Bool.false_eq_true, ↓reduceIte]) | (refine opsW_unwanted T9 rfl (by rfl) ?_; try walk_nrm) | (refine opsW_cons rfl (by rfl) ?_; intro _ hR K hK; replace hF := atRel_trans _ _ _ hF hR; clear hR; have hs9 := atRel_size hF; go_simp; refine hK _ _ ⟨?_, ?_⟩; (· rw [listed_nil (by simp [go_sem, *])]; exact dp0_nil); clear hK K hs9; try walk_nrm)))
  (refine codeW_ret T9 ?_)
  exact ⟨rfl, _, resultsC_tmp rfl _, rfl, hF⟩
theorem getNil_W (w : World) : CW S 11 #[.pointer none] w (fun r w' => r = .tuple #[.int .u64 0, .bool false] ∧ AtRel w w') := by
  have T9 := termsP S
  have ev9 := fun (p : Option Addr) (w : World) => ev_eql_nil (P := Try.prog) Try.underlying23 p w
  refine callsW_enter Try.func11 (by kernel_rfl) rfl ?_
  simp only [Try.ntmps11]
  walk_nrm
  have hF := atRel_refl w
  (repeat (first | (refine codeW_seq T9 ?_) | (refine codeW_region T9 ?_; simp only [List.size_toArray, List.length_cons, List.length_nil, Nat.reduceAdd, Nat.zero_add, List.range, List.range.loop]) | (refine opsW_nil T9 ?_; simp only [Exit.then]) | (refine codeW_skip T9 ?_; simp only [Exit.then, Exit.inBlock, Exit.thenX]) | ((first | refine codeW_cond T9 (t := true) rfl ?_ | refine codeW_cond T9 (t := false) rfl ?_); simp only [if_true, if_false, Bool.false_eq_true, ↓reduceIte]) | (refine opsW_unwanted T9 rfl (by rfl) ?_; try walk_nrm) | (refine opsW_cons rfl (by rfl) ?_; intro _ hR K hK; replace hF := atRel_trans _ _ _ hF hR; clear hR; have hs9 := atRel_size hF; go_simp; refine hK _ _ ⟨?_, ?_⟩; (· rw [listed_nil (by simp [go_sem, *])]; exact dp0_nil); clear hK K hs9; try walk_nrm)))
  (refine codeW_ret T9 ?_)
  exact ⟨rfl, _, resultsC_tmp2 rfl _, rfl, hF⟩
theorem orNil_W (x : Int) (w : World) : CW S 12 #[.pointer none, .int .u64 x] w (fun r w' => r = .int .u64 0 ∧ AtRel w w') := by
  have T9 := termsP S
  have ev9 := fun (p : Option Addr) (w : World) => ev_eql_nil (P := Try.prog) Try.underlying23 p w
  refine callsW_enter Try.func12 (by kernel_rfl) rfl ?_
  simp only [Try.ntmps12]
  walk_nrm
  have hF := atRel_refl w
  (repeat (first | (refine codeW_seq T9 ?_) | (refine codeW_region T9 ?_; simp only [List.size_toArray, List.length_cons, List.length_nil, Nat.reduceAdd, Nat.zero_add, List.range, List.range.loop]) | (refine opsW_nil T9 ?_; simp only [Exit.then]) | (refine codeW_skip T9 ?_; simp only [Exit.then, Exit.inBlock, Exit.thenX]) | ((first | refine codeW_cond T9 (t := true) rfl ?_ | refine codeW_cond T9 (t := false) rfl ?_); simp only [if_true, if_false, Bool.false_eq_true, ↓reduceIte]) | (refine opsW_unwanted T9 rfl (by rfl) ?_; try walk_nrm) | (refine opsW_cons rfl (by rfl) ?_; intro _ hR K hK; replace hF := atRel_trans _ _ _ hF hR; clear hR; have hs9 := atRel_size hF; go_simp; refine hK _ _ ⟨?_, ?_⟩; (· rw [listed_nil (by simp [go_sem, *])]; exact dp0_nil); clear hK K hs9; try walk_nrm)))
  (refine codeW_ret T9 ?_)
  exact ⟨rfl, _, resultsC_tmp rfl _, rfl, hF⟩
theorem setNil_W (x : Int) (w : World) (hS : ∀ k i, w.heap.size ≤ k → ¬ S (.cell ⟨k, i, none⟩)) : CW S 10 #[.pointer none, .int .u64 x] w (fun r w' => r = .bool false ∧ Below w.heap.size w w') := by
  have T9 := termsP S
  have ev9 := fun (p : Option Addr) (w : World) => ev_eql_nil (P := Try.prog) Try.underlying23 p w
  refine callsW_enter Try.func10 (by kernel_rfl) rfl ?_
  simp only [Try.ntmps10]
  walk_nrm
  have hF := atRel_refl w
  have hB : Below w.heap.size w ((w.alloc (.cells #[.pointer none] 23)).alloc (.cells #[.int .u64 x] 25)) := ((Below.refl _ _).alloc (Nat.le_refl _) _).alloc (by simp) _
  have hc : ((w.alloc (.cells #[.pointer none] 23)).alloc (.cells #[.int .u64 x] 25)).cell? ⟨w.heap.size, 0, none⟩ = some (.pointer none) := ((Blk.new w 23 #[.pointer none]).alloc (.cells #[.int .u64 x] 25)).cell 0
  (refine codeW_seq T9 ?_)
  (refine codeW_region T9 ?_; simp only [List.size_toArray, List.length_cons, List.length_nil, Nat.reduceAdd, Nat.zero_add, List.range, List.range.loop])
  replace hB := Lib.hid hB
  replace hc := Lib.hid hc
  (refine opsW_cons rfl (by rfl) ?_; intro _ hR K hK; replace hF := atRel_trans _ _ _ hF hR; clear hR; have hs9 := atRel_size hF; go_simp; refine hK _ _ ⟨?_, ?_⟩; (· rw [listed_nil (by simp [go_sem, *])]; exact dp0_nil); clear hK K hs9; try walk_nrm)
  replace hF := atRel_alloc hF (.cells #[.pointer none] 23)
  (refine opsW_cons rfl (by rfl) ?_; intro _ hR K hK; replace hF := atRel_trans _ _ _ hF hR; clear hR; have hs9 := atRel_size hF; go_simp; refine hK _ _ ⟨?_, ?_⟩; (· rw [listed_nil (by simp [go_sem, *])]; exact dp0_nil); clear hK K hs9; try walk_nrm)
  replace hF := atRel_alloc hF (.cells #[.int .u64 x] 25)
  (refine opsW_cons rfl (by rfl) ?_; intro _ hR K hK; replace hF := atRel_trans _ _ _ hF hR; clear hR; have hs9 := atRel_size hF; go_simp; refine hK _ _ ⟨?_, ?_⟩; (· rw [listed_nil (by simp [go_sem, *])]; exact dp0_nil); clear hK K hs9; try walk_nrm)
  (refine opsW_nil T9 ?_; simp only [Exit.then])
  generalize (w.alloc (.cells #[.pointer none] 23)).alloc (.cells #[.int .u64 x] 25) = W2 at hF hB hc
  (refine codeW_seq T9 ?_)
  (refine codeW_seq T9 ?_)
  (refine codeW_region T9 ?_; simp only [List.size_toArray, List.length_cons, List.length_nil, Nat.reduceAdd, Nat.zero_add, List.range, List.range.loop])
  (refine opsW_cons rfl (by rfl) ?_; intro _ hR K hK; replace hF := atRel_trans _ _ _ hF hR; clear hR; have hl9 := (atRel_cell hF _).trans hc.out; go_simp; refine hK _ _ ⟨?_, ?_⟩; (· intro e he; have hm := mem_listed he; simp [go_sem, hl9] at hm; rw [hm]; exact evP_cell _ (hS _ _ (Nat.le_refl _))); clear hK K hl9; try walk_nrm)
  (refine opsW_cons rfl (by rfl) ?_; intro _ hR K hK; replace hF := atRel_trans _ _ _ hF hR; clear hR; have hs9 := atRel_size hF; go_simp; refine hK _ _ ⟨?_, ?_⟩; (· rw [listed_nil (by simp [go_sem, *])]; exact dp0_nil); clear hK K hs9; try walk_nrm)
  (refine opsW_nil T9 ?_; simp only [Exit.then])
  ((first | refine codeW_cond T9 (t := true) rfl ?_ | refine codeW_cond T9 (t := false) rfl ?_); simp only [if_true, if_false, Bool.false_eq_true, ↓reduceIte])
  (refine codeW_seq T9 ?_)
  (refine codeW_region T9 ?_; simp only [List.size_toArray, List.length_cons, List.length_nil, Nat.reduceAdd, Nat.zero_add, List.range, List.range.loop])
  (refine opsW_cons rfl (by rfl) ?_; intro _ hR K hK; replace hF := atRel_trans _ _ _ hF hR; clear hR; have hs9 := atRel_size hF; go_simp; refine hK _ _ ⟨?_, ?_⟩; (· rw [listed_nil (by simp [go_sem, *])]; exact dp0_nil); clear hK K hs9; try walk_nrm)
  (refine opsW_nil T9 ?_; simp only [Exit.then])
  (refine codeW_ret T9 ?_)
  exact ⟨rfl, _, resultsC_tmp rfl _, rfl, atRel_below hF hB.out⟩
end
noncomputable def endL : Code := match (Try.f7.body.getD .skip) with
  | .seq _ (.seq _ (.seq _ (.seq _ (.seq _ (.seq _ (.seq _ t)))))) => t
  | _ => .skip
theorem nilEnd {Post : Value → World → Prop} {d : Nat → Prop} {n : Nat} (l : List Int) (Al : Option Addr) (cap db off many : Nat) (nn : Int) (O : Option Addr) (hmany : (many : Int) = min (max nn 0) 64) (hl : l.length ≤ 60) (w : World) (hn : 0 < n) (hd : ∀ b, d b → b < w.heap.size)
    (hat : 0 < l.length → Al = some ⟨db, off, none⟩ ∧ ¬ d db) (hdata : ∀ q x, l[q]? = some x → w.cell? ⟨db, off + q, none⟩ = some (.int .u64 x)) (v2 v3 v4 v10 v11 v12 v13 v14 v15 v16 v17 v18 v19 v20 v21 v22 v23 v24 v25 v26 v27 v28 v29 v30 v31 v32 v33 v34 v35 v36 v37 v38 v39 v40 v41 v42 v43 v44 v45 v46 v47 v48 v49 v50 v51 v52 v53 v54 v55 v56 v57 v58 v59 v60 v61 v62 v63 v64 v65 v66 v67 v68 v69 v70 v71 v72 v73 v74 v75 v76 : Value) :
    CodeX Try.prog Post 7 endL (fun e a w' x => bodyPostC Try.prog Try.f7 (fun v w3 => v = .bool true ∧ Below w.heap.size w w3 ∧ x.d = 0) e a w') ⟨List.toArray (.slice Al l.length cap :: .int .i64 nn :: v2 :: v3 :: v4 :: .pointer none :: .pointer none :: .int .u64 0 :: .bool false :: .slice O many many :: v10 :: v11 :: v12 :: v13 :: v14 :: v15 :: v16 :: v17 :: v18 :: v19 :: v20 :: v21 :: v22 :: v23 :: v24 :: v25 :: v26 :: v27 :: v28 :: v29 :: v30 :: v31 :: v32 :: v33 :: v34 :: v35 :: v36 :: v37 :: v38 :: v39 :: v40 :: v41 :: v42 :: v43 :: v44 :: v45 :: v46 :: v47 :: v48 :: v49 :: v50 :: v51 :: v52 :: v53 :: v54 :: v55 :: v56 :: v57 :: v58 :: v59 :: v60 :: v61 :: v62 :: v63 :: v64 :: v65 :: v66 :: v67 :: v68 :: v69 :: v70 :: v71 :: v72 :: v73 :: v74 :: v75 :: v76 :: []), []⟩ w ⟨blkS d, n, 0⟩ := by
  have hm9 : (if 64 < (if nn < 0 then 0 else nn) then 64 else (if nn < 0 then 0 else nn)) = (many : Int) := by omega
  clear hmany
  rw [show endL = _ from (by unfold endL; simp only [Try.f7, Option.getD_some]; try rfl)]
  have hF := atRel_refl w
  have RC := fun (w2 : World) (h2 : Below w.heap.size w w2) => raceNil_X (Post := Post) (d := d) (n := n) (l := l) (db := db) (off := off) (cap := cap) (Al := Al) w2 hn (by omega) (fun b hb => Nat.lt_of_lt_of_le (hd b hb) h2.size) hat (fun q x hx => by
    have hx' := hdata q x hx
    rw [h2.cell (p := ⟨db, off + q, none⟩) (World.block_lt_of_cell? w _ hx')]
    exact hx')
  clear hat hdata
  replace hm9 := Lib.hid hm9
  generalize l.length = len at hl RC ⊢
  (refine codeX_seq ?_)
  (refine codeX_region ?_; simp only [List.size_toArray, List.length_cons, List.length_nil, Nat.reduceAdd, Nat.zero_add, List.range, List.range.loop])
  (refine opsX_cons rfl (by rfl) ?_; intro _ hR K hK; replace hF := atRel_trans _ _ _ hF hR; clear hR; have hs9 := atRel_size hF; go_simp; refine hK _ _ ⟨?_, ?_⟩; (· rw [listed_nil (by simp [go_sem, ev_max, ev_min, *])]; exact dp0_nil); clear hK K hs9; try walk_nrm)
  refine opsX_callW rfl (by rfl) rfl ?_ ?_ (Pos := fun r w' => r = .bool false ∧ Below w.heap.size w w')
  · walk_nrm
    exact CallsW.rely (termsP _) (setNil_W 7 w (fun k i hk => by
      rintro ⟨a, e, h⟩
      injection e with e
      subst e
      have := hd _ h
      simp only at this
      omega)) hF
  rintro _ w2 ⟨rfl, hB2⟩
  clear hF
  have hF := atRel_refl w2
  walk_nrm
  (repeat (first | (refine opsX_unwanted rfl (by rfl) ?_; try walk_nrm) | (refine opsX_cons rfl (by rfl) ?_; intro _ hR K hK; replace hF := atRel_trans _ _ _ hF hR; clear hR; have hs9 := atRel_size hF; go_simp; refine hK _ _ ⟨?_, ?_⟩; (· rw [listed_nil (by simp [go_sem, ev_max, ev_min, *])]; exact dp0_nil); clear hK K hs9; try walk_nrm)))
  refine opsX_callW rfl (by rfl) rfl ?_ ?_ (Pos := fun r w' => r = .int .u64 0 ∧ AtRel w2 w')
  · walk_nrm
    exact CallsW.rely (termsP _) (orNil_W 9 w2) hF
  rintro _ w3 ⟨rfl, hF'⟩
  clear hF
  have hF := hF'
  clear hF'
  walk_nrm
  (repeat (first | (refine opsX_unwanted rfl (by rfl) ?_; try walk_nrm) | (refine opsX_cons rfl (by rfl) ?_; intro _ hR K hK; replace hF := atRel_trans _ _ _ hF hR; clear hR; have hs9 := atRel_size hF; go_simp; refine hK _ _ ⟨?_, ?_⟩; (· rw [listed_nil (by simp [go_sem, ev_max, ev_min, *])]; exact dp0_nil); clear hK K hs9; try walk_nrm)))
  have RC3 := callX_rely hF (RC w2 hB2)
  clear RC
  refine opsX_call rfl (by rfl) rfl ?_ ?_ (Pos := fun v w' x' => v = .int .i64 0 ∧ x' = ⟨blkS fun b => b = w2.heap.size + 4 ∨ d b, n + len, 0⟩ ∧ Below w2.heap.size w2 w' ∧ w2.heap.size + 5 ≤ w'.heap.size)
  · walk_nrm
    exact RC3
  rintro _ w4 x' ⟨rfl, rfl, hB4, hs4⟩
  have hd4 : ∀ k i, w4.heap.size ≤ k → ¬ blkS (fun b => b = w2.heap.size + 4 ∨ d b) (.cell ⟨k, i, none⟩) := by
    rintro k i hk ⟨a, e, h⟩
    injection e with e
    subst e
    have h2 := hB2.size
    rcases h with h | h
    · simp only at h; omega
    · have := hd _ h
      simp only at this
      omega
  have hB : Below w.heap.size w w4 := hB2.trans (hB4.mono hB2.size)
  clear hF RC3 hs4 hB4 hB2
  generalize blkS (fun b => b = w2.heap.size + 4 ∨ d b) = S4 at hd4 ⊢
  have hF := atRel_refl w4
  replace hB := Lib.hid hB
  walk_nrm
  (repeat (first | (refine opsX_unwanted rfl (by rfl) ?_; try walk_nrm) | (refine opsX_cons rfl (by rfl) ?_; intro _ hR K hK; replace hF := atRel_trans _ _ _ hF hR; clear hR; have hs9 := atRel_size hF; go_simp; refine hK _ _ ⟨?_, ?_⟩; (· rw [listed_nil (by simp [go_sem, ev_max, ev_min, *])]; exact dp0_nil); clear hK K hs9; try walk_nrm)))
  refine opsX_callW rfl (by rfl) rfl ?_ ?_ (Pos := fun r w' => r = .int .u64 0 ∧ AtRel w4 w')
  · walk_nrm
    exact CallsW.rely (termsP _) (lzGetNil_W w4) hF
  rintro _ w5 ⟨rfl, hF'⟩
  clear hF
  have hF := hF'
  clear hF'
  walk_nrm
  (repeat (first | (refine opsX_unwanted rfl (by rfl) ?_; try walk_nrm) | (refine opsX_cons rfl (by rfl) ?_; intro _ hR K hK; replace hF := atRel_trans _ _ _ hF hR; clear hR; have hs9 := atRel_size hF; go_simp; refine hK _ _ ⟨?_, ?_⟩; (· rw [listed_nil (by simp [go_sem, ev_max, ev_min, *])]; exact dp0_nil); clear hK K hs9; try walk_nrm)))
  refine opsX_callW rfl (by rfl) rfl ?_ ?_ (Pos := fun r w' => r = .int .i64 0 ∧ AtRel w4 w')
  · walk_nrm
    exact CallsW.rely (termsP _) (runsNil_W w4) hF
  rintro _ w6 ⟨rfl, hF'⟩
  clear hF
  have hF := hF'
  clear hF'
  walk_nrm
  have hm := hm9.out
  (repeat (first | (refine opsX_unwanted rfl (by rfl) ?_; try walk_nrm) | (refine opsX_cons rfl (by rfl) ?_; intro _ hR K hK; replace hF := atRel_trans _ _ _ hF hR; clear hR; have hs9 := atRel_size hF; go_simp; refine hK _ _ ⟨?_, ?_⟩; (· rw [listed_nil (by simp [go_sem, ev_max, ev_min, *])]; exact dp0_nil); clear hK K hs9; try walk_nrm)))
  refine opsX_call rfl (by rfl) rfl ?_ ?_ (Pos := fun v' w' x' => x' = ⟨S4, n + len, 0⟩ ∧ v' = .bool true ∧ Below w4.heap.size w4 w')
  · walk_nrm
    exact callX_rely hF (awake5_X w4 hd4)
  rintro _ w7 x' ⟨rfl, rfl, hB7⟩
  have hB9 := Lib.hid (hB.out.trans (hB7.mono hB.out.size))
  clear hF hB7
  have hF := atRel_refl w7
  walk_nrm
  (repeat (first | (refine opsX_unwanted rfl (by rfl) ?_; try walk_nrm) | (refine opsX_cons rfl (by rfl) ?_; intro _ hR K hK; replace hF := atRel_trans _ _ _ hF hR; clear hR; have hs9 := atRel_size hF; go_simp; refine hK _ _ ⟨?_, ?_⟩; (· rw [listed_nil (by simp [go_sem, ev_max, ev_min, *])]; exact dp0_nil); clear hK K hs9; try walk_nrm)))
  (refine opsX_nil ?_; simp only [Exit.thenX])
  (refine codeX_of ?_; refine codeW_ret (termsP _) ?_)
  exact ⟨rfl, _, resultsC_tmp rfl _, rfl, atRel_below hF hB9.out, rfl⟩
end Go.Proofs.Ytinghnaigpenkaa
