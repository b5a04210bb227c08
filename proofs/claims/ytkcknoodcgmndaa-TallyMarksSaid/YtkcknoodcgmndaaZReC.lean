/- The document's lists of numbers: Without. -/
import Derived.Test.YtkcknoodcgmndaaZReA
import Derived.Test.YtkcknoodcgmndaaZOcB
import Derived.Conc.WgWords
namespace Go.Proofs.Ytkcknoodcgmndaa
open Go.Conc Go.RowKit
set_option linter.unusedVariables false
set_option linter.unusedSimpArgs false
set_option maxRecDepth 100000
set_option maxHeartbeats 4000000














theorem below_grown {n : Nat} {w W W' : World} (h : Below n w W) {r : Option Nat} (g : W.grownBy W' r) (hr : ∀ k, r = some k → n ≤ k) (hn : n ≤ W.heap.size) : Below n w W' :=
  ⟨g.os.trans h.os, g.tape.trans h.tape, g.output.trans h.output, Nat.le_trans h.size g.size, fun k hk => (g.block k (by omega) fun e => by have := hr k e.symm; omega).trans (h.block k hk)⟩
theorem SlI.below {w W : World} {A : Option Addr} {g : Nat} {xs : List Int} (h : SlI w A g xs) {n : Nat} (hb : Below n w W) (hg : 0 < xs.length → g < n) : SlI W A g xs :=
  ⟨h.at_, fun q x hx => (cell_same (hb.block g (hg (by have := (List.getElem?_eq_some_iff.1 hx).1; omega))) q).trans (h.cell q x hx)⟩
section
variable {Shun : Loc → Prop}
theorem without25_W {w : World} {A : Option Addr} {g c : Nat} {xs : List Int} (h : SlI w A g xs) (x : Int) (hg : 0 < xs.length → g < w.heap.size) (hS0 : ∀ o, ¬ Shun (.cell ⟨g, o, none⟩)) (hSn : ∀ a : Addr, w.heap.size ≤ a.block → ¬ Shun (.cell a)) (hlen : xs.length ≤ 100000) :
    CW Shun 25 #[.slice A xs.length c, .int .i64 x] w (fun r w' => Own w.heap.size w' r (xs.filter (fun y => y != x)) ∧ Below w.heap.size w w') := by
  have T9 := termsP Shun
  refine callsW_enter Try.func25 (by kernel_rfl) rfl ?_
  simp only [Try.ntmps25]
  walk_nrm
  have hF := atRel_refl w
  generalize hn : xs.length = len at *
  replace hn : RowKit.Hid _ := hn
  (repeat (first | (refine codeW_seq T9 ?_) | (refine codeW_region T9 ?_; simp only [List.size_toArray, List.length_cons, List.length_nil, Nat.reduceAdd, Nat.zero_add, List.range, List.range.loop]) | (refine opsW_nil T9 ?_; simp only [Exit.then, Exit.inBlock]) | (refine codeW_skip T9 ?_; simp only [Exit.then, Exit.inBlock]) | ((first | refine codeW_cond T9 (t := true) rfl ?_ | refine codeW_cond T9 (t := false) rfl ?_); simp only [if_true, if_false, Bool.false_eq_true, ↓reduceIte]) | (refine opsW_unwanted T9 rfl (by rfl) ?_; try walk_nrm) | (refine opsW_cons rfl (by rfl) ?_; intro _ hR K hK; replace hF := atRel_trans _ _ _ hF hR; clear hR; have hs9 := atRel_size hF; go_simp; refine hK _ _ ⟨?_, ?_⟩; (· rw [listed_nil (by simp [go_sem, *])]; exact dp0_nil); clear hK K hs9; try walk_nrm) | (refine codeW_block T9 ?_)))
  refine codeW_loop T9 (fun a' w' => ∃ (i : Nat) (o v2 v3 v4 v7 v8 v9 v10 v11 v12 v13 v14 v15 v16 v17 v18 v19 v20 v21 v22 v23 v24 v25 v26 : Value), a' = ⟨#[.slice A len c, .int .i64 x, v2, v3, v4, o, .int .i64 i, v7, v8, v9, v10, v11, v12, v13, v14, v15, v16, v17, v18, v19, v20, v21, v22, v23, v24, v25, v26], []⟩ ∧ i ≤ len ∧ Below w.heap.size w w' ∧ Own w.heap.size w' o ((xs.take i).filter (fun y => y != x)))
    (fun a _ => match a.tmps.getD 6 undef with | .int _ i => ((len : Int) - i).toNat | _ => 0) ⟨0, _, _, _, _, _, _, _, _, _, _, _, _, _, _, _, _, _, _, _, _, _, _, _, _, rfl, Nat.zero_le _, below_at (below_self _ w) (by obtain ⟨q, rfl⟩ := hF; exact ⟨q, rfl⟩), World.ownsRow_nil _ _ _ _⟩ ?_
  clear hF
  rintro _ w2 ⟨i, o, v2, v3, v4, v7, v8, v9, v10, v11, v12, v13, v14, v15, v16, v17, v18, v19, v20, v21, v22, v23, v24, v25, v26, rfl, hi, hbel, hown⟩
  have hF := atRel_refl w2
  by_cases hl : i < len
  · have e9 : decide ((i : Int) < (len : Int)) = true := decide_eq_true (by omega)
    have q1 : (i : Int) < (len : Int) := by omega
    have hln := hn.out
    have h2 := h.below hbel (fun _ => hg (by omega))
    have hA := h2.at_ (by omega)
    obtain ⟨y, hy⟩ := getq (xs := xs) (q := i) (by omega)
    have hcy := h2.cell i y hy
    have htk : xs.take (i + 1) = xs.take i ++ [y] := by rw [List.take_add_one, hy]; rfl
    replace hy : RowKit.Hid _ := hy
    have hS := hS0 i
    have ad9 : (if i = 0 then (⟨g, 0, none⟩ : Addr) else ⟨g, i, none⟩) = ⟨g, i, none⟩ := by
      by_cases h : i = 0
      · rw [h]; rfl
      · exact if_neg h
    have d7 : IntKind.i64.wrap ((i : Int) + 1) = (i : Int) + 1 := by rw [IntKind.wrap_i64]; omega
    clear hln h2
    replace hbel : RowKit.Hid _ := hbel
    replace hown : RowKit.Hid _ := hown
    replace htk : RowKit.Hid _ := htk
    (repeat (first | (refine codeW_seq T9 ?_) | (refine codeW_region T9 ?_; simp only [List.size_toArray, List.length_cons, List.length_nil, Nat.reduceAdd, Nat.zero_add, List.range, List.range.loop]) | (refine opsW_nil T9 ?_; simp only [Exit.then, Exit.inBlock]) | (refine codeW_skip T9 ?_; simp only [Exit.then, Exit.inBlock]) | ((first | refine codeW_cond T9 (t := true) rfl ?_ | refine codeW_cond T9 (t := false) rfl ?_); simp only [if_true, if_false, Bool.false_eq_true, ↓reduceIte]) | (refine opsW_unwanted T9 rfl (by rfl) ?_; try walk_nrm) | (refine opsW_cons rfl (by rfl) ?_; intro _ hR K hK; replace hF := atRel_trans _ _ _ hF hR; clear hR; have hs9 := atRel_size hF; go_simp; refine hK _ _ ⟨?_, ?_⟩; (· rw [listed_nil (by simp [go_sem, *])]; exact dp0_nil); clear hK K hs9; try walk_nrm) | (refine codeW_block T9 ?_)))
    have hc1 := hcy
    (refine opsW_cons rfl (by rfl) ?_; intro _ hR K hK; replace hF := atRel_trans _ _ _ hF hR; clear hR; have hl9 := (atRel_cell hF _).trans hc1; go_simp; refine hK _ _ ⟨?_, ?_⟩; (· intro e he; have hm := mem_listed he; simp [go_sem, hl9] at hm; rw [hm]; exact evP_cell _ hS); clear hK K hl9; try walk_nrm)
    by_cases hxy : y = x
    · have e8 : (y != x) = false := by simpa using hxy
      clear hc1
      replace hxy : RowKit.Hid _ := hxy
      (repeat (first | (refine codeW_seq T9 ?_) | (refine codeW_region T9 ?_; simp only [List.size_toArray, List.length_cons, List.length_nil, Nat.reduceAdd, Nat.zero_add, List.range, List.range.loop]) | (refine opsW_nil T9 ?_; simp only [Exit.then, Exit.inBlock]) | (refine codeW_skip T9 ?_; simp only [Exit.then, Exit.inBlock]) | ((first | refine codeW_cond T9 (t := true) rfl ?_ | refine codeW_cond T9 (t := false) rfl ?_); simp only [if_true, if_false, Bool.false_eq_true, ↓reduceIte]) | (refine opsW_unwanted T9 rfl (by rfl) ?_; try walk_nrm) | (refine opsW_cons rfl (by rfl) ?_; intro _ hR K hK; replace hF := atRel_trans _ _ _ hF hR; clear hR; have hs9 := atRel_size hF; go_simp; refine hK _ _ ⟨?_, ?_⟩; (· rw [listed_nil (by simp [go_sem, *])]; exact dp0_nil); clear hK K hs9; try walk_nrm) | (refine codeW_block T9 ?_)))
      refine ⟨⟨i + 1, o, _, _, _, _, _, _, _, _, _, _, _, _, _, _, _, _, _, _, _, _, _, _, _, by rw [hA]; rfl, by omega, below_at hbel.out hF, ?_⟩, ?_⟩
      · rw [htk.out, List.filter_append, show [y].filter (fun y => y != x) = [] from by simp [e8], List.append_nil]
        exact Own.at hown.out hF
      · simp
        omega
    · have e8 : (y != x) = true := by simpa using hxy
      replace hxy : RowKit.Hid _ := hxy
      (repeat (first | (refine codeW_seq T9 ?_) | (refine codeW_region T9 ?_; simp only [List.size_toArray, List.length_cons, List.length_nil, Nat.reduceAdd, Nat.zero_add, List.range, List.range.loop]) | (refine opsW_nil T9 ?_; simp only [Exit.then, Exit.inBlock]) | (refine codeW_skip T9 ?_; simp only [Exit.then, Exit.inBlock]) | ((first | refine codeW_cond T9 (t := true) rfl ?_ | refine codeW_cond T9 (t := false) rfl ?_); simp only [if_true, if_false, Bool.false_eq_true, ↓reduceIte]) | (refine opsW_unwanted T9 rfl (by rfl) ?_; try walk_nrm) | (refine opsW_cons rfl (by rfl) ?_; intro _ hR K hK; replace hF := atRel_trans _ _ _ hF hR; clear hR; have hs9 := atRel_size hF; go_simp; refine hK _ _ ⟨?_, ?_⟩; (· rw [listed_nil (by simp [go_sem, *])]; exact dp0_nil); clear hK K hs9; try walk_nrm) | (refine codeW_block T9 ?_)))
      (refine opsW_cons rfl (by rfl) ?_; intro _ hR K hK; replace hF := atRel_trans _ _ _ hF hR; clear hR; have hl9 := (atRel_cell hF _).trans hc1; go_simp; refine hK _ _ ⟨?_, ?_⟩; (· intro e he; have hm := mem_listed he; simp [go_sem, hl9] at hm; rw [hm]; exact evP_cell _ hS); clear hK K hl9; try walk_nrm)
      clear hc1
      (refine opsW_cons rfl (by rfl) ?_; intro _ hR K hK; replace hF := atRel_trans _ _ _ hF hR; clear hR; have hs9 := atRel_size hF; go_simp; refine hK _ _ ⟨?_, ?_⟩; (· rw [listed_nil (by simp [go_sem, *])]; exact dp0_nil); clear hK K hs9; try walk_nrm)
      obtain ⟨q5, rfl⟩ := hF
      have hbel3 : RowKit.Hid (Below w.heap.size w ((w2.at q5).alloc (.cells #[.int .i64 y] 3))) := below_alloc9 (below_at hbel.out ⟨q5, rfl⟩) (Nat.le_refl _) _
      have hown3 : RowKit.Hid (Own w.heap.size ((w2.at q5).alloc (.cells #[.int .i64 y] 3)) o ((xs.take i).filter (fun y => y != x))) := World.ownsRow.alloc (Own.at hown.out ⟨q5, rfl⟩) _
      have hnew : RowKit.Hid (((w2.at q5).alloc (.cells #[.int .i64 y] 3)).cell? ⟨w2.heap.size, 0, none⟩ = some (.int .i64 y)) := box_cell (alloc_new (w2.at q5) _)
      have hzz : RowKit.Hid (w.heap.size ≤ w2.heap.size) := hbel.out.size
      have hzz3 : RowKit.Hid (w.heap.size ≤ ((w2.at q5).alloc (.cells #[.int .i64 y] 3)).heap.size) := hbel3.out.size
      have hlf : RowKit.Hid (((xs.take i).filter (fun y => y != x)).length ≤ 100000) := by
        have h1 := List.length_filter_le (fun y => y != x) (xs.take i)
        have h2 : (xs.take i).length ≤ i := by rw [List.length_take]; omega
        show ((xs.take i).filter (fun y => y != x)).length ≤ 100000
        omega
      have hfil : RowKit.Hid ((xs.take (i + 1)).filter (fun y => y != x) = (xs.take i).filter (fun y => y != x) ++ [y]) := by
        show _ = _
        rw [htk.out, List.filter_append, show [y].filter (fun y => y != x) = [y] from by simp [e8]]
      revert hbel3 hown3 hnew hzz3
      generalize (w2.at q5).alloc (.cells #[.int .i64 y] 3) = W3
      intro hbel3 hown3 hnew hzz3
      generalize (xs.take i).filter (fun y => y != x) = L at hown3 hlf hfil
      refine opsW_cons rfl (by rfl) ?_
      intro w9 hR K hK
      refine append_int (S := Shun) (fn := 25) (w := W3) (base := w.heap.size) (v := o) (n := L.length) (xs := L.map (Value.int .i64)) (ad := ⟨w2.heap.size, 0, none⟩) (m := 1) (c := 1) (news := [.int .i64 y]) rfl rfl rfl hown3.out rfl ?_ (by simp [Value.oneCell']) (by have := hlf.out; omega) hzz3.out hSn (fun a ha => hSn a (by rw [ha]; exact hzz.out)) w9 hR ?_
      · intro j u hu
        have hj : j = 0 := by
          have := (List.getElem?_eq_some_iff.1 hu).1
          simp at this
          exact this
        subst hj
        simp at hu
        subst hu
        exact hnew.out
      intro v' w' hown4 hgr hdp
      refine hK _ _ ⟨hdp, ?_⟩
      have hbel4 : RowKit.Hid (Below w.heap.size w w') := below_grown hbel3.out hgr (fun k hk => (hown3.out.lt k hk).1) hzz3.out
      have hown5 : RowKit.Hid (Own w.heap.size w' v' (L ++ [y])) := by
        have e1 : L.map (Value.int .i64) ++ [Value.int .i64 y] = (L ++ [y]).map (Value.int .i64) := by simp
        have e2 : L.length + 1 = (L ++ [y]).length := by simp
        rw [e1, e2] at hown4
        exact hown4
      clear hK K hR hown4 hgr hdp hbel3 hown3 hnew hzz3 hown hbel
      have hF := atRel_refl w'
      walk_nrm
      (repeat (first | (refine codeW_seq T9 ?_) | (refine codeW_region T9 ?_; simp only [List.size_toArray, List.length_cons, List.length_nil, Nat.reduceAdd, Nat.zero_add, List.range, List.range.loop]) | (refine opsW_nil T9 ?_; simp only [Exit.then, Exit.inBlock]) | (refine codeW_skip T9 ?_; simp only [Exit.then, Exit.inBlock]) | ((first | refine codeW_cond T9 (t := true) rfl ?_ | refine codeW_cond T9 (t := false) rfl ?_); simp only [if_true, if_false, Bool.false_eq_true, ↓reduceIte]) | (refine opsW_unwanted T9 rfl (by rfl) ?_; try walk_nrm) | (refine opsW_cons rfl (by rfl) ?_; intro _ hR K hK; replace hF := atRel_trans _ _ _ hF hR; clear hR; have hs9 := atRel_size hF; go_simp; refine hK _ _ ⟨?_, ?_⟩; (· rw [listed_nil (by simp [go_sem, *])]; exact dp0_nil); clear hK K hs9; try walk_nrm) | (refine codeW_block T9 ?_)))
      refine ⟨⟨i + 1, v', _, _, _, _, _, _, _, _, _, _, _, _, _, _, _, _, _, _, _, _, _, _, _, by rw [hA]; rfl, by omega, below_at hbel4.out hF, ?_⟩, ?_⟩
      · rw [hfil.out]
        exact Own.at hown5.out hF
      · simp
        omega
  · have e9 : decide ((i : Int) < (len : Int)) = false := decide_eq_false (by omega)
    (repeat (first | (refine codeW_seq T9 ?_) | (refine codeW_region T9 ?_; simp only [List.size_toArray, List.length_cons, List.length_nil, Nat.reduceAdd, Nat.zero_add, List.range, List.range.loop]) | (refine opsW_nil T9 ?_; simp only [Exit.then, Exit.inBlock]) | (refine codeW_skip T9 ?_; simp only [Exit.then, Exit.inBlock]) | ((first | refine codeW_cond T9 (t := true) rfl ?_ | refine codeW_cond T9 (t := false) rfl ?_); simp only [if_true, if_false, Bool.false_eq_true, ↓reduceIte]) | (refine opsW_unwanted T9 rfl (by rfl) ?_; try walk_nrm) | (refine opsW_cons rfl (by rfl) ?_; intro _ hR K hK; replace hF := atRel_trans _ _ _ hF hR; clear hR; have hs9 := atRel_size hF; go_simp; refine hK _ _ ⟨?_, ?_⟩; (· rw [listed_nil (by simp [go_sem, *])]; exact dp0_nil); clear hK K hs9; try walk_nrm) | (refine codeW_block T9 ?_)))
    (refine codeW_exit T9 ?_; simp only [Exit.then, Exit.inBlock, Exit.thenX, if_true, if_false, reduceIte, Nat.reduceEqDiff])
    (repeat (first | (refine codeW_seq T9 ?_) | (refine codeW_region T9 ?_; simp only [List.size_toArray, List.length_cons, List.length_nil, Nat.reduceAdd, Nat.zero_add, List.range, List.range.loop]) | (refine opsW_nil T9 ?_; simp only [Exit.then, Exit.inBlock]) | (refine codeW_skip T9 ?_; simp only [Exit.then, Exit.inBlock]) | ((first | refine codeW_cond T9 (t := true) rfl ?_ | refine codeW_cond T9 (t := false) rfl ?_); simp only [if_true, if_false, Bool.false_eq_true, ↓reduceIte]) | (refine opsW_unwanted T9 rfl (by rfl) ?_; try walk_nrm) | (refine opsW_cons rfl (by rfl) ?_; intro _ hR K hK; replace hF := atRel_trans _ _ _ hF hR; clear hR; have hs9 := atRel_size hF; go_simp; refine hK _ _ ⟨?_, ?_⟩; (· rw [listed_nil (by simp [go_sem, *])]; exact dp0_nil); clear hK K hs9; try walk_nrm) | (refine codeW_block T9 ?_)))
    (refine codeW_ret T9 ?_)
    have hln := hn.out
    refine ⟨rfl, o, resultsC_tmp (t := 4) rfl _, ?_, below_at hbel hF⟩
    have e : xs.take i = xs := List.take_of_length_le (by omega)
    rw [e] at hown
    exact Own.at hown hF
end
end Go.Proofs.Ytkcknoodcgmndaa
