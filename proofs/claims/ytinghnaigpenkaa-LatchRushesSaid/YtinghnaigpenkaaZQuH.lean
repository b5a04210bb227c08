/- Seat 05: LatchRushes: the law's walk. -/
import Derived.Test.YtinghnaigpenkaaZQuG
namespace Go.Proofs.Ytinghnaigpenkaa
open Go.Conc Go.RowKit Go.ConcR.Gen
open Go.ConcR (WgAt stA Payload)
set_option linter.unusedVariables false
set_option linter.unusedSimpArgs false
set_option maxRecDepth 100000
set_option maxHeartbeats 8000000
theorem cons9 {l : List Value} {n : Nat} (h : l.length = n + 1) : ∃ v r, l = v :: r ∧ r.length = n := by
  cases l with
  | nil => simp at h
  | cons v r => exact ⟨v, r, rfl, by simpa using h⟩
theorem arr41E {C : Array Value → Prop} {T : Array Value} (h : T.size = 41) (H : ∀ v0 v1 v2 v3 v4 v5 v6 v7 v8 v9 v10 v11 v12 v13 v14 v15 v16 v17 v18 v19 v20 v21 v22 v23 v24 v25 v26 v27 v28 v29 v30 v31 v32 v33 v34 v35 v36 v37 v38 v39 v40 : Value, C (List.toArray (v0 :: v1 :: v2 :: v3 :: v4 :: v5 :: v6 :: v7 :: v8 :: v9 :: v10 :: v11 :: v12 :: v13 :: v14 :: v15 :: v16 :: v17 :: v18 :: v19 :: v20 :: v21 :: v22 :: v23 :: v24 :: v25 :: v26 :: v27 :: v28 :: v29 :: v30 :: v31 :: v32 :: v33 :: v34 :: v35 :: v36 :: v37 :: v38 :: v39 :: v40 :: []))) : C T := by
  obtain ⟨l⟩ := T
  replace h : l.length = 41 := h
  have h0 := h
  clear h
  obtain ⟨v0, l, e, h1⟩ := cons9 h0
  subst e
  clear h0
  obtain ⟨v1, l, e, h2⟩ := cons9 h1
  subst e
  clear h1
  obtain ⟨v2, l, e, h3⟩ := cons9 h2
  subst e
  clear h2
  obtain ⟨v3, l, e, h4⟩ := cons9 h3
  subst e
  clear h3
  obtain ⟨v4, l, e, h5⟩ := cons9 h4
  subst e
  clear h4
  obtain ⟨v5, l, e, h6⟩ := cons9 h5
  subst e
  clear h5
  obtain ⟨v6, l, e, h7⟩ := cons9 h6
  subst e
  clear h6
  obtain ⟨v7, l, e, h8⟩ := cons9 h7
  subst e
  clear h7
  obtain ⟨v8, l, e, h9⟩ := cons9 h8
  subst e
  clear h8
  obtain ⟨v9, l, e, h10⟩ := cons9 h9
  subst e
  clear h9
  obtain ⟨v10, l, e, h11⟩ := cons9 h10
  subst e
  clear h10
  obtain ⟨v11, l, e, h12⟩ := cons9 h11
  subst e
  clear h11
  obtain ⟨v12, l, e, h13⟩ := cons9 h12
  subst e
  clear h12
  obtain ⟨v13, l, e, h14⟩ := cons9 h13
  subst e
  clear h13
  obtain ⟨v14, l, e, h15⟩ := cons9 h14
  subst e
  clear h14
  obtain ⟨v15, l, e, h16⟩ := cons9 h15
  subst e
  clear h15
  obtain ⟨v16, l, e, h17⟩ := cons9 h16
  subst e
  clear h16
  obtain ⟨v17, l, e, h18⟩ := cons9 h17
  subst e
  clear h17
  obtain ⟨v18, l, e, h19⟩ := cons9 h18
  subst e
  clear h18
  obtain ⟨v19, l, e, h20⟩ := cons9 h19
  subst e
  clear h19
  obtain ⟨v20, l, e, h21⟩ := cons9 h20
  subst e
  clear h20
  obtain ⟨v21, l, e, h22⟩ := cons9 h21
  subst e
  clear h21
  obtain ⟨v22, l, e, h23⟩ := cons9 h22
  subst e
  clear h22
  obtain ⟨v23, l, e, h24⟩ := cons9 h23
  subst e
  clear h23
  obtain ⟨v24, l, e, h25⟩ := cons9 h24
  subst e
  clear h24
  obtain ⟨v25, l, e, h26⟩ := cons9 h25
  subst e
  clear h25
  obtain ⟨v26, l, e, h27⟩ := cons9 h26
  subst e
  clear h26
  obtain ⟨v27, l, e, h28⟩ := cons9 h27
  subst e
  clear h27
  obtain ⟨v28, l, e, h29⟩ := cons9 h28
  subst e
  clear h28
  obtain ⟨v29, l, e, h30⟩ := cons9 h29
  subst e
  clear h29
  obtain ⟨v30, l, e, h31⟩ := cons9 h30
  subst e
  clear h30
  obtain ⟨v31, l, e, h32⟩ := cons9 h31
  subst e
  clear h31
  obtain ⟨v32, l, e, h33⟩ := cons9 h32
  subst e
  clear h32
  obtain ⟨v33, l, e, h34⟩ := cons9 h33
  subst e
  clear h33
  obtain ⟨v34, l, e, h35⟩ := cons9 h34
  subst e
  clear h34
  obtain ⟨v35, l, e, h36⟩ := cons9 h35
  subst e
  clear h35
  obtain ⟨v36, l, e, h37⟩ := cons9 h36
  subst e
  clear h36
  obtain ⟨v37, l, e, h38⟩ := cons9 h37
  subst e
  clear h37
  obtain ⟨v38, l, e, h39⟩ := cons9 h38
  subst e
  clear h38
  obtain ⟨v39, l, e, h40⟩ := cons9 h39
  subst e
  clear h39
  obtain ⟨v40, l, e, h41⟩ := cons9 h40
  subst e
  clear h40
  obtain rfl : l = [] := List.length_eq_zero_iff.1 h41
  exact H v0 v1 v2 v3 v4 v5 v6 v7 v8 v9 v10 v11 v12 v13 v14 v15 v16 v17 v18 v19 v20 v21 v22 v23 v24 v25 v26 v27 v28 v29 v30 v31 v32 v33 v34 v35 v36 v37 v38 v39 v40




























section
variable {Post : Value → World → Prop} {S : Loc → Prop} {n : Nat}
theorem of_X (f : FuncId) (b : Nat) (w : World) : CallX Try.prog Post 15 #[.func (.func f) #[] #[.pointer (some ⟨b, 0, none⟩)]] w ⟨S, n, 0⟩ (fun v' w' x' => x' = ⟨S, n, 0⟩ ∧ v' = .pointer (some ⟨w.heap.size, 0, none⟩) ∧ Blk w' w.heap.size 75 #[.int .u32 0, .int .i32 0, .int .u32 0, .func (.func f) #[] #[.pointer (some ⟨b, 0, none⟩)], .int .i32 0, .int .u64 0] ∧ Below w.heap.size w w') := by
  refine ⟨_, _, Try.func15, by kernel_rfl, rfl, ?_⟩
  simp only [Try.ntmps15]
  walk_nrm
  have hF := atRel_refl w
  (refine codeX_seq ?_)
  (refine codeX_region ?_; simp only [List.size_toArray, List.length_cons, List.length_nil, Nat.reduceAdd, Nat.zero_add, List.range, List.range.loop])
  (refine opsX_cons rfl (by rfl) ?_; intro _ hR K hK; replace hF := atRel_trans _ _ _ hF hR; clear hR; have hs9 := atRel_size hF; go_simp; refine hK _ _ ⟨?_, ?_⟩; (· rw [listed_nil (by simp [go_sem, ev_max, ev_min, *])]; exact dp0_nil); clear hK K hs9; try walk_nrm)
  (refine opsX_nil ?_; simp only [Exit.thenX])
  (refine codeX_seq ?_)
  (refine codeX_region ?_; simp only [List.size_toArray, List.length_cons, List.length_nil, Nat.reduceAdd, Nat.zero_add, List.range, List.range.loop])
  (refine opsX_cons rfl (by rfl) ?_; intro _ hR K hK; replace hF := atRel_trans _ _ _ hF hR; clear hR; have hs9 := atRel_size hF; go_simp; refine hK _ _ ⟨?_, ?_⟩; (· rw [listed_nil (by simp [go_sem, ev_max, ev_min, *])]; exact dp0_nil); clear hK K hs9; try walk_nrm)
  (refine opsX_cons rfl (by rfl) ?_; intro _ hR K hK; replace hF := atRel_trans _ _ _ hF hR; clear hR; have hs9 := atRel_size hF; go_simp; refine hK _ _ ⟨?_, ?_⟩; (· rw [listed_nil (by simp [go_sem, ev_max, ev_min, *])]; exact dp0_nil); clear hK K hs9; try walk_nrm)
  (refine opsX_cons rfl (by rfl) ?_; intro _ hR K hK; replace hF := atRel_trans _ _ _ hF hR; clear hR; have hs9 := atRel_size hF; go_simp; refine hK _ _ ⟨?_, ?_⟩; (· rw [listed_nil (by simp [go_sem, ev_max, ev_min, *])]; exact dp0_nil); clear hK K hs9; try walk_nrm)
  replace hF := atRel_alloc hF (.cells #[.int .u32 0, .int .i32 0, .int .u32 0, .func (.func f) #[] #[.pointer (some ⟨b, 0, none⟩)], .int .i32 0, .int .u64 0] 75)
  (refine opsX_cons rfl (by rfl) ?_; intro _ hR K hK; replace hF := atRel_trans _ _ _ hF hR; clear hR; have hs9 := atRel_size hF; go_simp; refine hK _ _ ⟨?_, ?_⟩; (· rw [listed_nil (by simp [go_sem, ev_max, ev_min, *])]; exact dp0_nil); clear hK K hs9; try walk_nrm)
  (refine opsX_nil ?_; simp only [Exit.thenX])
  (refine codeX_of ?_; refine codeW_ret (termsP _) ?_)
  exact ⟨rfl, _, resultsC_tmp rfl _, rfl, rfl, atRel_blk hF (Blk.new _ _ _), atRel_below hF ((Below.refl _ _).alloc (Nat.le_refl _) _)⟩
theorem runs_W (g : Nat) (r : Int) (w : World) (hr : r = 0 ∨ r = 1) (hc : w.cell? ⟨g, 4, none⟩ = some (.int .i32 r)) : CW S 17 #[.pointer (some ⟨g, 0, none⟩)] w (fun v w' => v = .int .i64 r ∧ AtRel w w') := by
  have T9 := termsP S
  have ev9 := fun (p : Option Addr) (w : World) => ev_eql_nil (P := Try.prog) Try.underlying39 p w
  have d9 : IntKind.i64.wrap r = r := by rcases hr with e | e <;> rw [e] <;> rfl
  refine callsW_enter Try.func17 (by kernel_rfl) rfl ?_
  simp only [Try.ntmps17]
  walk_nrm
  have hF := atRel_refl w
  (repeat (first | (refine codeW_seq T9 ?_) | (refine codeW_region T9 ?_; simp only [List.size_toArray, List.length_cons, List.length_nil, Nat.reduceAdd, Nat.zero_add, List.range, List.range.loop]) | (refine opsW_nil T9 ?_; simp only [Exit.then]) | (refine codeW_skip T9 ?_; simp only [Exit.then, Exit.inBlock, Exit.thenX]) | ((first | refine codeW_cond T9 (t := true) rfl ?_ | refine codeW_cond T9 (t := false) rfl ?_); simp only [if_true, if_false, Bool.false_eq_true, ↓reduceIte]) | (refine opsW_unwanted T9 rfl (by rfl) ?_; try walk_nrm) | (refine opsW_cons rfl (by rfl) ?_; intro _ hR K hK; replace hF := atRel_trans _ _ _ hF hR; clear hR; have hs9 := atRel_size hF; go_simp; refine hK _ _ ⟨?_, ?_⟩; (· rw [listed_nil (by simp [go_sem, *])]; exact dp0_nil); clear hK K hs9; try walk_nrm) | (refine codeW_block T9 ?_)))
  co_apply opsW_call T9 rfl (by rfl) rfl
  · walk_nrm
    exact CallsW.rely T9 (iload_W g 4 r w hc) hF
  rintro _ w' ⟨rfl, hF'⟩
  clear hF
  have hF := hF'
  clear hF'
  walk_nrm
  (repeat (first | (refine codeW_seq T9 ?_) | (refine codeW_region T9 ?_; simp only [List.size_toArray, List.length_cons, List.length_nil, Nat.reduceAdd, Nat.zero_add, List.range, List.range.loop]) | (refine opsW_nil T9 ?_; simp only [Exit.then]) | (refine codeW_skip T9 ?_; simp only [Exit.then, Exit.inBlock, Exit.thenX]) | ((first | refine codeW_cond T9 (t := true) rfl ?_ | refine codeW_cond T9 (t := false) rfl ?_); simp only [if_true, if_false, Bool.false_eq_true, ↓reduceIte]) | (refine opsW_unwanted T9 rfl (by rfl) ?_; try walk_nrm) | (refine opsW_cons rfl (by rfl) ?_; intro _ hR K hK; replace hF := atRel_trans _ _ _ hF hR; clear hR; have hs9 := atRel_size hF; go_simp; refine hK _ _ ⟨?_, ?_⟩; (· rw [listed_nil (by simp [go_sem, *])]; exact dp0_nil); clear hK K hs9; try walk_nrm) | (refine codeW_block T9 ?_)))
  (refine codeW_ret T9 ?_)
  exact ⟨rfl, _, resultsC_tmp rfl _, rfl, hF⟩
end
theorem latchRushes_X {Post : Value → World → Prop} (x nn : Int) (w : World) :
    CallX Try.prog Post 6 #[.int .u64 x, .int .i64 nn] w ⟨fun _ => False, 1, 0⟩ (fun v w' x' => v = .bool true ∧ BelO w.heap.size w.heap.size w w' ∧ x'.d = 0) := by
  refine ⟨_, _, Try.func6, by kernel_rfl, rfl, ?_⟩
  simp only [Try.ntmps6]
  walk_nrm
  have hF := atRel_refl w
  obtain ⟨s, hs⟩ : ∃ s, s = w.heap.size := ⟨_, rfl⟩
  obtain ⟨W1, hW1⟩ : ∃ W1, W1 = w.alloc (.cells #[.int .u64 x] 25) := ⟨_, rfl⟩
  have z1 : W1.heap.size = s + 1 := by rw [hW1, hs]; simp
  have B1 : Below s w W1 := by rw [hW1, hs]; exact (Below.refl _ _).alloc (Nat.le_refl _) _
  have v1 : Blk W1 s 25 #[.int .u64 x] := by rw [hW1, hs]; exact Blk.new w _ _
  rw [← hs]
  replace hs := Lib.hid hs
  replace hW1 := Lib.hid hW1
  replace z1 := Lib.hid z1
  replace B1 := Lib.hid B1
  replace v1 := Lib.hid v1
  (refine codeX_seq ?_)
  (refine codeX_region ?_; simp only [List.size_toArray, List.length_cons, List.length_nil, Nat.reduceAdd, Nat.zero_add, List.range, List.range.loop])
  (refine opsX_cons rfl (by rfl) ?_; intro _ hR K hK; replace hF := atRel_trans _ _ _ hF hR; clear hR; have hs9 := atRel_size hF; go_simp; refine hK _ _ ⟨?_, ?_⟩; (· rw [listed_nil (by simp [go_sem, ev_max, ev_min, *])]; exact dp0_nil); clear hK K hs9; try walk_nrm)
  replace hF := atRel_alloc hF (.cells #[.int .u64 x] 25)
  rw [← hW1.out] at hF
  rw [← hs.out]
  (refine opsX_cons rfl (by rfl) ?_; intro _ hR K hK; replace hF := atRel_trans _ _ _ hF hR; clear hR; have hs9 := atRel_size hF; go_simp; refine hK _ _ ⟨?_, ?_⟩; (· rw [listed_nil (by simp [go_sem, ev_max, ev_min, *])]; exact dp0_nil); clear hK K hs9; try walk_nrm)
  (refine opsX_nil ?_; simp only [Exit.thenX])
  (refine codeX_seq ?_)
  (refine codeX_region ?_; simp only [List.size_toArray, List.length_cons, List.length_nil, Nat.reduceAdd, Nat.zero_add, List.range, List.range.loop])
  (refine opsX_cons rfl (by rfl) ?_; intro _ hR K hK; replace hF := atRel_trans _ _ _ hF hR; clear hR; have hs9 := atRel_size hF; go_simp; refine hK _ _ ⟨?_, ?_⟩; (· rw [listed_nil (by simp [go_sem, ev_max, ev_min, *])]; exact dp0_nil); clear hK K hs9; try walk_nrm)
  refine opsX_call rfl (by rfl) rfl ?_ ?_ (Pos := fun v' w' x' => x' = ⟨fun _ => False, 1, 0⟩ ∧ v' = .pointer (some ⟨s + 1, 0, none⟩) ∧ Blk w' (s + 1) 75 #[.int .u32 0, .int .i32 0, .int .u32 0, .func (.func 21) #[] #[.pointer (some ⟨s, 0, none⟩)], .int .i32 0, .int .u64 0] ∧ Below (s + 1) W1 w')
  · walk_nrm
    have := of_X (Post := Post) (S := fun _ => False) (n := 1) 21 s W1
    rw [z1.out] at this
    exact callX_rely hF this
  rintro _ w2 x' ⟨rfl, rfl, g2, B2⟩
  clear hF
  have hF := atRel_refl w2
  have v2 : Blk w2 s 25 #[.int .u64 x] := (B2.block s (by omega)).trans v1.out
  have b2 : BelO s s w w2 := (BelO.of_below B1.out).trans (s' := s + 1) (.of_below B2) (by omega)
  have hz2 : s + 1 < w2.heap.size := g2.lt
  replace g2 := Lib.hid g2
  replace v2 := Lib.hid v2
  replace b2 := Lib.hid b2
  clear B2 B1 v1 z1 hW1
  walk_nrm
  (refine opsX_cons rfl (by rfl) ?_; intro _ hR K hK; replace hF := atRel_trans _ _ _ hF hR; clear hR; have hs9 := atRel_size hF; go_simp; refine hK _ _ ⟨?_, ?_⟩; (· rw [listed_nil (by simp [go_sem, ev_max, ev_min, *])]; exact dp0_nil); clear hK K hs9; try walk_nrm)
  (refine opsX_nil ?_; simp only [Exit.thenX])
  obtain ⟨many, hmany⟩ : ∃ many : Nat, (many : Int) = min (max nn 0) 64 := ⟨(min (max nn 0) 64).toNat, by omega⟩
  have hm9 : (if 64 < (if nn < 0 then 0 else nn) then 64 else (if nn < 0 then 0 else nn)) = (many : Int) := by omega
  have RC := rush_X (Post := Post) (n := 1) (g := s + 1) (vb := s) (x := x) nn many hmany w2 (by omega) g2.out v2.out
  have hm64 : many ≤ 64 := by omega
  clear hmany g2
  replace hm9 := Lib.hid hm9
  (refine codeX_seq ?_)
  (refine codeX_region ?_; simp only [List.size_toArray, List.length_cons, List.length_nil, Nat.reduceAdd, Nat.zero_add, List.range, List.range.loop])
  (refine opsX_cons rfl (by rfl) ?_; intro _ hR K hK; replace hF := atRel_trans _ _ _ hF hR; clear hR; have hs9 := atRel_size hF; go_simp; refine hK _ _ ⟨?_, ?_⟩; (· rw [listed_nil (by simp [go_sem, ev_max, ev_min, *])]; exact dp0_nil); clear hK K hs9; try walk_nrm)
  (refine opsX_cons rfl (by rfl) ?_; intro _ hR K hK; replace hF := atRel_trans _ _ _ hF hR; clear hR; have hs9 := atRel_size hF; go_simp; refine hK _ _ ⟨?_, ?_⟩; (· rw [listed_nil (by simp [go_sem, ev_max, ev_min, *])]; exact dp0_nil); clear hK K hs9; try walk_nrm)
  refine opsX_call rfl (by rfl) rfl ?_ ?_ (Pos := RushPost 1 (s + 1) many x w2)
  · walk_nrm
    exact callX_rely hF RC
  rintro _ w3 x' ⟨S, rfl, rfl, hSh, hSl, hSO, hO, h4, B3, hz3⟩
  clear hF RC
  have hF := atRel_refl w3
  have hk1 : w3.cell? ⟨s, 0, none⟩ = some (.int .u64 x) := box_cell ((B3.block s (by omega) (by omega)).trans v2.out)
  have hS1 : ¬ S (.cell ⟨s, 0, none⟩) := hSl s 0 (by omega) (by omega)
  have b3 : BelO s s w w3 := ⟨b2.out.env.trans B3.env, Nat.le_trans b2.out.size B3.size, fun k hk hn => (B3.block k (by omega) (by omega)).trans (b2.out.block k hk hn)⟩
  have hz4 : s < w3.heap.size := by omega
  obtain ⟨ob, hob⟩ : ∃ ob, ob = w2.heap.size + 1 := ⟨_, rfl⟩
  rw [← hob] at hSO hO ⊢
  clear B3 hz3 hSl b2 v2 hz2 hob
  obtain ⟨r, hr⟩ : ∃ r : Int, r = if many = 0 then 0 else 1 := ⟨_, rfl⟩
  rw [← hr] at h4
  have hr01 : r = 0 ∨ r = 1 := by rw [hr]; split <;> simp
  have hm1 : (if (1 : Int) < (many : Int) then 1 else (many : Int)) = r := by rw [hr]; split <;> split <;> omega
  clear hr
  replace hSh := Lib.hid hSh
  replace hSO := Lib.hid hSO
  replace hO := Lib.hid hO
  replace b3 := Lib.hid b3
  replace hk1 := Lib.hid hk1
  replace h4 := Lib.hid h4
  replace hr01 := Lib.hid hr01
  replace hm1 := Lib.hid hm1
  walk_nrm
  (refine opsX_cons rfl (by rfl) ?_; intro _ hR K hK; replace hF := atRel_trans _ _ _ hF hR; clear hR; have hs9 := atRel_size hF; go_simp; refine hK _ _ ⟨?_, ?_⟩; (· rw [listed_nil (by simp [go_sem, ev_max, ev_min, *])]; exact dp0_nil); clear hK K hs9; try walk_nrm)
  (refine opsX_nil ?_; simp only [Exit.thenX])
  (refine codeX_seq ?_)
  (refine codeX_region ?_; simp only [List.size_toArray, List.length_cons, List.length_nil, Nat.reduceAdd, Nat.zero_add, List.range, List.range.loop])
  have hm8 := hm9.out
  (refine opsX_cons rfl (by rfl) ?_; intro _ hR K hK; replace hF := atRel_trans _ _ _ hF hR; clear hR; have hs9 := atRel_size hF; go_simp; refine hK _ _ ⟨?_, ?_⟩; (· rw [listed_nil (by simp [go_sem, ev_max, ev_min, *])]; exact dp0_nil); clear hK K hs9; try walk_nrm)
  (refine opsX_cons rfl (by rfl) ?_; intro _ hR K hK; replace hF := atRel_trans _ _ _ hF hR; clear hR; have hs9 := atRel_size hF; go_simp; refine hK _ _ ⟨?_, ?_⟩; (· rw [listed_nil (by simp [go_sem, ev_max, ev_min, *])]; exact dp0_nil); clear hK K hs9; try walk_nrm)
  (refine opsX_cons rfl (by rfl) ?_; intro _ hR K hK; replace hF := atRel_trans _ _ _ hF hR; clear hR; have hs9 := atRel_size hF; go_simp; refine hK _ _ ⟨?_, ?_⟩; (· rw [listed_nil (by simp [go_sem, ev_max, ev_min, *])]; exact dp0_nil); clear hK K hs9; try walk_nrm)
  (refine opsX_cons rfl (by rfl) ?_; intro _ hR K hK; replace hF := atRel_trans _ _ _ hF hR; clear hR; have hs9 := atRel_size hF; go_simp; refine hK _ _ ⟨?_, ?_⟩; (· rw [listed_nil (by simp [go_sem, ev_max, ev_min, *])]; exact dp0_nil); clear hK K hs9; try walk_nrm)
  clear hm8 hm9
  (refine opsX_nil ?_; simp only [Exit.thenX])
  (refine codeX_seq ?_)
  (refine codeX_seq ?_)
  (refine codeX_region ?_; simp only [List.size_toArray, List.length_cons, List.length_nil, Nat.reduceAdd, Nat.zero_add, List.range, List.range.loop])
  (repeat (first | (refine opsX_unwanted rfl (by rfl) ?_; try walk_nrm) | (refine opsX_cons rfl (by rfl) ?_; intro _ hR K hK; replace hF := atRel_trans _ _ _ hF hR; clear hR; have hs9 := atRel_size hF; go_simp; refine hK _ _ ⟨?_, ?_⟩; (· rw [listed_nil (by simp [go_sem, ev_max, ev_min, *])]; exact dp0_nil); clear hK K hs9; try walk_nrm)))
  refine opsX_callW rfl (by rfl) rfl ?_ ?_ (Pos := fun v w' => v = .int .i64 r ∧ AtRel w3 w')
  · walk_nrm
    exact CallsW.rely (termsP _) (runs_W (S := S) (s + 1) r w3 hr01.out h4.out) hF
  rintro _ w4 ⟨rfl, hF'⟩
  clear hF h4
  have hF := hF'
  clear hF'
  walk_nrm
  have hm2 := hm1.out
  (repeat (first | (refine opsX_unwanted rfl (by rfl) ?_; try walk_nrm) | (refine opsX_cons rfl (by rfl) ?_; intro _ hR K hK; replace hF := atRel_trans _ _ _ hF hR; clear hR; have hs9 := atRel_size hF; go_simp; refine hK _ _ ⟨?_, ?_⟩; (· rw [listed_nil (by simp [go_sem, ev_max, ev_min, *])]; exact dp0_nil); clear hK K hs9; try walk_nrm)))
  clear hm1 hm2
  (refine opsX_nil ?_; simp only [Exit.thenX])
  ((first | refine codeX_cond (t := true) rfl ?_ | refine codeX_cond (t := false) rfl ?_); simp only [if_true, if_false, Bool.false_eq_true, ↓reduceIte])
  (refine codeX_of ?_; refine codeW_skip (termsP _) ?_; simp only [Exit.thenX])
  have T9 := termsP S
  (refine codeX_seq ?_)
  refine codeX_of ?_
  (refine codeW_seq T9 ?_)
  (refine codeW_region T9 ?_; simp only [List.size_toArray, List.length_cons, List.length_nil, Nat.reduceAdd, Nat.zero_add, List.range, List.range.loop])
  (repeat (refine opsW_cons rfl (by rfl) ?_; intro _ hR K hK; replace hF := atRel_trans _ _ _ hF hR; clear hR; have hs9 := atRel_size hF; go_simp; refine hK _ _ ⟨?_, ?_⟩; (· rw [listed_nil (by simp [go_sem, *])]; exact dp0_nil); clear hK K hs9; try walk_nrm))
  (refine opsW_nil T9 ?_; simp only [Exit.then])
  (refine codeW_block T9 ?_)
  refine codeW_loop T9 (fun a' w' => ∃ (T : Array Value) (j : Nat), a' = ⟨T, []⟩ ∧ T.size = 41 ∧ T[2]? = some (.pointer (some ⟨s, 0, none⟩)) ∧ T[6]? = some (.slice (some ⟨ob, 0, none⟩) many many) ∧ T[8]? = some (.int .i64 j) ∧ j ≤ many ∧ AtRel w3 w')
    (fun a _ => match a.tmps.getD 8 undef with | .int _ i => ((many : Int) - i).toNat | _ => 0) ⟨_, 0, rfl, rfl, rfl, rfl, rfl, Nat.zero_le _, hF⟩ ?_
  clear hF
  rintro _ w5 ⟨T, j, rfl, hT, t2, t6, t8, hj, hr⟩
  revert t2 t6 t8
  apply arr41E hT
  intro v0 v1 v2 v3 v4 v5 v6 v7 v8 v9 v10 v11 v12 v13 v14 v15 v16 v17 v18 v19 v20 v21 v22 v23 v24 v25 v26 v27 v28 v29 v30 v31 v32 v33 v34 v35 v36 v37 v38 v39 v40 t2 t6 t8
  simp only [List.getElem?_toArray, List.getElem?_cons_succ, List.getElem?_cons_zero, Option.some.injEq] at t2 t6 t8
  subst t2 t6 t8
  clear hT
  have hF := atRel_refl w5
  replace hk1 := Lib.hid ((atRel_cell hr _).trans hk1.out)
  replace hr := Lib.hid hr
  by_cases hl : j < many
  · have e9 : decide ((j : Int) < (many : Int)) = true := decide_eq_true (by omega)
    have q1 : (j : Int) < (many : Int) := by omega
    have d7 : IntKind.i64.wrap ((j : Int) + 1) = (j : Int) + 1 := by rw [IntKind.wrap_i64]; omega
    have ad9 : (if j = 0 then (⟨ob, 0, none⟩ : Addr) else ⟨ob, 0 + j, none⟩) = ⟨ob, j, none⟩ := by
      by_cases h : j = 0
      · subst h; rfl
      · rw [if_neg h, Nat.zero_add]
    have ad8 : (if j = 0 then (⟨ob, 0, none⟩ : Addr) else ⟨ob, j, none⟩) = ⟨ob, j, none⟩ := by
      by_cases h : j = 0
      · subst h; rfl
      · rw [if_neg h]
    have hk2 : w5.cell? ⟨ob, j, none⟩ = some (.int .u64 x) := (atRel_cell hr.out _).trans (hO.out j hl)
    replace hk2 := Lib.hid hk2
    have hS2 : ¬ S (.cell ⟨ob, j, none⟩) := hSO.out j
    (repeat (first | (refine codeW_seq T9 ?_) | (refine codeW_region T9 ?_; simp only [List.size_toArray, List.length_cons, List.length_nil, Nat.reduceAdd, Nat.zero_add, List.range, List.range.loop]) | (refine opsW_nil T9 ?_; simp only [Exit.then]) | (refine codeW_skip T9 ?_; simp only [Exit.then, Exit.inBlock, Exit.thenX]) | ((first | refine codeW_cond T9 (t := true) rfl ?_ | refine codeW_cond T9 (t := false) rfl ?_); simp only [if_true, if_false, Bool.false_eq_true, ↓reduceIte]) | (refine opsW_unwanted T9 rfl (by rfl) ?_; try walk_nrm) | (refine opsW_cons rfl (by rfl) ?_; intro _ hR K hK; replace hF := atRel_trans _ _ _ hF hR; clear hR; have hs9 := atRel_size hF; go_simp; refine hK _ _ ⟨?_, ?_⟩; (· rw [listed_nil (by simp [go_sem, *])]; exact dp0_nil); clear hK K hs9; try walk_nrm) | (refine codeW_block T9 ?_)))
    refine codeW_region_any T9 (letsDraw_P S) (by rfl) (fun w₁ h₁ => ?_)
    replace hF := atRel_draw (n := w₁.drawn + 1) (atRel_trans _ _ _ hF h₁)
    clear h₁
    generalize { w₁ with drawn := w₁.drawn + 1 } = w6 at hF ⊢
    simp only [List.size_toArray, List.length_cons, List.length_nil, Nat.reduceAdd, Nat.zero_add]
    refine anyW_all (rs := [0, 1, 4]) (by kernel_rfl) (by simp) ?_
    intro i hi
    simp only [List.mem_cons, List.not_mem_nil, or_false] at hi
    rcases hi with rfl | rfl | rfl
    · skip
      (refine opW_cons rfl (by rfl) ?_; intro _ hR K hK; replace hF := atRel_trans _ _ _ hF hR; clear hR; have hs9 := atRel_size hF; go_simp; refine hK _ _ ⟨?_, ?_⟩; (· rw [listed_nil (by simp [go_sem, *])]; exact dp0_nil); clear hK K hs9; try walk_nrm)
      refine anyW_all (rs := [1, 4]) (by kernel_rfl) (by simp) ?_
      intro i hi
      simp only [List.mem_cons, List.not_mem_nil, or_false] at hi
      rcases hi with rfl | rfl
      · skip
        (refine opW_cons rfl (by rfl) ?_; intro _ hR K hK; replace hF := atRel_trans _ _ _ hF hR; clear hR; have hs9 := atRel_size hF; go_simp; refine hK _ _ ⟨?_, ?_⟩; (· rw [listed_nil (by simp [go_sem, *])]; exact dp0_nil); clear hK K hs9; try walk_nrm)
        refine anyW_all (rs := [2, 4]) (by kernel_rfl) (by simp) ?_
        intro i hi
        simp only [List.mem_cons, List.not_mem_nil, or_false] at hi
        rcases hi with rfl | rfl
        · skip
          (refine opW_cons rfl (by rfl) ?_; intro _ hR K hK; replace hF := atRel_trans _ _ _ hF hR; clear hR; have hs9 := atRel_size hF; go_simp; refine hK _ _ ⟨?_, ?_⟩; (· rw [listed_nil (by simp [go_sem, *])]; exact dp0_nil); clear hK K hs9; try walk_nrm)
          refine anyW_all (rs := [3, 4]) (by kernel_rfl) (by simp) ?_
          intro i hi
          simp only [List.mem_cons, List.not_mem_nil, or_false] at hi
          rcases hi with rfl | rfl
          · skip
            (refine opW_cons rfl (by rfl) ?_; intro _ hR K hK; replace hF := atRel_trans _ _ _ hF hR; clear hR; have hl1 := (atRel_cell hF _).trans hk1.out; have hl2 := (atRel_cell hF _).trans hk2.out; go_simp; refine hK _ _ ⟨?_, ?_⟩; (· intro e he; have hm := mem_listed he; simp [go_sem, hl1, hl2] at hm; rw [hm]; exact evP_cell _ (by first | exact hS1 | exact hS2)); clear hK K hl1 hl2; try walk_nrm)
            refine anyW_all (rs := [4]) (by kernel_rfl) (by simp) ?_
            intro i hi
            simp only [List.mem_cons, List.not_mem_nil, or_false] at hi
            subst hi
            (refine opW_cons rfl (by rfl) ?_; intro _ hR K hK; replace hF := atRel_trans _ _ _ hF hR; clear hR; have hl1 := (atRel_cell hF _).trans hk1.out; have hl2 := (atRel_cell hF _).trans hk2.out; go_simp; refine hK _ _ ⟨?_, ?_⟩; (· intro e he; have hm := mem_listed he; simp [go_sem, hl1, hl2] at hm; rw [hm]; exact evP_cell _ (by first | exact hS1 | exact hS2)); clear hK K hl1 hl2; try walk_nrm)
            refine anyW_all (rs := [5]) (by kernel_rfl) (by simp) ?_
            intro i hi
            simp only [List.mem_cons, List.not_mem_nil, or_false] at hi
            subst hi
            (refine opW_cons rfl (by rfl) ?_; intro _ hR K hK; replace hF := atRel_trans _ _ _ hF hR; clear hR; have hs9 := atRel_size hF; go_simp; refine hK _ _ ⟨?_, ?_⟩; (· rw [listed_nil (by simp [go_sem, *])]; exact dp0_nil); clear hK K hs9; try walk_nrm)
            refine anyW_done ?_
            simp only [Exit.then, Exit.inBlock]
            (repeat (first | (refine codeW_seq T9 ?_) | (refine codeW_region T9 ?_; simp only [List.size_toArray, List.length_cons, List.length_nil, Nat.reduceAdd, Nat.zero_add, List.range, List.range.loop]) | (refine opsW_nil T9 ?_; simp only [Exit.then]) | (refine codeW_skip T9 ?_; simp only [Exit.then, Exit.inBlock, Exit.thenX]) | ((first | refine codeW_cond T9 (t := true) rfl ?_ | refine codeW_cond T9 (t := false) rfl ?_); simp only [if_true, if_false, Bool.false_eq_true, ↓reduceIte]) | (refine opsW_unwanted T9 rfl (by rfl) ?_; try walk_nrm) | (refine opsW_cons rfl (by rfl) ?_; intro _ hR K hK; replace hF := atRel_trans _ _ _ hF hR; clear hR; have hs9 := atRel_size hF; go_simp; refine hK _ _ ⟨?_, ?_⟩; (· rw [listed_nil (by simp [go_sem, *])]; exact dp0_nil); clear hK K hs9; try walk_nrm) | (refine codeW_block T9 ?_)))
            exact ⟨⟨_, j + 1, rfl, rfl, rfl, rfl, rfl, by omega, atRel_trans _ _ _ hr.out hF⟩, by simp; omega⟩
          · skip
            (refine opW_cons rfl (by rfl) ?_; intro _ hR K hK; replace hF := atRel_trans _ _ _ hF hR; clear hR; have hl1 := (atRel_cell hF _).trans hk1.out; have hl2 := (atRel_cell hF _).trans hk2.out; go_simp; refine hK _ _ ⟨?_, ?_⟩; (· intro e he; have hm := mem_listed he; simp [go_sem, hl1, hl2] at hm; rw [hm]; exact evP_cell _ (by first | exact hS1 | exact hS2)); clear hK K hl1 hl2; try walk_nrm)
            refine anyW_all (rs := [3]) (by kernel_rfl) (by simp) ?_
            intro i hi
            simp only [List.mem_cons, List.not_mem_nil, or_false] at hi
            subst hi
            (refine opW_cons rfl (by rfl) ?_; intro _ hR K hK; replace hF := atRel_trans _ _ _ hF hR; clear hR; have hl1 := (atRel_cell hF _).trans hk1.out; have hl2 := (atRel_cell hF _).trans hk2.out; go_simp; refine hK _ _ ⟨?_, ?_⟩; (· intro e he; have hm := mem_listed he; simp [go_sem, hl1, hl2] at hm; rw [hm]; exact evP_cell _ (by first | exact hS1 | exact hS2)); clear hK K hl1 hl2; try walk_nrm)
            refine anyW_all (rs := [5]) (by kernel_rfl) (by simp) ?_
            intro i hi
            simp only [List.mem_cons, List.not_mem_nil, or_false] at hi
            subst hi
            (refine opW_cons rfl (by rfl) ?_; intro _ hR K hK; replace hF := atRel_trans _ _ _ hF hR; clear hR; have hs9 := atRel_size hF; go_simp; refine hK _ _ ⟨?_, ?_⟩; (· rw [listed_nil (by simp [go_sem, *])]; exact dp0_nil); clear hK K hs9; try walk_nrm)
            refine anyW_done ?_
            simp only [Exit.then, Exit.inBlock]
            (repeat (first | (refine codeW_seq T9 ?_) | (refine codeW_region T9 ?_; simp only [List.size_toArray, List.length_cons, List.length_nil, Nat.reduceAdd, Nat.zero_add, List.range, List.range.loop]) | (refine opsW_nil T9 ?_; simp only [Exit.then]) | (refine codeW_skip T9 ?_; simp only [Exit.then, Exit.inBlock, Exit.thenX]) | ((first | refine codeW_cond T9 (t := true) rfl ?_ | refine codeW_cond T9 (t := false) rfl ?_); simp only [if_true, if_false, Bool.false_eq_true, ↓reduceIte]) | (refine opsW_unwanted T9 rfl (by rfl) ?_; try walk_nrm) | (refine opsW_cons rfl (by rfl) ?_; intro _ hR K hK; replace hF := atRel_trans _ _ _ hF hR; clear hR; have hs9 := atRel_size hF; go_simp; refine hK _ _ ⟨?_, ?_⟩; (· rw [listed_nil (by simp [go_sem, *])]; exact dp0_nil); clear hK K hs9; try walk_nrm) | (refine codeW_block T9 ?_)))
            exact ⟨⟨_, j + 1, rfl, rfl, rfl, rfl, rfl, by omega, atRel_trans _ _ _ hr.out hF⟩, by simp; omega⟩
        · skip
          (refine opW_cons rfl (by rfl) ?_; intro _ hR K hK; replace hF := atRel_trans _ _ _ hF hR; clear hR; have hl1 := (atRel_cell hF _).trans hk1.out; have hl2 := (atRel_cell hF _).trans hk2.out; go_simp; refine hK _ _ ⟨?_, ?_⟩; (· intro e he; have hm := mem_listed he; simp [go_sem, hl1, hl2] at hm; rw [hm]; exact evP_cell _ (by first | exact hS1 | exact hS2)); clear hK K hl1 hl2; try walk_nrm)
          refine anyW_all (rs := [2]) (by kernel_rfl) (by simp) ?_
          intro i hi
          simp only [List.mem_cons, List.not_mem_nil, or_false] at hi
          subst hi
          (refine opW_cons rfl (by rfl) ?_; intro _ hR K hK; replace hF := atRel_trans _ _ _ hF hR; clear hR; have hs9 := atRel_size hF; go_simp; refine hK _ _ ⟨?_, ?_⟩; (· rw [listed_nil (by simp [go_sem, *])]; exact dp0_nil); clear hK K hs9; try walk_nrm)
          refine anyW_all (rs := [3]) (by kernel_rfl) (by simp) ?_
          intro i hi
          simp only [List.mem_cons, List.not_mem_nil, or_false] at hi
          subst hi
          (refine opW_cons rfl (by rfl) ?_; intro _ hR K hK; replace hF := atRel_trans _ _ _ hF hR; clear hR; have hl1 := (atRel_cell hF _).trans hk1.out; have hl2 := (atRel_cell hF _).trans hk2.out; go_simp; refine hK _ _ ⟨?_, ?_⟩; (· intro e he; have hm := mem_listed he; simp [go_sem, hl1, hl2] at hm; rw [hm]; exact evP_cell _ (by first | exact hS1 | exact hS2)); clear hK K hl1 hl2; try walk_nrm)
          refine anyW_all (rs := [5]) (by kernel_rfl) (by simp) ?_
          intro i hi
          simp only [List.mem_cons, List.not_mem_nil, or_false] at hi
          subst hi
          (refine opW_cons rfl (by rfl) ?_; intro _ hR K hK; replace hF := atRel_trans _ _ _ hF hR; clear hR; have hs9 := atRel_size hF; go_simp; refine hK _ _ ⟨?_, ?_⟩; (· rw [listed_nil (by simp [go_sem, *])]; exact dp0_nil); clear hK K hs9; try walk_nrm)
          refine anyW_done ?_
          simp only [Exit.then, Exit.inBlock]
          (repeat (first | (refine codeW_seq T9 ?_) | (refine codeW_region T9 ?_; simp only [List.size_toArray, List.length_cons, List.length_nil, Nat.reduceAdd, Nat.zero_add, List.range, List.range.loop]) | (refine opsW_nil T9 ?_; simp only [Exit.then]) | (refine codeW_skip T9 ?_; simp only [Exit.then, Exit.inBlock, Exit.thenX]) | ((first | refine codeW_cond T9 (t := true) rfl ?_ | refine codeW_cond T9 (t := false) rfl ?_); simp only [if_true, if_false, Bool.false_eq_true, ↓reduceIte]) | (refine opsW_unwanted T9 rfl (by rfl) ?_; try walk_nrm) | (refine opsW_cons rfl (by rfl) ?_; intro _ hR K hK; replace hF := atRel_trans _ _ _ hF hR; clear hR; have hs9 := atRel_size hF; go_simp; refine hK _ _ ⟨?_, ?_⟩; (· rw [listed_nil (by simp [go_sem, *])]; exact dp0_nil); clear hK K hs9; try walk_nrm) | (refine codeW_block T9 ?_)))
          exact ⟨⟨_, j + 1, rfl, rfl, rfl, rfl, rfl, by omega, atRel_trans _ _ _ hr.out hF⟩, by simp; omega⟩
      · skip
        (refine opW_cons rfl (by rfl) ?_; intro _ hR K hK; replace hF := atRel_trans _ _ _ hF hR; clear hR; have hl1 := (atRel_cell hF _).trans hk1.out; have hl2 := (atRel_cell hF _).trans hk2.out; go_simp; refine hK _ _ ⟨?_, ?_⟩; (· intro e he; have hm := mem_listed he; simp [go_sem, hl1, hl2] at hm; rw [hm]; exact evP_cell _ (by first | exact hS1 | exact hS2)); clear hK K hl1 hl2; try walk_nrm)
        refine anyW_all (rs := [1]) (by kernel_rfl) (by simp) ?_
        intro i hi
        simp only [List.mem_cons, List.not_mem_nil, or_false] at hi
        subst hi
        (refine opW_cons rfl (by rfl) ?_; intro _ hR K hK; replace hF := atRel_trans _ _ _ hF hR; clear hR; have hs9 := atRel_size hF; go_simp; refine hK _ _ ⟨?_, ?_⟩; (· rw [listed_nil (by simp [go_sem, *])]; exact dp0_nil); clear hK K hs9; try walk_nrm)
        refine anyW_all (rs := [2]) (by kernel_rfl) (by simp) ?_
        intro i hi
        simp only [List.mem_cons, List.not_mem_nil, or_false] at hi
        subst hi
        (refine opW_cons rfl (by rfl) ?_; intro _ hR K hK; replace hF := atRel_trans _ _ _ hF hR; clear hR; have hs9 := atRel_size hF; go_simp; refine hK _ _ ⟨?_, ?_⟩; (· rw [listed_nil (by simp [go_sem, *])]; exact dp0_nil); clear hK K hs9; try walk_nrm)
        refine anyW_all (rs := [3]) (by kernel_rfl) (by simp) ?_
        intro i hi
        simp only [List.mem_cons, List.not_mem_nil, or_false] at hi
        subst hi
        (refine opW_cons rfl (by rfl) ?_; intro _ hR K hK; replace hF := atRel_trans _ _ _ hF hR; clear hR; have hl1 := (atRel_cell hF _).trans hk1.out; have hl2 := (atRel_cell hF _).trans hk2.out; go_simp; refine hK _ _ ⟨?_, ?_⟩; (· intro e he; have hm := mem_listed he; simp [go_sem, hl1, hl2] at hm; rw [hm]; exact evP_cell _ (by first | exact hS1 | exact hS2)); clear hK K hl1 hl2; try walk_nrm)
        refine anyW_all (rs := [5]) (by kernel_rfl) (by simp) ?_
        intro i hi
        simp only [List.mem_cons, List.not_mem_nil, or_false] at hi
        subst hi
        (refine opW_cons rfl (by rfl) ?_; intro _ hR K hK; replace hF := atRel_trans _ _ _ hF hR; clear hR; have hs9 := atRel_size hF; go_simp; refine hK _ _ ⟨?_, ?_⟩; (· rw [listed_nil (by simp [go_sem, *])]; exact dp0_nil); clear hK K hs9; try walk_nrm)
        refine anyW_done ?_
        simp only [Exit.then, Exit.inBlock]
        (repeat (first | (refine codeW_seq T9 ?_) | (refine codeW_region T9 ?_; simp only [List.size_toArray, List.length_cons, List.length_nil, Nat.reduceAdd, Nat.zero_add, List.range, List.range.loop]) | (refine opsW_nil T9 ?_; simp only [Exit.then]) | (refine codeW_skip T9 ?_; simp only [Exit.then, Exit.inBlock, Exit.thenX]) | ((first | refine codeW_cond T9 (t := true) rfl ?_ | refine codeW_cond T9 (t := false) rfl ?_); simp only [if_true, if_false, Bool.false_eq_true, ↓reduceIte]) | (refine opsW_unwanted T9 rfl (by rfl) ?_; try walk_nrm) | (refine opsW_cons rfl (by rfl) ?_; intro _ hR K hK; replace hF := atRel_trans _ _ _ hF hR; clear hR; have hs9 := atRel_size hF; go_simp; refine hK _ _ ⟨?_, ?_⟩; (· rw [listed_nil (by simp [go_sem, *])]; exact dp0_nil); clear hK K hs9; try walk_nrm) | (refine codeW_block T9 ?_)))
        exact ⟨⟨_, j + 1, rfl, rfl, rfl, rfl, rfl, by omega, atRel_trans _ _ _ hr.out hF⟩, by simp; omega⟩
    · skip
      (refine opW_cons rfl (by rfl) ?_; intro _ hR K hK; replace hF := atRel_trans _ _ _ hF hR; clear hR; have hs9 := atRel_size hF; go_simp; refine hK _ _ ⟨?_, ?_⟩; (· rw [listed_nil (by simp [go_sem, *])]; exact dp0_nil); clear hK K hs9; try walk_nrm)
      refine anyW_all (rs := [0, 4]) (by kernel_rfl) (by simp) ?_
      intro i hi
      simp only [List.mem_cons, List.not_mem_nil, or_false] at hi
      rcases hi with rfl | rfl
      · skip
        (refine opW_cons rfl (by rfl) ?_; intro _ hR K hK; replace hF := atRel_trans _ _ _ hF hR; clear hR; have hs9 := atRel_size hF; go_simp; refine hK _ _ ⟨?_, ?_⟩; (· rw [listed_nil (by simp [go_sem, *])]; exact dp0_nil); clear hK K hs9; try walk_nrm)
        refine anyW_all (rs := [2, 4]) (by kernel_rfl) (by simp) ?_
        intro i hi
        simp only [List.mem_cons, List.not_mem_nil, or_false] at hi
        rcases hi with rfl | rfl
        · skip
          (refine opW_cons rfl (by rfl) ?_; intro _ hR K hK; replace hF := atRel_trans _ _ _ hF hR; clear hR; have hs9 := atRel_size hF; go_simp; refine hK _ _ ⟨?_, ?_⟩; (· rw [listed_nil (by simp [go_sem, *])]; exact dp0_nil); clear hK K hs9; try walk_nrm)
          refine anyW_all (rs := [3, 4]) (by kernel_rfl) (by simp) ?_
          intro i hi
          simp only [List.mem_cons, List.not_mem_nil, or_false] at hi
          rcases hi with rfl | rfl
          · skip
            (refine opW_cons rfl (by rfl) ?_; intro _ hR K hK; replace hF := atRel_trans _ _ _ hF hR; clear hR; have hl1 := (atRel_cell hF _).trans hk1.out; have hl2 := (atRel_cell hF _).trans hk2.out; go_simp; refine hK _ _ ⟨?_, ?_⟩; (· intro e he; have hm := mem_listed he; simp [go_sem, hl1, hl2] at hm; rw [hm]; exact evP_cell _ (by first | exact hS1 | exact hS2)); clear hK K hl1 hl2; try walk_nrm)
            refine anyW_all (rs := [4]) (by kernel_rfl) (by simp) ?_
            intro i hi
            simp only [List.mem_cons, List.not_mem_nil, or_false] at hi
            subst hi
            (refine opW_cons rfl (by rfl) ?_; intro _ hR K hK; replace hF := atRel_trans _ _ _ hF hR; clear hR; have hl1 := (atRel_cell hF _).trans hk1.out; have hl2 := (atRel_cell hF _).trans hk2.out; go_simp; refine hK _ _ ⟨?_, ?_⟩; (· intro e he; have hm := mem_listed he; simp [go_sem, hl1, hl2] at hm; rw [hm]; exact evP_cell _ (by first | exact hS1 | exact hS2)); clear hK K hl1 hl2; try walk_nrm)
            refine anyW_all (rs := [5]) (by kernel_rfl) (by simp) ?_
            intro i hi
            simp only [List.mem_cons, List.not_mem_nil, or_false] at hi
            subst hi
            (refine opW_cons rfl (by rfl) ?_; intro _ hR K hK; replace hF := atRel_trans _ _ _ hF hR; clear hR; have hs9 := atRel_size hF; go_simp; refine hK _ _ ⟨?_, ?_⟩; (· rw [listed_nil (by simp [go_sem, *])]; exact dp0_nil); clear hK K hs9; try walk_nrm)
            refine anyW_done ?_
            simp only [Exit.then, Exit.inBlock]
            (repeat (first | (refine codeW_seq T9 ?_) | (refine codeW_region T9 ?_; simp only [List.size_toArray, List.length_cons, List.length_nil, Nat.reduceAdd, Nat.zero_add, List.range, List.range.loop]) | (refine opsW_nil T9 ?_; simp only [Exit.then]) | (refine codeW_skip T9 ?_; simp only [Exit.then, Exit.inBlock, Exit.thenX]) | ((first | refine codeW_cond T9 (t := true) rfl ?_ | refine codeW_cond T9 (t := false) rfl ?_); simp only [if_true, if_false, Bool.false_eq_true, ↓reduceIte]) | (refine opsW_unwanted T9 rfl (by rfl) ?_; try walk_nrm) | (refine opsW_cons rfl (by rfl) ?_; intro _ hR K hK; replace hF := atRel_trans _ _ _ hF hR; clear hR; have hs9 := atRel_size hF; go_simp; refine hK _ _ ⟨?_, ?_⟩; (· rw [listed_nil (by simp [go_sem, *])]; exact dp0_nil); clear hK K hs9; try walk_nrm) | (refine codeW_block T9 ?_)))
            exact ⟨⟨_, j + 1, rfl, rfl, rfl, rfl, rfl, by omega, atRel_trans _ _ _ hr.out hF⟩, by simp; omega⟩
          · skip
            (refine opW_cons rfl (by rfl) ?_; intro _ hR K hK; replace hF := atRel_trans _ _ _ hF hR; clear hR; have hl1 := (atRel_cell hF _).trans hk1.out; have hl2 := (atRel_cell hF _).trans hk2.out; go_simp; refine hK _ _ ⟨?_, ?_⟩; (· intro e he; have hm := mem_listed he; simp [go_sem, hl1, hl2] at hm; rw [hm]; exact evP_cell _ (by first | exact hS1 | exact hS2)); clear hK K hl1 hl2; try walk_nrm)
            refine anyW_all (rs := [3]) (by kernel_rfl) (by simp) ?_
            intro i hi
            simp only [List.mem_cons, List.not_mem_nil, or_false] at hi
            subst hi
            (refine opW_cons rfl (by rfl) ?_; intro _ hR K hK; replace hF := atRel_trans _ _ _ hF hR; clear hR; have hl1 := (atRel_cell hF _).trans hk1.out; have hl2 := (atRel_cell hF _).trans hk2.out; go_simp; refine hK _ _ ⟨?_, ?_⟩; (· intro e he; have hm := mem_listed he; simp [go_sem, hl1, hl2] at hm; rw [hm]; exact evP_cell _ (by first | exact hS1 | exact hS2)); clear hK K hl1 hl2; try walk_nrm)
            refine anyW_all (rs := [5]) (by kernel_rfl) (by simp) ?_
            intro i hi
            simp only [List.mem_cons, List.not_mem_nil, or_false] at hi
            subst hi
            (refine opW_cons rfl (by rfl) ?_; intro _ hR K hK; replace hF := atRel_trans _ _ _ hF hR; clear hR; have hs9 := atRel_size hF; go_simp; refine hK _ _ ⟨?_, ?_⟩; (· rw [listed_nil (by simp [go_sem, *])]; exact dp0_nil); clear hK K hs9; try walk_nrm)
            refine anyW_done ?_
            simp only [Exit.then, Exit.inBlock]
            (repeat (first | (refine codeW_seq T9 ?_) | (refine codeW_region T9 ?_; simp only [List.size_toArray, List.length_cons, List.length_nil, Nat.reduceAdd, Nat.zero_add, List.range, List.range.loop]) | (refine opsW_nil T9 ?_; simp only [Exit.then]) | (refine codeW_skip T9 ?_; simp only [Exit.then, Exit.inBlock, Exit.thenX]) | ((first | refine codeW_cond T9 (t := true) rfl ?_ | refine codeW_cond T9 (t := false) rfl ?_); simp only [if_true, if_false, Bool.false_eq_true, ↓reduceIte]) | (refine opsW_unwanted T9 rfl (by rfl) ?_; try walk_nrm) | (refine opsW_cons rfl (by rfl) ?_; intro _ hR K hK; replace hF := atRel_trans _ _ _ hF hR; clear hR; have hs9 := atRel_size hF; go_simp; refine hK _ _ ⟨?_, ?_⟩; (· rw [listed_nil (by simp [go_sem, *])]; exact dp0_nil); clear hK K hs9; try walk_nrm) | (refine codeW_block T9 ?_)))
            exact ⟨⟨_, j + 1, rfl, rfl, rfl, rfl, rfl, by omega, atRel_trans _ _ _ hr.out hF⟩, by simp; omega⟩
        · skip
          (refine opW_cons rfl (by rfl) ?_; intro _ hR K hK; replace hF := atRel_trans _ _ _ hF hR; clear hR; have hl1 := (atRel_cell hF _).trans hk1.out; have hl2 := (atRel_cell hF _).trans hk2.out; go_simp; refine hK _ _ ⟨?_, ?_⟩; (· intro e he; have hm := mem_listed he; simp [go_sem, hl1, hl2] at hm; rw [hm]; exact evP_cell _ (by first | exact hS1 | exact hS2)); clear hK K hl1 hl2; try walk_nrm)
          refine anyW_all (rs := [2]) (by kernel_rfl) (by simp) ?_
          intro i hi
          simp only [List.mem_cons, List.not_mem_nil, or_false] at hi
          subst hi
          (refine opW_cons rfl (by rfl) ?_; intro _ hR K hK; replace hF := atRel_trans _ _ _ hF hR; clear hR; have hs9 := atRel_size hF; go_simp; refine hK _ _ ⟨?_, ?_⟩; (· rw [listed_nil (by simp [go_sem, *])]; exact dp0_nil); clear hK K hs9; try walk_nrm)
          refine anyW_all (rs := [3]) (by kernel_rfl) (by simp) ?_
          intro i hi
          simp only [List.mem_cons, List.not_mem_nil, or_false] at hi
          subst hi
          (refine opW_cons rfl (by rfl) ?_; intro _ hR K hK; replace hF := atRel_trans _ _ _ hF hR; clear hR; have hl1 := (atRel_cell hF _).trans hk1.out; have hl2 := (atRel_cell hF _).trans hk2.out; go_simp; refine hK _ _ ⟨?_, ?_⟩; (· intro e he; have hm := mem_listed he; simp [go_sem, hl1, hl2] at hm; rw [hm]; exact evP_cell _ (by first | exact hS1 | exact hS2)); clear hK K hl1 hl2; try walk_nrm)
          refine anyW_all (rs := [5]) (by kernel_rfl) (by simp) ?_
          intro i hi
          simp only [List.mem_cons, List.not_mem_nil, or_false] at hi
          subst hi
          (refine opW_cons rfl (by rfl) ?_; intro _ hR K hK; replace hF := atRel_trans _ _ _ hF hR; clear hR; have hs9 := atRel_size hF; go_simp; refine hK _ _ ⟨?_, ?_⟩; (· rw [listed_nil (by simp [go_sem, *])]; exact dp0_nil); clear hK K hs9; try walk_nrm)
          refine anyW_done ?_
          simp only [Exit.then, Exit.inBlock]
          (repeat (first | (refine codeW_seq T9 ?_) | (refine codeW_region T9 ?_; simp only [List.size_toArray, List.length_cons, List.length_nil, Nat.reduceAdd, Nat.zero_add, List.range, List.range.loop]) | (refine opsW_nil T9 ?_; simp only [Exit.then]) | (refine codeW_skip T9 ?_; simp only [Exit.then, Exit.inBlock, Exit.thenX]) | ((first | refine codeW_cond T9 (t := true) rfl ?_ | refine codeW_cond T9 (t := false) rfl ?_); simp only [if_true, if_false, Bool.false_eq_true, ↓reduceIte]) | (refine opsW_unwanted T9 rfl (by rfl) ?_; try walk_nrm) | (refine opsW_cons rfl (by rfl) ?_; intro _ hR K hK; replace hF := atRel_trans _ _ _ hF hR; clear hR; have hs9 := atRel_size hF; go_simp; refine hK _ _ ⟨?_, ?_⟩; (· rw [listed_nil (by simp [go_sem, *])]; exact dp0_nil); clear hK K hs9; try walk_nrm) | (refine codeW_block T9 ?_)))
          exact ⟨⟨_, j + 1, rfl, rfl, rfl, rfl, rfl, by omega, atRel_trans _ _ _ hr.out hF⟩, by simp; omega⟩
      · skip
        (refine opW_cons rfl (by rfl) ?_; intro _ hR K hK; replace hF := atRel_trans _ _ _ hF hR; clear hR; have hl1 := (atRel_cell hF _).trans hk1.out; have hl2 := (atRel_cell hF _).trans hk2.out; go_simp; refine hK _ _ ⟨?_, ?_⟩; (· intro e he; have hm := mem_listed he; simp [go_sem, hl1, hl2] at hm; rw [hm]; exact evP_cell _ (by first | exact hS1 | exact hS2)); clear hK K hl1 hl2; try walk_nrm)
        refine anyW_all (rs := [0]) (by kernel_rfl) (by simp) ?_
        intro i hi
        simp only [List.mem_cons, List.not_mem_nil, or_false] at hi
        subst hi
        (refine opW_cons rfl (by rfl) ?_; intro _ hR K hK; replace hF := atRel_trans _ _ _ hF hR; clear hR; have hs9 := atRel_size hF; go_simp; refine hK _ _ ⟨?_, ?_⟩; (· rw [listed_nil (by simp [go_sem, *])]; exact dp0_nil); clear hK K hs9; try walk_nrm)
        refine anyW_all (rs := [2]) (by kernel_rfl) (by simp) ?_
        intro i hi
        simp only [List.mem_cons, List.not_mem_nil, or_false] at hi
        subst hi
        (refine opW_cons rfl (by rfl) ?_; intro _ hR K hK; replace hF := atRel_trans _ _ _ hF hR; clear hR; have hs9 := atRel_size hF; go_simp; refine hK _ _ ⟨?_, ?_⟩; (· rw [listed_nil (by simp [go_sem, *])]; exact dp0_nil); clear hK K hs9; try walk_nrm)
        refine anyW_all (rs := [3]) (by kernel_rfl) (by simp) ?_
        intro i hi
        simp only [List.mem_cons, List.not_mem_nil, or_false] at hi
        subst hi
        (refine opW_cons rfl (by rfl) ?_; intro _ hR K hK; replace hF := atRel_trans _ _ _ hF hR; clear hR; have hl1 := (atRel_cell hF _).trans hk1.out; have hl2 := (atRel_cell hF _).trans hk2.out; go_simp; refine hK _ _ ⟨?_, ?_⟩; (· intro e he; have hm := mem_listed he; simp [go_sem, hl1, hl2] at hm; rw [hm]; exact evP_cell _ (by first | exact hS1 | exact hS2)); clear hK K hl1 hl2; try walk_nrm)
        refine anyW_all (rs := [5]) (by kernel_rfl) (by simp) ?_
        intro i hi
        simp only [List.mem_cons, List.not_mem_nil, or_false] at hi
        subst hi
        (refine opW_cons rfl (by rfl) ?_; intro _ hR K hK; replace hF := atRel_trans _ _ _ hF hR; clear hR; have hs9 := atRel_size hF; go_simp; refine hK _ _ ⟨?_, ?_⟩; (· rw [listed_nil (by simp [go_sem, *])]; exact dp0_nil); clear hK K hs9; try walk_nrm)
        refine anyW_done ?_
        simp only [Exit.then, Exit.inBlock]
        (repeat (first | (refine codeW_seq T9 ?_) | (refine codeW_region T9 ?_; simp only [List.size_toArray, List.length_cons, List.length_nil, Nat.reduceAdd, Nat.zero_add, List.range, List.range.loop]) | (refine opsW_nil T9 ?_; simp only [Exit.then]) | (refine codeW_skip T9 ?_; simp only [Exit.then, Exit.inBlock, Exit.thenX]) | ((first | refine codeW_cond T9 (t := true) rfl ?_ | refine codeW_cond T9 (t := false) rfl ?_); simp only [if_true, if_false, Bool.false_eq_true, ↓reduceIte]) | (refine opsW_unwanted T9 rfl (by rfl) ?_; try walk_nrm) | (refine opsW_cons rfl (by rfl) ?_; intro _ hR K hK; replace hF := atRel_trans _ _ _ hF hR; clear hR; have hs9 := atRel_size hF; go_simp; refine hK _ _ ⟨?_, ?_⟩; (· rw [listed_nil (by simp [go_sem, *])]; exact dp0_nil); clear hK K hs9; try walk_nrm) | (refine codeW_block T9 ?_)))
        exact ⟨⟨_, j + 1, rfl, rfl, rfl, rfl, rfl, by omega, atRel_trans _ _ _ hr.out hF⟩, by simp; omega⟩
    · skip
      (refine opW_cons rfl (by rfl) ?_; intro _ hR K hK; replace hF := atRel_trans _ _ _ hF hR; clear hR; have hl1 := (atRel_cell hF _).trans hk1.out; have hl2 := (atRel_cell hF _).trans hk2.out; go_simp; refine hK _ _ ⟨?_, ?_⟩; (· intro e he; have hm := mem_listed he; simp [go_sem, hl1, hl2] at hm; rw [hm]; exact evP_cell _ (by first | exact hS1 | exact hS2)); clear hK K hl1 hl2; try walk_nrm)
      refine anyW_all (rs := [0, 1]) (by kernel_rfl) (by simp) ?_
      intro i hi
      simp only [List.mem_cons, List.not_mem_nil, or_false] at hi
      rcases hi with rfl | rfl
      · skip
        (refine opW_cons rfl (by rfl) ?_; intro _ hR K hK; replace hF := atRel_trans _ _ _ hF hR; clear hR; have hs9 := atRel_size hF; go_simp; refine hK _ _ ⟨?_, ?_⟩; (· rw [listed_nil (by simp [go_sem, *])]; exact dp0_nil); clear hK K hs9; try walk_nrm)
        refine anyW_all (rs := [1]) (by kernel_rfl) (by simp) ?_
        intro i hi
        simp only [List.mem_cons, List.not_mem_nil, or_false] at hi
        subst hi
        (refine opW_cons rfl (by rfl) ?_; intro _ hR K hK; replace hF := atRel_trans _ _ _ hF hR; clear hR; have hs9 := atRel_size hF; go_simp; refine hK _ _ ⟨?_, ?_⟩; (· rw [listed_nil (by simp [go_sem, *])]; exact dp0_nil); clear hK K hs9; try walk_nrm)
        refine anyW_all (rs := [2]) (by kernel_rfl) (by simp) ?_
        intro i hi
        simp only [List.mem_cons, List.not_mem_nil, or_false] at hi
        subst hi
        (refine opW_cons rfl (by rfl) ?_; intro _ hR K hK; replace hF := atRel_trans _ _ _ hF hR; clear hR; have hs9 := atRel_size hF; go_simp; refine hK _ _ ⟨?_, ?_⟩; (· rw [listed_nil (by simp [go_sem, *])]; exact dp0_nil); clear hK K hs9; try walk_nrm)
        refine anyW_all (rs := [3]) (by kernel_rfl) (by simp) ?_
        intro i hi
        simp only [List.mem_cons, List.not_mem_nil, or_false] at hi
        subst hi
        (refine opW_cons rfl (by rfl) ?_; intro _ hR K hK; replace hF := atRel_trans _ _ _ hF hR; clear hR; have hl1 := (atRel_cell hF _).trans hk1.out; have hl2 := (atRel_cell hF _).trans hk2.out; go_simp; refine hK _ _ ⟨?_, ?_⟩; (· intro e he; have hm := mem_listed he; simp [go_sem, hl1, hl2] at hm; rw [hm]; exact evP_cell _ (by first | exact hS1 | exact hS2)); clear hK K hl1 hl2; try walk_nrm)
        refine anyW_all (rs := [5]) (by kernel_rfl) (by simp) ?_
        intro i hi
        simp only [List.mem_cons, List.not_mem_nil, or_false] at hi
        subst hi
        (refine opW_cons rfl (by rfl) ?_; intro _ hR K hK; replace hF := atRel_trans _ _ _ hF hR; clear hR; have hs9 := atRel_size hF; go_simp; refine hK _ _ ⟨?_, ?_⟩; (· rw [listed_nil (by simp [go_sem, *])]; exact dp0_nil); clear hK K hs9; try walk_nrm)
        refine anyW_done ?_
        simp only [Exit.then, Exit.inBlock]
        (repeat (first | (refine codeW_seq T9 ?_) | (refine codeW_region T9 ?_; simp only [List.size_toArray, List.length_cons, List.length_nil, Nat.reduceAdd, Nat.zero_add, List.range, List.range.loop]) | (refine opsW_nil T9 ?_; simp only [Exit.then]) | (refine codeW_skip T9 ?_; simp only [Exit.then, Exit.inBlock, Exit.thenX]) | ((first | refine codeW_cond T9 (t := true) rfl ?_ | refine codeW_cond T9 (t := false) rfl ?_); simp only [if_true, if_false, Bool.false_eq_true, ↓reduceIte]) | (refine opsW_unwanted T9 rfl (by rfl) ?_; try walk_nrm) | (refine opsW_cons rfl (by rfl) ?_; intro _ hR K hK; replace hF := atRel_trans _ _ _ hF hR; clear hR; have hs9 := atRel_size hF; go_simp; refine hK _ _ ⟨?_, ?_⟩; (· rw [listed_nil (by simp [go_sem, *])]; exact dp0_nil); clear hK K hs9; try walk_nrm) | (refine codeW_block T9 ?_)))
        exact ⟨⟨_, j + 1, rfl, rfl, rfl, rfl, rfl, by omega, atRel_trans _ _ _ hr.out hF⟩, by simp; omega⟩
      · skip
        (refine opW_cons rfl (by rfl) ?_; intro _ hR K hK; replace hF := atRel_trans _ _ _ hF hR; clear hR; have hs9 := atRel_size hF; go_simp; refine hK _ _ ⟨?_, ?_⟩; (· rw [listed_nil (by simp [go_sem, *])]; exact dp0_nil); clear hK K hs9; try walk_nrm)
        refine anyW_all (rs := [0]) (by kernel_rfl) (by simp) ?_
        intro i hi
        simp only [List.mem_cons, List.not_mem_nil, or_false] at hi
        subst hi
        (refine opW_cons rfl (by rfl) ?_; intro _ hR K hK; replace hF := atRel_trans _ _ _ hF hR; clear hR; have hs9 := atRel_size hF; go_simp; refine hK _ _ ⟨?_, ?_⟩; (· rw [listed_nil (by simp [go_sem, *])]; exact dp0_nil); clear hK K hs9; try walk_nrm)
        refine anyW_all (rs := [2]) (by kernel_rfl) (by simp) ?_
        intro i hi
        simp only [List.mem_cons, List.not_mem_nil, or_false] at hi
        subst hi
        (refine opW_cons rfl (by rfl) ?_; intro _ hR K hK; replace hF := atRel_trans _ _ _ hF hR; clear hR; have hs9 := atRel_size hF; go_simp; refine hK _ _ ⟨?_, ?_⟩; (· rw [listed_nil (by simp [go_sem, *])]; exact dp0_nil); clear hK K hs9; try walk_nrm)
        refine anyW_all (rs := [3]) (by kernel_rfl) (by simp) ?_
        intro i hi
        simp only [List.mem_cons, List.not_mem_nil, or_false] at hi
        subst hi
        (refine opW_cons rfl (by rfl) ?_; intro _ hR K hK; replace hF := atRel_trans _ _ _ hF hR; clear hR; have hl1 := (atRel_cell hF _).trans hk1.out; have hl2 := (atRel_cell hF _).trans hk2.out; go_simp; refine hK _ _ ⟨?_, ?_⟩; (· intro e he; have hm := mem_listed he; simp [go_sem, hl1, hl2] at hm; rw [hm]; exact evP_cell _ (by first | exact hS1 | exact hS2)); clear hK K hl1 hl2; try walk_nrm)
        refine anyW_all (rs := [5]) (by kernel_rfl) (by simp) ?_
        intro i hi
        simp only [List.mem_cons, List.not_mem_nil, or_false] at hi
        subst hi
        (refine opW_cons rfl (by rfl) ?_; intro _ hR K hK; replace hF := atRel_trans _ _ _ hF hR; clear hR; have hs9 := atRel_size hF; go_simp; refine hK _ _ ⟨?_, ?_⟩; (· rw [listed_nil (by simp [go_sem, *])]; exact dp0_nil); clear hK K hs9; try walk_nrm)
        refine anyW_done ?_
        simp only [Exit.then, Exit.inBlock]
        (repeat (first | (refine codeW_seq T9 ?_) | (refine codeW_region T9 ?_; simp only [List.size_toArray, List.length_cons, List.length_nil, Nat.reduceAdd, Nat.zero_add, List.range, List.range.loop]) | (refine opsW_nil T9 ?_; simp only [Exit.then]) | (refine codeW_skip T9 ?_; simp only [Exit.then, Exit.inBlock, Exit.thenX]) | ((first | refine codeW_cond T9 (t := true) rfl ?_ | refine codeW_cond T9 (t := false) rfl ?_); simp only [if_true, if_false, Bool.false_eq_true, ↓reduceIte]) | (refine opsW_unwanted T9 rfl (by rfl) ?_; try walk_nrm) | (refine opsW_cons rfl (by rfl) ?_; intro _ hR K hK; replace hF := atRel_trans _ _ _ hF hR; clear hR; have hs9 := atRel_size hF; go_simp; refine hK _ _ ⟨?_, ?_⟩; (· rw [listed_nil (by simp [go_sem, *])]; exact dp0_nil); clear hK K hs9; try walk_nrm) | (refine codeW_block T9 ?_)))
        exact ⟨⟨_, j + 1, rfl, rfl, rfl, rfl, rfl, by omega, atRel_trans _ _ _ hr.out hF⟩, by simp; omega⟩
  · have e9 : decide ((j : Int) < (many : Int)) = false := decide_eq_false (by omega)
    (repeat (first | (refine codeW_seq T9 ?_) | (refine codeW_region T9 ?_; simp only [List.size_toArray, List.length_cons, List.length_nil, Nat.reduceAdd, Nat.zero_add, List.range, List.range.loop]) | (refine opsW_nil T9 ?_; simp only [Exit.then]) | (refine codeW_skip T9 ?_; simp only [Exit.then, Exit.inBlock, Exit.thenX]) | ((first | refine codeW_cond T9 (t := true) rfl ?_ | refine codeW_cond T9 (t := false) rfl ?_); simp only [if_true, if_false, Bool.false_eq_true, ↓reduceIte]) | (refine opsW_unwanted T9 rfl (by rfl) ?_; try walk_nrm) | (refine opsW_cons rfl (by rfl) ?_; intro _ hR K hK; replace hF := atRel_trans _ _ _ hF hR; clear hR; have hs9 := atRel_size hF; go_simp; refine hK _ _ ⟨?_, ?_⟩; (· rw [listed_nil (by simp [go_sem, *])]; exact dp0_nil); clear hK K hs9; try walk_nrm) | (refine codeW_block T9 ?_)))
    (refine codeW_exit T9 ?_; simp only [Exit.then, Exit.inBlock, Exit.thenX, if_true, if_false, reduceIte, Nat.reduceEqDiff])
    rename_i w9
    have hr9 := atRel_trans _ _ _ hr.out hF
    have hz9 := atRel_size hr9
    refine codeX_seq ?_
    (refine codeX_region ?_; simp only [List.size_toArray, List.length_cons, List.length_nil, Nat.reduceAdd, Nat.zero_add, List.range, List.range.loop])
    refine opsX_call rfl (by rfl) rfl ?_ ?_ (Pos := fun v' w' x' => x' = ⟨S, 1 + many, 0⟩ ∧ v' = .bool true ∧ Below w3.heap.size w3 w')
    · walk_nrm
      exact callX_rely hr9 (awake5_X w3 hSh.out)
    rintro _ w7 x' ⟨rfl, rfl, hB7⟩
    clear hF hr9
    have hF := atRel_refl w7
    replace hB7 := Lib.hid hB7
    walk_nrm
    (refine opsX_cons rfl (by rfl) ?_; intro _ hR K hK; replace hF := atRel_trans _ _ _ hF hR; clear hR; have hs9 := atRel_size hF; go_simp; refine hK _ _ ⟨?_, ?_⟩; (· rw [listed_nil (by simp [go_sem, ev_max, ev_min, *])]; exact dp0_nil); clear hK K hs9; try walk_nrm)
    (refine opsX_nil ?_; simp only [Exit.thenX])
    (refine codeX_of ?_; refine codeW_ret (termsP _) ?_)
    refine ⟨rfl, _, resultsC_tmp rfl _, rfl, ?_, rfl⟩
    exact b3.out.trans (s' := w3.heap.size) (.of_below (atRel_below hF hB7.out)) (by omega)
end Go.Proofs.Ytinghnaigpenkaa
