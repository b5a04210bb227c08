/- TallyNil: the law's end. -/
import Derived.Test.YtkcknoodcgmndaaTnA
import Derived.Test.YtkcknoodcgmndaaTnO
import Derived.Test.YtkcknoodcgmndaaTcF
import Derived.Test.YtkcknoodcgmndaaTcJ
import Derived.Test.YtkcknoodcgmndaaSgY
import Derived.Test.YtkcknoodcgmndaaTbA
namespace Go.Proofs.Ytkcknoodcgmndaa
open Go.Conc Go.RowKit
open Go.ConcN (sumTo)
set_option linter.unusedVariables false
set_option linter.unusedSimpArgs false
set_option maxRecDepth 100000
set_option maxHeartbeats 8000000
















theorem arr77 (T : Array Value) (h : T.size = 77) : ∃ v0 v1 v2 v3 v4 v5 v6 v7 v8 v9 v10 v11 v12 v13 v14 v15 v16 v17 v18 v19 v20 v21 v22 v23 v24 v25 v26 v27 v28 v29 v30 v31 v32 v33 v34 v35 v36 v37 v38 v39 v40 v41 v42 v43 v44 v45 v46 v47 v48 v49 v50 v51 v52 v53 v54 v55 v56 v57 v58 v59 v60 v61 v62 v63 v64 v65 v66 v67 v68 v69 v70 v71 v72 v73 v74 v75 v76, T = List.toArray (v0 :: v1 :: v2 :: v3 :: v4 :: v5 :: v6 :: v7 :: v8 :: v9 :: v10 :: v11 :: v12 :: v13 :: v14 :: v15 :: v16 :: v17 :: v18 :: v19 :: v20 :: v21 :: v22 :: v23 :: v24 :: v25 :: v26 :: v27 :: v28 :: v29 :: v30 :: v31 :: v32 :: v33 :: v34 :: v35 :: v36 :: v37 :: v38 :: v39 :: v40 :: v41 :: v42 :: v43 :: v44 :: v45 :: v46 :: v47 :: v48 :: v49 :: v50 :: v51 :: v52 :: v53 :: v54 :: v55 :: v56 :: v57 :: v58 :: v59 :: v60 :: v61 :: v62 :: v63 :: v64 :: v65 :: v66 :: v67 :: v68 :: v69 :: v70 :: v71 :: v72 :: v73 :: v74 :: v75 :: v76 :: []) := by
  obtain ⟨l⟩ := T
  replace h : l.length = 77 := h
  have h0 := h
  clear h
  obtain ⟨v0, l, e, h1⟩ := cons9 h0
  subst e
  clear h0
  obtain ⟨v1, l, e, h2⟩ := cons9 h1
  subst e
  clear h1
  obtain ⟨v2, l, e, h3⟩ := cons9 h2
  subst e
  clear h2
  obtain ⟨v3, l, e, h4⟩ := cons9 h3
  subst e
  clear h3
  obtain ⟨v4, l, e, h5⟩ := cons9 h4
  subst e
  clear h4
  obtain ⟨v5, l, e, h6⟩ := cons9 h5
  subst e
  clear h5
  obtain ⟨v6, l, e, h7⟩ := cons9 h6
  subst e
  clear h6
  obtain ⟨v7, l, e, h8⟩ := cons9 h7
  subst e
  clear h7
  obtain ⟨v8, l, e, h9⟩ := cons9 h8
  subst e
  clear h8
  obtain ⟨v9, l, e, h10⟩ := cons9 h9
  subst e
  clear h9
  obtain ⟨v10, l, e, h11⟩ := cons9 h10
  subst e
  clear h10
  obtain ⟨v11, l, e, h12⟩ := cons9 h11
  subst e
  clear h11
  obtain ⟨v12, l, e, h13⟩ := cons9 h12
  subst e
  clear h12
  obtain ⟨v13, l, e, h14⟩ := cons9 h13
  subst e
  clear h13
  obtain ⟨v14, l, e, h15⟩ := cons9 h14
  subst e
  clear h14
  obtain ⟨v15, l, e, h16⟩ := cons9 h15
  subst e
  clear h15
  obtain ⟨v16, l, e, h17⟩ := cons9 h16
  subst e
  clear h16
  obtain ⟨v17, l, e, h18⟩ := cons9 h17
  subst e
  clear h17
  obtain ⟨v18, l, e, h19⟩ := cons9 h18
  subst e
  clear h18
  obtain ⟨v19, l, e, h20⟩ := cons9 h19
  subst e
  clear h19
  obtain ⟨v20, l, e, h21⟩ := cons9 h20
  subst e
  clear h20
  obtain ⟨v21, l, e, h22⟩ := cons9 h21
  subst e
  clear h21
  obtain ⟨v22, l, e, h23⟩ := cons9 h22
  subst e
  clear h22
  obtain ⟨v23, l, e, h24⟩ := cons9 h23
  subst e
  clear h23
  obtain ⟨v24, l, e, h25⟩ := cons9 h24
  subst e
  clear h24
  obtain ⟨v25, l, e, h26⟩ := cons9 h25
  subst e
  clear h25
  obtain ⟨v26, l, e, h27⟩ := cons9 h26
  subst e
  clear h26
  obtain ⟨v27, l, e, h28⟩ := cons9 h27
  subst e
  clear h27
  obtain ⟨v28, l, e, h29⟩ := cons9 h28
  subst e
  clear h28
  obtain ⟨v29, l, e, h30⟩ := cons9 h29
  subst e
  clear h29
  obtain ⟨v30, l, e, h31⟩ := cons9 h30
  subst e
  clear h30
  obtain ⟨v31, l, e, h32⟩ := cons9 h31
  subst e
  clear h31
  obtain ⟨v32, l, e, h33⟩ := cons9 h32
  subst e
  clear h32
  obtain ⟨v33, l, e, h34⟩ := cons9 h33
  subst e
  clear h33
  obtain ⟨v34, l, e, h35⟩ := cons9 h34
  subst e
  clear h34
  obtain ⟨v35, l, e, h36⟩ := cons9 h35
  subst e
  clear h35
  obtain ⟨v36, l, e, h37⟩ := cons9 h36
  subst e
  clear h36
  obtain ⟨v37, l, e, h38⟩ := cons9 h37
  subst e
  clear h37
  obtain ⟨v38, l, e, h39⟩ := cons9 h38
  subst e
  clear h38
  obtain ⟨v39, l, e, h40⟩ := cons9 h39
  subst e
  clear h39
  obtain ⟨v40, l, e, h41⟩ := cons9 h40
  subst e
  clear h40
  obtain ⟨v41, l, e, h42⟩ := cons9 h41
  subst e
  clear h41
  obtain ⟨v42, l, e, h43⟩ := cons9 h42
  subst e
  clear h42
  obtain ⟨v43, l, e, h44⟩ := cons9 h43
  subst e
  clear h43
  obtain ⟨v44, l, e, h45⟩ := cons9 h44
  subst e
  clear h44
  obtain ⟨v45, l, e, h46⟩ := cons9 h45
  subst e
  clear h45
  obtain ⟨v46, l, e, h47⟩ := cons9 h46
  subst e
  clear h46
  obtain ⟨v47, l, e, h48⟩ := cons9 h47
  subst e
  clear h47
  obtain ⟨v48, l, e, h49⟩ := cons9 h48
  subst e
  clear h48
  obtain ⟨v49, l, e, h50⟩ := cons9 h49
  subst e
  clear h49
  obtain ⟨v50, l, e, h51⟩ := cons9 h50
  subst e
  clear h50
  obtain ⟨v51, l, e, h52⟩ := cons9 h51
  subst e
  clear h51
  obtain ⟨v52, l, e, h53⟩ := cons9 h52
  subst e
  clear h52
  obtain ⟨v53, l, e, h54⟩ := cons9 h53
  subst e
  clear h53
  obtain ⟨v54, l, e, h55⟩ := cons9 h54
  subst e
  clear h54
  obtain ⟨v55, l, e, h56⟩ := cons9 h55
  subst e
  clear h55
  obtain ⟨v56, l, e, h57⟩ := cons9 h56
  subst e
  clear h56
  obtain ⟨v57, l, e, h58⟩ := cons9 h57
  subst e
  clear h57
  obtain ⟨v58, l, e, h59⟩ := cons9 h58
  subst e
  clear h58
  obtain ⟨v59, l, e, h60⟩ := cons9 h59
  subst e
  clear h59
  obtain ⟨v60, l, e, h61⟩ := cons9 h60
  subst e
  clear h60
  obtain ⟨v61, l, e, h62⟩ := cons9 h61
  subst e
  clear h61
  obtain ⟨v62, l, e, h63⟩ := cons9 h62
  subst e
  clear h62
  obtain ⟨v63, l, e, h64⟩ := cons9 h63
  subst e
  clear h63
  obtain ⟨v64, l, e, h65⟩ := cons9 h64
  subst e
  clear h64
  obtain ⟨v65, l, e, h66⟩ := cons9 h65
  subst e
  clear h65
  obtain ⟨v66, l, e, h67⟩ := cons9 h66
  subst e
  clear h66
  obtain ⟨v67, l, e, h68⟩ := cons9 h67
  subst e
  clear h67
  obtain ⟨v68, l, e, h69⟩ := cons9 h68
  subst e
  clear h68
  obtain ⟨v69, l, e, h70⟩ := cons9 h69
  subst e
  clear h69
  obtain ⟨v70, l, e, h71⟩ := cons9 h70
  subst e
  clear h70
  obtain ⟨v71, l, e, h72⟩ := cons9 h71
  subst e
  clear h71
  obtain ⟨v72, l, e, h73⟩ := cons9 h72
  subst e
  clear h72
  obtain ⟨v73, l, e, h74⟩ := cons9 h73
  subst e
  clear h73
  obtain ⟨v74, l, e, h75⟩ := cons9 h74
  subst e
  clear h74
  obtain ⟨v75, l, e, h76⟩ := cons9 h75
  subst e
  clear h75
  obtain ⟨v76, l, e, h77⟩ := cons9 h76
  subst e
  clear h76
  obtain rfl : l = [] := List.length_eq_zero_iff.1 h77
  exact ⟨_, _, _, _, _, _, _, _, _, _, _, _, _, _, _, _, _, _, _, _, _, _, _, _, _, _, _, _, _, _, _, _, _, _, _, _, _, _, _, _, _, _, _, _, _, _, _, _, _, _, _, _, _, _, _, _, _, _, _, _, _, _, _, _, _, _, _, _, _, _, _, _, _, _, _, _, _, rfl⟩

noncomputable def endN : Code := match (Try.f7.body.getD .skip) with
  | .seq _ (.seq _ (.seq _ (.seq _ (.seq _ c)))) => c
  | _ => .skip
def nilI (l : List (List Int)) (A : Option Addr) (cap lb lo : Nat) (pA : Nat → Option Addr) (pd po pc : Nat → Nat) : SwIn :=
  { l := l, has := false, Mb := 0, cap := 0, Wb := 0, nn := 0, ws := [], lA := A, lb := lb, lo := lo, lc := cap, pA := pA, pd := pd, po := po, pc := pc }
theorem sum_le9 (f : Nat → Nat) (m : Nat) (h : ∀ j, f j ≤ m) : ∀ n, sumTo n f ≤ n * m
  | 0 => by simp [sumTo]
  | n + 1 => by
    have := sum_le9 f m h n
    have h1 := h n
    simp only [sumTo]
    rw [Nat.add_mul, Nat.one_mul]
    omega
theorem nilOk {w : World} {l : List (List Int)} {A : Option Addr} {cap lb lo : Nat} {pA : Nat → Option Addr} {pd po pc : Nat → Nat} (h : LsIn w l A lb lo pA pd po pc) (h8 : l.length ≤ 8) : (nilI l A cap lb lo pA pd po pc).Ok (fun _ => False) 1 w where
  few := by show l.length < _; omega
  hn := by decide
  room := by show 0 ≤ _; omega
  few2 := by show 0 ≤ _; omega
  small := by
    show sumTo l.length (fun j => (l.getD j []).length) < _
    have := sum_le9 (fun j => (l.getD j []).length) _ h.small l.length
    have : l.length * 17592186044416 ≤ 8 * 17592186044416 := Nat.mul_le_mul_right _ h8
    omega
  no := fun _ => rfl
  rng := by intro v hv; simp [nilI] at hv
  row := fun h => by simp [nilI] at h
  wds := fun h => by simp [nilI] at h
  rowW := fun h => by simp [nilI] at h
  lA := fun hl => ⟨(h.lA hl).1, fun h => h, fun h => by simp [nilI] at h⟩
  list := fun j hj => h.list j hj
  part := fun j hj => ⟨⟨fun h => h, fun h => by simp [nilI] at h⟩, (h.part j hj).2⟩
  data := fun j q x hx => h.data j q x hx
  dead := fun b hb => hb.elim
theorem nilEnd {Post : Value → World → Prop} (i : Int) (l : List (List Int)) (A : Option Addr) (cap lb lo : Nat) (pA : Nat → Option Addr) (pd po pc : Nat → Nat) (w w1 : World) (T : Array Value) (hin : LsIn w l A lb lo pA pd po pc) (h8 : l.length ≤ 8) (hr1 : AtRel w w1)
    (hT : T.size = 77) (t0 : T[0]? = some (.int .i64 i)) (t1 : T[1]? = some (.slice A l.length cap)) (t5 : T[5]? = some (.pointer none)) (t6 : T[6]? = some (.int .i64 ((sumTo l.length (fun j => (l.getD j []).length) : Nat) : Int))) :
    CodeX Try.prog Post 7 endN (fun e a w' x => bodyPostC Try.prog Try.f7 (fun v w3 => v = .bool true ∧ Below w.heap.size w w3) e a w') ⟨T, []⟩ w1 ⟨blkS (fun _ => False), 1⟩ := by
  have T9 := termsP (blkS (fun _ => False))
  obtain ⟨v0, v1, v2, v3, v4, v5, v6, v7, v8, v9, v10, v11, v12, v13, v14, v15, v16, v17, v18, v19, v20, v21, v22, v23, v24, v25, v26, v27, v28, v29, v30, v31, v32, v33, v34, v35, v36, v37, v38, v39, v40, v41, v42, v43, v44, v45, v46, v47, v48, v49, v50, v51, v52, v53, v54, v55, v56, v57, v58, v59, v60, v61, v62, v63, v64, v65, v66, v67, v68, v69, v70, v71, v72, v73, v74, v75, v76, rfl⟩ := arr77 T hT
  simp only [List.getElem?_toArray, List.getElem?_cons_succ, List.getElem?_cons_zero, Option.some.injEq] at t0 t1 t5 t6
  subst t0 t1 t5 t6
  clear hT
  obtain ⟨q, rfl⟩ := hr1
  have hin1 : LsIn (w.at q) l A lb lo pA pd po pc := ⟨hin.lA, hin.list, hin.part, hin.data, hin.small⟩
  have hF := atRel_refl (w.at q)
  rw [show endN = _ from (by unfold endN; simp only [Try.f7, Option.getD_some]; try rfl)]
  generalize hs : sumTo l.length (fun j => (l.getD j []).length) = s
  replace hs : RowKit.Hid _ := hs
  (refine codeX_seq ?_)
  refine codeX_region ?_
  simp only [List.size_toArray, List.length_cons, List.length_nil, Nat.reduceAdd, Nat.zero_add, List.range, List.range.loop]
  (refine opsX_cons rfl (by rfl) ?_; intro _ hR K hK; replace hF := atRel_trans _ _ _ hF hR; clear hR; have hs9 := atRel_size hF; go_simp; refine hK _ _ ⟨?_, ?_⟩; (· rw [listed_nil (by simp [go_sem, *])]; exact dp0_nil); clear hK K hs9; try walk_nrm)
  (refine opsX_cons rfl (by rfl) ?_; intro _ hR K hK; replace hF := atRel_trans _ _ _ hF hR; clear hR; have hs9 := atRel_size hF; go_simp; refine hK _ _ ⟨?_, ?_⟩; (· rw [listed_nil (by simp [go_sem, *])]; exact dp0_nil); clear hK K hs9; try walk_nrm)
  obtain ⟨q2, rfl⟩ := hF
  have hin2 : LsIn ((w.at q).at q2) l A lb lo pA pd po pc := ⟨hin.lA, hin.list, hin.part, hin.data, hin.small⟩
  refine opsX_call (Pos := (nilI l A cap lb lo pA pd po pc).Out (fun _ => False) 1 ((w.at q).at q2)) rfl (by rfl) rfl ?_ ?_
  · walk_nrm
    exact sweepX (nilI l A cap lb lo pA pd po pc) (fun _ => False) 1 _ (nilOk hin2 h8)
  rintro v w9 x' ⟨σ, us, rfl, hj, hdone, hwds, hold, henv, hsz, rfl⟩
  obtain ⟨hwon, hlost⟩ := nil_plain hj hdone
  replace hlost : σ.lost = s := hlost.trans hs.out
  have hz : ((w.at q).at q2).heap.size = w.heap.size := rfl
  have hbel : Below w.heap.size w w9 := by
    refine ⟨henv.os.trans rfl, henv.tape.trans rfl, henv.output.trans rfl, by omega, fun g hg => ?_⟩
    obtain ⟨ob, e1⟩ : ∃ ob, w.heap[g]? = some ob := ⟨_, Array.getElem?_eq_getElem hg⟩
    rw [e1]
    exact hold g ob (fun h => by simp [nilI] at h) e1
  replace hbel : RowKit.Hid _ := hbel
  generalize hdq : (fun b => b = ((w.at q).at q2).heap.size + 3 ∨ (b = ((w.at q).at q2).heap.size + 1 ∨ ((nilI l A cap lb lo pA pd po pc).has = true ∧ b = (nilI l A cap lb lo pA pd po pc).Wb)) ∨ False) = d2
  have hd2 : RowKit.Hid (∀ b, d2 b → b < w9.heap.size) := by
    subst hdq
    rintro b (h | (h | ⟨h, _⟩) | h)
    · omega
    · omega
    · simp [nilI] at h
    · exact h.elim
  clear T9 hj hdone hwds hold henv hsz hz hs hdq
  have T9 := termsP (blkS d2)
  have hF := atRel_refl w9
  rw [hwon, hlost, show ((0 : Nat) : Int) = 0 from rfl]
  walk_nrm
  (repeat (first | (refine opsX_unwanted rfl (by rfl) ?_; try walk_nrm) | (refine opsX_cons rfl (by rfl) ?_; intro _ hR K hK; replace hF := atRel_trans _ _ _ hF hR; clear hR; have hs9 := atRel_size hF; go_simp; refine hK _ _ ⟨?_, ?_⟩; (· rw [listed_nil (by simp [go_sem, *])]; exact dp0_nil); clear hK K hs9; try walk_nrm)))
  refine opsX_nil ?_
  simp only [Exit.thenX]
  (refine codeX_seq ?_)
  refine codeX_region ?_
  simp only [List.size_toArray, List.length_cons, List.length_nil, Nat.reduceAdd, Nat.zero_add, List.range, List.range.loop]
  (repeat (first | (refine opsX_unwanted rfl (by rfl) ?_; try walk_nrm) | (refine opsX_cons rfl (by rfl) ?_; intro _ hR K hK; replace hF := atRel_trans _ _ _ hF hR; clear hR; have hs9 := atRel_size hF; go_simp; refine hK _ _ ⟨?_, ?_⟩; (· rw [listed_nil (by simp [go_sem, *])]; exact dp0_nil); clear hK K hs9; try walk_nrm)))
  co_apply opsX_callW rfl (by rfl) rfl
  · walk_nrm
    exact claim14Nil_W _ _
  rintro _ w' ⟨rfl, hF'⟩
  replace hF := atRel_trans _ _ _ hF hF'
  clear hF'
  walk_nrm
  (repeat (first | (refine opsX_unwanted rfl (by rfl) ?_; try walk_nrm) | (refine opsX_cons rfl (by rfl) ?_; intro _ hR K hK; replace hF := atRel_trans _ _ _ hF hR; clear hR; have hs9 := atRel_size hF; go_simp; refine hK _ _ ⟨?_, ?_⟩; (· rw [listed_nil (by simp [go_sem, *])]; exact dp0_nil); clear hK K hs9; try walk_nrm)))
  co_apply opsX_callW rfl (by rfl) rfl
  · walk_nrm
    exact free26Nil_W _ _
  rintro _ w' ⟨rfl, hF'⟩
  replace hF := atRel_trans _ _ _ hF hF'
  clear hF'
  walk_nrm
  (repeat (first | (refine opsX_unwanted rfl (by rfl) ?_; try walk_nrm) | (refine opsX_cons rfl (by rfl) ?_; intro _ hR K hK; replace hF := atRel_trans _ _ _ hF hR; clear hR; have hs9 := atRel_size hF; go_simp; refine hK _ _ ⟨?_, ?_⟩; (· rw [listed_nil (by simp [go_sem, *])]; exact dp0_nil); clear hK K hs9; try walk_nrm)))
  co_apply opsX_callW rfl (by rfl) rfl
  · walk_nrm
    exact has27Nil_W _ _
  rintro _ w' ⟨rfl, hF'⟩
  replace hF := atRel_trans _ _ _ hF hF'
  clear hF'
  walk_nrm
  (repeat (first | (refine opsX_unwanted rfl (by rfl) ?_; try walk_nrm) | (refine opsX_cons rfl (by rfl) ?_; intro _ hR K hK; replace hF := atRel_trans _ _ _ hF hR; clear hR; have hs9 := atRel_size hF; go_simp; refine hK _ _ ⟨?_, ?_⟩; (· rw [listed_nil (by simp [go_sem, *])]; exact dp0_nil); clear hK K hs9; try walk_nrm)))
  co_apply opsX_callW rfl (by rfl) rfl
  · walk_nrm
    exact len29Nil_W _
  rintro _ w' ⟨rfl, hF'⟩
  replace hF := atRel_trans _ _ _ hF hF'
  clear hF'
  walk_nrm
  (repeat (first | (refine opsX_unwanted rfl (by rfl) ?_; try walk_nrm) | (refine opsX_cons rfl (by rfl) ?_; intro _ hR K hK; replace hF := atRel_trans _ _ _ hF hR; clear hR; have hs9 := atRel_size hF; go_simp; refine hK _ _ ⟨?_, ?_⟩; (· rw [listed_nil (by simp [go_sem, *])]; exact dp0_nil); clear hK K hs9; try walk_nrm)))
  co_apply opsX_callW rfl (by rfl) rfl
  · walk_nrm
    exact count28Nil_W _
  rintro _ w' ⟨rfl, hF'⟩
  replace hF := atRel_trans _ _ _ hF hF'
  clear hF'
  walk_nrm
  (repeat (first | (refine opsX_unwanted rfl (by rfl) ?_; try walk_nrm) | (refine opsX_cons rfl (by rfl) ?_; intro _ hR K hK; replace hF := atRel_trans _ _ _ hF hR; clear hR; have hs9 := atRel_size hF; go_simp; refine hK _ _ ⟨?_, ?_⟩; (· rw [listed_nil (by simp [go_sem, *])]; exact dp0_nil); clear hK K hs9; try walk_nrm)))
  co_apply opsX_callW rfl (by rfl) rfl
  · walk_nrm
    exact allNil_W _ (fun r ⟨a, h, _⟩ => by cases h) (fun a ha ⟨b, h, h2⟩ => by
      injection h with h
      subst h
      have h3 := hd2.out _ h2
      rw [atRel_size hF] at ha
      omega)
  rintro _ w3 ⟨rfl, hb3⟩
  obtain ⟨q3, rfl⟩ := hF
  have hbel3 : RowKit.Hid (Below w.heap.size w w3) := hbel.out.trans ⟨hb3.os, hb3.tape, hb3.output, hb3.size, fun g hg => hb3.block g (by have := hbel.out.size; show g < w9.heap.size; omega)⟩
  have hd3 : RowKit.Hid (∀ b, d2 b → b < w3.heap.size) := fun b hb => Nat.lt_of_lt_of_le (hd2.out b hb) hb3.size
  clear hbel hd2 hb3
  have hF := atRel_refl w3
  walk_nrm
  (repeat (first | (refine opsX_unwanted rfl (by rfl) ?_; try walk_nrm) | (refine opsX_cons rfl (by rfl) ?_; intro _ hR K hK; replace hF := atRel_trans _ _ _ hF hR; clear hR; have hs9 := atRel_size hF; go_simp; refine hK _ _ ⟨?_, ?_⟩; (· rw [listed_nil (by simp [go_sem, *])]; exact dp0_nil); clear hK K hs9; try walk_nrm)))
  obtain ⟨q4, rfl⟩ := hF
  have hb4 : Below w.heap.size w (w3.at q4) := ⟨hbel3.out.os, hbel3.out.tape, hbel3.out.output, hbel3.out.size, hbel3.out.block⟩
  refine opsX_call (Pos := fun v w' x' => v = .bool true ∧ Below w.heap.size w w') rfl (by rfl) rfl ?_ ?_
  · walk_nrm
    obtain ⟨fnn, cd, h1, h2, h3, h4⟩ := awakeX (Post := Post) d2 (1 + (nilI l A cap lb lo pA pd po pc).l.length) (w3.at q4) (by omega) hd3.out
    refine ⟨fnn, cd, h1, h2, h3, codeX_mono h4 fun e a w5 x3 y => ?_⟩
    cases e <;> first | exact ⟨y.1, y.2.choose, y.2.choose_spec.1, y.2.choose_spec.2.1, hb4.trans ⟨y.2.choose_spec.2.2.os, y.2.choose_spec.2.2.tape, y.2.choose_spec.2.2.output, y.2.choose_spec.2.2.size, fun g hg => y.2.choose_spec.2.2.block g (Nat.lt_of_lt_of_le hg hb4.size)⟩⟩ | exact y
  rintro _ w' x' ⟨rfl, hbf⟩
  have hF := atRel_refl w'
  clear T9
  have T9 := termsP x'.S
  walk_nrm
  (repeat (first | (refine opsX_unwanted rfl (by rfl) ?_; try walk_nrm) | (refine opsX_cons rfl (by rfl) ?_; intro _ hR K hK; replace hF := atRel_trans _ _ _ hF hR; clear hR; have hs9 := atRel_size hF; go_simp; refine hK _ _ ⟨?_, ?_⟩; (· rw [listed_nil (by simp [go_sem, *])]; exact dp0_nil); clear hK K hs9; try walk_nrm)))
  refine opsX_nil ?_
  simp only [Exit.thenX]
  refine codeX_of (codeW_ret T9 ?_)
  obtain ⟨q5, rfl⟩ := hF
  exact ⟨rfl, _, resultsC_tmp rfl _, rfl, ⟨hbf.os, hbf.tape, hbf.output, hbf.size, hbf.block⟩⟩
end Go.Proofs.Ytkcknoodcgmndaa
