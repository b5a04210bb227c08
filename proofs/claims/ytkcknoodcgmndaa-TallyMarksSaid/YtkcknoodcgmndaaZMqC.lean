/- TallyMarks: what is asked behind each mark, in whatever order. -/
import Derived.Test.YtkcknoodcgmndaaZMpA
import Derived.Test.YtkcknoodcgmndaaZReB
import Derived.Test.YtkcknoodcgmndaaZReC
import Derived.Test.YtkcknoodcgmndaaZRfG
import Derived.Test.YtkcknoodcgmndaaZTbA
namespace Go.Proofs.Ytkcknoodcgmndaa
open Go.Conc Go.RowKit
open Go.ConcN (sumTo)
set_option linter.unusedVariables false
set_option linter.unusedSimpArgs false
set_option maxRecDepth 100000
set_option maxHeartbeats 8000000














noncomputable def bodyM : Code := match (Try.f6.body.getD .skip) with
  | .seq _ (.seq _ (.seq _ (.seq _ (.seq _ (.seq (.seq _ (.block _ (.loop c))) _))))) => c
  | _ => .skip
noncomputable def r21M : Code := match bodyM with
  | .seq _ (.seq (.block _ (.seq _ (.seq _ (.seq _ (.seq _ (.seq c _)))))) _) => c
  | _ => .skip
theorem reg21 {c21 : Code} (hc21 : c21 = r21M) (wb : World) (Mb Wb n cap B : Nat) (ws : List Nat) (A : Option Addr) (g c len : Nat) (x : Int) (xs : List Int) (hxs0 : markL ws n = xs) (hlen0 : xs.length = len) (hm : MkMem wb Mb Wb n cap ws) (hcl : Clean ws n) (hsl : SlI wb A g xs) (hg : 0 < xs.length → g < wb.heap.size) (hcx : wb.cell? ⟨B, 1, none⟩ = some (.int .i64 x))
    {v0 v1 v2 v3 v4 v6 v8 v10 v11 v12 v13 v14 v15 v16 v17 v18 v19 v20 v21 v22 v23 v24 v25 v26 v27 v28 v29 v30 v31 v32 v33 v34 v35 v36 v37 v38 v39 v40 v41 v42 v43 v44 v45 v46 v47 v48 v49 v50 v51 v52 v53 v54 v55 v56 v57 v58 v59 v60 v61 v62 v63 v64 v65 v66 v67 v68 v69 v70 v71 v72 v73 v74 v75 v76 v77 v78 v79 v80 v81 v82 v83 v84 v85 v86 v87 v88 v89 v90 v91 v92 v93 v117 v118 v119 v120 v121 v122 v123 v124 v125 v126 v127 v94 v95 v96 v97 v98 v99 v100 v101 v102 v103 v104 v105 v106 v107 v108 v109 v110 v111 v112 v113 v114 v115 v116 : Value} :
    CodeW Try.prog true AtRel (DP0 (blkS (fun _ => False))) 6 c21 (fun e a' w' => e = .normal ∧ (∃ (v94 v95 v96 v97 v98 v99 v100 v101 v102 v103 v104 v105 v106 v107 v108 v109 v110 v111 v112 v113 v114 v115 : Value), a' = ⟨List.toArray (v0 :: v1 :: v2 :: v3 :: v4 :: .pointer (some ⟨Mb, 0, none⟩) :: v6 :: .slice A len c :: v8 :: .pointer (some ⟨B, 0, none⟩) :: v10 :: v11 :: v12 :: v13 :: v14 :: v15 :: v16 :: v17 :: v18 :: v19 :: v20 :: v21 :: v22 :: v23 :: v24 :: v25 :: v26 :: v27 :: v28 :: v29 :: v30 :: v31 :: v32 :: v33 :: v34 :: v35 :: v36 :: v37 :: v38 :: v39 :: v40 :: v41 :: v42 :: v43 :: v44 :: v45 :: v46 :: v47 :: v48 :: v49 :: v50 :: v51 :: v52 :: v53 :: v54 :: v55 :: v56 :: v57 :: v58 :: v59 :: v60 :: v61 :: v62 :: v63 :: v64 :: v65 :: v66 :: v67 :: v68 :: v69 :: v70 :: v71 :: v72 :: v73 :: v74 :: v75 :: v76 :: v77 :: v78 :: v79 :: v80 :: v81 :: v82 :: v83 :: v84 :: v85 :: v86 :: v87 :: v88 :: v89 :: v90 :: v91 :: v92 :: v93 :: v94 :: v95 :: v96 :: v97 :: v98 :: v99 :: v100 :: v101 :: v102 :: v103 :: v104 :: v105 :: v106 :: v107 :: v108 :: v109 :: v110 :: v111 :: v112 :: v113 :: v114 :: v115 :: .bool false :: v117 :: v118 :: v119 :: v120 :: v121 :: v122 :: v123 :: v124 :: v125 :: v126 :: v127 :: []), []⟩) ∧ Below wb.heap.size wb w') ⟨List.toArray (v0 :: v1 :: v2 :: v3 :: v4 :: .pointer (some ⟨Mb, 0, none⟩) :: v6 :: .slice A len c :: v8 :: .pointer (some ⟨B, 0, none⟩) :: v10 :: v11 :: v12 :: v13 :: v14 :: v15 :: v16 :: v17 :: v18 :: v19 :: v20 :: v21 :: v22 :: v23 :: v24 :: v25 :: v26 :: v27 :: v28 :: v29 :: v30 :: v31 :: v32 :: v33 :: v34 :: v35 :: v36 :: v37 :: v38 :: v39 :: v40 :: v41 :: v42 :: v43 :: v44 :: v45 :: v46 :: v47 :: v48 :: v49 :: v50 :: v51 :: v52 :: v53 :: v54 :: v55 :: v56 :: v57 :: v58 :: v59 :: v60 :: v61 :: v62 :: v63 :: v64 :: v65 :: v66 :: v67 :: v68 :: v69 :: v70 :: v71 :: v72 :: v73 :: v74 :: v75 :: v76 :: v77 :: v78 :: v79 :: v80 :: v81 :: v82 :: v83 :: v84 :: v85 :: v86 :: v87 :: v88 :: v89 :: v90 :: v91 :: v92 :: v93 :: v94 :: v95 :: v96 :: v97 :: v98 :: v99 :: v100 :: v101 :: v102 :: v103 :: v104 :: v105 :: v106 :: v107 :: v108 :: v109 :: v110 :: v111 :: v112 :: v113 :: v114 :: v115 :: v116 :: v117 :: v118 :: v119 :: v120 :: v121 :: v122 :: v123 :: v124 :: v125 :: v126 :: v127 :: []), []⟩ wb := by
  have T9 := termsP (blkS (fun _ => False))
  have hS : ∀ l, ¬ blkS (fun _ => False) l := fun l ⟨_, _, h⟩ => h
  have evb : ∀ (p : Bool) (w : World), (binOp .neq 4 (.bool p) (.bool p)).events Try.prog w #[] = #[] := fun p w => by cases p <;> kernel_rfl
  have hMb : Mb < wb.heap.size := (Array.getElem?_eq_some_iff.1 hm.row).1
  have hWb : Wb < wb.heap.size := (Array.getElem?_eq_some_iff.1 hm.wds).1
  have hB : B < wb.heap.size := World.block_lt_of_cell? wb _ hcx
  have hln : len ≤ 65536 := by rw [← hlen0, ← hxs0]; exact Nat.le_trans (markL_len ws n) hm.few
  obtain ⟨bb, hbb⟩ : ∃ bb, RowKit.Hid ((decide (0 ≤ x ∧ x < (n : Int)) && bitW ws x.toNat) = bb) := ⟨_, rfl⟩
  have hbx : RowKit.Hid (decide (x ∈ xs) = bb) := by
    show decide (x ∈ xs) = bb
    rw [← hbb.out, ← dec_markL, hxs0]
  have hcount : RowKit.Hid (sumTo ws.length (fun j => Ones.popc 64 (ws.getD j 0)) = len) := by
    show sumTo ws.length (fun j => Ones.popc 64 (ws.getD j 0)) = len
    rw [count_markL hcl hm.room, hxs0, hlen0]
  have hxs : RowKit.Hid (markL ws n = xs) := hxs0
  have hlen : RowKit.Hid (xs.length = len) := hlen0
  clear hxs0 hlen0
  rw [hc21, show r21M = _ from (by unfold r21M bodyM; simp only [Try.f6, Option.getD_some]; try rfl)]
  refine codeW_region_inv T9 (letsDraw_P _) (by rfl) (by kernel_rfl) (fun L a W => ∃ (v94 v95 v96 v97 v98 v99 v100 v101 v102 v103 v104 v105 v106 v107 v108 v109 v110 v111 v112 v113 v114 v115 v116 : Value), a = ⟨List.toArray (v0 :: v1 :: v2 :: v3 :: v4 :: .pointer (some ⟨Mb, 0, none⟩) :: v6 :: .slice A len c :: v8 :: .pointer (some ⟨B, 0, none⟩) :: v10 :: v11 :: v12 :: v13 :: v14 :: v15 :: v16 :: v17 :: v18 :: v19 :: v20 :: v21 :: v22 :: v23 :: v24 :: v25 :: v26 :: v27 :: v28 :: v29 :: v30 :: v31 :: v32 :: v33 :: v34 :: v35 :: v36 :: v37 :: v38 :: v39 :: v40 :: v41 :: v42 :: v43 :: v44 :: v45 :: v46 :: v47 :: v48 :: v49 :: v50 :: v51 :: v52 :: v53 :: v54 :: v55 :: v56 :: v57 :: v58 :: v59 :: v60 :: v61 :: v62 :: v63 :: v64 :: v65 :: v66 :: v67 :: v68 :: v69 :: v70 :: v71 :: v72 :: v73 :: v74 :: v75 :: v76 :: v77 :: v78 :: v79 :: v80 :: v81 :: v82 :: v83 :: v84 :: v85 :: v86 :: v87 :: v88 :: v89 :: v90 :: v91 :: v92 :: v93 :: v94 :: v95 :: v96 :: v97 :: v98 :: v99 :: v100 :: v101 :: v102 :: v103 :: v104 :: v105 :: v106 :: v107 :: v108 :: v109 :: v110 :: v111 :: v112 :: v113 :: v114 :: v115 :: v116 :: v117 :: v118 :: v119 :: v120 :: v121 :: v122 :: v123 :: v124 :: v125 :: v126 :: v127 :: []), []⟩ ∧ Below wb.heap.size wb W ∧ (L 0 = true → v94 = .pointer (some ⟨Mb, 0, none⟩)) ∧ (L 1 = true → v95 = .pointer (some ⟨B, 1, none⟩)) ∧ (L 2 = true → v96 = .int .i64 x) ∧ (L 3 = true → v97 = .bool bb) ∧ (L 4 = true → v98 = .slice A len c) ∧ (L 5 = true → v99 = .pointer (some ⟨B, 1, none⟩)) ∧ (L 6 = true → v100 = .int .i64 x) ∧ (L 7 = true → v101 = .bool bb) ∧ (L 8 = true → v102 = .bool false) ∧ (L 9 = true → v103 = .bool false) ∧ (L 10 = true → v104 = .pointer (some ⟨Mb, 0, none⟩)) ∧ (L 11 = true → v105 = .int .i64 (len : Int)) ∧ (L 12 = true → v106 = .slice A len c) ∧ (L 13 = true → v107 = .int .i64 (len : Int)) ∧ (L 14 = true → v108 = .bool false) ∧ (L 15 = true → v109 = .bool false) ∧ (L 16 = true → v110 = .bool false) ∧ (L 17 = true → v111 = .pointer (some ⟨Mb, 0, none⟩)) ∧ (L 18 = true → Own wb.heap.size W v112 xs) ∧ (L 19 = true → v113 = .slice A len c) ∧ (L 20 = true → v114 = .bool true) ∧ (L 21 = true → v115 = .bool false) ∧ (L 22 = true → v116 = .bool false)) ?_ ?_ ?_
  · intro w₁ h₁
    have hF : AtRel wb { w₁ with drawn := w₁.drawn + 1 } := atRel_draw (n := w₁.drawn + 1) h₁
    refine ⟨_, _, _, _, _, _, _, _, _, _, _, _, _, _, _, _, _, _, _, _, _, _, _, rfl, below_at (below_self _ wb) hF, ?_, ?_, ?_, ?_, ?_, ?_, ?_, ?_, ?_, ?_, ?_, ?_, ?_, ?_, ?_, ?_, ?_, ?_, ?_, ?_, ?_, ?_, ?_⟩
    all_goals (intro h; simp at h)
  · rintro L a W ⟨v94, v95, v96, v97, v98, v99, v100, v101, v102, v103, v104, v105, v106, v107, v108, v109, v110, v111, v112, v113, v114, v115, v116, rfl, hbel, f0, f1, f2, f3, f4, f5, f6, f7, f8, f9, f10, f11, f12, f13, f14, f15, f16, f17, f18, f19, f20, f21, f22⟩ j oo hoo hLi hdeps
    have hj : j < 23 := (Array.getElem?_eq_some_iff.1 hoo).1
    rcases (by omega : j = 0 ∨ j = 1 ∨ j = 2 ∨ j = 3 ∨ j = 4 ∨ j = 5 ∨ j = 6 ∨ j = 7 ∨ j = 8 ∨ j = 9 ∨ j = 10 ∨ j = 11 ∨ j = 12 ∨ j = 13 ∨ j = 14 ∨ j = 15 ∨ j = 16 ∨ j = 17 ∨ j = 18 ∨ j = 19 ∨ j = 20 ∨ j = 21 ∨ j = 22) with rfl | rfl | rfl | rfl | rfl | rfl | rfl | rfl | rfl | rfl | rfl | rfl | rfl | rfl | rfl | rfl | rfl | rfl | rfl | rfl | rfl | rfl | rfl
    · -- 0
      obtain rfl : _ = oo := Option.some.inj hoo
      (refine opW_cons rfl (by rfl) ?_; intro W9 hR K hK; go_simp; refine hK _ _ ⟨?_, ?_⟩; (· rw [listed_nil (by simp [go_sem, *])]; exact dp0_nil); clear hK K; try walk_nrm)
      exact ⟨_, _, _, _, _, _, _, _, _, _, _, _, _, _, _, _, _, _, _, _, _, _, _, rfl, below_at hbel hR, fun _ => rfl, f1, f2, f3, f4, f5, f6, f7, f8, f9, f10, f11, f12, f13, f14, f15, f16, f17, fun h => Own.at (f18 h) hR, f19, f20, f21, f22⟩
    · -- 1
      obtain rfl : _ = oo := Option.some.inj hoo
      (refine opW_cons rfl (by rfl) ?_; intro W9 hR K hK; go_simp; refine hK _ _ ⟨?_, ?_⟩; (· rw [listed_nil (by simp [go_sem, *])]; exact dp0_nil); clear hK K; try walk_nrm)
      exact ⟨_, _, _, _, _, _, _, _, _, _, _, _, _, _, _, _, _, _, _, _, _, _, _, rfl, below_at hbel hR, f0, fun _ => rfl, f2, f3, f4, f5, f6, f7, f8, f9, f10, f11, f12, f13, f14, f15, f16, f17, fun h => Own.at (f18 h) hR, f19, f20, f21, f22⟩
    · -- 2
      obtain rfl : _ = oo := Option.some.inj hoo
      have d1 : L 1 = true := hdeps ⟨1, .data⟩ (by simp) rfl
      obtain rfl := f1 d1
      have hc1 : W.cell? ⟨B, 1, none⟩ = some (.int .i64 x) := (cell_same (hbel.block B hB) 1).trans hcx
      (refine opW_cons rfl (by rfl) ?_; intro W9 hR K hK; have hl9 := (atRel_cell hR _).trans hc1; go_simp; refine hK _ _ ⟨?_, ?_⟩; (· intro e he; have hm := mem_listed he; simp [go_sem, hl9] at hm; rw [hm]; exact evP_cell _ (hS _)); clear hK K hl9; try walk_nrm)
      exact ⟨_, _, _, _, _, _, _, _, _, _, _, _, _, _, _, _, _, _, _, _, _, _, _, rfl, below_at hbel hR, f0, f1, fun _ => rfl, f3, f4, f5, f6, f7, f8, f9, f10, f11, f12, f13, f14, f15, f16, f17, fun h => Own.at (f18 h) hR, f19, f20, f21, f22⟩
    · -- 3
      obtain rfl : _ = oo := Option.some.inj hoo
      have d0 : L 0 = true := hdeps ⟨0, .data⟩ (by simp) rfl
      obtain rfl := f0 d0
      have d2 : L 2 = true := hdeps ⟨2, .data⟩ (by simp) rfl
      obtain rfl := f2 d2
      have hmW : MkMem W Mb Wb n cap ws := hm.of (hbel.block _ hMb) (hbel.block _ hWb)
      have hslW : SlI W A g xs := hsl.below hbel hg
      co_apply opW_call T9 rfl (by rfl) rfl
      · walk_nrm
        exact has27_W hmW x (fun o => hS _)
      rw [hbb.out]
      rintro _ w3 ⟨rfl, hR⟩
      walk_nrm
      exact ⟨_, _, _, _, _, _, _, _, _, _, _, _, _, _, _, _, _, _, _, _, _, _, _, rfl, below_at hbel hR, f0, f1, f2, fun _ => rfl, f4, f5, f6, f7, f8, f9, f10, f11, f12, f13, f14, f15, f16, f17, fun h => Own.at (f18 h) hR, f19, f20, f21, f22⟩
    · -- 4
      obtain rfl : _ = oo := Option.some.inj hoo
      (refine opW_cons rfl (by rfl) ?_; intro W9 hR K hK; go_simp; refine hK _ _ ⟨?_, ?_⟩; (· rw [listed_nil (by simp [go_sem, *])]; exact dp0_nil); clear hK K; try walk_nrm)
      exact ⟨_, _, _, _, _, _, _, _, _, _, _, _, _, _, _, _, _, _, _, _, _, _, _, rfl, below_at hbel hR, f0, f1, f2, f3, fun _ => rfl, f5, f6, f7, f8, f9, f10, f11, f12, f13, f14, f15, f16, f17, fun h => Own.at (f18 h) hR, f19, f20, f21, f22⟩
    · -- 5
      obtain rfl : _ = oo := Option.some.inj hoo
      (refine opW_cons rfl (by rfl) ?_; intro W9 hR K hK; go_simp; refine hK _ _ ⟨?_, ?_⟩; (· rw [listed_nil (by simp [go_sem, *])]; exact dp0_nil); clear hK K; try walk_nrm)
      exact ⟨_, _, _, _, _, _, _, _, _, _, _, _, _, _, _, _, _, _, _, _, _, _, _, rfl, below_at hbel hR, f0, f1, f2, f3, f4, fun _ => rfl, f6, f7, f8, f9, f10, f11, f12, f13, f14, f15, f16, f17, fun h => Own.at (f18 h) hR, f19, f20, f21, f22⟩
    · -- 6
      obtain rfl : _ = oo := Option.some.inj hoo
      have d5 : L 5 = true := hdeps ⟨5, .data⟩ (by simp) rfl
      obtain rfl := f5 d5
      have hc1 : W.cell? ⟨B, 1, none⟩ = some (.int .i64 x) := (cell_same (hbel.block B hB) 1).trans hcx
      (refine opW_cons rfl (by rfl) ?_; intro W9 hR K hK; have hl9 := (atRel_cell hR _).trans hc1; go_simp; refine hK _ _ ⟨?_, ?_⟩; (· intro e he; have hm := mem_listed he; simp [go_sem, hl9] at hm; rw [hm]; exact evP_cell _ (hS _)); clear hK K hl9; try walk_nrm)
      exact ⟨_, _, _, _, _, _, _, _, _, _, _, _, _, _, _, _, _, _, _, _, _, _, _, rfl, below_at hbel hR, f0, f1, f2, f3, f4, f5, fun _ => rfl, f7, f8, f9, f10, f11, f12, f13, f14, f15, f16, f17, fun h => Own.at (f18 h) hR, f19, f20, f21, f22⟩
    · -- 7
      obtain rfl : _ = oo := Option.some.inj hoo
      have d4 : L 4 = true := hdeps ⟨4, .data⟩ (by simp) rfl
      obtain rfl := f4 d4
      have d6 : L 6 = true := hdeps ⟨6, .data⟩ (by simp) rfl
      obtain rfl := f6 d6
      have hmW : MkMem W Mb Wb n cap ws := hm.of (hbel.block _ hMb) (hbel.block _ hWb)
      have hslW : SlI W A g xs := hsl.below hbel hg
      co_apply opW_call T9 rfl (by rfl) rfl
      · walk_nrm
        rw [← hlen.out]
        exact has24_W hslW x (fun o => hS _) (by rw [hlen.out]; omega)
      rw [hbx.out]
      rintro _ w3 ⟨rfl, hR⟩
      walk_nrm
      exact ⟨_, _, _, _, _, _, _, _, _, _, _, _, _, _, _, _, _, _, _, _, _, _, _, rfl, below_at hbel hR, f0, f1, f2, f3, f4, f5, f6, fun _ => rfl, f8, f9, f10, f11, f12, f13, f14, f15, f16, f17, fun h => Own.at (f18 h) hR, f19, f20, f21, f22⟩
    · -- 8
      obtain rfl : _ = oo := Option.some.inj hoo
      have d3 : L 3 = true := hdeps ⟨3, .data⟩ (by simp) rfl
      obtain rfl := f3 d3
      have d7 : L 7 = true := hdeps ⟨7, .data⟩ (by simp) rfl
      obtain rfl := f7 d7
      (refine opW_cons rfl (by rfl) ?_; intro W9 hR K hK; go_simp; refine hK _ _ ⟨?_, ?_⟩; (· rw [listed_nil (by simp [go_sem, *])]; exact dp0_nil); clear hK K; try walk_nrm)
      exact ⟨_, _, _, _, _, _, _, _, _, _, _, _, _, _, _, _, _, _, _, _, _, _, _, rfl, below_at hbel hR, f0, f1, f2, f3, f4, f5, f6, f7, fun _ => rfl, f9, f10, f11, f12, f13, f14, f15, f16, f17, fun h => Own.at (f18 h) hR, f19, f20, f21, f22⟩
    · -- 9
      obtain rfl : _ = oo := Option.some.inj hoo
      have d8 : L 8 = true := hdeps ⟨8, .data⟩ (by simp) rfl
      obtain rfl := f8 d8
      (refine opW_cons rfl (by rfl) ?_; intro W9 hR K hK; go_simp; refine hK _ _ ⟨?_, ?_⟩; (· rw [listed_nil (by simp [go_sem, *])]; exact dp0_nil); clear hK K; try walk_nrm)
      exact ⟨_, _, _, _, _, _, _, _, _, _, _, _, _, _, _, _, _, _, _, _, _, _, _, rfl, below_at hbel hR, f0, f1, f2, f3, f4, f5, f6, f7, f8, fun _ => rfl, f10, f11, f12, f13, f14, f15, f16, f17, fun h => Own.at (f18 h) hR, f19, f20, f21, f22⟩
    · -- 10
      obtain rfl : _ = oo := Option.some.inj hoo
      have d9 : L 9 = true := hdeps ⟨9, .guard⟩ (by simp) rfl
      obtain rfl := f9 d9
      (refine opW_cons rfl (by rfl) ?_; intro W9 hR K hK; go_simp; refine hK _ _ ⟨?_, ?_⟩; (· rw [listed_nil (by simp [go_sem, *])]; exact dp0_nil); clear hK K; try walk_nrm)
      exact ⟨_, _, _, _, _, _, _, _, _, _, _, _, _, _, _, _, _, _, _, _, _, _, _, rfl, below_at hbel hR, f0, f1, f2, f3, f4, f5, f6, f7, f8, f9, fun _ => rfl, f11, f12, f13, f14, f15, f16, f17, fun h => Own.at (f18 h) hR, f19, f20, f21, f22⟩
    · -- 11
      obtain rfl : _ = oo := Option.some.inj hoo
      have d10 : L 10 = true := hdeps ⟨10, .data⟩ (by simp) rfl
      obtain rfl := f10 d10
      have d9 : L 9 = true := hdeps ⟨9, .guard⟩ (by simp) rfl
      obtain rfl := f9 d9
      have hmW : MkMem W Mb Wb n cap ws := hm.of (hbel.block _ hMb) (hbel.block _ hWb)
      have hslW : SlI W A g xs := hsl.below hbel hg
      co_apply opW_call T9 rfl (by rfl) rfl
      · walk_nrm
        exact count28g_W hmW (fun o => hS _)
      rw [hcount.out]
      rintro _ w3 ⟨rfl, hR⟩
      walk_nrm
      exact ⟨_, _, _, _, _, _, _, _, _, _, _, _, _, _, _, _, _, _, _, _, _, _, _, rfl, below_at hbel hR, f0, f1, f2, f3, f4, f5, f6, f7, f8, f9, f10, fun _ => rfl, f12, f13, f14, f15, f16, f17, fun h => Own.at (f18 h) hR, f19, f20, f21, f22⟩
    · -- 12
      obtain rfl : _ = oo := Option.some.inj hoo
      have d9 : L 9 = true := hdeps ⟨9, .guard⟩ (by simp) rfl
      obtain rfl := f9 d9
      (refine opW_cons rfl (by rfl) ?_; intro W9 hR K hK; go_simp; refine hK _ _ ⟨?_, ?_⟩; (· rw [listed_nil (by simp [go_sem, *])]; exact dp0_nil); clear hK K; try walk_nrm)
      exact ⟨_, _, _, _, _, _, _, _, _, _, _, _, _, _, _, _, _, _, _, _, _, _, _, rfl, below_at hbel hR, f0, f1, f2, f3, f4, f5, f6, f7, f8, f9, f10, f11, fun _ => rfl, f13, f14, f15, f16, f17, fun h => Own.at (f18 h) hR, f19, f20, f21, f22⟩
    · -- 13
      obtain rfl : _ = oo := Option.some.inj hoo
      have d12 : L 12 = true := hdeps ⟨12, .data⟩ (by simp) rfl
      obtain rfl := f12 d12
      have d9 : L 9 = true := hdeps ⟨9, .guard⟩ (by simp) rfl
      obtain rfl := f9 d9
      (refine opW_cons rfl (by rfl) ?_; intro W9 hR K hK; go_simp; refine hK _ _ ⟨?_, ?_⟩; (· rw [listed_nil (by simp [go_sem, *])]; exact dp0_nil); clear hK K; try walk_nrm)
      exact ⟨_, _, _, _, _, _, _, _, _, _, _, _, _, _, _, _, _, _, _, _, _, _, _, rfl, below_at hbel hR, f0, f1, f2, f3, f4, f5, f6, f7, f8, f9, f10, f11, f12, fun _ => rfl, f14, f15, f16, f17, fun h => Own.at (f18 h) hR, f19, f20, f21, f22⟩
    · -- 14
      obtain rfl : _ = oo := Option.some.inj hoo
      have d11 : L 11 = true := hdeps ⟨11, .data⟩ (by simp) rfl
      obtain rfl := f11 d11
      have d13 : L 13 = true := hdeps ⟨13, .data⟩ (by simp) rfl
      obtain rfl := f13 d13
      have d9 : L 9 = true := hdeps ⟨9, .guard⟩ (by simp) rfl
      obtain rfl := f9 d9
      (refine opW_cons rfl (by rfl) ?_; intro W9 hR K hK; go_simp; refine hK _ _ ⟨?_, ?_⟩; (· rw [listed_nil (by simp [go_sem, *])]; exact dp0_nil); clear hK K; try walk_nrm)
      exact ⟨_, _, _, _, _, _, _, _, _, _, _, _, _, _, _, _, _, _, _, _, _, _, _, rfl, below_at hbel hR, f0, f1, f2, f3, f4, f5, f6, f7, f8, f9, f10, f11, f12, f13, fun _ => rfl, f15, f16, f17, fun h => Own.at (f18 h) hR, f19, f20, f21, f22⟩
    · -- 15
      obtain rfl : _ = oo := Option.some.inj hoo
      have d9 : L 9 = true := hdeps ⟨9, .data⟩ (by simp) rfl
      obtain rfl := f9 d9
      have d14 : L 14 = true := hdeps ⟨14, .data⟩ (by simp) rfl
      obtain rfl := f14 d14
      (refine opW_cons rfl (by rfl) ?_; intro W9 hR K hK; go_simp; refine hK _ _ ⟨?_, ?_⟩; (· rw [listed_nil (by simp [go_sem, *])]; exact dp0_nil); clear hK K; try walk_nrm)
      exact ⟨_, _, _, _, _, _, _, _, _, _, _, _, _, _, _, _, _, _, _, _, _, _, _, rfl, below_at hbel hR, f0, f1, f2, f3, f4, f5, f6, f7, f8, f9, f10, f11, f12, f13, f14, fun _ => rfl, f16, f17, fun h => Own.at (f18 h) hR, f19, f20, f21, f22⟩
    · -- 16
      obtain rfl : _ = oo := Option.some.inj hoo
      have d15 : L 15 = true := hdeps ⟨15, .data⟩ (by simp) rfl
      obtain rfl := f15 d15
      (refine opW_cons rfl (by rfl) ?_; intro W9 hR K hK; go_simp; refine hK _ _ ⟨?_, ?_⟩; (· rw [listed_nil (by simp [go_sem, *])]; exact dp0_nil); clear hK K; try walk_nrm)
      exact ⟨_, _, _, _, _, _, _, _, _, _, _, _, _, _, _, _, _, _, _, _, _, _, _, rfl, below_at hbel hR, f0, f1, f2, f3, f4, f5, f6, f7, f8, f9, f10, f11, f12, f13, f14, f15, fun _ => rfl, f17, fun h => Own.at (f18 h) hR, f19, f20, f21, f22⟩
    · -- 17
      obtain rfl : _ = oo := Option.some.inj hoo
      have d16 : L 16 = true := hdeps ⟨16, .guard⟩ (by simp) rfl
      obtain rfl := f16 d16
      (refine opW_cons rfl (by rfl) ?_; intro W9 hR K hK; go_simp; refine hK _ _ ⟨?_, ?_⟩; (· rw [listed_nil (by simp [go_sem, *])]; exact dp0_nil); clear hK K; try walk_nrm)
      exact ⟨_, _, _, _, _, _, _, _, _, _, _, _, _, _, _, _, _, _, _, _, _, _, _, rfl, below_at hbel hR, f0, f1, f2, f3, f4, f5, f6, f7, f8, f9, f10, f11, f12, f13, f14, f15, f16, fun _ => rfl, fun h => Own.at (f18 h) hR, f19, f20, f21, f22⟩
    · -- 18
      obtain rfl : _ = oo := Option.some.inj hoo
      have d17 : L 17 = true := hdeps ⟨17, .data⟩ (by simp) rfl
      obtain rfl := f17 d17
      have d16 : L 16 = true := hdeps ⟨16, .guard⟩ (by simp) rfl
      obtain rfl := f16 d16
      have hmW : MkMem W Mb Wb n cap ws := hm.of (hbel.block _ hMb) (hbel.block _ hWb)
      co_apply opW_call T9 rfl (by rfl) rfl
      · walk_nrm
        exact all18_W (fun r ⟨a, h, _⟩ => by cases h) (fun a _ => hS _) (fun o => hS _) hmW
      rintro v3 w3 ⟨hb3, hown3⟩
      have hown9 : Own wb.heap.size w3 v3 xs := by
        rw [← hxs.out]
        exact Own.weak (b := W.heap.size + 4) hown3 (by have := hbel.size; omega)
      have hbel3 : Below wb.heap.size wb w3 := hbel.trans ⟨hb3.os, hb3.tape, hb3.output, hb3.size, fun g hg => hb3.block g (by have := hbel.size; omega)⟩
      walk_nrm
      exact ⟨_, _, _, _, _, _, _, _, _, _, _, _, _, _, _, _, _, _, _, _, _, _, _, rfl, hbel3, f0, f1, f2, f3, f4, f5, f6, f7, f8, f9, f10, f11, f12, f13, f14, f15, f16, f17, fun _ => hown9, f19, f20, f21, f22⟩
    · -- 19
      obtain rfl : _ = oo := Option.some.inj hoo
      have d16 : L 16 = true := hdeps ⟨16, .guard⟩ (by simp) rfl
      obtain rfl := f16 d16
      (refine opW_cons rfl (by rfl) ?_; intro W9 hR K hK; go_simp; refine hK _ _ ⟨?_, ?_⟩; (· rw [listed_nil (by simp [go_sem, *])]; exact dp0_nil); clear hK K; try walk_nrm)
      exact ⟨_, _, _, _, _, _, _, _, _, _, _, _, _, _, _, _, _, _, _, _, _, _, _, rfl, below_at hbel hR, f0, f1, f2, f3, f4, f5, f6, f7, f8, f9, f10, f11, f12, f13, f14, f15, f16, f17, fun h => Own.at (f18 h) hR, fun _ => rfl, f20, f21, f22⟩
    · -- 20
      obtain rfl : _ = oo := Option.some.inj hoo
      have d18 : L 18 = true := hdeps ⟨18, .data⟩ (by simp) rfl
      have d19 : L 19 = true := hdeps ⟨19, .data⟩ (by simp) rfl
      obtain rfl := f19 d19
      have d16 : L 16 = true := hdeps ⟨16, .guard⟩ (by simp) rfl
      obtain rfl := f16 d16
      have hmW : MkMem W Mb Wb n cap ws := hm.of (hbel.block _ hMb) (hbel.block _ hWb)
      have hslW : SlI W A g xs := hsl.below hbel hg
      obtain ⟨A2, g2, c2, e2, _, _, _, hsl2⟩ := Own.open (f18 d18)
      subst e2
      co_apply opW_call T9 rfl (by rfl) rfl
      · walk_nrm
        rw [← hlen.out]
        exact same17_W hsl2 hslW (fun o => hS _) (fun o => hS _) (by rw [hlen.out]; omega)
      rw [show decide (xs = xs) = true from decide_eq_true rfl]
      rintro _ w3 ⟨rfl, hR⟩
      walk_nrm
      exact ⟨_, _, _, _, _, _, _, _, _, _, _, _, _, _, _, _, _, _, _, _, _, _, _, rfl, below_at hbel hR, f0, f1, f2, f3, f4, f5, f6, f7, f8, f9, f10, f11, f12, f13, f14, f15, f16, f17, fun h => Own.at (f18 h) hR, f19, fun _ => rfl, f21, f22⟩
    · -- 21
      obtain rfl : _ = oo := Option.some.inj hoo
      have d20 : L 20 = true := hdeps ⟨20, .data⟩ (by simp) rfl
      obtain rfl := f20 d20
      have d16 : L 16 = true := hdeps ⟨16, .guard⟩ (by simp) rfl
      obtain rfl := f16 d16
      (refine opW_cons rfl (by rfl) ?_; intro W9 hR K hK; go_simp; refine hK _ _ ⟨?_, ?_⟩; (· rw [listed_nil (by simp [go_sem, *])]; exact dp0_nil); clear hK K; try walk_nrm)
      exact ⟨_, _, _, _, _, _, _, _, _, _, _, _, _, _, _, _, _, _, _, _, _, _, _, rfl, below_at hbel hR, f0, f1, f2, f3, f4, f5, f6, f7, f8, f9, f10, f11, f12, f13, f14, f15, f16, f17, fun h => Own.at (f18 h) hR, f19, f20, fun _ => rfl, f22⟩
    · -- 22
      obtain rfl : _ = oo := Option.some.inj hoo
      have d16 : L 16 = true := hdeps ⟨16, .data⟩ (by simp) rfl
      obtain rfl := f16 d16
      have d21 : L 21 = true := hdeps ⟨21, .data⟩ (by simp) rfl
      obtain rfl := f21 d21
      (refine opW_cons rfl (by rfl) ?_; intro W9 hR K hK; go_simp; refine hK _ _ ⟨?_, ?_⟩; (· rw [listed_nil (by simp [go_sem, *])]; exact dp0_nil); clear hK K; try walk_nrm)
      exact ⟨_, _, _, _, _, _, _, _, _, _, _, _, _, _, _, _, _, _, _, _, _, _, _, rfl, below_at hbel hR, f0, f1, f2, f3, f4, f5, f6, f7, f8, f9, f10, f11, f12, f13, f14, f15, f16, f17, fun h => Own.at (f18 h) hR, f19, f20, f21, fun _ => rfl⟩
  · rintro L a W ⟨v94, v95, v96, v97, v98, v99, v100, v101, v102, v103, v104, v105, v106, v107, v108, v109, v110, v111, v112, v113, v114, v115, v116, rfl, hbel, f0, f1, f2, f3, f4, f5, f6, f7, f8, f9, f10, f11, f12, f13, f14, f15, f16, f17, f18, f19, f20, f21, f22⟩ hall
    obtain rfl := f22 (hall 22 (by decide))
    exact ⟨rfl, ⟨_, _, _, _, _, _, _, _, _, _, _, _, _, _, _, _, _, _, _, _, _, _, rfl⟩, hbel⟩
end Go.Proofs.Ytkcknoodcgmndaa
