/- The document's lists of numbers: With: the drawn region. -/
import Derived.Test.YtkcknoodcgmndaaZReE
import Derived.Test.YtkcknoodcgmndaaZTcO
namespace Go.Proofs.Ytkcknoodcgmndaa
open Go.Conc Go.RowKit
set_option linter.unusedVariables false
set_option linter.unusedSimpArgs false
set_option maxRecDepth 100000
set_option maxHeartbeats 4000000














noncomputable def r7W : Code := match (Try.f15.body.getD .skip) with
  | .seq _ (.seq _ (.seq _ (.seq _ (.seq _ (.seq c _))))) => c
  | _ => .skip
section
variable {Shun : Loc → Prop}
theorem reg7 {c7 : Code} (hc7 : c7 = r7W) (w0 W0 : World) (A : Option Addr) (g c i : Nat) (x : Int) (xs : List Int) (o : Value) (hsl : SlI w0 A g xs) (hg : 0 < xs.length → g < w0.heap.size) (hA : (A = none ∧ c = 0 ∧ xs = []) ∨ A = some ⟨g, 0, none⟩) (hlc : xs.length ≤ c) (hi : i ≤ xs.length) (hlen : xs.length ≤ 100000)
    (hbel0 : Below w0.heap.size w0 W0) (hown0 : Own w0.heap.size W0 o (xs.take i)) (hS0 : 0 < xs.length → ∀ a : Addr, a.block = g → ¬ Shun (.cell a)) (hSn : ∀ a : Addr, w0.heap.size ≤ a.block → ¬ Shun (.cell a))
    {v2 v3 v7 v8 v9 v10 v11 v12 v13 v14 v15 v16 v17 v18 v19 v20 v21 v22 v23 v24 v25 v26 v27 v28 v4 v29 v30 v31 v32 v33 v34 v35 v36 : Value} :
    CodeW Try.prog true AtRel (DP0 Shun) 15 c7 (fun e a' w' => e = .normal ∧ (∃ (v4 v29 v30 v31 v32 v33 v34 v35 v36 : Value), a' = ⟨#[.slice A xs.length c, .int .i64 x, v2, v3, v4, .int .i64 i, o, v7, v8, v9, v10, v11, v12, v13, v14, v15, v16, v17, v18, v19, v20, v21, v22, v23, v24, v25, v26, v27, v28, v29, v30, v31, v32, v33, v34, v35, v36], []⟩ ∧ Own w0.heap.size w' v4 (xs.take i ++ [x] ++ xs.drop i)) ∧ Below w0.heap.size w0 w') ⟨#[.slice A xs.length c, .int .i64 x, v2, v3, v4, .int .i64 i, o, v7, v8, v9, v10, v11, v12, v13, v14, v15, v16, v17, v18, v19, v20, v21, v22, v23, v24, v25, v26, v27, v28, v29, v30, v31, v32, v33, v34, v35, v36], []⟩ W0 := by
  have T9 := termsP Shun
  rw [hc7, show r7W = _ from (by unfold r7W; simp only [Try.f15, Option.getD_some]; try rfl)]
  refine codeW_region_inv T9 (letsDraw_P _) (by rfl) (by kernel_rfl) (fun L a W => ∃ (v4 v29 v30 v31 v32 v33 v34 v35 v36 : Value), a = ⟨#[.slice A xs.length c, .int .i64 x, v2, v3, v4, .int .i64 i, o, v7, v8, v9, v10, v11, v12, v13, v14, v15, v16, v17, v18, v19, v20, v21, v22, v23, v24, v25, v26, v27, v28, v29, v30, v31, v32, v33, v34, v35, v36], []⟩ ∧ Below w0.heap.size w0 W ∧ (L 0 = true → v29 = o) ∧ (L 1 = true → v30 = .int .i64 x) ∧
    (L 3 = false → Own w0.heap.size W o (xs.take i)) ∧ (L 2 = true → L 3 = false → ∃ R, v31 = .slice (some ⟨R, 0, none⟩) 1 1 ∧ w0.heap.size ≤ R ∧ W.cell? ⟨R, 0, none⟩ = some (.int .i64 x)) ∧
    (L 3 = true → L 7 = false → Own w0.heap.size W v32 (xs.take i ++ [x])) ∧ (L 4 = true → v33 = .slice A xs.length c) ∧ (L 5 = true → v34 = .int .i64 i) ∧
    (L 6 = true → ∃ A' c', v35 = .slice A' (xs.length - i) c' ∧ (0 < xs.length - i → A' = some ⟨g, i, none⟩)) ∧ (L 7 = true → Own w0.heap.size W v36 (xs.take i ++ [x] ++ xs.drop i)) ∧ (L 8 = true → v4 = v36) ∧ (L 7 = true → L 3 = true) ∧ (L 8 = true → L 7 = true)) ?_ ?_ ?_
  · intro w₁ h₁
    have hF : AtRel W0 { w₁ with drawn := w₁.drawn + 1 } := atRel_draw (n := w₁.drawn + 1) h₁
    refine ⟨_, _, _, _, _, _, _, _, _, rfl, below_at hbel0 hF, ?_, ?_, ?_, ?_, ?_, ?_, ?_, ?_, ?_, ?_, ?_, ?_⟩
    · intro h; simp at h
    · intro h; simp at h
    · intro _; exact Own.at hown0 hF
    all_goals (intro h; simp at h)
  · rintro L a W ⟨v4, v29, v30, v31, v32, v33, v34, v35, v36, rfl, hbel, f0, f1, fo, fr, f4, f5, f6, f7, f8, f9, f10, f11⟩ j oo hoo hLi hdeps
    have hj : j < 9 := (Array.getElem?_eq_some_iff.1 hoo).1
    have h73 : L 3 = false → L 7 = false := fun h3 => by
      cases h7 : L 7 with
      | false => rfl
      | true => rw [f10 h7] at h3; cases h3
    rcases (by omega : j = 0 ∨ j = 1 ∨ j = 2 ∨ j = 3 ∨ j = 4 ∨ j = 5 ∨ j = 6 ∨ j = 7 ∨ j = 8) with rfl | rfl | rfl | rfl | rfl | rfl | rfl | rfl | rfl
    · -- 0
      obtain rfl : _ = oo := Option.some.inj hoo
      (refine opW_cons rfl (by rfl) ?_; intro W9 hR K hK; go_simp; refine hK _ _ ⟨?_, ?_⟩; (· rw [listed_nil (by simp [go_sem, *])]; exact dp0_nil); clear hK K; try walk_nrm)
      exact ⟨_, _, _, _, _, _, _, _, _, rfl, below_at hbel hR, fun _ => rfl, f1, fun h => Own.at (fo h) hR, fun h h3 => by obtain ⟨R, e1, e2, e3⟩ := fr h h3; exact ⟨R, e1, e2, (atRel_cell hR _).trans e3⟩, fun h h7 => Own.at (f4 h h7) hR, f5, f6, f7, fun h => Own.at (f8 h) hR, f9, f10, f11⟩
    · -- 1
      obtain rfl : _ = oo := Option.some.inj hoo
      (refine opW_cons rfl (by rfl) ?_; intro W9 hR K hK; go_simp; refine hK _ _ ⟨?_, ?_⟩; (· rw [listed_nil (by simp [go_sem, *])]; exact dp0_nil); clear hK K; try walk_nrm)
      exact ⟨_, _, _, _, _, _, _, _, _, rfl, below_at hbel hR, f0, fun _ => rfl, fun h => Own.at (fo h) hR, fun h h3 => by obtain ⟨R, e1, e2, e3⟩ := fr h h3; exact ⟨R, e1, e2, (atRel_cell hR _).trans e3⟩, fun h h7 => Own.at (f4 h h7) hR, f5, f6, f7, fun h => Own.at (f8 h) hR, f9, f10, f11⟩
    · -- 2
      obtain rfl : _ = oo := Option.some.inj hoo
      have d1 : L 1 = true := hdeps ⟨1, .data⟩ (by simp) rfl
      obtain rfl := f1 d1
      have hz := hbel.size
      (refine opW_cons rfl (by rfl) ?_; intro W9 hR K hK; have hs9 := atRel_size hR; go_simp; refine hK _ _ ⟨?_, ?_⟩; (· rw [listed_nil (by simp [go_sem, *])]; exact dp0_nil); clear hK K; try walk_nrm)
      have hal := atRel_alloc hR (.cells #[.int .i64 x] 3)
      exact ⟨_, _, _, _, _, _, _, _, _, rfl, below_at (below_alloc9 hbel (Nat.le_refl _) _) hal, f0, f1, fun h => Own.at (World.ownsRow.alloc (fo h) _) hal, fun _ _ => ⟨_, rfl, hz, (atRel_cell hal _).trans (box_cell (alloc_new W _))⟩,
        fun h h7 => Own.at (World.ownsRow.alloc (f4 h h7) _) hal, f5, f6, f7, fun h => Own.at (World.ownsRow.alloc (f8 h) _) hal, f9, f10, f11⟩
    · -- 3
      obtain rfl : _ = oo := Option.some.inj hoo
      have d0 : L 0 = true := hdeps ⟨0, .data⟩ (by simp) rfl
      have d2 : L 2 = true := hdeps ⟨2, .data⟩ (by simp) rfl
      obtain rfl := f0 d0
      obtain ⟨R, rfl, hR1, hR2⟩ := fr d2 hLi
      have hoo2 := fo hLi
      refine opW_cons rfl (by rfl) ?_
      intro W9 hR K hK
      have hlt : (xs.take i).length ≤ 100000 := by rw [List.length_take]; omega
      generalize xs.take i = Lt at *
      refine append_int (S := Shun) (fn := 15) (w := W) (base := w0.heap.size) (v := v29) (n := Lt.length) (xs := Lt.map (Value.int .i64)) (ad := ⟨R, 0, none⟩) (m := 1) (c := 1) (news := [.int .i64 x]) rfl rfl rfl hoo2 rfl ?_ (by simp [Value.oneCell']) (by omega) hbel.size hSn (fun a ha => hSn a (by rw [ha]; exact hR1)) W9 hR ?_
      · intro j u hu
        have hj : j = 0 := by
          have := (List.getElem?_eq_some_iff.1 hu).1
          simp at this
          exact this
        subst hj
        simp at hu
        subst hu
        exact hR2
      intro v' w' hown4 hgr hdp
      refine hK _ _ ⟨hdp, ?_⟩
      have hown5 : Own w0.heap.size w' v' (Lt ++ [x]) := by
        have e1 : Lt.map (Value.int .i64) ++ [Value.int .i64 x] = (Lt ++ [x]).map (Value.int .i64) := by simp
        have e2 : Lt.length + 1 = (Lt ++ [x]).length := by simp
        rw [e1, e2] at hown4
        exact hown4
      walk_nrm
      exact ⟨_, _, _, _, _, _, _, _, _, rfl, below_grown hbel hgr (fun k hk => (hoo2.lt k hk).1) hbel.size, f0, f1, fun h => by simp [updB] at h, fun _ h => by simp [updB] at h, fun _ _ => hown5, f5, f6, f7, fun h => absurd (show L 7 = true from h) (by rw [h73 hLi]; simp), f9, fun _ => rfl, f11⟩
    · -- 4
      obtain rfl : _ = oo := Option.some.inj hoo
      (refine opW_cons rfl (by rfl) ?_; intro W9 hR K hK; go_simp; refine hK _ _ ⟨?_, ?_⟩; (· rw [listed_nil (by simp [go_sem, *])]; exact dp0_nil); clear hK K; try walk_nrm)
      exact ⟨_, _, _, _, _, _, _, _, _, rfl, below_at hbel hR, f0, f1, fun h => Own.at (fo h) hR, fun h h3 => by obtain ⟨R, e1, e2, e3⟩ := fr h h3; exact ⟨R, e1, e2, (atRel_cell hR _).trans e3⟩, fun h h7 => Own.at (f4 h h7) hR, fun _ => rfl, f6, f7, fun h => Own.at (f8 h) hR, f9, f10, f11⟩
    · -- 5
      obtain rfl : _ = oo := Option.some.inj hoo
      (refine opW_cons rfl (by rfl) ?_; intro W9 hR K hK; go_simp; refine hK _ _ ⟨?_, ?_⟩; (· rw [listed_nil (by simp [go_sem, *])]; exact dp0_nil); clear hK K; try walk_nrm)
      exact ⟨_, _, _, _, _, _, _, _, _, rfl, below_at hbel hR, f0, f1, fun h => Own.at (fo h) hR, fun h h3 => by obtain ⟨R, e1, e2, e3⟩ := fr h h3; exact ⟨R, e1, e2, (atRel_cell hR _).trans e3⟩, fun h h7 => Own.at (f4 h h7) hR, f5, fun _ => rfl, f7, fun h => Own.at (f8 h) hR, f9, f10, f11⟩
    · -- 6
      obtain rfl : _ = oo := Option.some.inj hoo
      have d4 : L 4 = true := hdeps ⟨4, .data⟩ (by simp) rfl
      have d5 : L 5 = true := hdeps ⟨5, .data⟩ (by simp) rfl
      obtain rfl := f5 d4
      obtain rfl := f6 d5
      have q0 : (0 : Int) ≤ (i : Int) := by omega
      have q1 : (i : Int) ≤ (xs.length : Int) := by omega
      have evl := fun (w : World) => ev_slice_l w A xs.length c (i : Int) q0 q1 #[]
      have rnl := fun (w : World) => rn_slice_l w A xs.length c (i : Int) q0 q1
      simp only [Int.toNat_natCast] at rnl
      have hA2 : ∃ A', (if c = i then A else A.map (·.add i)) = A' ∧ (0 < xs.length - i → A' = some ⟨g, i, none⟩) := by
        refine ⟨_, rfl, fun h => ?_⟩
        rw [if_neg (by omega)]
        rcases hA with ⟨_, _, e⟩ | e
        · rw [e] at h; simp at h
        · rw [e]
          simp only [Option.map_some, Option.some.injEq]
          rw [add_none]
          simp
      obtain ⟨A', hA', hA3⟩ := hA2
      simp only [hA'] at rnl
      (refine opW_cons rfl (by rfl) ?_; intro W9 hR K hK; go_simp; refine hK _ _ ⟨?_, ?_⟩; (· rw [listed_nil (by simp [go_sem, *])]; exact dp0_nil); clear hK K; try walk_nrm)
      exact ⟨_, _, _, _, _, _, _, _, _, rfl, below_at hbel hR, f0, f1, fun h => Own.at (fo h) hR, fun h h3 => by obtain ⟨R, e1, e2, e3⟩ := fr h h3; exact ⟨R, e1, e2, (atRel_cell hR _).trans e3⟩, fun h h7 => Own.at (f4 h h7) hR, f5, f6, fun _ => ⟨A', _, rfl, hA3⟩, fun h => Own.at (f8 h) hR, f9, f10, f11⟩
    · -- 7
      obtain rfl : _ = oo := Option.some.inj hoo
      have d3 : L 3 = true := hdeps ⟨3, .data⟩ (by simp) rfl
      have d6 : L 6 = true := hdeps ⟨6, .data⟩ (by simp) rfl
      obtain ⟨A2, c2, rfl, hA2⟩ := f7 d6
      have hown3 := f4 d3 hLi
      have hlt : (xs.take i ++ [x]).length ≤ 100001 := by rw [List.length_append, List.length_take]; simp; omega
      by_cases hm : xs.length - i = 0
      · obtain ⟨A3, g3, c3, rfl, hle3, _, _, _⟩ := Own.open hown3
        have hdr : xs.drop i = [] := List.drop_eq_nil_of_le (by omega)
        rw [hm] at hA2 ⊢
        refine opW_cons rfl (by rfl) ?_
        intro W9 hR K hK
        refine append_nothing (S := Shun) (fn := 15) (w := W) (b := A3) (n := (xs.take i ++ [x]).length) (c := c3) (b' := A2) (c' := c2) rfl rfl rfl hle3 W9 hR ?_
        intro hdp
        refine hK _ _ ⟨hdp, ?_⟩
        clear hK K
        walk_nrm
        exact ⟨_, _, _, _, _, _, _, _, _, rfl, below_at hbel hR, f0, f1, fun h => absurd (show L 3 = true from d3) (by rw [show L 3 = false from h]; simp), fun _ h => absurd (show L 3 = true from d3) (by rw [show L 3 = false from h]; simp), fun _ h => by simp [updB] at h, f5, f6, fun _ => ⟨A2, c2, rfl, hA2⟩, fun _ => by rw [hdr, List.append_nil]; exact Own.at hown3 hR, fun h => absurd (f11 h) (by rw [hLi]; simp), fun _ => d3, fun _ => rfl⟩
      · obtain rfl := hA2 (by omega)
        have hslW := hsl.below hbel (fun h => hg h)
        generalize hLt : xs.take i ++ [x] = Lt at *
        refine opW_cons rfl (by rfl) ?_
        intro W9 hR K hK
        refine append_int (S := Shun) (fn := 15) (w := W) (base := w0.heap.size) (v := v32) (n := Lt.length) (xs := Lt.map (Value.int .i64)) (ad := ⟨g, i, none⟩) (m := xs.length - i) (c := c2) (news := (xs.drop i).map (Value.int .i64)) rfl rfl rfl hown3 (by simp) ?_ (by intro u hu; obtain ⟨z, _, rfl⟩ := List.mem_map.1 hu; rfl) (by omega) hbel.size hSn (fun a ha => hS0 (by omega) a ha) W9 hR ?_
        · intro j u hu
          rw [List.getElem?_map, List.getElem?_drop] at hu
          obtain ⟨z, hz, rfl⟩ := Option.map_eq_some_iff.1 hu
          rw [add_none]
          exact hslW.cell _ _ hz
        intro v' w' hown4 hgr hdp
        refine hK _ _ ⟨hdp, ?_⟩
        have hown5 : Own w0.heap.size w' v' (Lt ++ xs.drop i) := by
          have e1 : Lt.map (Value.int .i64) ++ (xs.drop i).map (Value.int .i64) = (Lt ++ xs.drop i).map (Value.int .i64) := by simp
          have e2 : Lt.length + (xs.length - i) = (Lt ++ xs.drop i).length := by simp
          rw [e1, e2] at hown4
          exact hown4
        clear hK K
        walk_nrm
        exact ⟨_, _, _, _, _, _, _, _, _, rfl, below_grown hbel hgr (fun k hk => (hown3.lt k hk).1) hbel.size, f0, f1, fun h => absurd (show L 3 = true from d3) (by rw [show L 3 = false from h]; simp), fun _ h => absurd (show L 3 = true from d3) (by rw [show L 3 = false from h]; simp), fun _ h => by simp [updB] at h, f5, f6, fun _ => ⟨_, c2, rfl, hA2⟩, fun _ => hown5, fun h => absurd (f11 h) (by rw [hLi]; simp), fun _ => d3, fun _ => rfl⟩
    · -- 8
      obtain rfl : _ = oo := Option.some.inj hoo
      have d7 : L 7 = true := hdeps ⟨7, .data⟩ (by simp) rfl
      (refine opW_cons rfl (by rfl) ?_; intro W9 hR K hK; go_simp; refine hK _ _ ⟨?_, ?_⟩; (· rw [listed_nil (by simp [go_sem, *])]; exact dp0_nil); clear hK K; try walk_nrm)
      exact ⟨_, _, _, _, _, _, _, _, _, rfl, below_at hbel hR, f0, f1, fun h => Own.at (fo h) hR, fun h h3 => by obtain ⟨R, e1, e2, e3⟩ := fr h h3; exact ⟨R, e1, e2, (atRel_cell hR _).trans e3⟩, fun h h7 => Own.at (f4 h h7) hR, f5, f6, f7, fun h => Own.at (f8 h) hR, fun _ => rfl, f10, fun _ => d7⟩

  · rintro L a W ⟨v4, v29, v30, v31, v32, v33, v34, v35, v36, rfl, hbel, f0, f1, fo, fr, f4, f5, f6, f7, f8, f9, f10, f11⟩ hall
    have h7 := f8 (hall 7 (by decide))
    obtain rfl := f9 (hall 8 (by decide))
    exact ⟨rfl, ⟨_, _, _, _, _, _, _, _, _, rfl, h7⟩, hbel⟩
end
end Go.Proofs.Ytkcknoodcgmndaa
