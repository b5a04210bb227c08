/- The document's lists of numbers: With. -/
import Derived.Test.YtkcknoodcgmndaaZReD
import Derived.Test.YtkcknoodcgmndaaZReA
namespace Go.Proofs.Ytkcknoodcgmndaa
open Go.Conc Go.RowKit
set_option linter.unusedVariables false
set_option linter.unusedSimpArgs false
set_option maxRecDepth 100000
set_option maxHeartbeats 4000000














noncomputable def tailW15 : Code := match (Try.f15.body.getD .skip) with
  | .seq _ (.seq _ (.seq _ (.seq _ c))) => c
  | _ => .skip
def WithOut (w : World) (x : Int) (xs : List Int) (v : Value) (w' : World) : Prop :=
  Below w.heap.size w w' ∧ ∃ i, i ≤ xs.length ∧ (∀ q y, q < i → xs[q]? = some y → y < x) ∧ (∀ y, xs[i]? = some y → x ≤ y) ∧ Own w.heap.size w' v (xs.take i ++ [x] ++ xs.drop i)
section
variable {Shun : Loc → Prop}
theorem tail15_W {ct : Code} (hct : ct = tailW15) {w W : World} {A : Option Addr} {g c i : Nat} {xs : List Int} (x : Int) (h : SlI w A g xs) (hA : (A = none ∧ c = 0 ∧ xs = []) ∨ A = some ⟨g, 0, none⟩) (hlc : xs.length ≤ c) (hg : 0 < xs.length → g < w.heap.size)
    (hS0 : ∀ a : Addr, a.block = g → ¬ Shun (.cell a)) (hSn : ∀ a : Addr, w.heap.size ≤ a.block → ¬ Shun (.cell a)) (hlen : xs.length ≤ 100000) (hi : i ≤ xs.length) (hr : AtRel w W)
    (h1 : ∀ q y, q < i → xs[q]? = some y → y < x) (h2 : ∀ y, xs[i]? = some y → x ≤ y) {v2 v3 v4 v6 v7 v8 v9 v10 v11 v12 v13 v14 v15 v16 v17 v18 v19 v20 v21 v22 v23 v24 v25 v26 v27 v28 v29 v30 v31 v32 v33 v34 v35 v36 : Value} :
    CodeW Try.prog true AtRel (DP0 Shun) 15 ct (bodyPostC Try.prog Try.f15 (fun v w' => WithOut w x xs v w')) ⟨#[.slice A xs.length c, .int .i64 x, v2, v3, v4, .int .i64 i, v6, v7, v8, v9, v10, v11, v12, v13, v14, v15, v16, v17, v18, v19, v20, v21, v22, v23, v24, v25, v26, v27, v28, v29, v30, v31, v32, v33, v34, v35, v36], []⟩ W := by
  have T9 := termsP Shun
  have hF := atRel_refl W
  rw [hct, show tailW15 = _ from (by unfold tailW15; simp only [Try.f15, Option.getD_some]; try rfl)]
  have q0 : (0 : Int) ≤ (i : Int) := by omega
  have q1 : (i : Int) ≤ (c : Int) := by omega
  have evh := fun (w : World) => ev_slice_h w A xs.length c (i : Int) q0 q1 #[]
  have rnh := fun (w : World) => rn_slice_h w A xs.length c (i : Int) q0 q1
  simp only [Int.toNat_natCast] at rnh
  (refine codeW_seq T9 ?_)
  (refine codeW_region T9 ?_; simp only [List.size_toArray, List.length_cons, List.length_nil, Nat.reduceAdd, Nat.zero_add, List.range, List.range.loop])
  (refine opsW_cons rfl (by rfl) ?_; intro _ hR K hK; replace hF := atRel_trans _ _ _ hF hR; clear hR; have hs9 := atRel_size hF; go_simp; refine hK _ _ ⟨?_, ?_⟩; (· rw [listed_nil (by simp [go_sem, *])]; exact dp0_nil); clear hK K hs9; try walk_nrm)
  (refine opsW_cons rfl (by rfl) ?_; intro _ hR K hK; replace hF := atRel_trans _ _ _ hF hR; clear hR; have hs9 := atRel_size hF; go_simp; refine hK _ _ ⟨?_, ?_⟩; (· rw [listed_nil (by simp [go_sem, *])]; exact dp0_nil); clear hK K hs9; try walk_nrm)
  (refine opsW_cons rfl (by rfl) ?_; intro _ hR K hK; replace hF := atRel_trans _ _ _ hF hR; clear hR; have hs9 := atRel_size hF; go_simp; refine hK _ _ ⟨?_, ?_⟩; (· rw [listed_nil (by simp [go_sem, *])]; exact dp0_nil); clear hK K hs9; try walk_nrm)
  refine opsW_mid9 (fun v w' => Below w.heap.size w w' ∧ Own w.heap.size w' v (xs.take i)) rfl (by rfl) ?_ ?_
  · intro W9 hR K hK
    have hR2 := atRel_trans _ _ _ hr (atRel_trans _ _ _ hF hR)
    by_cases hi0 : i = 0
    · subst hi0
      refine append_nothing (S := Shun) (fn := 15) (w := w) (b := none) (n := 0) (c := 0) (b' := A) (c' := c) rfl rfl rfl (Nat.le_refl _) W9 hR2 ?_
      intro hdp
      exact hK _ _ ⟨hdp, below_at (below_self _ w) hR2, World.ownsRow_nil _ _ _ _⟩
    · obtain rfl := h.at_ (by omega)
      have hne : xs ≠ [] := by intro e; rw [e] at hi; simp at hi; omega
      refine append_int (S := Shun) (fn := 15) (w := w) (base := w.heap.size) (v := .slice none 0 0) (n := 0) (xs := []) (ad := ⟨g, 0, none⟩) (m := i) (c := c) (news := (xs.take i).map (Value.int .i64)) rfl rfl rfl (World.ownsRow_nil _ _ _ _) (by rw [List.length_map, List.length_take]; omega) ?_ (by intro u hu; obtain ⟨z, _, rfl⟩ := List.mem_map.1 hu; rfl) (by omega) (Nat.le_refl _) hSn hS0 W9 hR2 ?_
      · intro j u hu
        rw [List.getElem?_map] at hu
        obtain ⟨z, hz, rfl⟩ := Option.map_eq_some_iff.1 hu
        rw [add_none, Nat.zero_add]
        have hj : j < i := by
          have := (List.getElem?_eq_some_iff.1 hz).1
          rw [List.length_take] at this
          omega
        rw [List.getElem?_take_of_lt hj] at hz
        exact h.cell _ _ hz
      intro v' w' hown4 hgr hdp
      refine hK _ _ ⟨hdp, below_grown (below_self _ w) hgr (fun k hk => by cases hk) (Nat.le_refl _), ?_⟩
      have e2 : 0 + i = (xs.take i).length := by rw [List.length_take]; omega
      rw [e2, List.nil_append] at hown4
      exact hown4
  rintro o W2 ⟨hb2, hown2⟩
  have hF := atRel_refl W2
  walk_nrm
  (refine opsW_cons rfl (by rfl) ?_; intro _ hR K hK; replace hF := atRel_trans _ _ _ hF hR; clear hR; have hs9 := atRel_size hF; go_simp; refine hK _ _ ⟨?_, ?_⟩; (· rw [listed_nil (by simp [go_sem, *])]; exact dp0_nil); clear hK K hs9; try walk_nrm)
  (refine opsW_nil T9 ?_; simp only [Exit.then, Exit.inBlock])
  (refine codeW_seq T9 ?_)
  obtain ⟨q9, rfl⟩ := hF
  refine codeW_mono (reg7 (by kernel_rfl) w (W2.at q9) A g c i x xs o h hg hA hlc hi hlen (below_at hb2 ⟨q9, rfl⟩) (Own.at hown2 ⟨q9, rfl⟩) (fun _ => hS0) hSn) ?_
  rintro e a' w' ⟨rfl, ⟨u4, u29, u30, u31, u32, u33, u34, u35, u36, rfl, hown3⟩, hb3⟩
  simp only [Exit.then]
  (refine codeW_ret T9 ?_)
  exact ⟨rfl, u4, resultsC_tmp (t := 4) rfl _, hb3, i, hi, h1, h2, hown3⟩
end
end Go.Proofs.Ytkcknoodcgmndaa
