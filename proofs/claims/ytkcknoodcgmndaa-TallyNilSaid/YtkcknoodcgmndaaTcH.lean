/- TallyClock: words; the law's end. -/
import Derived.Test.YtkcknoodcgmndaaTcF
import Derived.Test.YtkcknoodcgmndaaSgY
namespace Go.Proofs.Ytkcknoodcgmndaa
open Go.Conc Go.RowKit
set_option linter.unusedVariables false
set_option linter.unusedSimpArgs false
set_option maxRecDepth 100000
set_option maxHeartbeats 4000000













structure CkAt (w : World) (v : Int) (w' : World) : Prop where
  bel : Below w.heap.size w w'
  cell : w'.cell? ⟨w.heap.size, 0, none⟩ = some (.int .u64 v)
  thaw : w'.frozen? ⟨w.heap.size, 0, none⟩ = false
theorem CkAt.at {w W W' : World} {v : Int} (h : CkAt w v W) (r : AtRel W W') : CkAt w v W' := by
  obtain ⟨q, rfl⟩ := r
  exact ⟨⟨h.bel.os, h.bel.tape, h.bel.output, h.bel.size, h.bel.block⟩, h.cell, h.thaw⟩
theorem CkAt.set {w W : World} {v : Int} (h : CkAt w v W) (u : Int) : CkAt w u (W.setCell ⟨w.heap.size, 0, none⟩ (.int .u64 u)) := by
  have a := aside_setCell W ⟨w.heap.size, 0, none⟩ (.int .u64 u)
  refine ⟨⟨a.os.trans h.bel.os, a.tape.trans h.bel.tape, a.output.trans h.bel.output, ?_, fun g hg => (a.block g (by show g ≠ w.heap.size; omega)).trans (h.bel.block g hg)⟩, ?_, ?_⟩
  · rw [a.size]; exact h.bel.size
  · exact World.cell?_setCell_same _ _ _ h.cell
  · exact (World.frozen?_setCell _ _ _ _).trans h.thaw
theorem CkAt.new (w : World) (u : Int) : CkAt w u ((w.alloc (.cells #[.int .u64 0] 88)).setCell ⟨w.heap.size, 0, none⟩ (.int .u64 u)) :=
  CkAt.set (w := w) (W := w.alloc (.cells #[.int .u64 0] 88)) (v := 0) ⟨⟨rfl, rfl, rfl, by simp, fun g hg => Below.heap_alloc _ _ _ hg⟩, box_cell (alloc_new w _), box_thaw (alloc_new w _)⟩ u
structure TkIn (w : World) (lA : Option Addr) (len : Nat) (k n : Nat → Int) (sb so : Nat) : Prop where
  lt : 0 < len → sb < w.heap.size
  at_ : 0 < len → lA = some ⟨sb, so, none⟩
  k : ∀ j, j < len → w.cell? ⟨sb, so + j * 2, none⟩ = some (.int .i64 (k j))
  n : ∀ j, j < len → w.cell? ⟨sb, so + j * 2 + 1, none⟩ = some (.int .u64 (n j))
theorem arr78 (T : Array Value) (h : T.size = 78) : ∃ v0 v1 v2 v3 v4 v5 v6 v7 v8 v9 v10 v11 v12 v13 v14 v15 v16 v17 v18 v19 v20 v21 v22 v23 v24 v25 v26 v27 v28 v29 v30 v31 v32 v33 v34 v35 v36 v37 v38 v39 v40 v41 v42 v43 v44 v45 v46 v47 v48 v49 v50 v51 v52 v53 v54 v55 v56 v57 v58 v59 v60 v61 v62 v63 v64 v65 v66 v67 v68 v69 v70 v71 v72 v73 v74 v75 v76 v77, T = #[v0, v1, v2, v3, v4, v5, v6, v7, v8, v9, v10, v11, v12, v13, v14, v15, v16, v17, v18, v19, v20, v21, v22, v23, v24, v25, v26, v27, v28, v29, v30, v31, v32, v33, v34, v35, v36, v37, v38, v39, v40, v41, v42, v43, v44, v45, v46, v47, v48, v49, v50, v51, v52, v53, v54, v55, v56, v57, v58, v59, v60, v61, v62, v63, v64, v65, v66, v67, v68, v69, v70, v71, v72, v73, v74, v75, v76, v77] := by
  obtain ⟨l⟩ := T
  have h : l.length = 78 := h
  obtain ⟨v0, l, rfl⟩ : ∃ v r, l = v :: r := (by cases l with | nil => simp at h | cons v r => exact ⟨v, r, rfl⟩)
  replace h : l.length = 77 := by simpa using h
  obtain ⟨v1, l, rfl⟩ : ∃ v r, l = v :: r := (by cases l with | nil => simp at h | cons v r => exact ⟨v, r, rfl⟩)
  replace h : l.length = 76 := by simpa using h
  obtain ⟨v2, l, rfl⟩ : ∃ v r, l = v :: r := (by cases l with | nil => simp at h | cons v r => exact ⟨v, r, rfl⟩)
  replace h : l.length = 75 := by simpa using h
  obtain ⟨v3, l, rfl⟩ : ∃ v r, l = v :: r := (by cases l with | nil => simp at h | cons v r => exact ⟨v, r, rfl⟩)
  replace h : l.length = 74 := by simpa using h
  obtain ⟨v4, l, rfl⟩ : ∃ v r, l = v :: r := (by cases l with | nil => simp at h | cons v r => exact ⟨v, r, rfl⟩)
  replace h : l.length = 73 := by simpa using h
  obtain ⟨v5, l, rfl⟩ : ∃ v r, l = v :: r := (by cases l with | nil => simp at h | cons v r => exact ⟨v, r, rfl⟩)
  replace h : l.length = 72 := by simpa using h
  obtain ⟨v6, l, rfl⟩ : ∃ v r, l = v :: r := (by cases l with | nil => simp at h | cons v r => exact ⟨v, r, rfl⟩)
  replace h : l.length = 71 := by simpa using h
  obtain ⟨v7, l, rfl⟩ : ∃ v r, l = v :: r := (by cases l with | nil => simp at h | cons v r => exact ⟨v, r, rfl⟩)
  replace h : l.length = 70 := by simpa using h
  obtain ⟨v8, l, rfl⟩ : ∃ v r, l = v :: r := (by cases l with | nil => simp at h | cons v r => exact ⟨v, r, rfl⟩)
  replace h : l.length = 69 := by simpa using h
  obtain ⟨v9, l, rfl⟩ : ∃ v r, l = v :: r := (by cases l with | nil => simp at h | cons v r => exact ⟨v, r, rfl⟩)
  replace h : l.length = 68 := by simpa using h
  obtain ⟨v10, l, rfl⟩ : ∃ v r, l = v :: r := (by cases l with | nil => simp at h | cons v r => exact ⟨v, r, rfl⟩)
  replace h : l.length = 67 := by simpa using h
  obtain ⟨v11, l, rfl⟩ : ∃ v r, l = v :: r := (by cases l with | nil => simp at h | cons v r => exact ⟨v, r, rfl⟩)
  replace h : l.length = 66 := by simpa using h
  obtain ⟨v12, l, rfl⟩ : ∃ v r, l = v :: r := (by cases l with | nil => simp at h | cons v r => exact ⟨v, r, rfl⟩)
  replace h : l.length = 65 := by simpa using h
  obtain ⟨v13, l, rfl⟩ : ∃ v r, l = v :: r := (by cases l with | nil => simp at h | cons v r => exact ⟨v, r, rfl⟩)
  replace h : l.length = 64 := by simpa using h
  obtain ⟨v14, l, rfl⟩ : ∃ v r, l = v :: r := (by cases l with | nil => simp at h | cons v r => exact ⟨v, r, rfl⟩)
  replace h : l.length = 63 := by simpa using h
  obtain ⟨v15, l, rfl⟩ : ∃ v r, l = v :: r := (by cases l with | nil => simp at h | cons v r => exact ⟨v, r, rfl⟩)
  replace h : l.length = 62 := by simpa using h
  obtain ⟨v16, l, rfl⟩ : ∃ v r, l = v :: r := (by cases l with | nil => simp at h | cons v r => exact ⟨v, r, rfl⟩)
  replace h : l.length = 61 := by simpa using h
  obtain ⟨v17, l, rfl⟩ : ∃ v r, l = v :: r := (by cases l with | nil => simp at h | cons v r => exact ⟨v, r, rfl⟩)
  replace h : l.length = 60 := by simpa using h
  obtain ⟨v18, l, rfl⟩ : ∃ v r, l = v :: r := (by cases l with | nil => simp at h | cons v r => exact ⟨v, r, rfl⟩)
  replace h : l.length = 59 := by simpa using h
  obtain ⟨v19, l, rfl⟩ : ∃ v r, l = v :: r := (by cases l with | nil => simp at h | cons v r => exact ⟨v, r, rfl⟩)
  replace h : l.length = 58 := by simpa using h
  obtain ⟨v20, l, rfl⟩ : ∃ v r, l = v :: r := (by cases l with | nil => simp at h | cons v r => exact ⟨v, r, rfl⟩)
  replace h : l.length = 57 := by simpa using h
  obtain ⟨v21, l, rfl⟩ : ∃ v r, l = v :: r := (by cases l with | nil => simp at h | cons v r => exact ⟨v, r, rfl⟩)
  replace h : l.length = 56 := by simpa using h
  obtain ⟨v22, l, rfl⟩ : ∃ v r, l = v :: r := (by cases l with | nil => simp at h | cons v r => exact ⟨v, r, rfl⟩)
  replace h : l.length = 55 := by simpa using h
  obtain ⟨v23, l, rfl⟩ : ∃ v r, l = v :: r := (by cases l with | nil => simp at h | cons v r => exact ⟨v, r, rfl⟩)
  replace h : l.length = 54 := by simpa using h
  obtain ⟨v24, l, rfl⟩ : ∃ v r, l = v :: r := (by cases l with | nil => simp at h | cons v r => exact ⟨v, r, rfl⟩)
  replace h : l.length = 53 := by simpa using h
  obtain ⟨v25, l, rfl⟩ : ∃ v r, l = v :: r := (by cases l with | nil => simp at h | cons v r => exact ⟨v, r, rfl⟩)
  replace h : l.length = 52 := by simpa using h
  obtain ⟨v26, l, rfl⟩ : ∃ v r, l = v :: r := (by cases l with | nil => simp at h | cons v r => exact ⟨v, r, rfl⟩)
  replace h : l.length = 51 := by simpa using h
  obtain ⟨v27, l, rfl⟩ : ∃ v r, l = v :: r := (by cases l with | nil => simp at h | cons v r => exact ⟨v, r, rfl⟩)
  replace h : l.length = 50 := by simpa using h
  obtain ⟨v28, l, rfl⟩ : ∃ v r, l = v :: r := (by cases l with | nil => simp at h | cons v r => exact ⟨v, r, rfl⟩)
  replace h : l.length = 49 := by simpa using h
  obtain ⟨v29, l, rfl⟩ : ∃ v r, l = v :: r := (by cases l with | nil => simp at h | cons v r => exact ⟨v, r, rfl⟩)
  replace h : l.length = 48 := by simpa using h
  obtain ⟨v30, l, rfl⟩ : ∃ v r, l = v :: r := (by cases l with | nil => simp at h | cons v r => exact ⟨v, r, rfl⟩)
  replace h : l.length = 47 := by simpa using h
  obtain ⟨v31, l, rfl⟩ : ∃ v r, l = v :: r := (by cases l with | nil => simp at h | cons v r => exact ⟨v, r, rfl⟩)
  replace h : l.length = 46 := by simpa using h
  obtain ⟨v32, l, rfl⟩ : ∃ v r, l = v :: r := (by cases l with | nil => simp at h | cons v r => exact ⟨v, r, rfl⟩)
  replace h : l.length = 45 := by simpa using h
  obtain ⟨v33, l, rfl⟩ : ∃ v r, l = v :: r := (by cases l with | nil => simp at h | cons v r => exact ⟨v, r, rfl⟩)
  replace h : l.length = 44 := by simpa using h
  obtain ⟨v34, l, rfl⟩ : ∃ v r, l = v :: r := (by cases l with | nil => simp at h | cons v r => exact ⟨v, r, rfl⟩)
  replace h : l.length = 43 := by simpa using h
  obtain ⟨v35, l, rfl⟩ : ∃ v r, l = v :: r := (by cases l with | nil => simp at h | cons v r => exact ⟨v, r, rfl⟩)
  replace h : l.length = 42 := by simpa using h
  obtain ⟨v36, l, rfl⟩ : ∃ v r, l = v :: r := (by cases l with | nil => simp at h | cons v r => exact ⟨v, r, rfl⟩)
  replace h : l.length = 41 := by simpa using h
  obtain ⟨v37, l, rfl⟩ : ∃ v r, l = v :: r := (by cases l with | nil => simp at h | cons v r => exact ⟨v, r, rfl⟩)
  replace h : l.length = 40 := by simpa using h
  obtain ⟨v38, l, rfl⟩ : ∃ v r, l = v :: r := (by cases l with | nil => simp at h | cons v r => exact ⟨v, r, rfl⟩)
  replace h : l.length = 39 := by simpa using h
  obtain ⟨v39, l, rfl⟩ : ∃ v r, l = v :: r := (by cases l with | nil => simp at h | cons v r => exact ⟨v, r, rfl⟩)
  replace h : l.length = 38 := by simpa using h
  obtain ⟨v40, l, rfl⟩ : ∃ v r, l = v :: r := (by cases l with | nil => simp at h | cons v r => exact ⟨v, r, rfl⟩)
  replace h : l.length = 37 := by simpa using h
  obtain ⟨v41, l, rfl⟩ : ∃ v r, l = v :: r := (by cases l with | nil => simp at h | cons v r => exact ⟨v, r, rfl⟩)
  replace h : l.length = 36 := by simpa using h
  obtain ⟨v42, l, rfl⟩ : ∃ v r, l = v :: r := (by cases l with | nil => simp at h | cons v r => exact ⟨v, r, rfl⟩)
  replace h : l.length = 35 := by simpa using h
  obtain ⟨v43, l, rfl⟩ : ∃ v r, l = v :: r := (by cases l with | nil => simp at h | cons v r => exact ⟨v, r, rfl⟩)
  replace h : l.length = 34 := by simpa using h
  obtain ⟨v44, l, rfl⟩ : ∃ v r, l = v :: r := (by cases l with | nil => simp at h | cons v r => exact ⟨v, r, rfl⟩)
  replace h : l.length = 33 := by simpa using h
  obtain ⟨v45, l, rfl⟩ : ∃ v r, l = v :: r := (by cases l with | nil => simp at h | cons v r => exact ⟨v, r, rfl⟩)
  replace h : l.length = 32 := by simpa using h
  obtain ⟨v46, l, rfl⟩ : ∃ v r, l = v :: r := (by cases l with | nil => simp at h | cons v r => exact ⟨v, r, rfl⟩)
  replace h : l.length = 31 := by simpa using h
  obtain ⟨v47, l, rfl⟩ : ∃ v r, l = v :: r := (by cases l with | nil => simp at h | cons v r => exact ⟨v, r, rfl⟩)
  replace h : l.length = 30 := by simpa using h
  obtain ⟨v48, l, rfl⟩ : ∃ v r, l = v :: r := (by cases l with | nil => simp at h | cons v r => exact ⟨v, r, rfl⟩)
  replace h : l.length = 29 := by simpa using h
  obtain ⟨v49, l, rfl⟩ : ∃ v r, l = v :: r := (by cases l with | nil => simp at h | cons v r => exact ⟨v, r, rfl⟩)
  replace h : l.length = 28 := by simpa using h
  obtain ⟨v50, l, rfl⟩ : ∃ v r, l = v :: r := (by cases l with | nil => simp at h | cons v r => exact ⟨v, r, rfl⟩)
  replace h : l.length = 27 := by simpa using h
  obtain ⟨v51, l, rfl⟩ : ∃ v r, l = v :: r := (by cases l with | nil => simp at h | cons v r => exact ⟨v, r, rfl⟩)
  replace h : l.length = 26 := by simpa using h
  obtain ⟨v52, l, rfl⟩ : ∃ v r, l = v :: r := (by cases l with | nil => simp at h | cons v r => exact ⟨v, r, rfl⟩)
  replace h : l.length = 25 := by simpa using h
  obtain ⟨v53, l, rfl⟩ : ∃ v r, l = v :: r := (by cases l with | nil => simp at h | cons v r => exact ⟨v, r, rfl⟩)
  replace h : l.length = 24 := by simpa using h
  obtain ⟨v54, l, rfl⟩ : ∃ v r, l = v :: r := (by cases l with | nil => simp at h | cons v r => exact ⟨v, r, rfl⟩)
  replace h : l.length = 23 := by simpa using h
  obtain ⟨v55, l, rfl⟩ : ∃ v r, l = v :: r := (by cases l with | nil => simp at h | cons v r => exact ⟨v, r, rfl⟩)
  replace h : l.length = 22 := by simpa using h
  obtain ⟨v56, l, rfl⟩ : ∃ v r, l = v :: r := (by cases l with | nil => simp at h | cons v r => exact ⟨v, r, rfl⟩)
  replace h : l.length = 21 := by simpa using h
  obtain ⟨v57, l, rfl⟩ : ∃ v r, l = v :: r := (by cases l with | nil => simp at h | cons v r => exact ⟨v, r, rfl⟩)
  replace h : l.length = 20 := by simpa using h
  obtain ⟨v58, l, rfl⟩ : ∃ v r, l = v :: r := (by cases l with | nil => simp at h | cons v r => exact ⟨v, r, rfl⟩)
  replace h : l.length = 19 := by simpa using h
  obtain ⟨v59, l, rfl⟩ : ∃ v r, l = v :: r := (by cases l with | nil => simp at h | cons v r => exact ⟨v, r, rfl⟩)
  replace h : l.length = 18 := by simpa using h
  obtain ⟨v60, l, rfl⟩ : ∃ v r, l = v :: r := (by cases l with | nil => simp at h | cons v r => exact ⟨v, r, rfl⟩)
  replace h : l.length = 17 := by simpa using h
  obtain ⟨v61, l, rfl⟩ : ∃ v r, l = v :: r := (by cases l with | nil => simp at h | cons v r => exact ⟨v, r, rfl⟩)
  replace h : l.length = 16 := by simpa using h
  obtain ⟨v62, l, rfl⟩ : ∃ v r, l = v :: r := (by cases l with | nil => simp at h | cons v r => exact ⟨v, r, rfl⟩)
  replace h : l.length = 15 := by simpa using h
  obtain ⟨v63, l, rfl⟩ : ∃ v r, l = v :: r := (by cases l with | nil => simp at h | cons v r => exact ⟨v, r, rfl⟩)
  replace h : l.length = 14 := by simpa using h
  obtain ⟨v64, l, rfl⟩ : ∃ v r, l = v :: r := (by cases l with | nil => simp at h | cons v r => exact ⟨v, r, rfl⟩)
  replace h : l.length = 13 := by simpa using h
  obtain ⟨v65, l, rfl⟩ : ∃ v r, l = v :: r := (by cases l with | nil => simp at h | cons v r => exact ⟨v, r, rfl⟩)
  replace h : l.length = 12 := by simpa using h
  obtain ⟨v66, l, rfl⟩ : ∃ v r, l = v :: r := (by cases l with | nil => simp at h | cons v r => exact ⟨v, r, rfl⟩)
  replace h : l.length = 11 := by simpa using h
  obtain ⟨v67, l, rfl⟩ : ∃ v r, l = v :: r := (by cases l with | nil => simp at h | cons v r => exact ⟨v, r, rfl⟩)
  replace h : l.length = 10 := by simpa using h
  obtain ⟨v68, l, rfl⟩ : ∃ v r, l = v :: r := (by cases l with | nil => simp at h | cons v r => exact ⟨v, r, rfl⟩)
  replace h : l.length = 9 := by simpa using h
  obtain ⟨v69, l, rfl⟩ : ∃ v r, l = v :: r := (by cases l with | nil => simp at h | cons v r => exact ⟨v, r, rfl⟩)
  replace h : l.length = 8 := by simpa using h
  obtain ⟨v70, l, rfl⟩ : ∃ v r, l = v :: r := (by cases l with | nil => simp at h | cons v r => exact ⟨v, r, rfl⟩)
  replace h : l.length = 7 := by simpa using h
  obtain ⟨v71, l, rfl⟩ : ∃ v r, l = v :: r := (by cases l with | nil => simp at h | cons v r => exact ⟨v, r, rfl⟩)
  replace h : l.length = 6 := by simpa using h
  obtain ⟨v72, l, rfl⟩ : ∃ v r, l = v :: r := (by cases l with | nil => simp at h | cons v r => exact ⟨v, r, rfl⟩)
  replace h : l.length = 5 := by simpa using h
  obtain ⟨v73, l, rfl⟩ : ∃ v r, l = v :: r := (by cases l with | nil => simp at h | cons v r => exact ⟨v, r, rfl⟩)
  replace h : l.length = 4 := by simpa using h
  obtain ⟨v74, l, rfl⟩ : ∃ v r, l = v :: r := (by cases l with | nil => simp at h | cons v r => exact ⟨v, r, rfl⟩)
  replace h : l.length = 3 := by simpa using h
  obtain ⟨v75, l, rfl⟩ : ∃ v r, l = v :: r := (by cases l with | nil => simp at h | cons v r => exact ⟨v, r, rfl⟩)
  replace h : l.length = 2 := by simpa using h
  obtain ⟨v76, l, rfl⟩ : ∃ v r, l = v :: r := (by cases l with | nil => simp at h | cons v r => exact ⟨v, r, rfl⟩)
  replace h : l.length = 1 := by simpa using h
  obtain ⟨v77, l, rfl⟩ : ∃ v r, l = v :: r := (by cases l with | nil => simp at h | cons v r => exact ⟨v, r, rfl⟩)
  replace h : l.length = 0 := by simpa using h
  obtain rfl : l = [] := List.length_eq_zero_iff.1 h
  exact ⟨_, _, _, _, _, _, _, _, _, _, _, _, _, _, _, _, _, _, _, _, _, _, _, _, _, _, _, _, _, _, _, _, _, _, _, _, _, _, _, _, _, _, _, _, _, _, _, _, _, _, _, _, _, _, _, _, _, _, _, _, _, _, _, _, _, _, _, _, _, _, _, _, _, _, _, _, _, _, rfl⟩
noncomputable def endC5 : Code := match (Try.f5.body.getD .skip) with
  | .seq _ (.seq _ (.seq _ (.seq _ c))) => c
  | _ => .skip




theorem clockEnd {Post : Value → World → Prop} (n0 : Int) (w w1 : World) (T : Array Value) (hT : T.size = 78) (t0 : T[0]? = some (.int .u64 n0)) (hb : Below w.heap.size w w1) :
    CodeX Try.prog Post 5 endC5 (fun e a w' x => bodyPostC Try.prog Try.f5 (fun v w3 => v = .bool true ∧ Below w.heap.size w w3) e a w') ⟨T, []⟩ w1 ⟨blkS (fun _ => False), 1⟩ := by
  have T9 := termsP (blkS (fun _ => False))
  obtain ⟨v0, v1, v2, v3, v4, v5, v6, v7, v8, v9, v10, v11, v12, v13, v14, v15, v16, v17, v18, v19, v20, v21, v22, v23, v24, v25, v26, v27, v28, v29, v30, v31, v32, v33, v34, v35, v36, v37, v38, v39, v40, v41, v42, v43, v44, v45, v46, v47, v48, v49, v50, v51, v52, v53, v54, v55, v56, v57, v58, v59, v60, v61, v62, v63, v64, v65, v66, v67, v68, v69, v70, v71, v72, v73, v74, v75, v76, v77, rfl⟩ := arr78 T hT
  simp only [List.getElem?_toArray, List.getElem?_cons_succ, List.getElem?_cons_zero, Option.some.injEq] at t0
  subst t0
  clear hT
  have hF := atRel_refl w1
  rw [show endC5 = _ from (by unfold endC5; simp only [Try.f5, Option.getD_some]; try rfl)]
  (refine codeX_seq ?_)
  refine codeX_of ?_
  (repeat (first | (refine codeW_seq T9 ?_) | (refine codeW_region T9 ?_; simp only [List.size_toArray, List.length_cons, List.length_nil, Nat.reduceAdd, Nat.zero_add, List.range, List.range.loop]) | (refine opsW_nil T9 ?_; simp only [Exit.then, Exit.inBlock, Exit.thenX]) | (refine codeW_skip T9 ?_; simp only [Exit.then, Exit.inBlock, Exit.thenX]) | ((first | refine codeW_cond T9 (t := true) rfl ?_ | refine codeW_cond T9 (t := false) rfl ?_); simp only [if_true, if_false, Bool.false_eq_true, ↓reduceIte]) | (refine opsW_unwanted T9 rfl (by rfl) ?_; try walk_nrm) | (refine opsW_cons rfl (by rfl) ?_; intro _ hR K hK; replace hF := atRel_trans _ _ _ hF hR; clear hR; have hs9 := atRel_size hF; go_simp; refine hK _ _ ⟨?_, ?_⟩; (· rw [listed_nil (by simp [go_sem, *])]; exact dp0_nil); clear hK K hs9; try walk_nrm) | (refine codeW_block T9 ?_)))
  (refine codeX_seq ?_)
  refine codeX_region ?_
  simp only [List.size_toArray, List.length_cons, List.length_nil, Nat.reduceAdd, Nat.zero_add, List.range, List.range.loop]
  (repeat (first | (refine opsX_unwanted rfl (by rfl) ?_; try walk_nrm) | (refine opsX_cons rfl (by rfl) ?_; intro _ hR K hK; replace hF := atRel_trans _ _ _ hF hR; clear hR; have hs9 := atRel_size hF; go_simp; refine hK _ _ ⟨?_, ?_⟩; (· rw [listed_nil (by simp [go_sem, *])]; exact dp0_nil); clear hK K hs9; try walk_nrm)))
  co_apply opsX_callW rfl (by rfl) rfl
  · walk_nrm
    exact nextNil_W _
  rintro _ w' ⟨rfl, hF'⟩
  replace hF := atRel_trans _ _ _ hF hF'
  clear hF' 
  walk_nrm
  (repeat (first | (refine opsX_unwanted rfl (by rfl) ?_; try walk_nrm) | (refine opsX_cons rfl (by rfl) ?_; intro _ hR K hK; replace hF := atRel_trans _ _ _ hF hR; clear hR; have hs9 := atRel_size hF; go_simp; refine hK _ _ ⟨?_, ?_⟩; (· rw [listed_nil (by simp [go_sem, *])]; exact dp0_nil); clear hK K hs9; try walk_nrm)))
  co_apply opsX_callW rfl (by rfl) rfl
  · walk_nrm
    exact nowNil_W _
  rintro _ w' ⟨rfl, hF'⟩
  replace hF := atRel_trans _ _ _ hF hF'
  clear hF' 
  walk_nrm
  (repeat (first | (refine opsX_unwanted rfl (by rfl) ?_; try walk_nrm) | (refine opsX_cons rfl (by rfl) ?_; intro _ hR K hK; replace hF := atRel_trans _ _ _ hF hR; clear hR; have hs9 := atRel_size hF; go_simp; refine hK _ _ ⟨?_, ?_⟩; (· rw [listed_nil (by simp [go_sem, *])]; exact dp0_nil); clear hK K hs9; try walk_nrm)))
  co_apply opsX_callW rfl (by rfl) rfl
  · walk_nrm
    exact reachNil_W _ _
  rintro _ w' ⟨rfl, hF'⟩
  replace hF := atRel_trans _ _ _ hF hF'
  clear hF' 
  walk_nrm
  (repeat (first | (refine opsX_unwanted rfl (by rfl) ?_; try walk_nrm) | (refine opsX_cons rfl (by rfl) ?_; intro _ hR K hK; replace hF := atRel_trans _ _ _ hF hR; clear hR; have hs9 := atRel_size hF; go_simp; refine hK _ _ ⟨?_, ?_⟩; (· rw [listed_nil (by simp [go_sem, *])]; exact dp0_nil); clear hK K hs9; try walk_nrm)))
  obtain ⟨q, rfl⟩ := hF
  have hb2 : Below w.heap.size w (w1.at q) := ⟨hb.os, hb.tape, hb.output, hb.size, hb.block⟩
  refine opsX_call (Pos := fun v w' x' => v = .bool true ∧ Below w.heap.size w w') rfl (by rfl) rfl ?_ ?_
  · walk_nrm
    obtain ⟨fnn, cd, h1, h2, h3, h4⟩ := awakeX (Post := Post) (fun _ => False) 1 (w1.at q) (by omega) (fun b h => h.elim)
    refine ⟨fnn, cd, h1, h2, h3, codeX_mono h4 fun e a w3 x3 y => ?_⟩
    cases e <;> first | exact ⟨y.1, y.2.choose, y.2.choose_spec.1, y.2.choose_spec.2.1, hb2.trans ⟨y.2.choose_spec.2.2.os, y.2.choose_spec.2.2.tape, y.2.choose_spec.2.2.output, y.2.choose_spec.2.2.size, fun g hg => y.2.choose_spec.2.2.block g (Nat.lt_of_lt_of_le hg hb.size)⟩⟩ | exact y
  rintro _ w' x' ⟨rfl, hbf⟩
  have hF := atRel_refl w'
  clear T9
  have T9 := termsP x'.S
  walk_nrm
  (repeat (first | (refine opsX_unwanted rfl (by rfl) ?_; try walk_nrm) | (refine opsX_cons rfl (by rfl) ?_; intro _ hR K hK; replace hF := atRel_trans _ _ _ hF hR; clear hR; have hs9 := atRel_size hF; go_simp; refine hK _ _ ⟨?_, ?_⟩; (· rw [listed_nil (by simp [go_sem, *])]; exact dp0_nil); clear hK K hs9; try walk_nrm)))
  refine opsX_nil ?_
  simp only [Exit.thenX]
  refine codeX_of (codeW_ret T9 ?_)
  obtain ⟨q2, rfl⟩ := hF
  exact ⟨rfl, _, resultsC_tmp rfl _, rfl, ⟨hbf.os, hbf.tape, hbf.output, hbf.size, hbf.block⟩⟩
end Go.Proofs.Ytkcknoodcgmndaa
