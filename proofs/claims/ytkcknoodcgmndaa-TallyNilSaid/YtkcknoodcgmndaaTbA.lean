/- TallyBoard: words; the memory of the law. -/
import Derived.Test.YtkcknoodcgmndaaTcL
import Derived.Test.YtkcknoodcgmndaaTcF
import Derived.Test.YtkcknoodcgmndaaSgY
namespace Go.Proofs.Ytkcknoodcgmndaa
open Go.Conc Go.RowKit
set_option linter.unusedVariables false
set_option linter.unusedSimpArgs false
set_option maxRecDepth 100000
set_option maxHeartbeats 4000000
theorem cons9 {l : List Value} {n : Nat} (h : l.length = n + 1) : ∃ v r, l = v :: r ∧ r.length = n := by
  cases l with
  | nil => simp at h
  | cons v r => exact ⟨v, r, rfl, by simpa using h⟩
theorem arr101 (T : Array Value) (h : T.size = 101) : ∃ v0 v1 v2 v3 v4 v5 v6 v7 v8 v9 v10 v11 v12 v13 v14 v15 v16 v17 v18 v19 v20 v21 v22 v23 v24 v25 v26 v27 v28 v29 v30 v31 v32 v33 v34 v35 v36 v37 v38 v39 v40 v41 v42 v43 v44 v45 v46 v47 v48 v49 v50 v51 v52 v53 v54 v55 v56 v57 v58 v59 v60 v61 v62 v63 v64 v65 v66 v67 v68 v69 v70 v71 v72 v73 v74 v75 v76 v77 v78 v79 v80 v81 v82 v83 v84 v85 v86 v87 v88 v89 v90 v91 v92 v93 v94 v95 v96 v97 v98 v99 v100, T = List.toArray (v0 :: v1 :: v2 :: v3 :: v4 :: v5 :: v6 :: v7 :: v8 :: v9 :: v10 :: v11 :: v12 :: v13 :: v14 :: v15 :: v16 :: v17 :: v18 :: v19 :: v20 :: v21 :: v22 :: v23 :: v24 :: v25 :: v26 :: v27 :: v28 :: v29 :: v30 :: v31 :: v32 :: v33 :: v34 :: v35 :: v36 :: v37 :: v38 :: v39 :: v40 :: v41 :: v42 :: v43 :: v44 :: v45 :: v46 :: v47 :: v48 :: v49 :: v50 :: v51 :: v52 :: v53 :: v54 :: v55 :: v56 :: v57 :: v58 :: v59 :: v60 :: v61 :: v62 :: v63 :: v64 :: v65 :: v66 :: v67 :: v68 :: v69 :: v70 :: v71 :: v72 :: v73 :: v74 :: v75 :: v76 :: v77 :: v78 :: v79 :: v80 :: v81 :: v82 :: v83 :: v84 :: v85 :: v86 :: v87 :: v88 :: v89 :: v90 :: v91 :: v92 :: v93 :: v94 :: v95 :: v96 :: v97 :: v98 :: v99 :: v100 :: []) := by
  obtain ⟨l⟩ := T
  replace h : l.length = 101 := h
  have h0 := h
  clear h
  obtain ⟨v0, l, e, h1⟩ := cons9 h0
  subst e
  clear h0
  obtain ⟨v1, l, e, h2⟩ := cons9 h1
  subst e
  clear h1
  obtain ⟨v2, l, e, h3⟩ := cons9 h2
  subst e
  clear h2
  obtain ⟨v3, l, e, h4⟩ := cons9 h3
  subst e
  clear h3
  obtain ⟨v4, l, e, h5⟩ := cons9 h4
  subst e
  clear h4
  obtain ⟨v5, l, e, h6⟩ := cons9 h5
  subst e
  clear h5
  obtain ⟨v6, l, e, h7⟩ := cons9 h6
  subst e
  clear h6
  obtain ⟨v7, l, e, h8⟩ := cons9 h7
  subst e
  clear h7
  obtain ⟨v8, l, e, h9⟩ := cons9 h8
  subst e
  clear h8
  obtain ⟨v9, l, e, h10⟩ := cons9 h9
  subst e
  clear h9
  obtain ⟨v10, l, e, h11⟩ := cons9 h10
  subst e
  clear h10
  obtain ⟨v11, l, e, h12⟩ := cons9 h11
  subst e
  clear h11
  obtain ⟨v12, l, e, h13⟩ := cons9 h12
  subst e
  clear h12
  obtain ⟨v13, l, e, h14⟩ := cons9 h13
  subst e
  clear h13
  obtain ⟨v14, l, e, h15⟩ := cons9 h14
  subst e
  clear h14
  obtain ⟨v15, l, e, h16⟩ := cons9 h15
  subst e
  clear h15
  obtain ⟨v16, l, e, h17⟩ := cons9 h16
  subst e
  clear h16
  obtain ⟨v17, l, e, h18⟩ := cons9 h17
  subst e
  clear h17
  obtain ⟨v18, l, e, h19⟩ := cons9 h18
  subst e
  clear h18
  obtain ⟨v19, l, e, h20⟩ := cons9 h19
  subst e
  clear h19
  obtain ⟨v20, l, e, h21⟩ := cons9 h20
  subst e
  clear h20
  obtain ⟨v21, l, e, h22⟩ := cons9 h21
  subst e
  clear h21
  obtain ⟨v22, l, e, h23⟩ := cons9 h22
  subst e
  clear h22
  obtain ⟨v23, l, e, h24⟩ := cons9 h23
  subst e
  clear h23
  obtain ⟨v24, l, e, h25⟩ := cons9 h24
  subst e
  clear h24
  obtain ⟨v25, l, e, h26⟩ := cons9 h25
  subst e
  clear h25
  obtain ⟨v26, l, e, h27⟩ := cons9 h26
  subst e
  clear h26
  obtain ⟨v27, l, e, h28⟩ := cons9 h27
  subst e
  clear h27
  obtain ⟨v28, l, e, h29⟩ := cons9 h28
  subst e
  clear h28
  obtain ⟨v29, l, e, h30⟩ := cons9 h29
  subst e
  clear h29
  obtain ⟨v30, l, e, h31⟩ := cons9 h30
  subst e
  clear h30
  obtain ⟨v31, l, e, h32⟩ := cons9 h31
  subst e
  clear h31
  obtain ⟨v32, l, e, h33⟩ := cons9 h32
  subst e
  clear h32
  obtain ⟨v33, l, e, h34⟩ := cons9 h33
  subst e
  clear h33
  obtain ⟨v34, l, e, h35⟩ := cons9 h34
  subst e
  clear h34
  obtain ⟨v35, l, e, h36⟩ := cons9 h35
  subst e
  clear h35
  obtain ⟨v36, l, e, h37⟩ := cons9 h36
  subst e
  clear h36
  obtain ⟨v37, l, e, h38⟩ := cons9 h37
  subst e
  clear h37
  obtain ⟨v38, l, e, h39⟩ := cons9 h38
  subst e
  clear h38
  obtain ⟨v39, l, e, h40⟩ := cons9 h39
  subst e
  clear h39
  obtain ⟨v40, l, e, h41⟩ := cons9 h40
  subst e
  clear h40
  obtain ⟨v41, l, e, h42⟩ := cons9 h41
  subst e
  clear h41
  obtain ⟨v42, l, e, h43⟩ := cons9 h42
  subst e
  clear h42
  obtain ⟨v43, l, e, h44⟩ := cons9 h43
  subst e
  clear h43
  obtain ⟨v44, l, e, h45⟩ := cons9 h44
  subst e
  clear h44
  obtain ⟨v45, l, e, h46⟩ := cons9 h45
  subst e
  clear h45
  obtain ⟨v46, l, e, h47⟩ := cons9 h46
  subst e
  clear h46
  obtain ⟨v47, l, e, h48⟩ := cons9 h47
  subst e
  clear h47
  obtain ⟨v48, l, e, h49⟩ := cons9 h48
  subst e
  clear h48
  obtain ⟨v49, l, e, h50⟩ := cons9 h49
  subst e
  clear h49
  obtain ⟨v50, l, e, h51⟩ := cons9 h50
  subst e
  clear h50
  obtain ⟨v51, l, e, h52⟩ := cons9 h51
  subst e
  clear h51
  obtain ⟨v52, l, e, h53⟩ := cons9 h52
  subst e
  clear h52
  obtain ⟨v53, l, e, h54⟩ := cons9 h53
  subst e
  clear h53
  obtain ⟨v54, l, e, h55⟩ := cons9 h54
  subst e
  clear h54
  obtain ⟨v55, l, e, h56⟩ := cons9 h55
  subst e
  clear h55
  obtain ⟨v56, l, e, h57⟩ := cons9 h56
  subst e
  clear h56
  obtain ⟨v57, l, e, h58⟩ := cons9 h57
  subst e
  clear h57
  obtain ⟨v58, l, e, h59⟩ := cons9 h58
  subst e
  clear h58
  obtain ⟨v59, l, e, h60⟩ := cons9 h59
  subst e
  clear h59
  obtain ⟨v60, l, e, h61⟩ := cons9 h60
  subst e
  clear h60
  obtain ⟨v61, l, e, h62⟩ := cons9 h61
  subst e
  clear h61
  obtain ⟨v62, l, e, h63⟩ := cons9 h62
  subst e
  clear h62
  obtain ⟨v63, l, e, h64⟩ := cons9 h63
  subst e
  clear h63
  obtain ⟨v64, l, e, h65⟩ := cons9 h64
  subst e
  clear h64
  obtain ⟨v65, l, e, h66⟩ := cons9 h65
  subst e
  clear h65
  obtain ⟨v66, l, e, h67⟩ := cons9 h66
  subst e
  clear h66
  obtain ⟨v67, l, e, h68⟩ := cons9 h67
  subst e
  clear h67
  obtain ⟨v68, l, e, h69⟩ := cons9 h68
  subst e
  clear h68
  obtain ⟨v69, l, e, h70⟩ := cons9 h69
  subst e
  clear h69
  obtain ⟨v70, l, e, h71⟩ := cons9 h70
  subst e
  clear h70
  obtain ⟨v71, l, e, h72⟩ := cons9 h71
  subst e
  clear h71
  obtain ⟨v72, l, e, h73⟩ := cons9 h72
  subst e
  clear h72
  obtain ⟨v73, l, e, h74⟩ := cons9 h73
  subst e
  clear h73
  obtain ⟨v74, l, e, h75⟩ := cons9 h74
  subst e
  clear h74
  obtain ⟨v75, l, e, h76⟩ := cons9 h75
  subst e
  clear h75
  obtain ⟨v76, l, e, h77⟩ := cons9 h76
  subst e
  clear h76
  obtain ⟨v77, l, e, h78⟩ := cons9 h77
  subst e
  clear h77
  obtain ⟨v78, l, e, h79⟩ := cons9 h78
  subst e
  clear h78
  obtain ⟨v79, l, e, h80⟩ := cons9 h79
  subst e
  clear h79
  obtain ⟨v80, l, e, h81⟩ := cons9 h80
  subst e
  clear h80
  obtain ⟨v81, l, e, h82⟩ := cons9 h81
  subst e
  clear h81
  obtain ⟨v82, l, e, h83⟩ := cons9 h82
  subst e
  clear h82
  obtain ⟨v83, l, e, h84⟩ := cons9 h83
  subst e
  clear h83
  obtain ⟨v84, l, e, h85⟩ := cons9 h84
  subst e
  clear h84
  obtain ⟨v85, l, e, h86⟩ := cons9 h85
  subst e
  clear h85
  obtain ⟨v86, l, e, h87⟩ := cons9 h86
  subst e
  clear h86
  obtain ⟨v87, l, e, h88⟩ := cons9 h87
  subst e
  clear h87
  obtain ⟨v88, l, e, h89⟩ := cons9 h88
  subst e
  clear h88
  obtain ⟨v89, l, e, h90⟩ := cons9 h89
  subst e
  clear h89
  obtain ⟨v90, l, e, h91⟩ := cons9 h90
  subst e
  clear h90
  obtain ⟨v91, l, e, h92⟩ := cons9 h91
  subst e
  clear h91
  obtain ⟨v92, l, e, h93⟩ := cons9 h92
  subst e
  clear h92
  obtain ⟨v93, l, e, h94⟩ := cons9 h93
  subst e
  clear h93
  obtain ⟨v94, l, e, h95⟩ := cons9 h94
  subst e
  clear h94
  obtain ⟨v95, l, e, h96⟩ := cons9 h95
  subst e
  clear h95
  obtain ⟨v96, l, e, h97⟩ := cons9 h96
  subst e
  clear h96
  obtain ⟨v97, l, e, h98⟩ := cons9 h97
  subst e
  clear h97
  obtain ⟨v98, l, e, h99⟩ := cons9 h98
  subst e
  clear h98
  obtain ⟨v99, l, e, h100⟩ := cons9 h99
  subst e
  clear h99
  obtain ⟨v100, l, e, h101⟩ := cons9 h100
  subst e
  clear h100
  obtain rfl : l = [] := List.length_eq_zero_iff.1 h101
  exact ⟨_, _, _, _, _, _, _, _, _, _, _, _, _, _, _, _, _, _, _, _, _, _, _, _, _, _, _, _, _, _, _, _, _, _, _, _, _, _, _, _, _, _, _, _, _, _, _, _, _, _, _, _, _, _, _, _, _, _, _, _, _, _, _, _, _, _, _, _, _, _, _, _, _, _, _, _, _, _, _, _, _, _, _, _, _, _, _, _, _, _, _, _, _, _, _, _, _, _, _, _, _, rfl⟩
structure BdAt (w : World) (f h : Nat → Int) (W : World) : Prop where
  bel : Below w.heap.size w W
  size : w.heap.size + 2 ≤ W.heap.size
  b : ∀ j, j < 16 → W.cell? ⟨w.heap.size, j, none⟩ = some (.int .i64 (f j))
  bz : ∀ j, j < 16 → W.frozen? ⟨w.heap.size, j, none⟩ = false
  n : ∀ j, j < 16 → W.cell? ⟨w.heap.size + 1, j, none⟩ = some (.int .i64 (h j))
  nz : ∀ j, j < 16 → W.frozen? ⟨w.heap.size + 1, j, none⟩ = false
section
variable {w W W' : World} {f h : Nat → Int}
theorem BdAt.at (x : BdAt w f h W) (r : AtRel W W') : BdAt w f h W' := by
  obtain ⟨q, rfl⟩ := r
  exact ⟨⟨x.bel.os, x.bel.tape, x.bel.output, x.bel.size, x.bel.block⟩, x.size, x.b, x.bz, x.n, x.nz⟩
theorem below_alloc {n : Nat} (x : Below n w W) (hn : n ≤ W.heap.size) (o : Obj) : Below n w (W.alloc o) :=
  ⟨x.os, x.tape, x.output, by have := x.size; simp; omega, fun g hg => (Below.heap_alloc _ _ _ (by omega)).trans (x.block g hg)⟩
theorem below_set {n : Nat} (x : Below n w W) (a : Addr) (hn : n ≤ a.block) (v : Value) : Below n w (W.setCell a v) := by
  have y := aside_setCell W a v
  exact ⟨y.os.trans x.os, y.tape.trans x.tape, y.output.trans x.output, by rw [y.size]; exact x.size, fun g hg => (y.block g (by omega)).trans (x.block g hg)⟩
theorem cell_alloc9 (o : Obj) {a : Addr} {v : Value} (hc : W.cell? a = some v) : (W.alloc o).cell? a = some v := by
  have e : (W.alloc o).heap[a.block]? = W.heap[a.block]? := Below.heap_alloc _ _ _ (World.block_lt_of_cell? W _ hc)
  rw [← hc]
  unfold World.cell?
  rw [e]
theorem cell_set9 {a b : Addr} (v : Value) (hn : a.block ≠ b.block) : (W.setCell b v).cell? a = W.cell? a :=
  World.cell?_setCell_other _ _ _ _ (fun e => hn (by rw [e]))
theorem frozen_alloc9 (o : Obj) {a : Addr} (hc : a.block < W.heap.size) : (W.alloc o).frozen? a = W.frozen? a := by
  have e : (W.alloc o).heap[a.block]? = W.heap[a.block]? := Below.heap_alloc _ _ _ hc
  unfold World.frozen?
  rw [e]
theorem BdAt.box (x : BdAt w f h W) (o : Obj) : BdAt w f h (W.alloc o) :=
  ⟨below_alloc x.bel (by have := x.size; omega) o, by have := x.size; simp; omega, fun j hj => cell_alloc9 o (x.b j hj), fun j hj => (frozen_alloc9 o (by have := x.size; show w.heap.size < _; omega)).trans (x.bz j hj),
    fun j hj => cell_alloc9 o (x.n j hj), fun j hj => (frozen_alloc9 o (by have := x.size; show w.heap.size + 1 < _; omega)).trans (x.nz j hj)⟩
theorem BdAt.setBox (x : BdAt w f h W) (a : Addr) (ha : w.heap.size + 2 ≤ a.block) (v : Value) : BdAt w f h (W.setCell a v) :=
  ⟨below_set x.bel a (by omega) v, by rw [(aside_setCell W a v).size]; exact x.size, fun j hj => (cell_set9 v (by show w.heap.size ≠ _; omega)).trans (x.b j hj), fun j hj => (World.frozen?_setCell _ _ _ _).trans (x.bz j hj),
    fun j hj => (cell_set9 v (by show w.heap.size + 1 ≠ _; omega)).trans (x.n j hj), fun j hj => (World.frozen?_setCell _ _ _ _).trans (x.nz j hj)⟩
def fset (f : Nat → Int) (i : Nat) (v : Int) : Nat → Int := fun j => if j = i then v else f j
theorem cell_setq (g i j : Nat) (v : Value) {u : Value} (hc : W.cell? ⟨g, j, none⟩ = some u) : (W.setCell ⟨g, i, none⟩ v).cell? ⟨g, j, none⟩ = if j = i then some v else some u := by
  by_cases e : j = i
  · subst e; rw [if_pos rfl]; exact World.cell?_setCell_same _ _ _ hc
  · rw [if_neg e]; exact (World.cell?_setCell_other _ _ _ _ (by intro h; injection h with h1 h2; exact e h2.symm)).trans hc
theorem BdAt.setB (x : BdAt w f h W) (i : Nat) (v : Int) : BdAt w (fset f i v) h (W.setCell ⟨w.heap.size, i, none⟩ (.int .i64 v)) :=
  ⟨below_set x.bel _ (by show w.heap.size ≤ w.heap.size; omega) _, by rw [(aside_setCell W _ _).size]; exact x.size,
    fun j hj => by rw [cell_setq _ i j _ (x.b j hj)]; unfold fset; split <;> rfl, fun j hj => (World.frozen?_setCell _ _ _ _).trans (x.bz j hj),
    fun j hj => (cell_set9 _ (by show w.heap.size + 1 ≠ w.heap.size; omega)).trans (x.n j hj), fun j hj => (World.frozen?_setCell _ _ _ _).trans (x.nz j hj)⟩
theorem BdAt.setN (x : BdAt w f h W) (i : Nat) (v : Int) : BdAt w f (fset h i v) (W.setCell ⟨w.heap.size + 1, i, none⟩ (.int .i64 v)) :=
  ⟨below_set x.bel _ (by show w.heap.size ≤ w.heap.size + 1; omega) _, by rw [(aside_setCell W _ _).size]; exact x.size,
    fun j hj => (cell_set9 _ (by show w.heap.size ≠ w.heap.size + 1; omega)).trans (x.b j hj), fun j hj => (World.frozen?_setCell _ _ _ _).trans (x.bz j hj),
    fun j hj => by rw [cell_setq _ i j _ (x.n j hj)]; unfold fset; split <;> rfl, fun j hj => (World.frozen?_setCell _ _ _ _).trans (x.nz j hj)⟩
end
theorem BdAt.new (w : World) (t u : TypeId) : BdAt w (fun _ => 0) (fun _ => 0) ((w.alloc (.cells (boardC 0 0) t)).alloc (.cells (boardC 0 0) u)) := by
  have k1 : ∀ j, j < 16 → (boardC 0 0)[j]? = some (.int .i64 0) := by
    intro j hj
    match j, hj with
    | 0, _ => rfl
    | 1, _ => rfl
    | 2, _ => rfl
    | 3, _ => rfl
    | 4, _ => rfl
    | 5, _ => rfl
    | 6, _ => rfl
    | 7, _ => rfl
    | 8, _ => rfl
    | 9, _ => rfl
    | 10, _ => rfl
    | 11, _ => rfl
    | 12, _ => rfl
    | 13, _ => rfl
    | 14, _ => rfl
    | 15, _ => rfl
    | n + 16, h => omega
  have h0 : (w.alloc (.cells (boardC 0 0) t)).heap[w.heap.size]? = some (.cells (boardC 0 0) t) := alloc_new w _
  have h1 : ((w.alloc (.cells (boardC 0 0) t)).alloc (.cells (boardC 0 0) u)).heap[w.heap.size]? = some (.cells (boardC 0 0) t) := (Below.heap_alloc _ _ _ (by simp)).trans h0
  have h2 : ((w.alloc (.cells (boardC 0 0) t)).alloc (.cells (boardC 0 0) u)).heap[w.heap.size + 1]? = some (.cells (boardC 0 0) u) := by
    have := alloc_new (w.alloc (.cells (boardC 0 0) t)) (.cells (boardC 0 0) u)
    simpa using this
  refine ⟨⟨rfl, rfl, rfl, by simp; omega, fun g hg => (Below.heap_alloc _ _ _ (by simp; omega)).trans (Below.heap_alloc _ _ _ hg)⟩, by simp, fun j hj => ?_, fun j hj => ?_, fun j hj => ?_, fun j hj => ?_⟩
  · simp only [World.cell?, h1]; exact k1 j hj
  · simp only [World.frozen?, h1]; simp
  · simp only [World.cell?, h2]; exact k1 j hj
  · simp only [World.frozen?, h2]; simp
structure PlIn (w : World) (lA : Option Addr) (len : Nat) (k n : Nat → Int) (sb so : Nat) : Prop where
  lt : 0 < len → sb < w.heap.size
  at_ : 0 < len → lA = some ⟨sb, so, none⟩
  k : ∀ j, j < len → w.cell? ⟨sb, so + j * 2, none⟩ = some (.int .i64 (k j))
  n : ∀ j, j < len → w.cell? ⟨sb, so + j * 2 + 1, none⟩ = some (.int .i64 (n j))
end Go.Proofs.Ytkcknoodcgmndaa
