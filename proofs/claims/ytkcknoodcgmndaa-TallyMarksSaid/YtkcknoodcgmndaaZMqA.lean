/- TallyMarks: the memory of the law; a mark's copy; is it in range. -/
import Derived.Test.YtkcknoodcgmndaaZMqC
namespace Go.Proofs.Ytkcknoodcgmndaa
open Go.Conc Go.RowKit
set_option linter.unusedVariables false
set_option linter.unusedSimpArgs false
set_option maxRecDepth 100000
set_option maxHeartbeats 8000000














theorem arr128E {C : Array Value → Prop} {T : Array Value} (h : T.size = 128) (H : ∀ v0 v1 v2 v3 v4 v5 v6 v7 v8 v9 v10 v11 v12 v13 v14 v15 v16 v17 v18 v19 v20 v21 v22 v23 v24 v25 v26 v27 v28 v29 v30 v31 v32 v33 v34 v35 v36 v37 v38 v39 v40 v41 v42 v43 v44 v45 v46 v47 v48 v49 v50 v51 v52 v53 v54 v55 v56 v57 v58 v59 v60 v61 v62 v63 v64 v65 v66 v67 v68 v69 v70 v71 v72 v73 v74 v75 v76 v77 v78 v79 v80 v81 v82 v83 v84 v85 v86 v87 v88 v89 v90 v91 v92 v93 v94 v95 v96 v97 v98 v99 v100 v101 v102 v103 v104 v105 v106 v107 v108 v109 v110 v111 v112 v113 v114 v115 v116 v117 v118 v119 v120 v121 v122 v123 v124 v125 v126 v127 : Value, C (List.toArray (v0 :: v1 :: v2 :: v3 :: v4 :: v5 :: v6 :: v7 :: v8 :: v9 :: v10 :: v11 :: v12 :: v13 :: v14 :: v15 :: v16 :: v17 :: v18 :: v19 :: v20 :: v21 :: v22 :: v23 :: v24 :: v25 :: v26 :: v27 :: v28 :: v29 :: v30 :: v31 :: v32 :: v33 :: v34 :: v35 :: v36 :: v37 :: v38 :: v39 :: v40 :: v41 :: v42 :: v43 :: v44 :: v45 :: v46 :: v47 :: v48 :: v49 :: v50 :: v51 :: v52 :: v53 :: v54 :: v55 :: v56 :: v57 :: v58 :: v59 :: v60 :: v61 :: v62 :: v63 :: v64 :: v65 :: v66 :: v67 :: v68 :: v69 :: v70 :: v71 :: v72 :: v73 :: v74 :: v75 :: v76 :: v77 :: v78 :: v79 :: v80 :: v81 :: v82 :: v83 :: v84 :: v85 :: v86 :: v87 :: v88 :: v89 :: v90 :: v91 :: v92 :: v93 :: v94 :: v95 :: v96 :: v97 :: v98 :: v99 :: v100 :: v101 :: v102 :: v103 :: v104 :: v105 :: v106 :: v107 :: v108 :: v109 :: v110 :: v111 :: v112 :: v113 :: v114 :: v115 :: v116 :: v117 :: v118 :: v119 :: v120 :: v121 :: v122 :: v123 :: v124 :: v125 :: v126 :: v127 :: []))) : C T := by
  obtain ⟨l⟩ := T
  replace h : l.length = 128 := h
  have h0 := h
  clear h
  obtain ⟨v0, l, e, h1⟩ := cons9 h0
  subst e
  clear h0
  obtain ⟨v1, l, e, h2⟩ := cons9 h1
  subst e
  clear h1
  obtain ⟨v2, l, e, h3⟩ := cons9 h2
  subst e
  clear h2
  obtain ⟨v3, l, e, h4⟩ := cons9 h3
  subst e
  clear h3
  obtain ⟨v4, l, e, h5⟩ := cons9 h4
  subst e
  clear h4
  obtain ⟨v5, l, e, h6⟩ := cons9 h5
  subst e
  clear h5
  obtain ⟨v6, l, e, h7⟩ := cons9 h6
  subst e
  clear h6
  obtain ⟨v7, l, e, h8⟩ := cons9 h7
  subst e
  clear h7
  obtain ⟨v8, l, e, h9⟩ := cons9 h8
  subst e
  clear h8
  obtain ⟨v9, l, e, h10⟩ := cons9 h9
  subst e
  clear h9
  obtain ⟨v10, l, e, h11⟩ := cons9 h10
  subst e
  clear h10
  obtain ⟨v11, l, e, h12⟩ := cons9 h11
  subst e
  clear h11
  obtain ⟨v12, l, e, h13⟩ := cons9 h12
  subst e
  clear h12
  obtain ⟨v13, l, e, h14⟩ := cons9 h13
  subst e
  clear h13
  obtain ⟨v14, l, e, h15⟩ := cons9 h14
  subst e
  clear h14
  obtain ⟨v15, l, e, h16⟩ := cons9 h15
  subst e
  clear h15
  obtain ⟨v16, l, e, h17⟩ := cons9 h16
  subst e
  clear h16
  obtain ⟨v17, l, e, h18⟩ := cons9 h17
  subst e
  clear h17
  obtain ⟨v18, l, e, h19⟩ := cons9 h18
  subst e
  clear h18
  obtain ⟨v19, l, e, h20⟩ := cons9 h19
  subst e
  clear h19
  obtain ⟨v20, l, e, h21⟩ := cons9 h20
  subst e
  clear h20
  obtain ⟨v21, l, e, h22⟩ := cons9 h21
  subst e
  clear h21
  obtain ⟨v22, l, e, h23⟩ := cons9 h22
  subst e
  clear h22
  obtain ⟨v23, l, e, h24⟩ := cons9 h23
  subst e
  clear h23
  obtain ⟨v24, l, e, h25⟩ := cons9 h24
  subst e
  clear h24
  obtain ⟨v25, l, e, h26⟩ := cons9 h25
  subst e
  clear h25
  obtain ⟨v26, l, e, h27⟩ := cons9 h26
  subst e
  clear h26
  obtain ⟨v27, l, e, h28⟩ := cons9 h27
  subst e
  clear h27
  obtain ⟨v28, l, e, h29⟩ := cons9 h28
  subst e
  clear h28
  obtain ⟨v29, l, e, h30⟩ := cons9 h29
  subst e
  clear h29
  obtain ⟨v30, l, e, h31⟩ := cons9 h30
  subst e
  clear h30
  obtain ⟨v31, l, e, h32⟩ := cons9 h31
  subst e
  clear h31
  obtain ⟨v32, l, e, h33⟩ := cons9 h32
  subst e
  clear h32
  obtain ⟨v33, l, e, h34⟩ := cons9 h33
  subst e
  clear h33
  obtain ⟨v34, l, e, h35⟩ := cons9 h34
  subst e
  clear h34
  obtain ⟨v35, l, e, h36⟩ := cons9 h35
  subst e
  clear h35
  obtain ⟨v36, l, e, h37⟩ := cons9 h36
  subst e
  clear h36
  obtain ⟨v37, l, e, h38⟩ := cons9 h37
  subst e
  clear h37
  obtain ⟨v38, l, e, h39⟩ := cons9 h38
  subst e
  clear h38
  obtain ⟨v39, l, e, h40⟩ := cons9 h39
  subst e
  clear h39
  obtain ⟨v40, l, e, h41⟩ := cons9 h40
  subst e
  clear h40
  obtain ⟨v41, l, e, h42⟩ := cons9 h41
  subst e
  clear h41
  obtain ⟨v42, l, e, h43⟩ := cons9 h42
  subst e
  clear h42
  obtain ⟨v43, l, e, h44⟩ := cons9 h43
  subst e
  clear h43
  obtain ⟨v44, l, e, h45⟩ := cons9 h44
  subst e
  clear h44
  obtain ⟨v45, l, e, h46⟩ := cons9 h45
  subst e
  clear h45
  obtain ⟨v46, l, e, h47⟩ := cons9 h46
  subst e
  clear h46
  obtain ⟨v47, l, e, h48⟩ := cons9 h47
  subst e
  clear h47
  obtain ⟨v48, l, e, h49⟩ := cons9 h48
  subst e
  clear h48
  obtain ⟨v49, l, e, h50⟩ := cons9 h49
  subst e
  clear h49
  obtain ⟨v50, l, e, h51⟩ := cons9 h50
  subst e
  clear h50
  obtain ⟨v51, l, e, h52⟩ := cons9 h51
  subst e
  clear h51
  obtain ⟨v52, l, e, h53⟩ := cons9 h52
  subst e
  clear h52
  obtain ⟨v53, l, e, h54⟩ := cons9 h53
  subst e
  clear h53
  obtain ⟨v54, l, e, h55⟩ := cons9 h54
  subst e
  clear h54
  obtain ⟨v55, l, e, h56⟩ := cons9 h55
  subst e
  clear h55
  obtain ⟨v56, l, e, h57⟩ := cons9 h56
  subst e
  clear h56
  obtain ⟨v57, l, e, h58⟩ := cons9 h57
  subst e
  clear h57
  obtain ⟨v58, l, e, h59⟩ := cons9 h58
  subst e
  clear h58
  obtain ⟨v59, l, e, h60⟩ := cons9 h59
  subst e
  clear h59
  obtain ⟨v60, l, e, h61⟩ := cons9 h60
  subst e
  clear h60
  obtain ⟨v61, l, e, h62⟩ := cons9 h61
  subst e
  clear h61
  obtain ⟨v62, l, e, h63⟩ := cons9 h62
  subst e
  clear h62
  obtain ⟨v63, l, e, h64⟩ := cons9 h63
  subst e
  clear h63
  obtain ⟨v64, l, e, h65⟩ := cons9 h64
  subst e
  clear h64
  obtain ⟨v65, l, e, h66⟩ := cons9 h65
  subst e
  clear h65
  obtain ⟨v66, l, e, h67⟩ := cons9 h66
  subst e
  clear h66
  obtain ⟨v67, l, e, h68⟩ := cons9 h67
  subst e
  clear h67
  obtain ⟨v68, l, e, h69⟩ := cons9 h68
  subst e
  clear h68
  obtain ⟨v69, l, e, h70⟩ := cons9 h69
  subst e
  clear h69
  obtain ⟨v70, l, e, h71⟩ := cons9 h70
  subst e
  clear h70
  obtain ⟨v71, l, e, h72⟩ := cons9 h71
  subst e
  clear h71
  obtain ⟨v72, l, e, h73⟩ := cons9 h72
  subst e
  clear h72
  obtain ⟨v73, l, e, h74⟩ := cons9 h73
  subst e
  clear h73
  obtain ⟨v74, l, e, h75⟩ := cons9 h74
  subst e
  clear h74
  obtain ⟨v75, l, e, h76⟩ := cons9 h75
  subst e
  clear h75
  obtain ⟨v76, l, e, h77⟩ := cons9 h76
  subst e
  clear h76
  obtain ⟨v77, l, e, h78⟩ := cons9 h77
  subst e
  clear h77
  obtain ⟨v78, l, e, h79⟩ := cons9 h78
  subst e
  clear h78
  obtain ⟨v79, l, e, h80⟩ := cons9 h79
  subst e
  clear h79
  obtain ⟨v80, l, e, h81⟩ := cons9 h80
  subst e
  clear h80
  obtain ⟨v81, l, e, h82⟩ := cons9 h81
  subst e
  clear h81
  obtain ⟨v82, l, e, h83⟩ := cons9 h82
  subst e
  clear h82
  obtain ⟨v83, l, e, h84⟩ := cons9 h83
  subst e
  clear h83
  obtain ⟨v84, l, e, h85⟩ := cons9 h84
  subst e
  clear h84
  obtain ⟨v85, l, e, h86⟩ := cons9 h85
  subst e
  clear h85
  obtain ⟨v86, l, e, h87⟩ := cons9 h86
  subst e
  clear h86
  obtain ⟨v87, l, e, h88⟩ := cons9 h87
  subst e
  clear h87
  obtain ⟨v88, l, e, h89⟩ := cons9 h88
  subst e
  clear h88
  obtain ⟨v89, l, e, h90⟩ := cons9 h89
  subst e
  clear h89
  obtain ⟨v90, l, e, h91⟩ := cons9 h90
  subst e
  clear h90
  obtain ⟨v91, l, e, h92⟩ := cons9 h91
  subst e
  clear h91
  obtain ⟨v92, l, e, h93⟩ := cons9 h92
  subst e
  clear h92
  obtain ⟨v93, l, e, h94⟩ := cons9 h93
  subst e
  clear h93
  obtain ⟨v94, l, e, h95⟩ := cons9 h94
  subst e
  clear h94
  obtain ⟨v95, l, e, h96⟩ := cons9 h95
  subst e
  clear h95
  obtain ⟨v96, l, e, h97⟩ := cons9 h96
  subst e
  clear h96
  obtain ⟨v97, l, e, h98⟩ := cons9 h97
  subst e
  clear h97
  obtain ⟨v98, l, e, h99⟩ := cons9 h98
  subst e
  clear h98
  obtain ⟨v99, l, e, h100⟩ := cons9 h99
  subst e
  clear h99
  obtain ⟨v100, l, e, h101⟩ := cons9 h100
  subst e
  clear h100
  obtain ⟨v101, l, e, h102⟩ := cons9 h101
  subst e
  clear h101
  obtain ⟨v102, l, e, h103⟩ := cons9 h102
  subst e
  clear h102
  obtain ⟨v103, l, e, h104⟩ := cons9 h103
  subst e
  clear h103
  obtain ⟨v104, l, e, h105⟩ := cons9 h104
  subst e
  clear h104
  obtain ⟨v105, l, e, h106⟩ := cons9 h105
  subst e
  clear h105
  obtain ⟨v106, l, e, h107⟩ := cons9 h106
  subst e
  clear h106
  obtain ⟨v107, l, e, h108⟩ := cons9 h107
  subst e
  clear h107
  obtain ⟨v108, l, e, h109⟩ := cons9 h108
  subst e
  clear h108
  obtain ⟨v109, l, e, h110⟩ := cons9 h109
  subst e
  clear h109
  obtain ⟨v110, l, e, h111⟩ := cons9 h110
  subst e
  clear h110
  obtain ⟨v111, l, e, h112⟩ := cons9 h111
  subst e
  clear h111
  obtain ⟨v112, l, e, h113⟩ := cons9 h112
  subst e
  clear h112
  obtain ⟨v113, l, e, h114⟩ := cons9 h113
  subst e
  clear h113
  obtain ⟨v114, l, e, h115⟩ := cons9 h114
  subst e
  clear h114
  obtain ⟨v115, l, e, h116⟩ := cons9 h115
  subst e
  clear h115
  obtain ⟨v116, l, e, h117⟩ := cons9 h116
  subst e
  clear h116
  obtain ⟨v117, l, e, h118⟩ := cons9 h117
  subst e
  clear h117
  obtain ⟨v118, l, e, h119⟩ := cons9 h118
  subst e
  clear h118
  obtain ⟨v119, l, e, h120⟩ := cons9 h119
  subst e
  clear h119
  obtain ⟨v120, l, e, h121⟩ := cons9 h120
  subst e
  clear h120
  obtain ⟨v121, l, e, h122⟩ := cons9 h121
  subst e
  clear h121
  obtain ⟨v122, l, e, h123⟩ := cons9 h122
  subst e
  clear h122
  obtain ⟨v123, l, e, h124⟩ := cons9 h123
  subst e
  clear h123
  obtain ⟨v124, l, e, h125⟩ := cons9 h124
  subst e
  clear h124
  obtain ⟨v125, l, e, h126⟩ := cons9 h125
  subst e
  clear h125
  obtain ⟨v126, l, e, h127⟩ := cons9 h126
  subst e
  clear h126
  obtain ⟨v127, l, e, h128⟩ := cons9 h127
  subst e
  clear h127
  obtain rfl : l = [] := List.length_eq_zero_iff.1 h128
  exact H v0 v1 v2 v3 v4 v5 v6 v7 v8 v9 v10 v11 v12 v13 v14 v15 v16 v17 v18 v19 v20 v21 v22 v23 v24 v25 v26 v27 v28 v29 v30 v31 v32 v33 v34 v35 v36 v37 v38 v39 v40 v41 v42 v43 v44 v45 v46 v47 v48 v49 v50 v51 v52 v53 v54 v55 v56 v57 v58 v59 v60 v61 v62 v63 v64 v65 v66 v67 v68 v69 v70 v71 v72 v73 v74 v75 v76 v77 v78 v79 v80 v81 v82 v83 v84 v85 v86 v87 v88 v89 v90 v91 v92 v93 v94 v95 v96 v97 v98 v99 v100 v101 v102 v103 v104 v105 v106 v107 v108 v109 v110 v111 v112 v113 v114 v115 v116 v117 v118 v119 v120 v121 v122 v123 v124 v125 v126 v127

structure KAt (w0 : World) (n : Nat) (ws : List Nat) (v : Value) (W : World) : Prop where
  bel : Below w0.heap.size w0 W
  mm : MkMem W (w0.heap.size + 1) w0.heap.size n ((n + 63) / 64) ws
  own : Own (w0.heap.size + 2) W v (markL ws n)
  size : w0.heap.size + 2 ≤ W.heap.size
  clean : Clean ws n
theorem KAt.below {w0 W W' : World} {n : Nat} {ws : List Nat} {v : Value} (h : KAt w0 n ws v W) (b : Below W.heap.size W W') : KAt w0 n ws v W' := by
  have hs := h.size
  exact ⟨h.bel.trans ⟨b.os, b.tape, b.output, b.size, fun g hg => b.block g (by have := h.bel.size; omega)⟩, h.mm.of (b.block _ (by omega)) (b.block _ (by omega)), h.own.keep (fun g _ hg => b.block g hg), Nat.le_trans hs b.size, h.clean⟩
theorem KAt.at {w0 W W' : World} {n : Nat} {ws : List Nat} {v : Value} (h : KAt w0 n ws v W) (r : AtRel W W') : KAt w0 n ws v W' := h.below (below_at (below_self _ W) r)
/-- with another list: one that is said of other words -/
theorem KAt.swap {w0 W : World} {n : Nat} {ws : List Nat} {v v' : Value} (h : KAt w0 n ws v W) (o : Own (w0.heap.size + 2) W v' (markL ws n)) : KAt w0 n ws v' W := ⟨h.bel, h.mm, o, h.size, h.clean⟩
theorem KAt.flip {w0 W W' : World} {n y : Nat} {ws : List Nat} {v v' : Value} (h : KAt w0 n ws v W) (hy : y < n) (o : Own (w0.heap.size + 2) W v' (markL (flipW ws y) n))
    (hr : AtRel (W.setCell ⟨w0.heap.size, y / 64, none⟩ (.int .u64 ((ws.getD (y / 64) 0 ^^^ 2 ^ (y % 64) : Nat) : Int))) W') : KAt w0 n (flipW ws y) v' W' := by
  have hq : y / 64 < ws.length := by have := h.mm.room; omega
  have hs := h.size
  have z := aside_setCell W ⟨w0.heap.size, y / 64, none⟩ (.int .u64 ((ws.getD (y / 64) 0 ^^^ 2 ^ (y % 64) : Nat) : Int))
  have k : KAt w0 n (flipW ws y) v' (W.setCell ⟨w0.heap.size, y / 64, none⟩ (.int .u64 ((ws.getD (y / 64) 0 ^^^ 2 ^ (y % 64) : Nat) : Int))) :=
    ⟨below_set h.bel _ (by show w0.heap.size ≤ w0.heap.size; omega) _, h.mm.flip hy, o.keep (fun g hg _ => z.block g (by show g ≠ w0.heap.size; omega)), by rw [z.size]; exact hs, h.clean.flip hy hq⟩
  exact k.at hr
theorem box2_below (W : World) (t : TypeId) (a b : Value) (a' b' : Value) : Below W.heap.size W (((W.alloc (.cells #[a', b'] t)).setCell ⟨W.heap.size, 0, none⟩ a).setCell ⟨W.heap.size, 1, none⟩ b) :=
  below_set (below_set (below_alloc9 (below_self _ W) (Nat.le_refl _) _) _ (by show W.heap.size ≤ W.heap.size; omega) _) _ (by show W.heap.size ≤ W.heap.size; omega) _
theorem box2_cells (W : World) (t : TypeId) (a b : Value) (a' b' : Value) : (((W.alloc (.cells #[a', b'] t)).setCell ⟨W.heap.size, 0, none⟩ a).setCell ⟨W.heap.size, 1, none⟩ b).cell? ⟨W.heap.size, 0, none⟩ = some a ∧
    (((W.alloc (.cells #[a', b'] t)).setCell ⟨W.heap.size, 0, none⟩ a).setCell ⟨W.heap.size, 1, none⟩ b).cell? ⟨W.heap.size, 1, none⟩ = some b := by
  have hA0 : (W.alloc (.cells #[a', b'] t)).heap[W.heap.size]? = some (.cells #[a', b'] t) := alloc_new W _
  constructor
  · refine (World.cell?_setCell_other _ _ _ _ (by intro h; injection h with h1 h2; omega)).trans ?_
    exact World.cell?_setCell_same _ _ _ (u := a') (by simp only [World.cell?, hA0]; rfl)
  · refine World.cell?_setCell_same _ _ _ (u := b') ?_
    refine (World.cell?_setCell_other _ _ _ _ (by intro h; injection h with h1 h2; omega)).trans ?_
    simp only [World.cell?, hA0]; rfl
noncomputable def r10M : Code := match bodyM with
  | .seq _ (.seq (.block _ (.seq c _)) _) => c
  | _ => .skip
noncomputable def r11M : Code := match bodyM with
  | .seq _ (.seq (.block _ (.seq _ (.seq c _))) _) => c
  | _ => .skip
theorem reg10 {c6 : Code} (hc6 : c6 = r10M) (len cap : Nat) (sb so j : Nat) (kj nj : Int) (w2 : World) (hl : j < len) (hk : w2.cell? ⟨sb, so + j * 2, none⟩ = some (.int .i64 kj)) (hn : w2.cell? ⟨sb, so + j * 2 + 1, none⟩ = some (.int .i64 nj))
    {v0 v2 v3 v4 v5 v6 v7 v9 v10 v11 v12 v13 v14 v15 v16 v17 v18 v19 v20 v21 v22 v23 v24 v25 v26 v27 v28 v29 v30 v31 v32 v33 v34 v35 v36 v37 v38 v39 v40 v41 v42 v43 v44 v45 v46 v47 v48 v49 v50 v51 v52 v53 v54 v55 v56 v57 v58 v59 v60 v61 v62 v63 v64 v65 v66 v67 v68 v69 v70 v71 v72 v73 v74 v75 v76 v77 v78 v79 v80 v81 v82 v83 v84 v85 v86 v87 v88 v89 v90 v91 v92 v93 v94 v95 v96 v97 v98 v99 v100 v101 v102 v103 v104 v105 v106 v107 v108 v109 v110 v111 v112 v113 v114 v115 v116 v117 v118 v119 v120 v121 v122 v123 v124 v125 v126 v127 : Value} :
    CodeW Try.prog true AtRel (DP0 (blkS (fun _ => False))) 6 c6 (fun e a' w' => e = .normal ∧ ∃ u49 u50 u51 u52, a' = ⟨List.toArray (v0 :: .slice (some ⟨sb, so, none⟩) len cap :: v2 :: v3 :: v4 :: v5 :: v6 :: v7 :: .int .i64 j :: .pointer (some ⟨w2.heap.size, 0, none⟩) :: v10 :: v11 :: v12 :: v13 :: v14 :: v15 :: v16 :: v17 :: v18 :: v19 :: v20 :: v21 :: v22 :: v23 :: v24 :: v25 :: v26 :: v27 :: v28 :: v29 :: v30 :: v31 :: v32 :: v33 :: v34 :: v35 :: v36 :: v37 :: v38 :: v39 :: v40 :: v41 :: v42 :: v43 :: v44 :: v45 :: v46 :: v47 :: v48 :: u49 :: u50 :: u51 :: u52 :: v53 :: v54 :: v55 :: v56 :: v57 :: v58 :: v59 :: v60 :: v61 :: v62 :: v63 :: v64 :: v65 :: v66 :: v67 :: v68 :: v69 :: v70 :: v71 :: v72 :: v73 :: v74 :: v75 :: v76 :: v77 :: v78 :: v79 :: v80 :: v81 :: v82 :: v83 :: v84 :: v85 :: v86 :: v87 :: v88 :: v89 :: v90 :: v91 :: v92 :: v93 :: v94 :: v95 :: v96 :: v97 :: v98 :: v99 :: v100 :: v101 :: v102 :: v103 :: v104 :: v105 :: v106 :: v107 :: v108 :: v109 :: v110 :: v111 :: v112 :: v113 :: v114 :: v115 :: v116 :: v117 :: v118 :: v119 :: v120 :: v121 :: v122 :: v123 :: v124 :: v125 :: v126 :: v127 :: []), []⟩ ∧ AtRel (((w2.alloc (.cells #[.int .i64 0, .int .i64 0] 58)).setCell ⟨w2.heap.size, 0, none⟩ (.int .i64 kj)).setCell ⟨w2.heap.size, 1, none⟩ (.int .i64 nj)) w') ⟨List.toArray (v0 :: .slice (some ⟨sb, so, none⟩) len cap :: v2 :: v3 :: v4 :: v5 :: v6 :: v7 :: .int .i64 j :: v9 :: v10 :: v11 :: v12 :: v13 :: v14 :: v15 :: v16 :: v17 :: v18 :: v19 :: v20 :: v21 :: v22 :: v23 :: v24 :: v25 :: v26 :: v27 :: v28 :: v29 :: v30 :: v31 :: v32 :: v33 :: v34 :: v35 :: v36 :: v37 :: v38 :: v39 :: v40 :: v41 :: v42 :: v43 :: v44 :: v45 :: v46 :: v47 :: v48 :: v49 :: v50 :: v51 :: v52 :: v53 :: v54 :: v55 :: v56 :: v57 :: v58 :: v59 :: v60 :: v61 :: v62 :: v63 :: v64 :: v65 :: v66 :: v67 :: v68 :: v69 :: v70 :: v71 :: v72 :: v73 :: v74 :: v75 :: v76 :: v77 :: v78 :: v79 :: v80 :: v81 :: v82 :: v83 :: v84 :: v85 :: v86 :: v87 :: v88 :: v89 :: v90 :: v91 :: v92 :: v93 :: v94 :: v95 :: v96 :: v97 :: v98 :: v99 :: v100 :: v101 :: v102 :: v103 :: v104 :: v105 :: v106 :: v107 :: v108 :: v109 :: v110 :: v111 :: v112 :: v113 :: v114 :: v115 :: v116 :: v117 :: v118 :: v119 :: v120 :: v121 :: v122 :: v123 :: v124 :: v125 :: v126 :: v127 :: []), []⟩ w2 := by
  have T9 := termsP (blkS (fun _ => False))
  have hS : ∀ l, ¬ blkS (fun _ => False) l := fun l ⟨_, _, h⟩ => h
  rw [hc6, show r10M = _ from (by unfold r10M bodyM; simp only [Try.f6, Option.getD_some]; try rfl)]
  have hF := atRel_refl w2
  have q1 : (j : Int) < (len : Int) := by omega
  (refine codeW_region T9 ?_; simp only [List.size_toArray, List.length_cons, List.length_nil, Nat.reduceAdd, Nat.zero_add, List.range, List.range.loop])
  repeat (refine opsW_cons rfl (by rfl) ?_; intro _ hR K hK; replace hF := atRel_trans _ _ _ hF hR; clear hR; have hs9 := atRel_size hF; go_simp; refine hK _ _ ⟨?_, ?_⟩; (· rw [listed_nil (by simp [go_sem, *])]; exact dp0_nil); clear hK K hs9; try walk_nrm)
  (refine opsW_cons rfl (by rfl) ?_; intro _ hR K hK; replace hF := atRel_trans _ _ _ hF hR; clear hR; have hl9 := (atRel_cell hF _).trans hk; have hm9 := (atRel_cell hF _).trans hn; go_simp; refine hK _ _ ⟨?_, ?_⟩; (· intro e he; have hm := mem_listed he; simp [go_sem, hl9, hm9] at hm; rcases hm with rfl | rfl <;> exact evP_cell _ (hS _)); clear hK K hl9 hm9; try walk_nrm)
  (refine opsW_cons rfl (by rfl) ?_; intro _ hR K hK; replace hF := atRel_trans _ _ _ hF hR; clear hR; have hs9 := atRel_size hF; go_simp; refine hK _ _ ⟨?_, ?_⟩; (· rw [listed_nil (by simp [go_sem, *])]; exact dp0_nil); clear hK K hs9; try walk_nrm)
  replace hF := atRel_alloc hF (.cells #[.int .i64 0, .int .i64 0] 58)
  have hA0 : (w2.alloc (.cells #[.int .i64 0, .int .i64 0] 58)).heap[w2.heap.size]? = some (.cells #[.int .i64 0, .int .i64 0] 58) := alloc_new w2 _
  have b0 : (w2.alloc (.cells #[.int .i64 0, .int .i64 0] 58)).cell? ⟨w2.heap.size, 0, none⟩ = some (.int .i64 0) := by simp only [World.cell?, hA0]; rfl
  have b1 : (w2.alloc (.cells #[.int .i64 0, .int .i64 0] 58)).cell? ⟨w2.heap.size, 1, none⟩ = some (.int .i64 0) := by simp only [World.cell?, hA0]; rfl
  have z0 : (w2.alloc (.cells #[.int .i64 0, .int .i64 0] 58)).frozen? ⟨w2.heap.size, 0, none⟩ = false := by simp only [World.frozen?, hA0]; rfl
  have z1 : (w2.alloc (.cells #[.int .i64 0, .int .i64 0] 58)).frozen? ⟨w2.heap.size, 1, none⟩ = false := by simp only [World.frozen?, hA0]; rfl
  clear hA0
  generalize w2.alloc (.cells #[.int .i64 0, .int .i64 0] 58) = w3 at *
  (refine opsW_cons rfl (by rfl) ?_; intro _ hR K hK; replace hF := atRel_trans _ _ _ hF hR; clear hR; have c0 := (atRel_cell hF _).trans b0; have c1 := (atRel_cell hF _).trans b1; have d0 := (atRel_frozen hF _).trans z0; have d1 := (atRel_frozen hF _).trans z1; go_simp)
  (refine hK _ _ ⟨?_, ?_⟩; (· intro e he; have hm := mem_listed he; simp [go_sem, storedEv, *] at hm; rcases hm with rfl | rfl <;> exact evP_cell _ (hS _)); clear hK K c0 c1 d0 d1; try walk_nrm)
  replace hF := atRel_set (atRel_set hF ⟨w2.heap.size, 0, none⟩ (.int .i64 kj)) ⟨w2.heap.size, 1, none⟩ (.int .i64 nj)
  refine opsW_nil T9 ?_
  exact ⟨rfl, _, _, _, _, rfl, hF⟩
theorem reg11 {c6 : Code} (hc6 : c6 = r11M) (n : Nat) (B : Nat) (x : Int) (w2 : World) (hx : w2.cell? ⟨B, 1, none⟩ = some (.int .i64 x))
    {v1 v2 v3 v4 v5 v6 v7 v8 v10 v11 v12 v13 v14 v15 v16 v17 v18 v19 v20 v21 v22 v23 v24 v25 v26 v27 v28 v29 v30 v31 v32 v33 v34 v35 v36 v37 v38 v39 v40 v41 v42 v43 v44 v45 v46 v47 v48 v49 v50 v51 v52 v53 v54 v55 v56 v57 v58 v59 v60 v61 v62 v63 v64 v65 v66 v67 v68 v69 v70 v71 v72 v73 v74 v75 v76 v77 v78 v79 v80 v81 v82 v83 v84 v85 v86 v87 v88 v89 v90 v91 v92 v93 v94 v95 v96 v97 v98 v99 v100 v101 v102 v103 v104 v105 v106 v107 v108 v109 v110 v111 v112 v113 v114 v115 v116 v117 v118 v119 v120 v121 v122 v123 v124 v125 v126 v127 : Value} :
    CodeW Try.prog true AtRel (DP0 (blkS (fun _ => False))) 6 c6 (fun e a' w' => e = .normal ∧ ∃ u53 u54 u55 u56 u57 u58 u59 u60 u61, a' = ⟨List.toArray (.int .i64 n :: v1 :: v2 :: v3 :: v4 :: v5 :: v6 :: v7 :: v8 :: .pointer (some ⟨B, 0, none⟩) :: .bool (decide (0 ≤ x ∧ x < (n : Int))) :: v11 :: v12 :: v13 :: v14 :: v15 :: v16 :: v17 :: v18 :: v19 :: v20 :: v21 :: v22 :: v23 :: v24 :: v25 :: v26 :: v27 :: v28 :: v29 :: v30 :: v31 :: v32 :: v33 :: v34 :: v35 :: v36 :: v37 :: v38 :: v39 :: v40 :: v41 :: v42 :: v43 :: v44 :: v45 :: v46 :: v47 :: v48 :: v49 :: v50 :: v51 :: v52 :: u53 :: u54 :: u55 :: u56 :: u57 :: u58 :: u59 :: u60 :: u61 :: v62 :: v63 :: v64 :: v65 :: v66 :: v67 :: v68 :: v69 :: v70 :: v71 :: v72 :: v73 :: v74 :: v75 :: v76 :: v77 :: v78 :: v79 :: v80 :: v81 :: v82 :: v83 :: v84 :: v85 :: v86 :: v87 :: v88 :: v89 :: v90 :: v91 :: v92 :: v93 :: v94 :: v95 :: v96 :: v97 :: v98 :: v99 :: v100 :: v101 :: v102 :: v103 :: v104 :: v105 :: v106 :: v107 :: v108 :: v109 :: v110 :: v111 :: v112 :: v113 :: v114 :: v115 :: v116 :: v117 :: v118 :: v119 :: v120 :: v121 :: v122 :: v123 :: v124 :: v125 :: v126 :: v127 :: []), []⟩ ∧ AtRel w2 w') ⟨List.toArray (.int .i64 n :: v1 :: v2 :: v3 :: v4 :: v5 :: v6 :: v7 :: v8 :: .pointer (some ⟨B, 0, none⟩) :: v10 :: v11 :: v12 :: v13 :: v14 :: v15 :: v16 :: v17 :: v18 :: v19 :: v20 :: v21 :: v22 :: v23 :: v24 :: v25 :: v26 :: v27 :: v28 :: v29 :: v30 :: v31 :: v32 :: v33 :: v34 :: v35 :: v36 :: v37 :: v38 :: v39 :: v40 :: v41 :: v42 :: v43 :: v44 :: v45 :: v46 :: v47 :: v48 :: v49 :: v50 :: v51 :: v52 :: v53 :: v54 :: v55 :: v56 :: v57 :: v58 :: v59 :: v60 :: v61 :: v62 :: v63 :: v64 :: v65 :: v66 :: v67 :: v68 :: v69 :: v70 :: v71 :: v72 :: v73 :: v74 :: v75 :: v76 :: v77 :: v78 :: v79 :: v80 :: v81 :: v82 :: v83 :: v84 :: v85 :: v86 :: v87 :: v88 :: v89 :: v90 :: v91 :: v92 :: v93 :: v94 :: v95 :: v96 :: v97 :: v98 :: v99 :: v100 :: v101 :: v102 :: v103 :: v104 :: v105 :: v106 :: v107 :: v108 :: v109 :: v110 :: v111 :: v112 :: v113 :: v114 :: v115 :: v116 :: v117 :: v118 :: v119 :: v120 :: v121 :: v122 :: v123 :: v124 :: v125 :: v126 :: v127 :: []), []⟩ w2 := by
  have T9 := termsP (blkS (fun _ => False))
  have hS : ∀ l, ¬ blkS (fun _ => False) l := fun l ⟨_, _, h⟩ => h
  rw [hc6, show r11M = _ from (by unfold r11M bodyM; simp only [Try.f6, Option.getD_some]; try rfl)]
  have hF := atRel_refl w2
  have hc1 := hx
  (refine codeW_region T9 ?_; simp only [List.size_toArray, List.length_cons, List.length_nil, Nat.reduceAdd, Nat.zero_add, List.range, List.range.loop])
  (refine opsW_cons rfl (by rfl) ?_; intro _ hR K hK; replace hF := atRel_trans _ _ _ hF hR; clear hR; have hs9 := atRel_size hF; go_simp; refine hK _ _ ⟨?_, ?_⟩; (· rw [listed_nil (by simp [go_sem, *])]; exact dp0_nil); clear hK K hs9; try walk_nrm)
  (refine opsW_cons rfl (by rfl) ?_; intro _ hR K hK; replace hF := atRel_trans _ _ _ hF hR; clear hR; have hl9 := (atRel_cell hF _).trans hc1; go_simp; refine hK _ _ ⟨?_, ?_⟩; (· intro e he; have hm := mem_listed he; simp [go_sem, hl9] at hm; rw [hm]; exact evP_cell _ (hS _)); clear hK K hl9; try walk_nrm)
  by_cases h0 : 0 ≤ x
  · have e0 : decide (0 ≤ x) = true := decide_eq_true h0
    by_cases hn : x < (n : Int)
    · have e1 : decide (x < (n : Int)) = true := decide_eq_true hn
      rw [show decide (0 ≤ x ∧ x < (n : Int)) = true from decide_eq_true ⟨h0, hn⟩]
      repeat (first | (refine opsW_unwanted T9 rfl (by rfl) ?_; try walk_nrm) | (refine opsW_cons rfl (by rfl) ?_; intro _ hR K hK; replace hF := atRel_trans _ _ _ hF hR; clear hR; have hs9 := atRel_size hF; go_simp; refine hK _ _ ⟨?_, ?_⟩; (· rw [listed_nil (by simp [go_sem, *])]; exact dp0_nil); clear hK K hs9; try walk_nrm))
      (refine opsW_cons rfl (by rfl) ?_; intro _ hR K hK; replace hF := atRel_trans _ _ _ hF hR; clear hR; have hl9 := (atRel_cell hF _).trans hc1; go_simp; refine hK _ _ ⟨?_, ?_⟩; (· intro e he; have hm := mem_listed he; simp [go_sem, hl9] at hm; rw [hm]; exact evP_cell _ (hS _)); clear hK K hl9; try walk_nrm)
      repeat (first | (refine opsW_unwanted T9 rfl (by rfl) ?_; try walk_nrm) | (refine opsW_cons rfl (by rfl) ?_; intro _ hR K hK; replace hF := atRel_trans _ _ _ hF hR; clear hR; have hs9 := atRel_size hF; go_simp; refine hK _ _ ⟨?_, ?_⟩; (· rw [listed_nil (by simp [go_sem, *])]; exact dp0_nil); clear hK K hs9; try walk_nrm))
      refine opsW_nil T9 ?_
      exact ⟨rfl, _, _, _, _, _, _, _, _, _, rfl, hF⟩
    · have e1 : decide (x < (n : Int)) = false := decide_eq_false hn
      rw [show decide (0 ≤ x ∧ x < (n : Int)) = false from decide_eq_false fun h => hn h.2]
      repeat (first | (refine opsW_unwanted T9 rfl (by rfl) ?_; try walk_nrm) | (refine opsW_cons rfl (by rfl) ?_; intro _ hR K hK; replace hF := atRel_trans _ _ _ hF hR; clear hR; have hs9 := atRel_size hF; go_simp; refine hK _ _ ⟨?_, ?_⟩; (· rw [listed_nil (by simp [go_sem, *])]; exact dp0_nil); clear hK K hs9; try walk_nrm))
      (refine opsW_cons rfl (by rfl) ?_; intro _ hR K hK; replace hF := atRel_trans _ _ _ hF hR; clear hR; have hl9 := (atRel_cell hF _).trans hc1; go_simp; refine hK _ _ ⟨?_, ?_⟩; (· intro e he; have hm := mem_listed he; simp [go_sem, hl9] at hm; rw [hm]; exact evP_cell _ (hS _)); clear hK K hl9; try walk_nrm)
      repeat (first | (refine opsW_unwanted T9 rfl (by rfl) ?_; try walk_nrm) | (refine opsW_cons rfl (by rfl) ?_; intro _ hR K hK; replace hF := atRel_trans _ _ _ hF hR; clear hR; have hs9 := atRel_size hF; go_simp; refine hK _ _ ⟨?_, ?_⟩; (· rw [listed_nil (by simp [go_sem, *])]; exact dp0_nil); clear hK K hs9; try walk_nrm))
      refine opsW_nil T9 ?_
      exact ⟨rfl, _, _, _, _, _, _, _, _, _, rfl, hF⟩
  · have e0 : decide (0 ≤ x) = false := decide_eq_false h0
    rw [show decide (0 ≤ x ∧ x < (n : Int)) = false from decide_eq_false fun h => h0 h.1]
    repeat (first | (refine opsW_unwanted T9 rfl (by rfl) ?_; try walk_nrm) | (refine opsW_cons rfl (by rfl) ?_; intro _ hR K hK; replace hF := atRel_trans _ _ _ hF hR; clear hR; have hs9 := atRel_size hF; go_simp; refine hK _ _ ⟨?_, ?_⟩; (· rw [listed_nil (by simp [go_sem, *])]; exact dp0_nil); clear hK K hs9; try walk_nrm))
    refine opsW_nil T9 ?_
    exact ⟨rfl, _, _, _, _, _, _, _, _, _, rfl, hF⟩
end Go.Proofs.Ytkcknoodcgmndaa
