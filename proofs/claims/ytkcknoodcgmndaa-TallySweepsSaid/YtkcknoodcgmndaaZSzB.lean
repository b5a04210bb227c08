/- TallySweeps: the memory of the law; the first loop's round. -/
import Derived.Test.YtkcknoodcgmndaaZSzA
import Derived.Test.YtkcknoodcgmndaaZMqB
namespace Go.Proofs.Ytkcknoodcgmndaa
open Go.Conc Go.RowKit
set_option linter.unusedVariables false
set_option linter.unusedSimpArgs false
set_option maxRecDepth 100000
set_option maxHeartbeats 8000000














theorem arr151E {C : Array Value → Prop} {T : Array Value} (h : T.size = 151) (H : ∀ v0 v1 v2 v3 v4 v5 v6 v7 v8 v9 v10 v11 v12 v13 v14 v15 v16 v17 v18 v19 v20 v21 v22 v23 v24 v25 v26 v27 v28 v29 v30 v31 v32 v33 v34 v35 v36 v37 v38 v39 v40 v41 v42 v43 v44 v45 v46 v47 v48 v49 v50 v51 v52 v53 v54 v55 v56 v57 v58 v59 v60 v61 v62 v63 v64 v65 v66 v67 v68 v69 v70 v71 v72 v73 v74 v75 v76 v77 v78 v79 v80 v81 v82 v83 v84 v85 v86 v87 v88 v89 v90 v91 v92 v93 v94 v95 v96 v97 v98 v99 v100 v101 v102 v103 v104 v105 v106 v107 v108 v109 v110 v111 v112 v113 v114 v115 v116 v117 v118 v119 v120 v121 v122 v123 v124 v125 v126 v127 v128 v129 v130 v131 v132 v133 v134 v135 v136 v137 v138 v139 v140 v141 v142 v143 v144 v145 v146 v147 v148 v149 v150 : Value, C (List.toArray (v0 :: v1 :: v2 :: v3 :: v4 :: v5 :: v6 :: v7 :: v8 :: v9 :: v10 :: v11 :: v12 :: v13 :: v14 :: v15 :: v16 :: v17 :: v18 :: v19 :: v20 :: v21 :: v22 :: v23 :: v24 :: v25 :: v26 :: v27 :: v28 :: v29 :: v30 :: v31 :: v32 :: v33 :: v34 :: v35 :: v36 :: v37 :: v38 :: v39 :: v40 :: v41 :: v42 :: v43 :: v44 :: v45 :: v46 :: v47 :: v48 :: v49 :: v50 :: v51 :: v52 :: v53 :: v54 :: v55 :: v56 :: v57 :: v58 :: v59 :: v60 :: v61 :: v62 :: v63 :: v64 :: v65 :: v66 :: v67 :: v68 :: v69 :: v70 :: v71 :: v72 :: v73 :: v74 :: v75 :: v76 :: v77 :: v78 :: v79 :: v80 :: v81 :: v82 :: v83 :: v84 :: v85 :: v86 :: v87 :: v88 :: v89 :: v90 :: v91 :: v92 :: v93 :: v94 :: v95 :: v96 :: v97 :: v98 :: v99 :: v100 :: v101 :: v102 :: v103 :: v104 :: v105 :: v106 :: v107 :: v108 :: v109 :: v110 :: v111 :: v112 :: v113 :: v114 :: v115 :: v116 :: v117 :: v118 :: v119 :: v120 :: v121 :: v122 :: v123 :: v124 :: v125 :: v126 :: v127 :: v128 :: v129 :: v130 :: v131 :: v132 :: v133 :: v134 :: v135 :: v136 :: v137 :: v138 :: v139 :: v140 :: v141 :: v142 :: v143 :: v144 :: v145 :: v146 :: v147 :: v148 :: v149 :: v150 :: []))) : C T := by
  obtain ⟨l⟩ := T
  replace h : l.length = 151 := h
  have h0 := h
  clear h
  obtain ⟨v0, l, e, h1⟩ := cons9 h0
  subst e
  clear h0
  obtain ⟨v1, l, e, h2⟩ := cons9 h1
  subst e
  clear h1
  obtain ⟨v2, l, e, h3⟩ := cons9 h2
  subst e
  clear h2
  obtain ⟨v3, l, e, h4⟩ := cons9 h3
  subst e
  clear h3
  obtain ⟨v4, l, e, h5⟩ := cons9 h4
  subst e
  clear h4
  obtain ⟨v5, l, e, h6⟩ := cons9 h5
  subst e
  clear h5
  obtain ⟨v6, l, e, h7⟩ := cons9 h6
  subst e
  clear h6
  obtain ⟨v7, l, e, h8⟩ := cons9 h7
  subst e
  clear h7
  obtain ⟨v8, l, e, h9⟩ := cons9 h8
  subst e
  clear h8
  obtain ⟨v9, l, e, h10⟩ := cons9 h9
  subst e
  clear h9
  obtain ⟨v10, l, e, h11⟩ := cons9 h10
  subst e
  clear h10
  obtain ⟨v11, l, e, h12⟩ := cons9 h11
  subst e
  clear h11
  obtain ⟨v12, l, e, h13⟩ := cons9 h12
  subst e
  clear h12
  obtain ⟨v13, l, e, h14⟩ := cons9 h13
  subst e
  clear h13
  obtain ⟨v14, l, e, h15⟩ := cons9 h14
  subst e
  clear h14
  obtain ⟨v15, l, e, h16⟩ := cons9 h15
  subst e
  clear h15
  obtain ⟨v16, l, e, h17⟩ := cons9 h16
  subst e
  clear h16
  obtain ⟨v17, l, e, h18⟩ := cons9 h17
  subst e
  clear h17
  obtain ⟨v18, l, e, h19⟩ := cons9 h18
  subst e
  clear h18
  obtain ⟨v19, l, e, h20⟩ := cons9 h19
  subst e
  clear h19
  obtain ⟨v20, l, e, h21⟩ := cons9 h20
  subst e
  clear h20
  obtain ⟨v21, l, e, h22⟩ := cons9 h21
  subst e
  clear h21
  obtain ⟨v22, l, e, h23⟩ := cons9 h22
  subst e
  clear h22
  obtain ⟨v23, l, e, h24⟩ := cons9 h23
  subst e
  clear h23
  obtain ⟨v24, l, e, h25⟩ := cons9 h24
  subst e
  clear h24
  obtain ⟨v25, l, e, h26⟩ := cons9 h25
  subst e
  clear h25
  obtain ⟨v26, l, e, h27⟩ := cons9 h26
  subst e
  clear h26
  obtain ⟨v27, l, e, h28⟩ := cons9 h27
  subst e
  clear h27
  obtain ⟨v28, l, e, h29⟩ := cons9 h28
  subst e
  clear h28
  obtain ⟨v29, l, e, h30⟩ := cons9 h29
  subst e
  clear h29
  obtain ⟨v30, l, e, h31⟩ := cons9 h30
  subst e
  clear h30
  obtain ⟨v31, l, e, h32⟩ := cons9 h31
  subst e
  clear h31
  obtain ⟨v32, l, e, h33⟩ := cons9 h32
  subst e
  clear h32
  obtain ⟨v33, l, e, h34⟩ := cons9 h33
  subst e
  clear h33
  obtain ⟨v34, l, e, h35⟩ := cons9 h34
  subst e
  clear h34
  obtain ⟨v35, l, e, h36⟩ := cons9 h35
  subst e
  clear h35
  obtain ⟨v36, l, e, h37⟩ := cons9 h36
  subst e
  clear h36
  obtain ⟨v37, l, e, h38⟩ := cons9 h37
  subst e
  clear h37
  obtain ⟨v38, l, e, h39⟩ := cons9 h38
  subst e
  clear h38
  obtain ⟨v39, l, e, h40⟩ := cons9 h39
  subst e
  clear h39
  obtain ⟨v40, l, e, h41⟩ := cons9 h40
  subst e
  clear h40
  obtain ⟨v41, l, e, h42⟩ := cons9 h41
  subst e
  clear h41
  obtain ⟨v42, l, e, h43⟩ := cons9 h42
  subst e
  clear h42
  obtain ⟨v43, l, e, h44⟩ := cons9 h43
  subst e
  clear h43
  obtain ⟨v44, l, e, h45⟩ := cons9 h44
  subst e
  clear h44
  obtain ⟨v45, l, e, h46⟩ := cons9 h45
  subst e
  clear h45
  obtain ⟨v46, l, e, h47⟩ := cons9 h46
  subst e
  clear h46
  obtain ⟨v47, l, e, h48⟩ := cons9 h47
  subst e
  clear h47
  obtain ⟨v48, l, e, h49⟩ := cons9 h48
  subst e
  clear h48
  obtain ⟨v49, l, e, h50⟩ := cons9 h49
  subst e
  clear h49
  obtain ⟨v50, l, e, h51⟩ := cons9 h50
  subst e
  clear h50
  obtain ⟨v51, l, e, h52⟩ := cons9 h51
  subst e
  clear h51
  obtain ⟨v52, l, e, h53⟩ := cons9 h52
  subst e
  clear h52
  obtain ⟨v53, l, e, h54⟩ := cons9 h53
  subst e
  clear h53
  obtain ⟨v54, l, e, h55⟩ := cons9 h54
  subst e
  clear h54
  obtain ⟨v55, l, e, h56⟩ := cons9 h55
  subst e
  clear h55
  obtain ⟨v56, l, e, h57⟩ := cons9 h56
  subst e
  clear h56
  obtain ⟨v57, l, e, h58⟩ := cons9 h57
  subst e
  clear h57
  obtain ⟨v58, l, e, h59⟩ := cons9 h58
  subst e
  clear h58
  obtain ⟨v59, l, e, h60⟩ := cons9 h59
  subst e
  clear h59
  obtain ⟨v60, l, e, h61⟩ := cons9 h60
  subst e
  clear h60
  obtain ⟨v61, l, e, h62⟩ := cons9 h61
  subst e
  clear h61
  obtain ⟨v62, l, e, h63⟩ := cons9 h62
  subst e
  clear h62
  obtain ⟨v63, l, e, h64⟩ := cons9 h63
  subst e
  clear h63
  obtain ⟨v64, l, e, h65⟩ := cons9 h64
  subst e
  clear h64
  obtain ⟨v65, l, e, h66⟩ := cons9 h65
  subst e
  clear h65
  obtain ⟨v66, l, e, h67⟩ := cons9 h66
  subst e
  clear h66
  obtain ⟨v67, l, e, h68⟩ := cons9 h67
  subst e
  clear h67
  obtain ⟨v68, l, e, h69⟩ := cons9 h68
  subst e
  clear h68
  obtain ⟨v69, l, e, h70⟩ := cons9 h69
  subst e
  clear h69
  obtain ⟨v70, l, e, h71⟩ := cons9 h70
  subst e
  clear h70
  obtain ⟨v71, l, e, h72⟩ := cons9 h71
  subst e
  clear h71
  obtain ⟨v72, l, e, h73⟩ := cons9 h72
  subst e
  clear h72
  obtain ⟨v73, l, e, h74⟩ := cons9 h73
  subst e
  clear h73
  obtain ⟨v74, l, e, h75⟩ := cons9 h74
  subst e
  clear h74
  obtain ⟨v75, l, e, h76⟩ := cons9 h75
  subst e
  clear h75
  obtain ⟨v76, l, e, h77⟩ := cons9 h76
  subst e
  clear h76
  obtain ⟨v77, l, e, h78⟩ := cons9 h77
  subst e
  clear h77
  obtain ⟨v78, l, e, h79⟩ := cons9 h78
  subst e
  clear h78
  obtain ⟨v79, l, e, h80⟩ := cons9 h79
  subst e
  clear h79
  obtain ⟨v80, l, e, h81⟩ := cons9 h80
  subst e
  clear h80
  obtain ⟨v81, l, e, h82⟩ := cons9 h81
  subst e
  clear h81
  obtain ⟨v82, l, e, h83⟩ := cons9 h82
  subst e
  clear h82
  obtain ⟨v83, l, e, h84⟩ := cons9 h83
  subst e
  clear h83
  obtain ⟨v84, l, e, h85⟩ := cons9 h84
  subst e
  clear h84
  obtain ⟨v85, l, e, h86⟩ := cons9 h85
  subst e
  clear h85
  obtain ⟨v86, l, e, h87⟩ := cons9 h86
  subst e
  clear h86
  obtain ⟨v87, l, e, h88⟩ := cons9 h87
  subst e
  clear h87
  obtain ⟨v88, l, e, h89⟩ := cons9 h88
  subst e
  clear h88
  obtain ⟨v89, l, e, h90⟩ := cons9 h89
  subst e
  clear h89
  obtain ⟨v90, l, e, h91⟩ := cons9 h90
  subst e
  clear h90
  obtain ⟨v91, l, e, h92⟩ := cons9 h91
  subst e
  clear h91
  obtain ⟨v92, l, e, h93⟩ := cons9 h92
  subst e
  clear h92
  obtain ⟨v93, l, e, h94⟩ := cons9 h93
  subst e
  clear h93
  obtain ⟨v94, l, e, h95⟩ := cons9 h94
  subst e
  clear h94
  obtain ⟨v95, l, e, h96⟩ := cons9 h95
  subst e
  clear h95
  obtain ⟨v96, l, e, h97⟩ := cons9 h96
  subst e
  clear h96
  obtain ⟨v97, l, e, h98⟩ := cons9 h97
  subst e
  clear h97
  obtain ⟨v98, l, e, h99⟩ := cons9 h98
  subst e
  clear h98
  obtain ⟨v99, l, e, h100⟩ := cons9 h99
  subst e
  clear h99
  obtain ⟨v100, l, e, h101⟩ := cons9 h100
  subst e
  clear h100
  obtain ⟨v101, l, e, h102⟩ := cons9 h101
  subst e
  clear h101
  obtain ⟨v102, l, e, h103⟩ := cons9 h102
  subst e
  clear h102
  obtain ⟨v103, l, e, h104⟩ := cons9 h103
  subst e
  clear h103
  obtain ⟨v104, l, e, h105⟩ := cons9 h104
  subst e
  clear h104
  obtain ⟨v105, l, e, h106⟩ := cons9 h105
  subst e
  clear h105
  obtain ⟨v106, l, e, h107⟩ := cons9 h106
  subst e
  clear h106
  obtain ⟨v107, l, e, h108⟩ := cons9 h107
  subst e
  clear h107
  obtain ⟨v108, l, e, h109⟩ := cons9 h108
  subst e
  clear h108
  obtain ⟨v109, l, e, h110⟩ := cons9 h109
  subst e
  clear h109
  obtain ⟨v110, l, e, h111⟩ := cons9 h110
  subst e
  clear h110
  obtain ⟨v111, l, e, h112⟩ := cons9 h111
  subst e
  clear h111
  obtain ⟨v112, l, e, h113⟩ := cons9 h112
  subst e
  clear h112
  obtain ⟨v113, l, e, h114⟩ := cons9 h113
  subst e
  clear h113
  obtain ⟨v114, l, e, h115⟩ := cons9 h114
  subst e
  clear h114
  obtain ⟨v115, l, e, h116⟩ := cons9 h115
  subst e
  clear h115
  obtain ⟨v116, l, e, h117⟩ := cons9 h116
  subst e
  clear h116
  obtain ⟨v117, l, e, h118⟩ := cons9 h117
  subst e
  clear h117
  obtain ⟨v118, l, e, h119⟩ := cons9 h118
  subst e
  clear h118
  obtain ⟨v119, l, e, h120⟩ := cons9 h119
  subst e
  clear h119
  obtain ⟨v120, l, e, h121⟩ := cons9 h120
  subst e
  clear h120
  obtain ⟨v121, l, e, h122⟩ := cons9 h121
  subst e
  clear h121
  obtain ⟨v122, l, e, h123⟩ := cons9 h122
  subst e
  clear h122
  obtain ⟨v123, l, e, h124⟩ := cons9 h123
  subst e
  clear h123
  obtain ⟨v124, l, e, h125⟩ := cons9 h124
  subst e
  clear h124
  obtain ⟨v125, l, e, h126⟩ := cons9 h125
  subst e
  clear h125
  obtain ⟨v126, l, e, h127⟩ := cons9 h126
  subst e
  clear h126
  obtain ⟨v127, l, e, h128⟩ := cons9 h127
  subst e
  clear h127
  obtain ⟨v128, l, e, h129⟩ := cons9 h128
  subst e
  clear h128
  obtain ⟨v129, l, e, h130⟩ := cons9 h129
  subst e
  clear h129
  obtain ⟨v130, l, e, h131⟩ := cons9 h130
  subst e
  clear h130
  obtain ⟨v131, l, e, h132⟩ := cons9 h131
  subst e
  clear h131
  obtain ⟨v132, l, e, h133⟩ := cons9 h132
  subst e
  clear h132
  obtain ⟨v133, l, e, h134⟩ := cons9 h133
  subst e
  clear h133
  obtain ⟨v134, l, e, h135⟩ := cons9 h134
  subst e
  clear h134
  obtain ⟨v135, l, e, h136⟩ := cons9 h135
  subst e
  clear h135
  obtain ⟨v136, l, e, h137⟩ := cons9 h136
  subst e
  clear h136
  obtain ⟨v137, l, e, h138⟩ := cons9 h137
  subst e
  clear h137
  obtain ⟨v138, l, e, h139⟩ := cons9 h138
  subst e
  clear h138
  obtain ⟨v139, l, e, h140⟩ := cons9 h139
  subst e
  clear h139
  obtain ⟨v140, l, e, h141⟩ := cons9 h140
  subst e
  clear h140
  obtain ⟨v141, l, e, h142⟩ := cons9 h141
  subst e
  clear h141
  obtain ⟨v142, l, e, h143⟩ := cons9 h142
  subst e
  clear h142
  obtain ⟨v143, l, e, h144⟩ := cons9 h143
  subst e
  clear h143
  obtain ⟨v144, l, e, h145⟩ := cons9 h144
  subst e
  clear h144
  obtain ⟨v145, l, e, h146⟩ := cons9 h145
  subst e
  clear h145
  obtain ⟨v146, l, e, h147⟩ := cons9 h146
  subst e
  clear h146
  obtain ⟨v147, l, e, h148⟩ := cons9 h147
  subst e
  clear h147
  obtain ⟨v148, l, e, h149⟩ := cons9 h148
  subst e
  clear h148
  obtain ⟨v149, l, e, h150⟩ := cons9 h149
  subst e
  clear h149
  obtain ⟨v150, l, e, h151⟩ := cons9 h150
  subst e
  clear h150
  obtain rfl : l = [] := List.length_eq_zero_iff.1 h151
  exact H v0 v1 v2 v3 v4 v5 v6 v7 v8 v9 v10 v11 v12 v13 v14 v15 v16 v17 v18 v19 v20 v21 v22 v23 v24 v25 v26 v27 v28 v29 v30 v31 v32 v33 v34 v35 v36 v37 v38 v39 v40 v41 v42 v43 v44 v45 v46 v47 v48 v49 v50 v51 v52 v53 v54 v55 v56 v57 v58 v59 v60 v61 v62 v63 v64 v65 v66 v67 v68 v69 v70 v71 v72 v73 v74 v75 v76 v77 v78 v79 v80 v81 v82 v83 v84 v85 v86 v87 v88 v89 v90 v91 v92 v93 v94 v95 v96 v97 v98 v99 v100 v101 v102 v103 v104 v105 v106 v107 v108 v109 v110 v111 v112 v113 v114 v115 v116 v117 v118 v119 v120 v121 v122 v123 v124 v125 v126 v127 v128 v129 v130 v131 v132 v133 v134 v135 v136 v137 v138 v139 v140 v141 v142 v143 v144 v145 v146 v147 v148 v149 v150

structure KAs (w0 : World) (n : Nat) (ws ws2 : List Nat) (v : Value) (W : World) : Prop where
  bel : Below w0.heap.size w0 W
  mm : MkMem W (w0.heap.size + 1) w0.heap.size n ((n + 63) / 64) ws
  own : Own (w0.heap.size + 2) W v (markL ws2 n)
  size : w0.heap.size + 2 ≤ W.heap.size
  clean : Clean ws n
  clean2 : Clean ws2 n
  len2 : ws2.length = ws.length
theorem KAs.below {w0 W W' : World} {n : Nat} {ws ws2 : List Nat} {v : Value} (h : KAs w0 n ws ws2 v W) (b : Below W.heap.size W W') : KAs w0 n ws ws2 v W' := by
  have hs := h.size
  exact ⟨h.bel.trans ⟨b.os, b.tape, b.output, b.size, fun g hg => b.block g (by have := h.bel.size; omega)⟩, h.mm.of (b.block _ (by omega)) (b.block _ (by omega)), h.own.keep (fun g _ hg => b.block g hg), Nat.le_trans hs b.size, h.clean, h.clean2, h.len2⟩
theorem KAs.at {w0 W W' : World} {n : Nat} {ws ws2 : List Nat} {v : Value} (h : KAs w0 n ws ws2 v W) (r : AtRel W W') : KAs w0 n ws ws2 v W' := h.below (below_at (below_self _ W) r)
/-- a claim -/
theorem KAs.claim {w0 W W' : World} {n : Nat} {ws ws2 : List Nat} {v r : Value} {x : Int} (h : KAs w0 n ws ws2 v W) (t : TurnP w0.heap.size n ws x true W r W') : KAs w0 n (if 0 ≤ x ∧ x < (n : Int) then setB ws x.toNat else ws) ws2 v W' := by
  rcases t with ⟨_, hr, hno⟩ | ⟨_, hyes, hr⟩
  · have e : (if 0 ≤ x ∧ x < (n : Int) then setB ws x.toNat else ws) = ws := by
      by_cases hx : 0 ≤ x ∧ x < (n : Int)
      · rw [if_pos hx]
        unfold setB
        cases hb : bitW ws x.toNat with
        | true => rfl
        | false => exact absurd ⟨hx, by rw [hb]; simp⟩ hno
      · rw [if_neg hx]
    rw [e]
    exact h.at hr
  · have hb : bitW ws x.toNat = false := by
      cases hb : bitW ws x.toNat with
      | true => exact absurd hb hyes.2
      | false => rfl
    have e : (if 0 ≤ x ∧ x < (n : Int) then setB ws x.toNat else ws) = flipW ws x.toNat := by
      rw [if_pos hyes.1]
      unfold setB
      rw [if_neg (by rw [hb]; simp)]
    have hy : x.toNat < n := by omega
    have hq : x.toNat / 64 < ws.length := by have := h.mm.room; omega
    have hs := h.size
    have z := aside_setCell W ⟨w0.heap.size, x.toNat / 64, none⟩ (.int .u64 ((ws.getD (x.toNat / 64) 0 ^^^ 2 ^ (x.toNat % 64) : Nat) : Int))
    rw [e]
    have k : KAs w0 n (flipW ws x.toNat) ws2 v (W.setCell ⟨w0.heap.size, x.toNat / 64, none⟩ (.int .u64 ((ws.getD (x.toNat / 64) 0 ^^^ 2 ^ (x.toNat % 64) : Nat) : Int))) :=
      ⟨below_set h.bel _ (by show w0.heap.size ≤ w0.heap.size; omega) _, h.mm.flip hy, h.own.keep (fun g hg _ => z.block g (by show g ≠ w0.heap.size; omega)), by rw [z.size]; exact hs, h.clean.flip hy hq, h.clean2, by rw [h.len2]; simp [flipW]⟩
    exact k.at hr
/-- With, of a number in range -/
theorem KAs.with {w0 W W' : World} {n : Nat} {ws ws2 : List Nat} {v v' : Value} {x : Int} (h : KAs w0 n ws ws2 v W) (hx : 0 ≤ x ∧ x < (n : Int)) (t : (x ∈ markL ws2 n ∧ v' = v ∧ AtRel W W') ∨ (x ∉ markL ws2 n ∧ WithOut W x (markL ws2 n) v' W')) : KAs w0 n ws (setB ws2 x.toNat) v' W' := by
  have hq : x.toNat / 64 < ws2.length := by have := h.mm.room; have := h.len2; omega
  have hy : x.toNat < n := by omega
  rcases t with ⟨hm, rfl, hr⟩ | ⟨hm, hbw, i, hi, h1, h2, hown⟩
  · have e : setB ws2 x.toNat = ws2 := by
      unfold setB
      rw [if_pos (mem_markL.1 hm).2]
    rw [e]
    exact h.at hr
  · have hb : bitW ws2 x.toNat = false := by
      cases hb : bitW ws2 x.toNat with
      | true => exact absurd (mem_markL.2 ⟨hx, hb⟩) hm
      | false => rfl
    have e : setB ws2 x.toNat = flipW ws2 x.toNat := by
      unfold setB
      rw [if_neg (by rw [hb]; simp)]
    have k := h.below hbw
    rw [e]
    refine ⟨k.bel, k.mm, ?_, k.size, k.clean, h.clean2.flip hy hq, by simp [flipW]; exact h.len2⟩
    rw [← markL_with hx.1 hx.2 hq hb h1 h2]
    exact Own.weak hown h.size
noncomputable def body1S : Code := match (Try.f4.body.getD .skip) with
  | .seq _ (.seq _ (.seq _ (.seq _ (.seq (.seq _ (.block _ (.loop c))) _)))) => c
  | _ => .skip
theorem round1S {Q : Exit → Act → World → Prop} (len cap sb so j n : Nat) (x : Int) (w0 w2 : World) (ws : List Nat) (v : Value) (hl : j < len) (h60 : j < 50)
    (hx : w2.cell? ⟨sb, so + j, none⟩ = some (.int .i64 x)) (hsb : sb < w0.heap.size) (hck : KAs w0 n ws ws v w2) {v2 v3 v4 v5 v6 v8 v11 v12 v13 v14 v15 v16 v17 v18 v19 v20 v21 v22 v23 v24 v25 v26 v27 v28 v29 v30 v31 v32 v33 v34 v35 v36 v37 v38 v39 v40 v41 v42 v43 v44 v45 v46 v47 v48 v49 v50 v51 v52 v53 v54 v55 v56 v57 v58 v59 v60 v61 v62 v63 v64 v65 v66 v67 v68 v69 v70 v71 v72 v73 v74 v75 v76 v77 v78 v79 v80 v81 v82 v83 v84 v85 v86 v87 v88 v89 v90 v91 v92 v93 v94 v95 v96 v97 v98 v99 v100 v101 v102 v103 v104 v105 v106 v107 v108 v109 v110 v111 v112 v113 v114 v115 v116 v117 v118 v119 v120 v121 v122 v123 v124 v125 v126 v127 v128 v129 v130 v131 v132 v133 v134 v135 v136 v137 v138 v139 v140 v141 v142 v143 v144 v145 v146 v147 v148 v149 v150 : Value}
    (hQ : ∀ (T : Array Value) (ws' : List Nat) (v' : Value) (w' : World), T.size = 151 → T[0]? = some (.int .i64 n) → T[1]? = some (.slice (some ⟨sb, so, none⟩) len cap) → T[2]? = some v2 → T[7]? = some (.pointer (some ⟨w0.heap.size + 1, 0, none⟩)) → T[9]? = some v' → T[10]? = some (.int .i64 ((j : Int) + 1)) → KAs w0 n ws' ws' v' w' → Q .normal ⟨T, []⟩ w') :
    CodeW Try.prog true AtRel (DP0 (blkS (fun _ => False))) 4 body1S Q ⟨List.toArray (.int .i64 n :: .slice (some ⟨sb, so, none⟩) len cap :: v2 :: v3 :: v4 :: v5 :: v6 :: .pointer (some ⟨w0.heap.size + 1, 0, none⟩) :: v8 :: v :: .int .i64 j :: v11 :: v12 :: v13 :: v14 :: v15 :: v16 :: v17 :: v18 :: v19 :: v20 :: v21 :: v22 :: v23 :: v24 :: v25 :: v26 :: v27 :: v28 :: v29 :: v30 :: v31 :: v32 :: v33 :: v34 :: v35 :: v36 :: v37 :: v38 :: v39 :: v40 :: v41 :: v42 :: v43 :: v44 :: v45 :: v46 :: v47 :: v48 :: v49 :: v50 :: v51 :: v52 :: v53 :: v54 :: v55 :: v56 :: v57 :: v58 :: v59 :: v60 :: v61 :: v62 :: v63 :: v64 :: v65 :: v66 :: v67 :: v68 :: v69 :: v70 :: v71 :: v72 :: v73 :: v74 :: v75 :: v76 :: v77 :: v78 :: v79 :: v80 :: v81 :: v82 :: v83 :: v84 :: v85 :: v86 :: v87 :: v88 :: v89 :: v90 :: v91 :: v92 :: v93 :: v94 :: v95 :: v96 :: v97 :: v98 :: v99 :: v100 :: v101 :: v102 :: v103 :: v104 :: v105 :: v106 :: v107 :: v108 :: v109 :: v110 :: v111 :: v112 :: v113 :: v114 :: v115 :: v116 :: v117 :: v118 :: v119 :: v120 :: v121 :: v122 :: v123 :: v124 :: v125 :: v126 :: v127 :: v128 :: v129 :: v130 :: v131 :: v132 :: v133 :: v134 :: v135 :: v136 :: v137 :: v138 :: v139 :: v140 :: v141 :: v142 :: v143 :: v144 :: v145 :: v146 :: v147 :: v148 :: v149 :: v150 :: []), []⟩ w2 := by
  have T9 := termsP (blkS (fun _ => False))
  have hS : ∀ l, ¬ blkS (fun _ => False) l := fun l ⟨_, _, h⟩ => h
  have hF := atRel_refl w2
  rw [show body1S = _ from (by unfold body1S; simp only [Try.f4, Option.getD_some]; try rfl)]
  have e9 : decide ((j : Int) < (len : Int)) = true := decide_eq_true (by omega)
  have e8 : decide ((j : Int) < 50) = true := decide_eq_true (by omega)
  have q1 : (j : Int) < (len : Int) := by omega
  have d7 : IntKind.i64.wrap ((j : Int) + 1) = (j : Int) + 1 := by rw [IntKind.wrap_i64]; omega
  have hsb2 : RowKit.Hid (sb < w0.heap.size) := hsb
  clear hsb
  (refine codeW_seq T9 ?_)
  (refine codeW_seq T9 ?_)
  (refine codeW_region T9 ?_; simp only [List.size_toArray, List.length_cons, List.length_nil, Nat.reduceAdd, Nat.zero_add, List.range, List.range.loop])
  repeat (first | (refine opsW_unwanted T9 rfl (by rfl) ?_; try walk_nrm) | (refine opsW_cons rfl (by rfl) ?_; intro _ hR K hK; replace hF := atRel_trans _ _ _ hF hR; clear hR; have hs9 := atRel_size hF; go_simp; refine hK _ _ ⟨?_, ?_⟩; (· rw [listed_nil (by simp [go_sem, *])]; exact dp0_nil); clear hK K hs9; try walk_nrm))
  (refine opsW_nil T9 ?_; simp only [Exit.then, Exit.inBlock, Exit.thenX])
  ((first | refine codeW_cond T9 (t := true) rfl ?_ | refine codeW_cond T9 (t := false) rfl ?_); simp only [if_true, if_false, Bool.false_eq_true, ↓reduceIte])
  (refine codeW_skip T9 ?_; simp only [Exit.then, Exit.inBlock, Exit.thenX])
  (refine codeW_seq T9 ?_)
  (refine codeW_block T9 ?_)
  (refine codeW_seq T9 ?_)
  (refine codeW_region T9 ?_; simp only [List.size_toArray, List.length_cons, List.length_nil, Nat.reduceAdd, Nat.zero_add, List.range, List.range.loop])
  repeat (first | (refine opsW_unwanted T9 rfl (by rfl) ?_; try walk_nrm) | (refine opsW_cons rfl (by rfl) ?_; intro _ hR K hK; replace hF := atRel_trans _ _ _ hF hR; clear hR; have hs9 := atRel_size hF; go_simp; refine hK _ _ ⟨?_, ?_⟩; (· rw [listed_nil (by simp [go_sem, *])]; exact dp0_nil); clear hK K hs9; try walk_nrm))
  have hc1 := hx
  (refine opsW_cons rfl (by rfl) ?_; intro _ hR K hK; replace hF := atRel_trans _ _ _ hF hR; clear hR; have hl9 := (atRel_cell hF _).trans hc1; go_simp; refine hK _ _ ⟨?_, ?_⟩; (· intro e he; have hm := mem_listed he; simp [go_sem, hl9] at hm; rw [hm]; exact evP_cell _ (hS _)); clear hK K hl9; try walk_nrm)
  clear hc1
  obtain ⟨q, rfl⟩ := hF
  co_apply opsW_call T9 rfl (by rfl) rfl
  · walk_nrm
    exact claim14_W (hck.mm.at ⟨q, rfl⟩) x (fun o => hS _)
  rintro r w3 ht
  have hkc := (hck.at ⟨q, rfl⟩).claim ht
  have hx3 : w3.cell? ⟨sb, so + j, none⟩ = some (.int .i64 x) := by
    rw [cell_same (hkc.bel.block sb hsb2.out), ← cell_same (hck.bel.block sb hsb2.out)]
    exact hx
  clear ht hck hx
  have hF := atRel_refl w3
  walk_nrm
  (refine opsW_nil T9 ?_; simp only [Exit.then, Exit.inBlock, Exit.thenX])
  clear e9 e8
  by_cases h0 : 0 ≤ x
  · have e0 : decide (0 ≤ x) = true := decide_eq_true h0
    by_cases h1 : x < (n : Int)
    · have e1 : decide (x < (n : Int)) = true := decide_eq_true h1
      rw [if_pos ⟨h0, h1⟩] at hkc
      have hr : RowKit.Hid (0 ≤ x ∧ x < (n : Int)) := ⟨h0, h1⟩
      clear h0 h1
      obtain ⟨A, g, c, rfl, hlc, hg, hbg, hsl, hA⟩ := Own.open2 hkc.own
      have hln : (markL ws n).length ≤ 65536 := Nat.le_trans (markL_len ws n) hkc.mm.few
      replace hA : RowKit.Hid _ := hA
      replace hkc : RowKit.Hid _ := hkc
      (refine codeW_seq T9 ?_)
      (refine codeW_region T9 ?_; simp only [List.size_toArray, List.length_cons, List.length_nil, Nat.reduceAdd, Nat.zero_add, List.range, List.range.loop])
      repeat (first | (refine opsW_unwanted T9 rfl (by rfl) ?_; try walk_nrm) | (refine opsW_cons rfl (by rfl) ?_; intro _ hR K hK; replace hF := atRel_trans _ _ _ hF hR; clear hR; have hs9 := atRel_size hF; go_simp; refine hK _ _ ⟨?_, ?_⟩; (· rw [listed_nil (by simp [go_sem, *])]; exact dp0_nil); clear hK K hs9; try walk_nrm))
      have hc1 := hx3
      (refine opsW_cons rfl (by rfl) ?_; intro _ hR K hK; replace hF := atRel_trans _ _ _ hF hR; clear hR; have hl9 := (atRel_cell hF _).trans hc1; go_simp; refine hK _ _ ⟨?_, ?_⟩; (· intro e he; have hm := mem_listed he; simp [go_sem, hl9] at hm; rw [hm]; exact evP_cell _ (hS _)); clear hK K hl9; try walk_nrm)
      repeat (first | (refine opsW_unwanted T9 rfl (by rfl) ?_; try walk_nrm) | (refine opsW_cons rfl (by rfl) ?_; intro _ hR K hK; replace hF := atRel_trans _ _ _ hF hR; clear hR; have hs9 := atRel_size hF; go_simp; refine hK _ _ ⟨?_, ?_⟩; (· rw [listed_nil (by simp [go_sem, *])]; exact dp0_nil); clear hK K hs9; try walk_nrm))
      (refine opsW_cons rfl (by rfl) ?_; intro _ hR K hK; replace hF := atRel_trans _ _ _ hF hR; clear hR; have hl9 := (atRel_cell hF _).trans hc1; go_simp; refine hK _ _ ⟨?_, ?_⟩; (· intro e he; have hm := mem_listed he; simp [go_sem, hl9] at hm; rw [hm]; exact evP_cell _ (hS _)); clear hK K hl9; try walk_nrm)
      repeat (first | (refine opsW_unwanted T9 rfl (by rfl) ?_; try walk_nrm) | (refine opsW_cons rfl (by rfl) ?_; intro _ hR K hK; replace hF := atRel_trans _ _ _ hF hR; clear hR; have hs9 := atRel_size hF; go_simp; refine hK _ _ ⟨?_, ?_⟩; (· rw [listed_nil (by simp [go_sem, *])]; exact dp0_nil); clear hK K hs9; try walk_nrm))
      (refine opsW_nil T9 ?_; simp only [Exit.then, Exit.inBlock, Exit.thenX])
      ((first | refine codeW_cond T9 (t := true) rfl ?_ | refine codeW_cond T9 (t := false) rfl ?_); simp only [if_true, if_false, Bool.false_eq_true, ↓reduceIte])
      (refine codeW_region T9 ?_; simp only [List.size_toArray, List.length_cons, List.length_nil, Nat.reduceAdd, Nat.zero_add, List.range, List.range.loop])
      repeat (first | (refine opsW_unwanted T9 rfl (by rfl) ?_; try walk_nrm) | (refine opsW_cons rfl (by rfl) ?_; intro _ hR K hK; replace hF := atRel_trans _ _ _ hF hR; clear hR; have hs9 := atRel_size hF; go_simp; refine hK _ _ ⟨?_, ?_⟩; (· rw [listed_nil (by simp [go_sem, *])]; exact dp0_nil); clear hK K hs9; try walk_nrm))
      (refine opsW_cons rfl (by rfl) ?_; intro _ hR K hK; replace hF := atRel_trans _ _ _ hF hR; clear hR; have hl9 := (atRel_cell hF _).trans hc1; go_simp; refine hK _ _ ⟨?_, ?_⟩; (· intro e he; have hm := mem_listed he; simp [go_sem, hl9] at hm; rw [hm]; exact evP_cell _ (hS _)); clear hK K hl9; try walk_nrm)
      clear hc1
      obtain ⟨q2, rfl⟩ := hF
      co_apply opsW_call T9 rfl (by rfl) rfl
      · walk_nrm
        exact with15_W x (hsl.at ⟨q2, rfl⟩) hA.out hlc hg (fun a _ => hS _) (fun a _ => hS _) (by omega)
      rintro v' w' ht2
      have hk2 := (hkc.out.at ⟨q2, rfl⟩).with hr.out ht2
      clear ht2 hkc hsl hg
      have hF := atRel_refl w'
      walk_nrm
      (refine opsW_cons rfl (by rfl) ?_; intro _ hR K hK; replace hF := atRel_trans _ _ _ hF hR; clear hR; have hs9 := atRel_size hF; go_simp; refine hK _ _ ⟨?_, ?_⟩; (· rw [listed_nil (by simp [go_sem, *])]; exact dp0_nil); clear hK K hs9; try walk_nrm)
      (refine opsW_nil T9 ?_; simp only [Exit.then, Exit.inBlock, Exit.thenX])
      (refine codeW_region T9 ?_; simp only [List.size_toArray, List.length_cons, List.length_nil, Nat.reduceAdd, Nat.zero_add, List.range, List.range.loop])
      repeat (first | (refine opsW_unwanted T9 rfl (by rfl) ?_; try walk_nrm) | (refine opsW_cons rfl (by rfl) ?_; intro _ hR K hK; replace hF := atRel_trans _ _ _ hF hR; clear hR; have hs9 := atRel_size hF; go_simp; refine hK _ _ ⟨?_, ?_⟩; (· rw [listed_nil (by simp [go_sem, *])]; exact dp0_nil); clear hK K hs9; try walk_nrm))
      exact opsW_nil T9 (hQ _ _ v' _ (by rfl) (by rfl) (by rfl) (by rfl) (by rfl) (by rfl) (by rfl) (hk2.at hF))
    · have e1 : decide (x < (n : Int)) = false := decide_eq_false h1
      rw [if_neg (fun h => h1 h.2)] at hkc
      clear h0 h1
      replace hkc : RowKit.Hid _ := hkc
      (refine codeW_seq T9 ?_)
      (refine codeW_region T9 ?_; simp only [List.size_toArray, List.length_cons, List.length_nil, Nat.reduceAdd, Nat.zero_add, List.range, List.range.loop])
      repeat (first | (refine opsW_unwanted T9 rfl (by rfl) ?_; try walk_nrm) | (refine opsW_cons rfl (by rfl) ?_; intro _ hR K hK; replace hF := atRel_trans _ _ _ hF hR; clear hR; have hs9 := atRel_size hF; go_simp; refine hK _ _ ⟨?_, ?_⟩; (· rw [listed_nil (by simp [go_sem, *])]; exact dp0_nil); clear hK K hs9; try walk_nrm))
      have hc1 := hx3
      (refine opsW_cons rfl (by rfl) ?_; intro _ hR K hK; replace hF := atRel_trans _ _ _ hF hR; clear hR; have hl9 := (atRel_cell hF _).trans hc1; go_simp; refine hK _ _ ⟨?_, ?_⟩; (· intro e he; have hm := mem_listed he; simp [go_sem, hl9] at hm; rw [hm]; exact evP_cell _ (hS _)); clear hK K hl9; try walk_nrm)
      repeat (first | (refine opsW_unwanted T9 rfl (by rfl) ?_; try walk_nrm) | (refine opsW_cons rfl (by rfl) ?_; intro _ hR K hK; replace hF := atRel_trans _ _ _ hF hR; clear hR; have hs9 := atRel_size hF; go_simp; refine hK _ _ ⟨?_, ?_⟩; (· rw [listed_nil (by simp [go_sem, *])]; exact dp0_nil); clear hK K hs9; try walk_nrm))
      (refine opsW_cons rfl (by rfl) ?_; intro _ hR K hK; replace hF := atRel_trans _ _ _ hF hR; clear hR; have hl9 := (atRel_cell hF _).trans hc1; go_simp; refine hK _ _ ⟨?_, ?_⟩; (· intro e he; have hm := mem_listed he; simp [go_sem, hl9] at hm; rw [hm]; exact evP_cell _ (hS _)); clear hK K hl9; try walk_nrm)
      repeat (first | (refine opsW_unwanted T9 rfl (by rfl) ?_; try walk_nrm) | (refine opsW_cons rfl (by rfl) ?_; intro _ hR K hK; replace hF := atRel_trans _ _ _ hF hR; clear hR; have hs9 := atRel_size hF; go_simp; refine hK _ _ ⟨?_, ?_⟩; (· rw [listed_nil (by simp [go_sem, *])]; exact dp0_nil); clear hK K hs9; try walk_nrm))
      clear hc1
      (refine opsW_nil T9 ?_; simp only [Exit.then, Exit.inBlock, Exit.thenX])
      ((first | refine codeW_cond T9 (t := true) rfl ?_ | refine codeW_cond T9 (t := false) rfl ?_); simp only [if_true, if_false, Bool.false_eq_true, ↓reduceIte])
      (refine codeW_skip T9 ?_; simp only [Exit.then, Exit.inBlock, Exit.thenX])
      (refine codeW_region T9 ?_; simp only [List.size_toArray, List.length_cons, List.length_nil, Nat.reduceAdd, Nat.zero_add, List.range, List.range.loop])
      repeat (first | (refine opsW_unwanted T9 rfl (by rfl) ?_; try walk_nrm) | (refine opsW_cons rfl (by rfl) ?_; intro _ hR K hK; replace hF := atRel_trans _ _ _ hF hR; clear hR; have hs9 := atRel_size hF; go_simp; refine hK _ _ ⟨?_, ?_⟩; (· rw [listed_nil (by simp [go_sem, *])]; exact dp0_nil); clear hK K hs9; try walk_nrm))
      exact opsW_nil T9 (hQ _ ws v _ (by rfl) (by rfl) (by rfl) (by rfl) (by rfl) (by rfl) (by rfl) (hkc.out.at hF))
  · have e0 : decide (0 ≤ x) = false := decide_eq_false h0
    rw [if_neg (fun h => h0 h.1)] at hkc
    clear h0
    replace hkc : RowKit.Hid _ := hkc
    (refine codeW_seq T9 ?_)
    (refine codeW_region T9 ?_; simp only [List.size_toArray, List.length_cons, List.length_nil, Nat.reduceAdd, Nat.zero_add, List.range, List.range.loop])
    repeat (first | (refine opsW_unwanted T9 rfl (by rfl) ?_; try walk_nrm) | (refine opsW_cons rfl (by rfl) ?_; intro _ hR K hK; replace hF := atRel_trans _ _ _ hF hR; clear hR; have hs9 := atRel_size hF; go_simp; refine hK _ _ ⟨?_, ?_⟩; (· rw [listed_nil (by simp [go_sem, *])]; exact dp0_nil); clear hK K hs9; try walk_nrm))
    have hc1 := hx3
    (refine opsW_cons rfl (by rfl) ?_; intro _ hR K hK; replace hF := atRel_trans _ _ _ hF hR; clear hR; have hl9 := (atRel_cell hF _).trans hc1; go_simp; refine hK _ _ ⟨?_, ?_⟩; (· intro e he; have hm := mem_listed he; simp [go_sem, hl9] at hm; rw [hm]; exact evP_cell _ (hS _)); clear hK K hl9; try walk_nrm)
    repeat (first | (refine opsW_unwanted T9 rfl (by rfl) ?_; try walk_nrm) | (refine opsW_cons rfl (by rfl) ?_; intro _ hR K hK; replace hF := atRel_trans _ _ _ hF hR; clear hR; have hs9 := atRel_size hF; go_simp; refine hK _ _ ⟨?_, ?_⟩; (· rw [listed_nil (by simp [go_sem, *])]; exact dp0_nil); clear hK K hs9; try walk_nrm))
    clear hc1
    (refine opsW_nil T9 ?_; simp only [Exit.then, Exit.inBlock, Exit.thenX])
    ((first | refine codeW_cond T9 (t := true) rfl ?_ | refine codeW_cond T9 (t := false) rfl ?_); simp only [if_true, if_false, Bool.false_eq_true, ↓reduceIte])
    (refine codeW_skip T9 ?_; simp only [Exit.then, Exit.inBlock, Exit.thenX])
    (refine codeW_region T9 ?_; simp only [List.size_toArray, List.length_cons, List.length_nil, Nat.reduceAdd, Nat.zero_add, List.range, List.range.loop])
    repeat (first | (refine opsW_unwanted T9 rfl (by rfl) ?_; try walk_nrm) | (refine opsW_cons rfl (by rfl) ?_; intro _ hR K hK; replace hF := atRel_trans _ _ _ hF hR; clear hR; have hs9 := atRel_size hF; go_simp; refine hK _ _ ⟨?_, ?_⟩; (· rw [listed_nil (by simp [go_sem, *])]; exact dp0_nil); clear hK K hs9; try walk_nrm))
    exact opsW_nil T9 (hQ _ ws v _ (by rfl) (by rfl) (by rfl) (by rfl) (by rfl) (by rfl) (by rfl) (hkc.out.at hF))
end Go.Proofs.Ytkcknoodcgmndaa
