/- TallySweeps: the law's end. -/
import Derived.Test.YtkcknoodcgmndaaZSzC
import Derived.Test.YtkcknoodcgmndaaZTnC
import Derived.Test.YtkcknoodcgmndaaZRfG
import Derived.Test.YtkcknoodcgmndaaZReB
namespace Go.Proofs.Ytkcknoodcgmndaa
open Go.Conc Go.RowKit
open Go.ConcN (sumTo)
set_option linter.unusedVariables false
set_option linter.unusedSimpArgs false
set_option maxRecDepth 100000
set_option maxHeartbeats 8000000

















def swI (w0 : World) (n : Nat) (ws : List Nat) (l : List (List Int)) (A : Option Addr) (cap lb lo : Nat) (pA : Nat → Option Addr) (pd po pc : Nat → Nat) : SwIn :=
  { l := l, has := true, Mb := w0.heap.size + 1, cap := (n + 63) / 64, Wb := w0.heap.size, nn := n, ws := ws, lA := A, lb := lb, lo := lo, lc := cap, pA := pA, pd := pd, po := po, pc := pc }
theorem swOk2 {w0 W : World} {n : Nat} {ws ws2 : List Nat} {v : Value} {l : List (List Int)} {A : Option Addr} {cap lb lo : Nat} {pA : Nat → Option Addr} {pd po pc : Nat → Nat} (h : LsIn w0 l A lb lo pA pd po pc) (h8 : l.length ≤ 8) (hk : KAs w0 n ws ws2 v W) : (swI w0 n ws l A cap lb lo pA pd po pc).Ok (fun _ => False) 1 W where
  few := by show l.length < _; omega
  hn := by decide
  room := hk.mm.room
  few2 := hk.mm.few
  small := by
    show sumTo l.length (fun j => (l.getD j []).length) < _
    have := sum_le9 (fun j => (l.getD j []).length) _ h.small l.length
    have : l.length * 17592186044416 ≤ 8 * 17592186044416 := Nat.mul_le_mul_right _ h8
    omega
  no := fun h => by simp [swI] at h
  rng := fun v hv => hk.mm.rng v hv
  row := fun _ => hk.mm.row
  wds := fun _ => hk.mm.wds
  rowW := fun _ => ⟨hk.mm.ne, fun h => h⟩
  lA := fun hl => ⟨(h.lA hl).1, fun h => h, fun _ => by have := (h.lA hl).2; show lb ≠ w0.heap.size; omega⟩
  list := fun j hj => (cell_same (hk.bel.block lb (h.lA (Nat.lt_of_le_of_lt (Nat.zero_le _) hj)).2) _).trans (h.list j hj)
  part := fun j hj => ⟨⟨fun h => h, fun _ => by have := (h.part j hj).1; show pd j ≠ w0.heap.size; omega⟩, (h.part j hj).2⟩
  data := fun j q x hx => by
    have hne : l.getD j [] ≠ [] := by intro e; rw [show (swI w0 n ws l A cap lb lo pA pd po pc).l = l from rfl, e] at hx; simp at hx
    exact (cell_same (hk.bel.block (pd j) (h.part j hne).1) _).trans (h.data j q x hx)
  dead := fun b hb => hb.elim
theorem sweepsEnd {Post : Value → World → Prop} (n : Nat) (l : List (List Int)) (A : Option Addr) (cap lb lo : Nat) (pA : Nat → Option Addr) (pd po pc : Nat → Nat) (w0 w1 : World) (ws ws2 : List Nat) (v : Value) (T : Array Value) (hin : LsIn w0 l A lb lo pA pd po pc) (h8 : l.length ≤ 8) (hk : KAs w0 n ws ws2 v w1)
    (hb : ∀ k, k < n → (bitW ws2 k = true ↔ bitW ws k = true ∨ ∃ j, j < l.length ∧ (k : Int) ∈ l.getD j []))
    (hT : T.size = 151) (t0 : T[0]? = some (.int .i64 n)) (t2 : T[2]? = some (.slice A l.length cap)) (t7 : T[7]? = some (.pointer (some ⟨w0.heap.size + 1, 0, none⟩))) (t9 : T[9]? = some v) (t11 : T[11]? = some (.int .i64 ((markL ws n).length : Int))) (t12 : T[12]? = some (.int .i64 ((sumTo l.length (fun j => (l.getD j []).length) : Nat) : Int))) :
    CodeX Try.prog Post 4 end2S (fun e a w' x => bodyPostC Try.prog Try.f4 (fun v w3 => v = .bool true ∧ Below w0.heap.size w0 w3) e a w') ⟨T, []⟩ w1 ⟨blkS (fun _ => False), 1⟩ := by
  have T9 := termsP (blkS (fun _ => False))
  revert t0 t2 t7 t9 t11 t12
  apply arr151E hT
  intro v0 v1 v2 v3 v4 v5 v6 v7 v8 v9 v10 v11 v12 v13 v14 v15 v16 v17 v18 v19 v20 v21 v22 v23 v24 v25 v26 v27 v28 v29 v30 v31 v32 v33 v34 v35 v36 v37 v38 v39 v40 v41 v42 v43 v44 v45 v46 v47 v48 v49 v50 v51 v52 v53 v54 v55 v56 v57 v58 v59 v60 v61 v62 v63 v64 v65 v66 v67 v68 v69 v70 v71 v72 v73 v74 v75 v76 v77 v78 v79 v80 v81 v82 v83 v84 v85 v86 v87 v88 v89 v90 v91 v92 v93 v94 v95 v96 v97 v98 v99 v100 v101 v102 v103 v104 v105 v106 v107 v108 v109 v110 v111 v112 v113 v114 v115 v116 v117 v118 v119 v120 v121 v122 v123 v124 v125 v126 v127 v128 v129 v130 v131 v132 v133 v134 v135 v136 v137 v138 v139 v140 v141 v142 v143 v144 v145 v146 v147 v148 v149 v150 t0 t2 t7 t9 t11 t12
  simp only [List.getElem?_toArray, List.getElem?_cons_succ, List.getElem?_cons_zero, Option.some.injEq] at t0 t2 t7 t9 t11 t12
  obtain ⟨A', g, c, e1, hlc, hg, hbg, hsl, hA⟩ := Own.open2 hk.own
  subst e1
  subst t0 t2 t7 t9 t11 t12
  have hF := atRel_refl w1
  rw [show end2S = _ from (by unfold end2S rest1S; simp only [Try.f4, Option.getD_some]; try rfl)]
  have hsm := sum_le9 (fun j => (l.getD j []).length) _ hin.small l.length
  have hsm2 : l.length * 17592186044416 ≤ 8 * 17592186044416 := Nat.mul_le_mul_right _ h8
  generalize hs : sumTo l.length (fun j => (l.getD j []).length) = s at *
  generalize hwl : (markL ws n).length = wl
  generalize hal : (markL ws2 n).length = al at *
  have hal6 : al ≤ 65536 := by rw [← hal]; exact Nat.le_trans (markL_len ws2 n) hk.mm.few
  replace hs : RowKit.Hid _ := hs
  replace hwl : RowKit.Hid _ := hwl
  replace hal : RowKit.Hid _ := hal
  replace hA : RowKit.Hid _ := hA
  (refine codeX_seq ?_)
  refine codeX_region ?_
  simp only [List.size_toArray, List.length_cons, List.length_nil, Nat.reduceAdd, Nat.zero_add, List.range, List.range.loop]
  (refine opsX_cons rfl (by rfl) ?_; intro _ hR K hK; replace hF := atRel_trans _ _ _ hF hR; clear hR; have hs9 := atRel_size hF; go_simp; refine hK _ _ ⟨?_, ?_⟩; (· rw [listed_nil (by simp [go_sem, *])]; exact dp0_nil); clear hK K hs9; try walk_nrm)
  (refine opsX_cons rfl (by rfl) ?_; intro _ hR K hK; replace hF := atRel_trans _ _ _ hF hR; clear hR; have hs9 := atRel_size hF; go_simp; refine hK _ _ ⟨?_, ?_⟩; (· rw [listed_nil (by simp [go_sem, *])]; exact dp0_nil); clear hK K hs9; try walk_nrm)
  obtain ⟨q, rfl⟩ := hF
  have hk1 := hk.at (W' := w1.at q) ⟨q, rfl⟩
  refine opsX_call (Pos := (swI w0 n ws l A cap lb lo pA pd po pc).Out (fun _ => False) 1 (w1.at q)) rfl (by rfl) rfl ?_ ?_
  · walk_nrm
    exact sweepX (swI w0 n ws l A cap lb lo pA pd po pc) (fun _ => False) 1 _ (swOk2 hin h8 hk1)
  rintro v9 w9 x' ⟨σ, us, rfl, hj, hdone, hwds, hold, henv, hsz, rfl⟩
  have hsp : Clean σ.ws n ∧ σ.ws.length = ws.length ∧ markL σ.ws n = markL ws2 n ∧ σ.won + (markL ws n).length = (markL ws2 n).length ∧ σ.won + σ.lost = sumTo l.length (fun i => (l.getD i []).length) := sweep_plain (n := n) (ws := ws) (ws2 := ws2) hj hdone hk.clean hk.clean2 hk.mm.room hk.len2 hb
  obtain ⟨hcl9, hlen9, hmk9, hwon, htot⟩ := hsp
  rw [hwl.out, hal.out] at hwon
  rw [hs.out] at htot
  have hz : (w1.at q).heap.size = w1.heap.size := rfl
  have hs2 := hk.size
  have hbl : ∀ g, g < w1.heap.size → g ≠ w0.heap.size → w9.heap[g]? = w1.heap[g]? := by
    intro g hg hne
    obtain ⟨ob, e1⟩ : ∃ ob, w1.heap[g]? = some ob := ⟨_, Array.getElem?_eq_getElem hg⟩
    rw [e1]
    exact hold g ob (fun _ => hne) e1
  have hmm9 : MkMem w9 (w0.heap.size + 1) w0.heap.size n ((n + 63) / 64) σ.ws := by
    refine ⟨?_, hwds rfl, hk.mm.ne, fun v hv => hj.rng v hv, by rw [hlen9]; exact hk.mm.room, hk.mm.few, by rw [hlen9]; exact hk.mm.lim⟩
    rw [hbl _ (by omega) (by omega), hlen9]
    exact hk.mm.row
  have hbel : Below w0.heap.size w0 w9 :=
    ⟨henv.os.trans hk1.bel.os, henv.tape.trans hk1.bel.tape, henv.output.trans hk1.bel.output, by have := hk1.bel.size; omega, fun g hg => (hbl g (by omega) (by omega)).trans (hk.bel.block g hg)⟩
  have hsl9 : SlI w9 A' (if 0 < (markL ws2 n).length then g else w0.heap.size + 1) (markL ws2 n) := by
    refine ⟨fun h => by rw [if_pos h]; exact hsl.at_ h, fun q x hx => ?_⟩
    have h0 : 0 < (markL ws2 n).length := by have := (List.getElem?_eq_some_iff.1 hx).1; omega
    rw [if_pos h0, cell_same (hbl g (hg (by have := hal.out; omega)) (by omega))]
    exact hsl.cell q x hx
  generalize hdq : (fun b => b = (w1.at q).heap.size + 3 ∨ (b = (w1.at q).heap.size + 1 ∨ ((swI w0 n ws l A cap lb lo pA pd po pc).has = true ∧ b = (swI w0 n ws l A cap lb lo pA pd po pc).Wb)) ∨ False) = d2
  have hd2 : RowKit.Hid (∀ b, d2 b → b < w9.heap.size) := by
    subst hdq
    rintro b (h | (h | ⟨_, h⟩) | h)
    · omega
    · omega
    · have h : b = w0.heap.size := h
      omega
    · exact h.elim
  have hnd : RowKit.Hid (∀ b, w0.heap.size + 1 ≤ b → b < w1.heap.size → ¬ d2 b) := by
    subst hdq
    rintro b h1 h2 (h | (h | ⟨_, h⟩) | h)
    · omega
    · omega
    · have h : b = w0.heap.size := h
      omega
    · exact h.elim
  have hgs : RowKit.Hid (¬ d2 (if 0 < (markL ws2 n).length then g else w0.heap.size + 1)) := by
    by_cases h0 : 0 < (markL ws2 n).length
    · rw [if_pos h0]
      exact hnd.out g (by omega) (hg (by have := hal.out; omega))
    · rw [if_neg h0]
      exact hnd.out _ (Nat.le_refl _) (by omega)
  have hnm : RowKit.Hid (¬ d2 (w0.heap.size + 1)) := hnd.out _ (Nat.le_refl _) (by omega)
  have d1 : IntKind.i64.wrap ((al : Int) - (wl : Int)) = (σ.won : Int) := by rw [IntKind.wrap_i64]; omega
  have d2' : IntKind.i64.wrap ((s : Int) - (σ.won : Int)) = (σ.lost : Int) := by rw [IntKind.wrap_i64]; omega
  generalize (σ.won : Int) = won at d1 d2' ⊢
  generalize (σ.lost : Int) = lost at d2' ⊢
  generalize (if 0 < (markL ws2 n).length then g else w0.heap.size + 1) = g9 at hsl9 hgs
  replace hbel : RowKit.Hid _ := hbel
  replace hmm9 : RowKit.Hid _ := hmm9
  replace hmk9 : RowKit.Hid _ := hmk9
  have hal7 : RowKit.Hid (al ≤ 65536) := hal6
  clear T9 hj hdone hwds hold henv hsz hz hs hdq hcl9 hlen9 hwon htot hbl hk hk1 hsl hg hbg hsm hsm2 hs2 hal6 hnd
  have T9 := termsP (blkS d2)
  have hF := atRel_refl w9
  walk_nrm
  (repeat (first | (refine opsX_unwanted rfl (by rfl) ?_; try walk_nrm) | (refine opsX_cons rfl (by rfl) ?_; intro _ hR K hK; replace hF := atRel_trans _ _ _ hF hR; clear hR; have hs9 := atRel_size hF; go_simp; refine hK _ _ ⟨?_, ?_⟩; (· rw [listed_nil (by simp [go_sem, *])]; exact dp0_nil); clear hK K hs9; try walk_nrm)))
  refine opsX_nil ?_
  simp only [Exit.thenX]
  (refine codeX_seq ?_)
  refine codeX_region ?_
  simp only [List.size_toArray, List.length_cons, List.length_nil, Nat.reduceAdd, Nat.zero_add, List.range, List.range.loop]
  (repeat (first | (refine opsX_unwanted rfl (by rfl) ?_; try walk_nrm) | (refine opsX_cons rfl (by rfl) ?_; intro _ hR K hK; replace hF := atRel_trans _ _ _ hF hR; clear hR; have hs9 := atRel_size hF; go_simp; refine hK _ _ ⟨?_, ?_⟩; (· rw [listed_nil (by simp [go_sem, *])]; exact dp0_nil); clear hK K hs9; try walk_nrm)))
  obtain ⟨q3, rfl⟩ := hF
  co_apply opsX_callW rfl (by rfl) rfl
  · walk_nrm
    exact all18_W (fun r ⟨a, h, _⟩ => by cases h) (fun a ha ⟨b, h, h2⟩ => by
      injection h with h
      subst h
      have h3 := hd2.out _ h2
      have ha : w9.heap.size ≤ a.block := ha
      omega) (fun o ⟨b, h, h2⟩ => by
      injection h with h
      subst h
      exact hnm.out h2) (hmm9.out.at ⟨q3, rfl⟩)
  rintro v3 w3 ⟨hb3, hown3⟩
  have hown9 : Own w9.heap.size w3 v3 (markL ws2 n) := by
    rw [← hmk9.out]
    exact Own.weak (b := (w9.at q3).heap.size + 4) hown3 (by show w9.heap.size ≤ w9.heap.size + 4; omega)
  have hbel3 : RowKit.Hid (Below w0.heap.size w0 w3) := hbel.out.trans ⟨hb3.os, hb3.tape, hb3.output, hb3.size, fun g hg => hb3.block g (by have := hbel.out.size; show g < w9.heap.size; omega)⟩
  have hsl3 : SlI w3 A' g9 (markL ws2 n) := by
    refine ⟨hsl9.at_, fun q x hx => ?_⟩
    have hc := hsl9.cell q x hx
    have hlt := World.block_lt_of_cell? w9 _ hc
    exact (cell_same (hb3.block g9 hlt) q).trans hc
  have hd3 : RowKit.Hid (∀ b, d2 b → b < w3.heap.size) := fun b hb => Nat.lt_of_lt_of_le (hd2.out b hb) hb3.size
  obtain ⟨A2, g2, c2, e2, _, hbg2, _, hsl2⟩ := Own.open hown9
  have hg2 : RowKit.Hid (w9.heap.size ≤ g2) := by assumption
  subst e2
  rw [hal.out]
  clear hb3 hown3 hown9 hbel hsl9
  have hF := atRel_refl w3
  walk_nrm
  (repeat (first | (refine opsX_unwanted rfl (by rfl) ?_; try walk_nrm) | (refine opsX_cons rfl (by rfl) ?_; intro _ hR K hK; replace hF := atRel_trans _ _ _ hF hR; clear hR; have hs9 := atRel_size hF; go_simp; refine hK _ _ ⟨?_, ?_⟩; (· rw [listed_nil (by simp [go_sem, *])]; exact dp0_nil); clear hK K hs9; try walk_nrm)))
  co_apply opsX_callW rfl (by rfl) rfl
  · walk_nrm
    rw [← hal.out]
    exact same17_W (hsl2.at hF) (hsl3.at hF) (fun o ⟨b, h, h2⟩ => by
      injection h with h
      subst h
      have h3 := hd2.out _ h2
      have h4 := hg2.out
      have h3 : g2 < w9.heap.size := h3
      omega) (fun o ⟨b, h, h2⟩ => by
      injection h with h
      subst h
      exact hgs.out h2) (by rw [hal.out]; have := hal7.out; omega)
  rw [show decide (markL ws2 n = markL ws2 n) = true from decide_eq_true rfl]
  rintro _ w' ⟨rfl, hF'⟩
  replace hF := atRel_trans _ _ _ hF hF'
  clear hF'
  walk_nrm
  (repeat (first | (refine opsX_unwanted rfl (by rfl) ?_; try walk_nrm) | (refine opsX_cons rfl (by rfl) ?_; intro _ hR K hK; replace hF := atRel_trans _ _ _ hF hR; clear hR; have hs9 := atRel_size hF; go_simp; refine hK _ _ ⟨?_, ?_⟩; (· rw [listed_nil (by simp [go_sem, *])]; exact dp0_nil); clear hK K hs9; try walk_nrm)))
  obtain ⟨q4, rfl⟩ := hF
  have hb4 : Below w0.heap.size w0 (w3.at q4) := ⟨hbel3.out.os, hbel3.out.tape, hbel3.out.output, hbel3.out.size, hbel3.out.block⟩
  refine opsX_call (Pos := fun v w' x' => v = .bool true ∧ Below w0.heap.size w0 w') rfl (by rfl) rfl ?_ ?_
  · walk_nrm
    obtain ⟨fnn, cd, h1, h2, h3, h4⟩ := awakeX (Post := Post) d2 (1 + (swI w0 n ws l A cap lb lo pA pd po pc).l.length) (w3.at q4) (by omega) hd3.out
    refine ⟨fnn, cd, h1, h2, h3, codeX_mono h4 fun e a w5 x3 y => ?_⟩
    cases e <;> first | exact ⟨y.1, y.2.choose, y.2.choose_spec.1, y.2.choose_spec.2.1, hb4.trans ⟨y.2.choose_spec.2.2.os, y.2.choose_spec.2.2.tape, y.2.choose_spec.2.2.output, y.2.choose_spec.2.2.size, fun g hg => y.2.choose_spec.2.2.block g (Nat.lt_of_lt_of_le hg hb4.size)⟩⟩ | exact y
  rintro _ w' x' ⟨rfl, hbf⟩
  have hF := atRel_refl w'
  clear T9
  have T9 := termsP x'.S
  walk_nrm
  (repeat (first | (refine opsX_unwanted rfl (by rfl) ?_; try walk_nrm) | (refine opsX_cons rfl (by rfl) ?_; intro _ hR K hK; replace hF := atRel_trans _ _ _ hF hR; clear hR; have hs9 := atRel_size hF; go_simp; refine hK _ _ ⟨?_, ?_⟩; (· rw [listed_nil (by simp [go_sem, *])]; exact dp0_nil); clear hK K hs9; try walk_nrm)))
  refine opsX_nil ?_
  simp only [Exit.thenX]
  refine codeX_of (codeW_ret T9 ?_)
  obtain ⟨q5, rfl⟩ := hF
  exact ⟨rfl, _, resultsC_tmp rfl _, rfl, ⟨hbf.os, hbf.tape, hbf.output, hbf.size, hbf.block⟩⟩
end Go.Proofs.Ytkcknoodcgmndaa
