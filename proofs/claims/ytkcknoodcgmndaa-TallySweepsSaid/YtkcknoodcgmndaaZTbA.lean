import Derived.Test.YtkcknoodcgmndaaZTcE
import Derived.Test.YtkcknoodcgmndaaZSwO
import Derived.Test.YtkcknoodcgmndaaZTcP
import Derived.Test.YtkcknoodcgmndaaZTcC
section
/- the law's awake (chapter 04): called last. -/
namespace Go.Proofs.Ytkcknoodcgmndaa
open Go.Conc Go.RowKit
open Go.ConcN (sumTo)
set_option linter.unusedVariables false
set_option linter.unusedSimpArgs false
set_option maxRecDepth 100000
set_option maxHeartbeats 4000000







theorem heap_alloc_eq (w : World) (ob : Obj) (g : Nat) : (w.alloc ob).heap[g]? = if g = w.heap.size then some ob else w.heap[g]? := by
  show (w.heap.push ob)[g]? = _
  exact Array.getElem?_push
def awI (H : Nat) : SwIn := { l := [[0, 1], [1, 2, 5]], has := true, Mb := H + 1, cap := 1, Wb := H, nn := 3, ws := [0], lA := some ⟨H + 4, 0, none⟩, lb := H + 4, lo := 0, lc := 2, pA := fun j => some ⟨H + 2 + j, 0, none⟩, pd := fun j => H + 2 + j, po := fun _ => 0, pc := fun j => 2 + j }
def awW (w : World) : World := ((((w.alloc (.cells (Array.replicate 1 (.int .u64 0)) 78)).alloc (.cells #[.int .i64 3, .slice (some ⟨w.heap.size, 0, none⟩) 1 1] 74)).alloc (.cells #[.int .i64 0, .int .i64 1] 3)).alloc (.cells #[.int .i64 1, .int .i64 2, .int .i64 5] 3)).alloc (.cells #[.slice (some ⟨w.heap.size + 2, 0, none⟩) 2 2, .slice (some ⟨w.heap.size + 3, 0, none⟩) 3 3] 33)
structure AwAt (w W : World) : Prop where
  size : W.heap.size = w.heap.size + 5
  b0 : W.heap[w.heap.size]? = some (.cells #[.int .u64 0] 78)
  b1 : W.heap[w.heap.size + 1]? = some (.cells #[.int .i64 3, .slice (some ⟨w.heap.size, 0, none⟩) 1 1] 74)
  b2 : W.heap[w.heap.size + 2]? = some (.cells #[.int .i64 0, .int .i64 1] 3)
  b3 : W.heap[w.heap.size + 3]? = some (.cells #[.int .i64 1, .int .i64 2, .int .i64 5] 3)
  b4 : W.heap[w.heap.size + 4]? = some (.cells #[.slice (some ⟨w.heap.size + 2, 0, none⟩) 2 2, .slice (some ⟨w.heap.size + 3, 0, none⟩) 3 3] 33)
theorem awAt (w : World) : AwAt w (awW w) := by
  unfold awW
  refine ⟨by simp only [World.size_alloc], ?_, ?_, ?_, ?_, ?_⟩ <;> simp only [heap_alloc_eq, World.size_alloc] <;> (repeat' split) <;> first | rfl | omega | exact absurd trivial ‹¬True›
theorem awOk {d : Nat → Prop} {n : Nat} {w W : World} (hn : 0 < n) (hd : ∀ b, d b → b < w.heap.size) (h : AwAt w W) : (awI w.heap.size).Ok d n W := by
  have nd : ∀ q, ¬ d (w.heap.size + q) := fun q hq => by have := hd _ hq; omega
  refine ⟨by simp [awI], hn, by simp [awI], by simp [awI], by simp [awI, sumTo], by simp [awI], by simp [awI], fun _ => h.b1, fun _ => h.b0, fun _ => ⟨by show w.heap.size + 1 ≠ w.heap.size; omega, nd 1⟩, fun _ => ⟨rfl, nd 4, fun _ => by show w.heap.size + 4 ≠ w.heap.size; omega⟩, fun j hj => ?_, fun j hj => ?_, fun j q x hx => ?_, fun b hb => by have := hd b hb; rw [h.size]; omega⟩
  · have hj : j = 0 ∨ j = 1 := by have : j < 2 := hj; omega
    rcases hj with rfl | rfl <;> simp [awI, World.cell?, h.b4]
  · exact ⟨⟨by show ¬ d (w.heap.size + 2 + j); rw [Nat.add_assoc]; exact nd _, fun _ => by show w.heap.size + 2 + j ≠ w.heap.size; omega⟩, rfl⟩
  · have hj : j = 0 ∨ j = 1 ∨ 2 ≤ j := by omega
    rcases hj with rfl | rfl | hj
    · have hx : ([0, 1] : List Int)[q]? = some x := hx
      have hq : q = 0 ∨ q = 1 ∨ 2 ≤ q := by omega
      rcases hq with rfl | rfl | hq
      · simp at hx; subst hx; simp [awI, World.cell?, h.b2]
      · simp at hx; subst hx; simp [awI, World.cell?, h.b2]
      · rw [List.getElem?_eq_none (by simpa using hq)] at hx; cases hx
    · have hx : ([1, 2, 5] : List Int)[q]? = some x := hx
      have hq : q = 0 ∨ q = 1 ∨ q = 2 ∨ 3 ≤ q := by omega
      rcases hq with rfl | rfl | rfl | hq
      · simp at hx; subst hx; simp [awI, World.cell?, h.b3]
      · simp at hx; subst hx; simp [awI, World.cell?, h.b3]
      · simp at hx; subst hx; simp [awI, World.cell?, h.b3]
      · rw [List.getElem?_eq_none (by simpa using hq)] at hx; cases hx
    · have : (awI w.heap.size).l.getD j [] = [] := by
        show ([[0, 1], [1, 2, 5]] : List (List Int)).getD j [] = []
        rw [List.getD_eq_getElem?_getD, List.getElem?_eq_none (by simpa using hj)]
        rfl
      rw [this] at hx
      simp at hx
theorem awakeX {Post : Value → World → Prop} (d : Nat → Prop) (n : Nat) (w : World) (hn : 0 < n) (hd : ∀ b, d b → b < w.heap.size) :
    CallX Try.prog Post 12 #[] w ⟨blkS d, n⟩ (fun v w' x' => v = .bool true ∧ Below w.heap.size w w') := by
  have T9 := termsP (blkS d)
  refine ⟨_, _, Try.func12, by kernel_rfl, rfl, ?_⟩
  simp only [Try.ntmps12]
  walk_nrm
  have hF := atRel_refl w
  (refine codeX_seq (codeX_of ?_); (refine codeW_region T9 ?_; simp only [List.size_toArray, List.length_cons, List.length_nil, Nat.reduceAdd, Nat.zero_add, List.range, List.range.loop]))
  repeat (refine opsW_cons rfl (by rfl) ?_; intro _ hR K hK; replace hF := atRel_trans _ _ _ hF hR; clear hR; have hs9 := atRel_size hF; go_simp; refine hK _ _ ⟨?_, ?_⟩; (· rw [listed_nil (by simp [go_sem, *])]; exact dp0_nil); clear hK K hs9; try walk_nrm)
  (refine opsW_nil T9 ?_; simp only [Exit.thenX])
  (refine codeX_seq (codeX_of ?_); (refine codeW_region T9 ?_; simp only [List.size_toArray, List.length_cons, List.length_nil, Nat.reduceAdd, Nat.zero_add, List.range, List.range.loop]))
  co_apply opsW_call T9 rfl (by rfl) rfl
  · walk_nrm
    exact newMarks_W 3 (by omega) _
  rintro _ w' ⟨rfl, hF'⟩
  have hsz := atRel_size hF
  rw [hsz] at hF' ⊢
  replace hF := atRel_trans _ _ _ (atRel_alloc (atRel_alloc hF _) _) hF'
  clear hF' hsz
  walk_nrm
  repeat (refine opsW_cons rfl (by rfl) ?_; intro _ hR K hK; replace hF := atRel_trans _ _ _ hF hR; clear hR; have hs9 := atRel_size hF; go_simp; refine hK _ _ ⟨?_, ?_⟩; (· rw [listed_nil (by simp [go_sem, *])]; exact dp0_nil); clear hK K hs9; try walk_nrm)
  (refine opsW_nil T9 ?_; simp only [Exit.thenX])
  (refine codeX_seq (codeX_region ?_); simp only [List.size_toArray, List.length_cons, List.length_nil, Nat.reduceAdd, Nat.zero_add, List.range, List.range.loop])
  (refine opsX_cons rfl (by rfl) ?_; intro _ hR K hK; replace hF := atRel_trans _ _ _ hF hR; clear hR; have hs9 := atRel_size hF; go_simp; refine hK _ _ ⟨?_, ?_⟩; (· rw [listed_nil (by simp [go_sem, *])]; exact dp0_nil); clear hK K hs9; try walk_nrm)
  (refine opsX_cons rfl (by rfl) ?_; intro _ hR K hK; replace hF := atRel_trans _ _ _ hF hR; clear hR; have hs9 := atRel_size hF; go_simp; refine hK _ _ ⟨?_, ?_⟩; (· rw [listed_nil (by simp [go_sem, *])]; exact dp0_nil); clear hK K hs9; try walk_nrm)
  replace hF := atRel_alloc hF (.cells #[.int .i64 0, .int .i64 1] 3)
  (refine opsX_cons rfl (by rfl) ?_; intro _ hR K hK; replace hF := atRel_trans _ _ _ hF hR; clear hR; have hs9 := atRel_size hF; go_simp; refine hK _ _ ⟨?_, ?_⟩; (· rw [listed_nil (by simp [go_sem, *])]; exact dp0_nil); clear hK K hs9; try walk_nrm)
  replace hF := atRel_alloc hF (.cells #[.int .i64 1, .int .i64 2, .int .i64 5] 3)
  (refine opsX_cons rfl (by rfl) ?_; intro _ hR K hK; replace hF := atRel_trans _ _ _ hF hR; clear hR; have hs9 := atRel_size hF; go_simp; refine hK _ _ ⟨?_, ?_⟩; (· rw [listed_nil (by simp [go_sem, *])]; exact dp0_nil); clear hK K hs9; try walk_nrm)
  replace hF := atRel_alloc hF (.cells #[.slice (some ⟨w.heap.size + 2, 0, none⟩) 2 2, .slice (some ⟨w.heap.size + 3, 0, none⟩) 3 3] 33)
  replace hF : AtRel (awW w) _ := hF
  obtain ⟨q, hq⟩ := hF
  rw [hq]
  clear hq
  have hA : AwAt w ((awW w).at q) := by
    have h := awAt w
    exact ⟨h.size, h.b0, h.b1, h.b2, h.b3, h.b4⟩
  refine opsX_call (Pos := (awI w.heap.size).Out d n ((awW w).at q)) rfl (by rfl) rfl ?_ ?_
  · walk_nrm
    exact sweepX (awI w.heap.size) d n _ (awOk hn hd hA)
  rintro v w' x' ⟨σ, us, rfl, hj, hdone, hwds, hold, henv, hsz, rfl⟩
  obtain ⟨hwon, hlost, hws⟩ := awake_plain hj hdone
  have hwd : w'.heap[w.heap.size]? = some (.cells #[.int .u64 7] 78) := by
    have := hwds rfl
    rw [hws] at this
    exact this
  have hrow : w'.heap[w.heap.size + 1]? = some (.cells #[.int .i64 3, .slice (some ⟨w.heap.size, 0, none⟩) 1 1] 74) := hold _ _ (fun _ => by show w.heap.size + 1 ≠ w.heap.size; omega) hA.b1
  have hS : ∀ o, ¬ blkS (fun b => b = ((awW w).at q).heap.size + 3 ∨ (b = ((awW w).at q).heap.size + 1 ∨ ((awI w.heap.size).has = true ∧ b = (awI w.heap.size).Wb)) ∨ d b) (.cell ⟨w.heap.size + 1, o, none⟩) := by
    rintro o ⟨a, e, h⟩
    injection e with e
    subst e
    have hz := hA.size
    rcases h with h | (h | ⟨_, h⟩) | h
    · have h : w.heap.size + 1 = _ := h
      omega
    · have h : w.heap.size + 1 = _ := h
      omega
    · have h : w.heap.size + 1 = w.heap.size := h
      omega
    · have := hd _ h
      have : w.heap.size + 1 < w.heap.size := this
      omega
  have hbel : Below w.heap.size w w' := by
    have hz := hA.size
    refine ⟨henv.os.trans rfl, henv.tape.trans rfl, henv.output.trans rfl, by omega, fun g hg => ?_⟩
    have e0 : ((awW w).at q).heap[g]? = w.heap[g]? := by
      show (awW w).heap[g]? = w.heap[g]?
      unfold awW
      simp only [heap_alloc_eq, World.size_alloc]
      rw [if_neg (by omega), if_neg (by omega), if_neg (by omega), if_neg (by omega), if_neg (by omega)]
    have e1 : ∃ ob, w.heap[g]? = some ob := ⟨_, Array.getElem?_eq_getElem hg⟩
    obtain ⟨ob, e1⟩ := e1
    rw [e1]
    exact hold g ob (fun _ => by show g ≠ w.heap.size; omega) (e0.trans e1)
  replace hbel : RowKit.Hid _ := hbel
  clear T9 hA hj hdone hwds hold henv hsz
  generalize (fun b => b = ((awW w).at q).heap.size + 3 ∨ (b = ((awW w).at q).heap.size + 1 ∨ ((awI w.heap.size).has = true ∧ b = (awI w.heap.size).Wb)) ∨ d b) = d2 at hS ⊢
  have T9 := termsP (blkS d2)
  have hF := atRel_refl w'
  rw [hwon, hlost, show ((3 : Nat) : Int) = 3 from rfl, show ((2 : Nat) : Int) = 2 from rfl]
  walk_nrm
  repeat (refine opsX_cons rfl (by rfl) ?_; intro _ hR K hK; replace hF := atRel_trans _ _ _ hF hR; clear hR; have hs9 := atRel_size hF; go_simp; refine hK _ _ ⟨?_, ?_⟩; (· rw [listed_nil (by simp [go_sem, *])]; exact dp0_nil); clear hK K hs9; try walk_nrm)
  refine opsX_nil ?_
  simp only [Exit.thenX]
  (refine codeX_seq (codeX_of ?_); (refine codeW_region T9 ?_; simp only [List.size_toArray, List.length_cons, List.length_nil, Nat.reduceAdd, Nat.zero_add, List.range, List.range.loop]))
  repeat (first | (refine opsW_cons rfl (by rfl) ?_; intro _ hR K hK; replace hF := atRel_trans _ _ _ hF hR; clear hR; have hs9 := atRel_size hF; go_simp; refine hK _ _ ⟨?_, ?_⟩; (· rw [listed_nil (by simp [go_sem, *])]; exact dp0_nil); clear hK K hs9; try walk_nrm) | (refine opsW_unwanted T9 rfl (by rfl) ?_; try walk_nrm))
  co_apply opsW_call T9 rfl (by rfl) rfl
  · walk_nrm
    exact count28_W (w.heap.size + 1) w.heap.size 1 [7] (fun v => if v = 7 then 3 else 0) _ ((atRel_cell hF _).trans (by simp [World.cell?, hrow])) hS (fun j x hx => (atRel_cell hF _).trans (by
      have hj : j = 0 ∨ 1 ≤ j := by omega
      rcases hj with rfl | hj
      · simp at hx; subst hx; simp [World.cell?, hwd]
      · rw [List.getElem?_eq_none (by simpa using hj)] at hx; cases hx)) (by simp) (fun v => by split <;> omega) (fun v hv w => by
      obtain rfl : v = 7 := by simpa using hv
      exact ones7_W w)
  rintro _ w2 ⟨rfl, hF'⟩
  replace hF := atRel_trans _ _ _ hF hF'
  clear hF'
  rw [show ((sumTo [7].length (fun j => (fun v => if v = 7 then 3 else 0) ([7].getD j 0)) : Nat) : Int) = 3 from by decide]
  walk_nrm
  repeat (first | (refine opsW_cons rfl (by rfl) ?_; intro _ hR K hK; replace hF := atRel_trans _ _ _ hF hR; clear hR; have hs9 := atRel_size hF; go_simp; refine hK _ _ ⟨?_, ?_⟩; (· rw [listed_nil (by simp [go_sem, *])]; exact dp0_nil); clear hK K hs9; try walk_nrm) | (refine opsW_unwanted T9 rfl (by rfl) ?_; try walk_nrm))
  (refine opsW_nil T9 ?_; simp only [Exit.thenX])
  refine codeX_of (codeW_ret T9 ?_)
  obtain ⟨q2, rfl⟩ := hF
  exact ⟨rfl, _, resultsC_tmp rfl _, rfl, ⟨hbel.out.os, hbel.out.tape, hbel.out.output, hbel.out.size, hbel.out.block⟩⟩
end Go.Proofs.Ytkcknoodcgmndaa

end
section
/- From the judgement across phases to one good run. -/
namespace Go.Proofs.Ytkcknoodcgmndaa
open Go.Conc
set_option linter.unusedVariables false
theorem stepG_ended {P : Program} {f : FuncId} {fn : Func} {a : Act} {todo : List Item} {v : Value} {w : World} (hI : P.inits.idxOf? f = none) (hd : a.defers = []) (hf : P.funcs[f]? = some fn) (hr : (results fn a.tmps).run P w = .ok v w) (he : (results fn a.tmps).events P w #[] = #[]) :
    stepG P true (G { (base f).at a todo with mode := .returning } []) w = .ended (.done v) w #[] := by
  simp [G, stepG, unwind, doReturn, Frame.at, base, hd, hf, hr, he, seen, GStep.after, hI]
theorem solo_runs {P : Program} {Post : Value → World → Prop} {f : FuncId} {args : Array Value} {w : World} (hI : P.inits.idxOf? f = none) (hP : ∀ v w w₁, AtRel w w₁ → Post v w → Post v w₁)
    (h : CallX P Post f args w ⟨blkS (fun _ => False), 1⟩ (fun v w' x' => Post v w')) :
    ∃ N last o w' t', runNT P (N + 1) (solo (G (Frame.enter P f args .normal) []) w) #[] = (.ended o w', t') ∧ runN P N (solo (G (Frame.enter P f args .normal) []) w) = .next last ∧ step P last = .ended o w' ∧ Go.Conc.Good P Post last o w' t' := by
  obtain ⟨fn, cd, hf, hname, hb, hw⟩ := h
  have hend : ∀ (a : Act) (w : World) (x : XS) (todo : List Item), (a.defers = [] ∧ ∃ v, ResultsC P fn a.tmps v ∧ Post v w) → Win P Post x (G { (base f).at a todo with mode := .returning } []) w := by
    rintro a w x todo ⟨hd, v, hr, hp⟩
    exact win_end (.stop fun w₁ h₁ => ⟨rfl, v, #[], stepG_ended hI hd hf (hr w₁).1 (hr w₁).2, fun e he => by simp at he, hP _ _ _ h₁ hp⟩)
  have hwin : Win P Post ⟨blkS (fun _ => False), 1⟩ (G (Frame.enter P f args .normal) []) w := by
    rw [enter_at args hf hb]
    refine hw [] [] fun e a w' x q => ?_
    cases e with
    | normal => exact win_mk rfl fun w₁ h₁ => by rw [stepG_end]; exact ⟨fun e he => by simp at he, (hend a w' x [] q).rely h₁⟩
    | ret => exact fun todo => hend a w' x todo q
    | exit id => exact q.elim
    | goto l => exact q.elim
    | panic ch => exact q.elim
    | outgrown => exact q.elim
  have hF := frm_one P (G (Frame.enter P f args .normal) [])
  exact hwin w (atRel_refl w) #[_] none #[] (fun _ => 0) rfl rfl ⟨hF.L, hF.S.sub (fun l h => h.elim), hF.B⟩
end Go.Proofs.Ytkcknoodcgmndaa

end
section
/- TallyBoard: words; the memory of the law. -/
namespace Go.Proofs.Ytkcknoodcgmndaa
open Go.Conc Go.RowKit
set_option linter.unusedVariables false
set_option linter.unusedSimpArgs false
set_option maxRecDepth 100000
set_option maxHeartbeats 4000000
theorem cons9 {l : List Value} {n : Nat} (h : l.length = n + 1) : ∃ v r, l = v :: r ∧ r.length = n := by
  cases l with
  | nil => simp at h
  | cons v r => exact ⟨v, r, rfl, by simpa using h⟩
structure BdAt (w : World) (f h : Nat → Int) (W : World) : Prop where
  bel : Below w.heap.size w W
  size : w.heap.size + 2 ≤ W.heap.size
  b : ∀ j, j < 16 → W.cell? ⟨w.heap.size, j, none⟩ = some (.int .i64 (f j))
  bz : ∀ j, j < 16 → W.frozen? ⟨w.heap.size, j, none⟩ = false
  n : ∀ j, j < 16 → W.cell? ⟨w.heap.size + 1, j, none⟩ = some (.int .i64 (h j))
  nz : ∀ j, j < 16 → W.frozen? ⟨w.heap.size + 1, j, none⟩ = false
section
variable {w W W' : World} {f h : Nat → Int}
theorem BdAt.at (x : BdAt w f h W) (r : AtRel W W') : BdAt w f h W' := by
  obtain ⟨q, rfl⟩ := r
  exact ⟨⟨x.bel.os, x.bel.tape, x.bel.output, x.bel.size, x.bel.block⟩, x.size, x.b, x.bz, x.n, x.nz⟩
theorem below_alloc {n : Nat} (x : Below n w W) (hn : n ≤ W.heap.size) (o : Obj) : Below n w (W.alloc o) :=
  ⟨x.os, x.tape, x.output, by have := x.size; simp; omega, fun g hg => (Below.heap_alloc _ _ _ (by omega)).trans (x.block g hg)⟩
theorem below_set {n : Nat} (x : Below n w W) (a : Addr) (hn : n ≤ a.block) (v : Value) : Below n w (W.setCell a v) := by
  have y := aside_setCell W a v
  exact ⟨y.os.trans x.os, y.tape.trans x.tape, y.output.trans x.output, by rw [y.size]; exact x.size, fun g hg => (y.block g (by omega)).trans (x.block g hg)⟩
theorem cell_alloc9 (o : Obj) {a : Addr} {v : Value} (hc : W.cell? a = some v) : (W.alloc o).cell? a = some v := by
  have e : (W.alloc o).heap[a.block]? = W.heap[a.block]? := Below.heap_alloc _ _ _ (World.block_lt_of_cell? W _ hc)
  rw [← hc]
  unfold World.cell?
  rw [e]
theorem cell_set9 {a b : Addr} (v : Value) (hn : a.block ≠ b.block) : (W.setCell b v).cell? a = W.cell? a :=
  World.cell?_setCell_other _ _ _ _ (fun e => hn (by rw [e]))
theorem frozen_alloc9 (o : Obj) {a : Addr} (hc : a.block < W.heap.size) : (W.alloc o).frozen? a = W.frozen? a := by
  have e : (W.alloc o).heap[a.block]? = W.heap[a.block]? := Below.heap_alloc _ _ _ hc
  unfold World.frozen?
  rw [e]
theorem BdAt.box (x : BdAt w f h W) (o : Obj) : BdAt w f h (W.alloc o) :=
  ⟨below_alloc x.bel (by have := x.size; omega) o, by have := x.size; simp; omega, fun j hj => cell_alloc9 o (x.b j hj), fun j hj => (frozen_alloc9 o (by have := x.size; show w.heap.size < _; omega)).trans (x.bz j hj),
    fun j hj => cell_alloc9 o (x.n j hj), fun j hj => (frozen_alloc9 o (by have := x.size; show w.heap.size + 1 < _; omega)).trans (x.nz j hj)⟩
theorem BdAt.setBox (x : BdAt w f h W) (a : Addr) (ha : w.heap.size + 2 ≤ a.block) (v : Value) : BdAt w f h (W.setCell a v) :=
  ⟨below_set x.bel a (by omega) v, by rw [(aside_setCell W a v).size]; exact x.size, fun j hj => (cell_set9 v (by show w.heap.size ≠ _; omega)).trans (x.b j hj), fun j hj => (World.frozen?_setCell _ _ _ _).trans (x.bz j hj),
    fun j hj => (cell_set9 v (by show w.heap.size + 1 ≠ _; omega)).trans (x.n j hj), fun j hj => (World.frozen?_setCell _ _ _ _).trans (x.nz j hj)⟩
def fset (f : Nat → Int) (i : Nat) (v : Int) : Nat → Int := fun j => if j = i then v else f j
theorem cell_setq (g i j : Nat) (v : Value) {u : Value} (hc : W.cell? ⟨g, j, none⟩ = some u) : (W.setCell ⟨g, i, none⟩ v).cell? ⟨g, j, none⟩ = if j = i then some v else some u := by
  by_cases e : j = i
  · subst e; rw [if_pos rfl]; exact World.cell?_setCell_same _ _ _ hc
  · rw [if_neg e]; exact (World.cell?_setCell_other _ _ _ _ (by intro h; injection h with h1 h2; exact e h2.symm)).trans hc
theorem BdAt.setB (x : BdAt w f h W) (i : Nat) (v : Int) : BdAt w (fset f i v) h (W.setCell ⟨w.heap.size, i, none⟩ (.int .i64 v)) :=
  ⟨below_set x.bel _ (by show w.heap.size ≤ w.heap.size; omega) _, by rw [(aside_setCell W _ _).size]; exact x.size,
    fun j hj => by rw [cell_setq _ i j _ (x.b j hj)]; unfold fset; split <;> rfl, fun j hj => (World.frozen?_setCell _ _ _ _).trans (x.bz j hj),
    fun j hj => (cell_set9 _ (by show w.heap.size + 1 ≠ w.heap.size; omega)).trans (x.n j hj), fun j hj => (World.frozen?_setCell _ _ _ _).trans (x.nz j hj)⟩
end
theorem BdAt.new (w : World) (t u : TypeId) : BdAt w (fun _ => 0) (fun _ => 0) ((w.alloc (.cells (boardC 0 0) t)).alloc (.cells (boardC 0 0) u)) := by
  have k1 : ∀ j, j < 16 → (boardC 0 0)[j]? = some (.int .i64 0) := by
    intro j hj
    match j, hj with
    | 0, _ => rfl
    | 1, _ => rfl
    | 2, _ => rfl
    | 3, _ => rfl
    | 4, _ => rfl
    | 5, _ => rfl
    | 6, _ => rfl
    | 7, _ => rfl
    | 8, _ => rfl
    | 9, _ => rfl
    | 10, _ => rfl
    | 11, _ => rfl
    | 12, _ => rfl
    | 13, _ => rfl
    | 14, _ => rfl
    | 15, _ => rfl
    | n + 16, h => omega
  have h0 : (w.alloc (.cells (boardC 0 0) t)).heap[w.heap.size]? = some (.cells (boardC 0 0) t) := alloc_new w _
  have h1 : ((w.alloc (.cells (boardC 0 0) t)).alloc (.cells (boardC 0 0) u)).heap[w.heap.size]? = some (.cells (boardC 0 0) t) := (Below.heap_alloc _ _ _ (by simp)).trans h0
  have h2 : ((w.alloc (.cells (boardC 0 0) t)).alloc (.cells (boardC 0 0) u)).heap[w.heap.size + 1]? = some (.cells (boardC 0 0) u) := by
    have := alloc_new (w.alloc (.cells (boardC 0 0) t)) (.cells (boardC 0 0) u)
    simpa using this
  refine ⟨⟨rfl, rfl, rfl, by simp; omega, fun g hg => (Below.heap_alloc _ _ _ (by simp; omega)).trans (Below.heap_alloc _ _ _ hg)⟩, by simp, fun j hj => ?_, fun j hj => ?_, fun j hj => ?_, fun j hj => ?_⟩
  · simp only [World.cell?, h1]; exact k1 j hj
  · simp only [World.frozen?, h1]; simp
  · simp only [World.cell?, h2]; exact k1 j hj
  · simp only [World.frozen?, h2]; simp
end Go.Proofs.Ytkcknoodcgmndaa

end
