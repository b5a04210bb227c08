import Derived.Test.YtinghnaigpenkaaZAlC
import Derived.Test.YtinghnaigpenkaaZLwB
section
/- Seat 05: all, called: a phase. -/
namespace Go.Proofs.Ytinghnaigpenkaa
open Go.Conc Go.RowKit Go.Conc.Lib Go.ConcR.Gen
open Go.ConcN (WgLive sumTo)
open Go.ConcR (KK wgBlock WgAt stA smA rd wr mk Payload)
set_option linter.unusedVariables false
set_option linter.unusedSimpArgs false
set_option linter.unusedSectionVars false
set_option maxRecDepth 100000
set_option maxHeartbeats 4000000
section
variable {P : Program} {c : Cfg} {lw : Nat} {A A' : Goroutine → World → Prop} {Fin Fin' : Goroutine → World → Prop}
theorem atW1_mono (h : ∀ g w, A g w → A' g w) (g : Goroutine) (w : World) (x : AtW1 P c lw A Fin g w) : AtW1 P c lw A' Fin g w := by
  refine ⟨x.1, fun v hv hw => ?_⟩
  obtain ⟨g', e1, e2, e3⟩ := x.2 v hv hw
  refine ⟨g', e1, e2, fun hn => ?_⟩
  obtain ⟨m, hm⟩ := e3 hn
  refine ⟨m, goes_imp (fun g w y => ⟨y.1, fun v' h1 h2 => ⟨(y.2 v' h1 h2).1, fun hne => ?_⟩⟩) m _ _ hm⟩
  obtain ⟨g2, f1, m2, f2⟩ := (y.2 v' h1 h2).2 hne
  exact ⟨g2, f1, m2, goes_imp h m2 _ _ f2⟩
end
def DE (w w' : World) (es : Array Event) : Prop := w' = w ∧ ∀ e ∈ es, False
theorem goes_track {P : Program} {Sh : Loc → Prop} {Stp : Goroutine → World → Prop} : ∀ (m : Nat) (g : Goroutine) (w : World), Goes P true AtRel DE Stp m g w → GoesW P true AtRel (DP0 Sh) (fun g' w' => Stp g' w' ∧ AtRel w w') g w
  | 0, g, w, h => .stop fun w₁ h₁ => ⟨h w₁ h₁, h₁⟩
  | m + 1, g, w, h => by
    rcases h with h | ⟨hr, h⟩
    · exact .stop fun w₁ h₁ => ⟨h w₁ h₁, h₁⟩
    · refine GoesW.mk' hr fun w₁ h₁ => ?_
      have := h w₁ h₁
      revert this
      cases stepG P true g w₁ <;> simp only [GStep.goes, imp_self]
      rename_i g' w' es
      rintro ⟨⟨rfl, he⟩, y⟩
      exact ⟨fun e hm => (he e hm).elim, (goes_track m _ _ y).mono fun g2 w2 z => ⟨z.1, atRel_trans _ _ _ h₁ z.2⟩⟩
/-- a call of a function that goes across phases, from its plain frame -/
def CallB (P : Program) (Post : Value → World → Prop) (f : FuncId) (args : Array Value) (w : World) (x : XS) (Pos : Value → World → XS → Prop) : Prop :=
  ∃ fn cd, P.funcs[f]? = some fn ∧ (fn.name == "runtime.NumGoroutine") = false ∧ fn.body = some cd ∧ ∀ (c : Frame) (cs : List Frame), (∀ v w' x', Pos v w' x' → Win P Post x' (G (c.finish v) cs) w') →
    Win P Post x (G ((base f).at { tmps := args ++ Array.replicate (fn.ntmps - args.size) undef, defers := [] } [.code cd]) (c :: cs)) w
theorem callB_rely {P : Program} {Post : Value → World → Prop} {f : FuncId} {args : Array Value} {w w₁ : World} {x : XS} {Pos : Value → World → XS → Prop} (hr : AtRel w w₁) (h : CallB P Post f args w x Pos) : CallB P Post f args w₁ x Pos := by
  obtain ⟨fn, cd, h1, h2, h3, h4⟩ := h
  exact ⟨fn, cd, h1, h2, h3, fun c cs hc => (h4 c cs hc).rely hr⟩
theorem opsX_callB {P : Program} {Post : Value → World → Prop} {fn : FuncId} {Q : Exit → Act → World → XS → Prop} {a : Act} {w : World} {x : XS} {ops : Array Oper} {i : Nat} {rest : List Nat} {o : Oper} {f : FuncId} {args : Array Operand} {ats : Array TypeId} {Pos : Value → World → XS → Prop}
    (ho : ops[i]? = some o) (hw : Region.wanted o (yielded ops a.tmps) = true) (hop : o.op = .call { callee := .value (.func f), args, argTypes := ats })
    (hcall : CallB P Post f (args.map a.eval) w x Pos) (hnext : ∀ v w' x', Pos v w' x' → OpsX P Post fn ops rest Q (a.put o.dst v) w' x') : OpsX P Post fn ops (i :: rest) Q a w x := by
  intro b k cs hb hk hc
  obtain ⟨fnn, cd, hf, hname, hbody, hwp⟩ := hcall
  have hfin : ∀ v w' x', Pos v w' x' → Win P Post x' (G ((b.at a (.inRegion ops (i :: rest) :: k)).finish v) cs) w' := fun v w' x' hp => by
    have e : (b.at a (.inRegion ops (i :: rest) :: k)).finish v = b.at (a.put o.dst v) (.inRegion ops rest :: k) := by rw [Frame.finish_at, ho]; rfl
    rw [e]
    exact hnext v w' x' hp b k cs hb hk hc
  exact win_mk rfl fun w₁ h₁ => goes_call ho hw hk hop hf hname hbody ⟨dpX_nil, (hwp _ cs hfin).rely h₁⟩
/-- behind Wait -/
noncomputable def gWA (c : Cfg) (doB : Nat) (fv : Value) (kk : List Item) (cs : List Frame) (v2 v5 v8 v9 v10 v11 v12 v13 : Value) : Goroutine :=
  G ((base 32).at (act32 c doB fv c.n v2 v5 v8 v9 v10 v11 v12 v13) (.inRegion ops9 [] :: kk)) cs
def FinA (c : Cfg) (w0 : World) (doB : Nat) (fv : Value) (kk : List Item) (cs : List Frame) (g : Goroutine) (w : World) : Prop :=
  ∃ lw m, AlF c w0 lw w ∧ Goes Try.prog true AtRel DE (fun g' w' => ∃ v2 v5 v8 v9 v10 v11 v12 v13, g' = gWA c doB fv kk cs v2 v5 v8 v9 v10 v11 v12 v13) m g w
theorem dst9 : ops9[0]?.bind (·.dst) = some 13 := by unfold ops9 rest32; simp only [Try.f32, Option.getD_some]; try rfl
theorem waitA {c : Cfg} {w0 : World} {doB : Nat} {fv : Value} (k : AlSt c w0 doB fv) {kk : List Item} {cs : List Frame} (lw : Nat) (g : Goroutine) (w : World) (h : AnchA c w0 doB fv kk cs lw g w) :
    ∃ m, Goes Try.prog true (R0 c lw) (D0 c lw) (AtW1 Try.prog c lw (AnchA c w0 doB fv kk cs lw) (FinA c w0 doB fv kk cs)) m g w := by
  have K := k.K
  obtain ⟨v2, v5, v8, v9, v10, v11, v12, v13, h⟩ := h
  have hW := waitRound (F := AlF c w0) (DA := DE) (Stp := fun g' w' => ∃ v2 v5 v8 v9 v10 v11 v12 v13, g' = gWA c doB fv kk cs v2 v5 v8 v9 v10 v11 v12 v13) (Fin := FinA c w0 doB fv kk cs) (mT := 0) wgLib K k.K.hn (fun w w' r h => h.rely r) (fun w a v ha h => h.setWg k.K a v ha) (fun w es he => ⟨rfl, he⟩) (fun g w hf hl m hg => ⟨lw, m, hf, hg⟩) (fun w hf hl w₁ h₁ => by
    rw [dst9]
    exact ⟨_, _, _, _, _, _, _, _, rfl⟩) g w h
  obtain ⟨m, hm⟩ := hW
  exact ⟨m, goes_imp (atW1_mono fun g w h => ⟨_, _, _, _, _, _, _, _, h⟩) m _ _ hm⟩
theorem anchA_run {c : Cfg} {w0 : World} {doB : Nat} {fv : Value} {kk : List Item} {cs : List Frame} (lw : Nat) (g : Goroutine) (w : World) (h : AnchA c w0 doB fv kk cs lw g w) : g.status = .running := by
  obtain ⟨v2, v5, v8, v9, v10, v11, v12, v13, T, rfl, _⟩ := h
  rfl
/-- ████ the phase of all ████ -/
theorem allPh {Post : Value → World → Prop} {c : Cfg} {w0 : World} {doB : Nat} {fv : Value} (k : AlSt c w0 doB fv) {kk : List Item} {cs : List Frame} {w : World} {x : XS} {σ : c.S} {us : Nat → c.U} (hx : x.n = c.N0) (hd : x.d = 0) (hS : ∀ l, x.S l → c.sh l) (hH0 : c.H0 ≤ w.heap.size)
    (hF : AlF c w0 w.heap.size w) (hwg : WgAt c.ty c.Wg w 0 0) (hrep : c.Rep σ w) (hju : c.JU σ us 0)
    (hend : ∀ (w' : World) (σ : c.S) (us : Nat → c.U) (v2 v5 v8 v9 v10 v11 v12 v13 : Value), (∃ lw, AlF c w0 lw w') → c.Rep σ w' → c.JU σ us c.n → (∀ i, i < c.n → c.fin (us i)) →
      Win Try.prog Post ⟨c.sh, c.N0 + c.n, 0⟩ (G ((base 32).at (act32 c doB fv c.n v2 v5 v8 v9 v10 v11 v12 v13) kk) cs) w')
    (v2 v5 v8 v9 v10 v11 v12 v13 : Value) :
    Win Try.prog Post x (G ((base 32).at (act32 c doB fv 0 v2 v5 v8 v9 v10 v11 v12 v13) (.code blk32 :: .inLoop blk32 :: .inBlock 0 :: .code rest32 :: kk)) cs) w := by
  have K := k.K
  refine win_phase (c := c) (Fin := FinA c w0 doB fv kk cs) (σ := σ) (us := us) hd K hS anchA_run (fun lw g w h => waitA k lw g w h) hx hH0 (fun w₁ h₁ => ?_) (Nat.le_refl _) hwg hrep hju ?_
  · obtain ⟨d, rfl⟩ := h₁
    exact spawns32 k (kk := kk) (cs := cs) c.n 0 w.heap.size (w.at d) v2 v5 v8 v9 v10 v11 v12 v13 (by omega) ⟨hF.rely (R0.at K w d), ⟨0, 0, hwg⟩⟩
  · intro a' w' σ' us' hr hfin h0 hw hrp hju hdone
    obtain ⟨lw, m, hf, hg⟩ := hfin
    refine win_of ((goes_track m _ _ hg).mono ?_)
    rintro g2 w2 ⟨⟨v2, v5, v8, v9, v10, v11, v12, v13, rfl⟩, hat⟩
    refine Win.rely ?_ hat
    refine win_mk rfl fun w₁ h₁ => ?_
    unfold gWA
    rw [stepG_region_end]
    refine ⟨fun e he => by simp at he, ?_⟩
    obtain ⟨d, rfl⟩ := h₁
    exact hend _ σ' us' _ _ _ _ _ _ _ _ ⟨lw, hf.rely (R0.at K _ d)⟩ (rep_at K hrp d) hju hdone
end Go.Proofs.Ytinghnaigpenkaa

end
section
/- Seat 05: all, called. -/
namespace Go.Proofs.Ytinghnaigpenkaa
open Go.Conc Go.RowKit Go.Conc.Lib Go.ConcR.Gen
open Go.ConcN (WgLive sumTo)
open Go.ConcR (KK wgBlock WgAt stA smA rd wr mk Payload)
set_option linter.unusedVariables false
set_option linter.unusedSimpArgs false
set_option linter.unusedSectionVars false
set_option maxRecDepth 100000
set_option maxHeartbeats 4000000


noncomputable def c32a : Code := match (Try.f32.body.getD .skip) with
  | .seq a _ => a
  | _ => .skip
noncomputable def c32b : Code := match (Try.f32.body.getD .skip) with
  | .seq _ (.seq a _) => a
  | _ => .skip
noncomputable def c32c : Code := match (Try.f32.body.getD .skip) with
  | .seq _ (.seq _ (.seq (.seq a _) _)) => a
  | _ => .skip
theorem body32 : (Try.f32.body.getD .skip) = .seq c32a (.seq c32b (.seq (.seq c32c (.block 0 (.loop blk32))) rest32)) := by
  unfold c32a c32b c32c blk32 rest32
  simp only [Try.f32, Option.getD_some]
/-- what all leaves -/
def AllOut (c : Cfg) (w : World) (v : Value) (w' : World) (x' : XS) : Prop :=
  ∃ (σ : c.S) (us : Nat → c.U), v = .tuple #[] ∧ x' = ⟨c.sh, c.N0 + c.n, 0⟩ ∧ c.Rep σ w' ∧ c.JU σ us c.n ∧ (∀ i, i < c.n → c.fin (us i)) ∧ (∀ g ob, g < w.heap.size → ¬ c.SB g → w.heap[g]? = some ob → w'.heap[g]? = some ob) ∧ Env w w' ∧ w.heap.size + 2 ≤ w'.heap.size
theorem all_X {Post : Value → World → Prop} {c : Cfg} {S : Loc → Prop} {f : FuncId} {cap : Array Value} {σ : c.S} {us : Nat → c.U} {nf : Nat → Nat} (w : World) (A : AlO c w.heap.size) (hS : ∀ l, S l → c.sh l) (hrep : ∀ W : World, w.heap.size + 2 ≤ W.heap.size → (∀ b, b < w.heap.size → W.heap[b]? = w.heap[b]?) → c.Rep σ W) (hju : c.JU σ us 0)
    (hdo : ∀ (j C N : Nat) (w1 : World), j < c.n → c.H0 ≤ C → WK c w w.heap.size (.func (.func f) #[] cap) j C w1 → CallsV Try.prog c (c.N0 + j) C f (#[.int .i64 j] ++ cap) (nf N) N (c.init j) w1 (fun N' u' v w' => c.fin u' ∧ WK c w w.heap.size (.func (.func f) #[] cap) j C w')) :
    CallB Try.prog Post 32 #[.int .i64 c.n, .func (.func f) #[] cap] w ⟨S, c.N0, 0⟩ (AllOut c w) := by
  have hb32 : Try.f32.body = some (Try.f32.body.getD .skip) := rfl
  refine ⟨Try.f32, _, Try.func32, by kernel_rfl, hb32, fun cf cs hfin => ?_⟩
  rw [body32]
  simp only [Try.ntmps32]
  have sz1 : (w.alloc (.cells #[.func (.func f) #[] cap] 79)).heap.size = w.heap.size + 1 := by simp
  have ha : CodeX Try.prog Post 32 c32a (fun e a w' x => e = .normal ∧ a = ⟨#[.int .i64 c.n, .func (.func f) #[] cap, undef, .pointer (some ⟨w.heap.size, 0, none⟩), undef, undef, undef, undef, undef, undef, undef, undef, undef, undef], []⟩ ∧ AtRel (w.alloc (.cells #[.func (.func f) #[] cap] 79)) w' ∧ x = ⟨S, c.N0, 0⟩)
      ⟨#[.int .i64 c.n, .func (.func f) #[] cap] ++ Array.replicate (14 - 2) undef, []⟩ w ⟨S, c.N0, 0⟩ := by
    rw [show c32a = _ from (by unfold c32a; simp only [Try.f32, Option.getD_some]; try rfl)]
    walk_nrm
    clear hdo hfin hrep hju
    have hF := atRel_refl w
    (refine codeX_region ?_; simp only [List.size_toArray, List.length_cons, List.length_nil, Nat.reduceAdd, Nat.zero_add, List.range, List.range.loop])
    (refine opsX_cons rfl (by rfl) ?_; intro _ hR K hK; replace hF := atRel_trans _ _ _ hF hR; clear hR; have hs9 := atRel_size hF; go_simp; refine hK _ _ ⟨?_, ?_⟩; (· rw [listed_nil (by simp [go_sem, *])]; exact dp0_nil); clear hK K hs9; try walk_nrm)
    refine opsX_nil ?_
    exact ⟨rfl, rfl, atRel_alloc hF _, rfl⟩
  have hb : ∀ w1 : World, AtRel (w.alloc (.cells #[.func (.func f) #[] cap] 79)) w1 → CodeX Try.prog Post 32 c32b (fun e a w' x => e = .normal ∧ a = ⟨#[.int .i64 c.n, .func (.func f) #[] cap, undef, .pointer (some ⟨w.heap.size, 0, none⟩), .pointer (some ⟨w.heap.size + 1, 0, none⟩), undef, undef, undef, undef, undef, undef, undef, undef, undef], []⟩ ∧ AtRel ((w.alloc (.cells #[.func (.func f) #[] cap] 79)).alloc (wgBlock 95 0 0)) w' ∧ x = ⟨S, c.N0, 0⟩)
      ⟨#[.int .i64 c.n, .func (.func f) #[] cap, undef, .pointer (some ⟨w.heap.size, 0, none⟩), undef, undef, undef, undef, undef, undef, undef, undef, undef, undef], []⟩ w1 ⟨S, c.N0, 0⟩ := by
    intro w1 hF
    rw [show c32b = _ from (by unfold c32b; simp only [Try.f32, Option.getD_some]; try rfl)]
    clear hdo hfin hrep hju ha
    generalize w.alloc (.cells #[.func (.func f) #[] cap] 79) = W at hF sz1 ⊢
    (refine codeX_region ?_; simp only [List.size_toArray, List.length_cons, List.length_nil, Nat.reduceAdd, Nat.zero_add, List.range, List.range.loop])
    (refine opsX_cons rfl (by rfl) ?_; intro _ hR K hK; replace hF := atRel_trans _ _ _ hF hR; clear hR; have hs9 := atRel_size hF; go_simp; refine hK _ _ ⟨?_, ?_⟩; (· rw [listed_nil (by simp [go_sem, *])]; exact dp0_nil); clear hK K hs9; try walk_nrm)
    refine opsX_nil ?_
    exact ⟨rfl, rfl, atRel_alloc hF _, rfl⟩
  have hc : ∀ w1 : World, AtRel ((w.alloc (.cells #[.func (.func f) #[] cap] 79)).alloc (wgBlock 95 0 0)) w1 → CodeX Try.prog Post 32 c32c (fun e a w' x => e = .normal ∧ a = ⟨#[.int .i64 c.n, .func (.func f) #[] cap, undef, .pointer (some ⟨w.heap.size, 0, none⟩), .pointer (some ⟨w.heap.size + 1, 0, none⟩), undef, .int .i64 c.n, .int .i64 0, undef, undef, undef, undef, undef, undef], []⟩ ∧ AtRel ((w.alloc (.cells #[.func (.func f) #[] cap] 79)).alloc (wgBlock 95 0 0)) w' ∧ x = ⟨S, c.N0, 0⟩)
      ⟨#[.int .i64 c.n, .func (.func f) #[] cap, undef, .pointer (some ⟨w.heap.size, 0, none⟩), .pointer (some ⟨w.heap.size + 1, 0, none⟩), undef, undef, undef, undef, undef, undef, undef, undef, undef], []⟩ w1 ⟨S, c.N0, 0⟩ := by
    intro w1 hF
    rw [show c32c = _ from (by unfold c32c; simp only [Try.f32, Option.getD_some]; try rfl)]
    clear hdo hfin hrep hju ha hb
    generalize (w.alloc (.cells #[.func (.func f) #[] cap] 79)).alloc (wgBlock 95 0 0) = W at hF ⊢
    (refine codeX_region ?_; simp only [List.size_toArray, List.length_cons, List.length_nil, Nat.reduceAdd, Nat.zero_add, List.range, List.range.loop])
    (refine opsX_cons rfl (by rfl) ?_; intro _ hR K hK; replace hF := atRel_trans _ _ _ hF hR; clear hR; have hs9 := atRel_size hF; go_simp; refine hK _ _ ⟨?_, ?_⟩; (· rw [listed_nil (by simp [go_sem, *])]; exact dp0_nil); clear hK K hs9; try walk_nrm)
    (refine opsX_cons rfl (by rfl) ?_; intro _ hR K hK; replace hF := atRel_trans _ _ _ hF hR; clear hR; have hs9 := atRel_size hF; go_simp; refine hK _ _ ⟨?_, ?_⟩; (· rw [listed_nil (by simp [go_sem, *])]; exact dp0_nil); clear hK K hs9; try walk_nrm)
    refine opsX_nil ?_
    exact ⟨rfl, rfl, hF, rfl⟩
  obtain ⟨W, hW⟩ : ∃ W, W = (w.alloc (.cells #[.func (.func f) #[] cap] 79)).alloc (wgBlock 95 0 0) := ⟨_, rfl⟩
  have hsz : W.heap.size = w.heap.size + 2 := by rw [hW]; simp
  have hold : ∀ g, g < w.heap.size → W.heap[g]? = w.heap[g]? := fun g hg => by
    rw [hW, Below.heap_alloc _ _ _ (by simp; omega), Below.heap_alloc _ _ _ hg]
  have hdoC : W.heap[w.heap.size]? = some (.cells #[.func (.func f) #[] cap] 79) := by
    rw [hW, Below.heap_alloc _ _ _ (by simp)]
    exact alloc_new _ _
  have hwg : WgAt c.ty c.Wg W 0 0 := by
    rw [A.ty, A.wg, hW]
    have := alloc_new (w.alloc (.cells #[.func (.func f) #[] cap] 79)) (wgBlock 95 0 0)
    rw [sz1] at this
    exact this
  have henv : Env w W := by rw [hW]; exact ⟨rfl, .refl _, rfl⟩
  rw [← hW] at hb hc
  have hrepW : c.Rep σ W := hrep W (by omega) hold
  have k : AlSt c W w.heap.size (.func (.func f) #[] cap) := by
    refine ⟨A.K, A.ty, ⟨by have := A.h0; omega, by have := A.wg; omega, fun hb => by have := A.lo _ hb; omega⟩, hdoC, fun b hb => ⟨fun hs => by have := A.lo _ hs; have := A.h0; omega, by have := A.wg; have := A.h0; omega⟩, fun a ha => A.pl a (by rw [A.h0] at ha; exact ha), fun j C w1 hj hC hbox hl hk hrp => ?_⟩
    have hK : WK c w w.heap.size (.func (.func f) #[] cap) j C w1 := ⟨hbox, hk _ _ ⟨by have := A.h0; omega, by have := A.wg; omega, fun hb => by have := A.lo _ hb; omega⟩ hdoC, hl, fun g ob hg hs e => hk g ob ⟨by have := A.h0; omega, by have := A.wg; omega, hs⟩ ((hold g hg).trans e), hrp⟩
    exact run43 A hC (fun N w2 h2 => hdo j C N w2 hj hC h2) w1 hK
  have hleave : ∀ (a : Act) (w2 : World) (todo : List Item) (x' : XS), a.defers = [] → AllOut c w (.tuple #[]) w2 x' → Win Try.prog Post x' (G { (base 32).at a todo with mode := .returning } (cf :: cs)) w2 := by
    intro a w2 todo x' hd ho
    refine win_mk rfl fun w₁ h₁ => ?_
    rw [stepG_leave (b := base 32) (v := .tuple #[]) rfl hd Try.func32 (resultsC_none rfl a.tmps w₁).1 (resultsC_none rfl a.tmps w₁).2]
    exact ⟨dpX_nil, (hfin _ _ _ ho).rely h₁⟩
  refine win_mk rfl fun w₁ h₁ => ?_
  rw [stepG_seq]
  refine ⟨dpX_nil, Win.rely ?_ h₁⟩
  refine ha (base 32) _ (cf :: cs) rfl (kind_base 32) ?_
  rintro e a w2 x ⟨rfl, rfl, hF2, rfl⟩
  refine win_mk rfl fun w₁ h₁ => ?_
  rw [stepG_seq]
  refine ⟨dpX_nil, Win.rely ?_ h₁⟩
  refine hb w2 hF2 (base 32) _ (cf :: cs) rfl (kind_base 32) ?_
  rintro e a w3 x ⟨rfl, rfl, hF3, rfl⟩
  refine win_mk rfl fun w₁ h₁ => ?_
  rw [stepG_seq]
  refine ⟨dpX_nil, Win.rely ?_ h₁⟩
  refine win_mk rfl fun w₁ h₁ => ?_
  rw [stepG_seq]
  refine ⟨dpX_nil, Win.rely ?_ h₁⟩
  refine hc w3 hF3 (base 32) _ (cf :: cs) rfl (kind_base 32) ?_
  rintro e a w4 x ⟨rfl, rfl, hF4, rfl⟩
  refine win_mk rfl fun w₁ h₁ => ?_
  rw [stepG_block]
  refine ⟨dpX_nil, Win.rely ?_ h₁⟩
  refine win_mk rfl fun w₁ h₁ => ?_
  rw [stepG_loop]
  refine ⟨dpX_nil, Win.rely ?_ h₁⟩
  obtain ⟨q, rfl⟩ := hF4
  have := allPh (Post := Post) k (kk := []) (cs := cf :: cs) (w := W.at q) (x := ⟨S, c.N0, 0⟩) (σ := σ) (us := us) rfl rfl hS (by have := A.h0; show c.H0 ≤ W.heap.size; omega) ⟨Nat.le_refl _, by have := A.h0; show c.H0 ≤ W.heap.size; omega, fun _ _ _ e => e, env_at W q, σ, rep_at A.K hrepW q⟩ hwg (rep_at A.K hrepW q) hju (fun w' σ' us' v2 v5 v8 v9 v10 v11 v12 v13 hf hr hj hd => by
    obtain ⟨lw, hf⟩ := hf
    refine win_mk rfl fun w₁ h₁ => ?_
    rw [stepG_end]
    refine ⟨dpX_nil, Win.rely ?_ h₁⟩
    refine hleave _ _ _ _ rfl ⟨σ', us', rfl, rfl, hr, hj, hd, fun g ob hg hs e => hf.old g ob ⟨by have := A.h0; omega, by have := A.wg; omega, hs⟩ ((hold g hg).trans e), henv.trans hf.env, ?_⟩
    have h1 := hf.h0
    have h2 := hf.lwle
    have := A.h0
    omega) undef undef undef undef undef undef undef undef
  unfold act32 at this
  rw [A.wg] at this
  exact this
end Go.Proofs.Ytinghnaigpenkaa

end
