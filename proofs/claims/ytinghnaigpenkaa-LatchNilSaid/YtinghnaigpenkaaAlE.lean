/- Seat 05: all, called. -/
import Derived.Test.YtinghnaigpenkaaAlD
import Derived.Test.YtinghnaigpenkaaLwB
namespace Go.Proofs.Ytinghnaigpenkaa
open Go.Conc Go.RowKit Go.Conc.Lib Go.ConcR.Gen
open Go.ConcN (WgLive sumTo)
open Go.ConcR (KK wgBlock WgAt stA smA rd wr mk Payload)
set_option linter.unusedVariables false
set_option linter.unusedSimpArgs false
set_option linter.unusedSectionVars false
set_option maxRecDepth 100000
set_option maxHeartbeats 4000000


noncomputable def c32a : Code := match (Try.f32.body.getD .skip) with
  | .seq a _ => a
  | _ => .skip
noncomputable def c32b : Code := match (Try.f32.body.getD .skip) with
  | .seq _ (.seq a _) => a
  | _ => .skip
noncomputable def c32c : Code := match (Try.f32.body.getD .skip) with
  | .seq _ (.seq _ (.seq (.seq a _) _)) => a
  | _ => .skip
theorem body32 : (Try.f32.body.getD .skip) = .seq c32a (.seq c32b (.seq (.seq c32c (.block 0 (.loop blk32))) rest32)) := by
  unfold c32a c32b c32c blk32 rest32
  simp only [Try.f32, Option.getD_some]
/-- what all leaves -/
def AllOut (c : Cfg) (w : World) (v : Value) (w' : World) (x' : XS) : Prop :=
  ∃ (σ : c.S) (us : Nat → c.U), v = .tuple #[] ∧ x' = ⟨c.sh, c.N0 + c.n, 0⟩ ∧ c.Rep σ w' ∧ c.JU σ us c.n ∧ (∀ i, i < c.n → c.fin (us i)) ∧ (∀ g ob, g < w.heap.size → ¬ c.SB g → w.heap[g]? = some ob → w'.heap[g]? = some ob) ∧ Env w w' ∧ w.heap.size + 2 ≤ w'.heap.size
theorem all_X {Post : Value → World → Prop} {c : Cfg} {S : Loc → Prop} {f : FuncId} {cap : Array Value} {σ : c.S} {us : Nat → c.U} {nf : Nat → Nat} (w : World) (A : AlO c w.heap.size) (hS : ∀ l, S l → c.sh l) (hrep : c.Rep σ w) (hju : c.JU σ us 0)
    (hdo : ∀ (j C N : Nat) (w1 : World), j < c.n → c.H0 ≤ C → WK c w w.heap.size (.func (.func f) #[] cap) j C w1 → CallsV Try.prog c (c.N0 + j) C f (#[.int .i64 j] ++ cap) (nf N) N (c.init j) w1 (fun N' u' v w' => c.fin u' ∧ WK c w w.heap.size (.func (.func f) #[] cap) j C w')) :
    CallB Try.prog Post 32 #[.int .i64 c.n, .func (.func f) #[] cap] w ⟨S, c.N0, 0⟩ (AllOut c w) := by
  have hb32 : Try.f32.body = some (Try.f32.body.getD .skip) := rfl
  refine ⟨Try.f32, _, Try.func32, by kernel_rfl, hb32, fun cf cs hfin => ?_⟩
  rw [body32]
  simp only [Try.ntmps32]
  have sz1 : (w.alloc (.cells #[.func (.func f) #[] cap] 79)).heap.size = w.heap.size + 1 := by simp
  have ha : CodeX Try.prog Post 32 c32a (fun e a w' x => e = .normal ∧ a = ⟨#[.int .i64 c.n, .func (.func f) #[] cap, undef, .pointer (some ⟨w.heap.size, 0, none⟩), undef, undef, undef, undef, undef, undef, undef, undef, undef, undef], []⟩ ∧ AtRel (w.alloc (.cells #[.func (.func f) #[] cap] 79)) w' ∧ x = ⟨S, c.N0, 0⟩)
      ⟨#[.int .i64 c.n, .func (.func f) #[] cap] ++ Array.replicate (14 - 2) undef, []⟩ w ⟨S, c.N0, 0⟩ := by
    rw [show c32a = _ from (by unfold c32a; simp only [Try.f32, Option.getD_some]; try rfl)]
    walk_nrm
    clear hdo hfin hrep hju
    have hF := atRel_refl w
    (refine codeX_region ?_; simp only [List.size_toArray, List.length_cons, List.length_nil, Nat.reduceAdd, Nat.zero_add, List.range, List.range.loop])
    (refine opsX_cons rfl (by rfl) ?_; intro _ hR K hK; replace hF := atRel_trans _ _ _ hF hR; clear hR; have hs9 := atRel_size hF; go_simp; refine hK _ _ ⟨?_, ?_⟩; (· rw [listed_nil (by simp [go_sem, *])]; exact dp0_nil); clear hK K hs9; try walk_nrm)
    refine opsX_nil ?_
    exact ⟨rfl, rfl, atRel_alloc hF _, rfl⟩
  have hb : ∀ w1 : World, AtRel (w.alloc (.cells #[.func (.func f) #[] cap] 79)) w1 → CodeX Try.prog Post 32 c32b (fun e a w' x => e = .normal ∧ a = ⟨#[.int .i64 c.n, .func (.func f) #[] cap, undef, .pointer (some ⟨w.heap.size, 0, none⟩), .pointer (some ⟨w.heap.size + 1, 0, none⟩), undef, undef, undef, undef, undef, undef, undef, undef, undef], []⟩ ∧ AtRel ((w.alloc (.cells #[.func (.func f) #[] cap] 79)).alloc (wgBlock 95 0 0)) w' ∧ x = ⟨S, c.N0, 0⟩)
      ⟨#[.int .i64 c.n, .func (.func f) #[] cap, undef, .pointer (some ⟨w.heap.size, 0, none⟩), undef, undef, undef, undef, undef, undef, undef, undef, undef, undef], []⟩ w1 ⟨S, c.N0, 0⟩ := by
    intro w1 hF
    rw [show c32b = _ from (by unfold c32b; simp only [Try.f32, Option.getD_some]; try rfl)]
    clear hdo hfin hrep hju ha
    generalize w.alloc (.cells #[.func (.func f) #[] cap] 79) = W at hF sz1 ⊢
    (refine codeX_region ?_; simp only [List.size_toArray, List.length_cons, List.length_nil, Nat.reduceAdd, Nat.zero_add, List.range, List.range.loop])
    (refine opsX_cons rfl (by rfl) ?_; intro _ hR K hK; replace hF := atRel_trans _ _ _ hF hR; clear hR; have hs9 := atRel_size hF; go_simp; refine hK _ _ ⟨?_, ?_⟩; (· rw [listed_nil (by simp [go_sem, *])]; exact dp0_nil); clear hK K hs9; try walk_nrm)
    refine opsX_nil ?_
    exact ⟨rfl, rfl, atRel_alloc hF _, rfl⟩
  have hc : ∀ w1 : World, AtRel ((w.alloc (.cells #[.func (.func f) #[] cap] 79)).alloc (wgBlock 95 0 0)) w1 → CodeX Try.prog Post 32 c32c (fun e a w' x => e = .normal ∧ a = ⟨#[.int .i64 c.n, .func (.func f) #[] cap, undef, .pointer (some ⟨w.heap.size, 0, none⟩), .pointer (some ⟨w.heap.size + 1, 0, none⟩), undef, .int .i64 c.n, .int .i64 0, undef, undef, undef, undef, undef, undef], []⟩ ∧ AtRel ((w.alloc (.cells #[.func (.func f) #[] cap] 79)).alloc (wgBlock 95 0 0)) w' ∧ x = ⟨S, c.N0, 0⟩)
      ⟨#[.int .i64 c.n, .func (.func f) #[] cap, undef, .pointer (some ⟨w.heap.size, 0, none⟩), .pointer (some ⟨w.heap.size + 1, 0, none⟩), undef, undef, undef, undef, undef, undef, undef, undef, undef], []⟩ w1 ⟨S, c.N0, 0⟩ := by
    intro w1 hF
    rw [show c32c = _ from (by unfold c32c; simp only [Try.f32, Option.getD_some]; try rfl)]
    clear hdo hfin hrep hju ha hb
    generalize (w.alloc (.cells #[.func (.func f) #[] cap] 79)).alloc (wgBlock 95 0 0) = W at hF ⊢
    (refine codeX_region ?_; simp only [List.size_toArray, List.length_cons, List.length_nil, Nat.reduceAdd, Nat.zero_add, List.range, List.range.loop])
    (refine opsX_cons rfl (by rfl) ?_; intro _ hR K hK; replace hF := atRel_trans _ _ _ hF hR; clear hR; have hs9 := atRel_size hF; go_simp; refine hK _ _ ⟨?_, ?_⟩; (· rw [listed_nil (by simp [go_sem, *])]; exact dp0_nil); clear hK K hs9; try walk_nrm)
    (refine opsX_cons rfl (by rfl) ?_; intro _ hR K hK; replace hF := atRel_trans _ _ _ hF hR; clear hR; have hs9 := atRel_size hF; go_simp; refine hK _ _ ⟨?_, ?_⟩; (· rw [listed_nil (by simp [go_sem, *])]; exact dp0_nil); clear hK K hs9; try walk_nrm)
    refine opsX_nil ?_
    exact ⟨rfl, rfl, hF, rfl⟩
  obtain ⟨W, hW⟩ : ∃ W, W = (w.alloc (.cells #[.func (.func f) #[] cap] 79)).alloc (wgBlock 95 0 0) := ⟨_, rfl⟩
  have hsz : W.heap.size = w.heap.size + 2 := by rw [hW]; simp
  have hold : ∀ g, g < w.heap.size → W.heap[g]? = w.heap[g]? := fun g hg => by
    rw [hW, Below.heap_alloc _ _ _ (by simp; omega), Below.heap_alloc _ _ _ hg]
  have hdoC : W.heap[w.heap.size]? = some (.cells #[.func (.func f) #[] cap] 79) := by
    rw [hW, Below.heap_alloc _ _ _ (by simp)]
    exact alloc_new _ _
  have hwg : WgAt c.ty c.Wg W 0 0 := by
    rw [A.ty, A.wg, hW]
    have := alloc_new (w.alloc (.cells #[.func (.func f) #[] cap] 79)) (wgBlock 95 0 0)
    rw [sz1] at this
    exact this
  have henv : Env w W := by rw [hW]; exact ⟨rfl, rfl, rfl⟩
  rw [← hW] at hb hc
  have hrepW : c.Rep σ W := A.K.rep_same σ w W hrep (fun b hb => hold b (A.lo b hb))
  have k : AlSt c W w.heap.size (.func (.func f) #[] cap) := by
    refine ⟨A.K, A.ty, ⟨by have := A.h0; omega, by have := A.wg; omega, fun hb => by have := A.lo _ hb; omega⟩, hdoC, fun b hb => ⟨fun hs => by have := A.lo _ hs; have := A.h0; omega, by have := A.wg; have := A.h0; omega⟩, fun a ha => A.pl a (by rw [A.h0] at ha; exact ha), fun j C w1 hj hC hbox hl hk => ?_⟩
    have hK : WK c w w.heap.size (.func (.func f) #[] cap) j C w1 := ⟨hbox, hk _ _ ⟨by have := A.h0; omega, by have := A.wg; omega, fun hb => by have := A.lo _ hb; omega⟩ hdoC, hl, fun g ob hg hs e => hk g ob ⟨by have := A.h0; omega, by have := A.wg; omega, hs⟩ ((hold g hg).trans e)⟩
    exact run43 A hC (fun N w2 h2 => hdo j C N w2 hj hC h2) w1 hK
  have hleave : ∀ (a : Act) (w2 : World) (todo : List Item) (x' : XS), a.defers = [] → AllOut c w (.tuple #[]) w2 x' → Win Try.prog Post x' (G { (base 32).at a todo with mode := .returning } (cf :: cs)) w2 := by
    intro a w2 todo x' hd ho
    refine win_mk rfl fun w₁ h₁ => ?_
    rw [stepG_leave (b := base 32) (v := .tuple #[]) rfl hd Try.func32 (resultsC_none rfl a.tmps w₁).1 (resultsC_none rfl a.tmps w₁).2]
    exact ⟨dpX_nil, (hfin _ _ _ ho).rely h₁⟩
  refine win_mk rfl fun w₁ h₁ => ?_
  rw [stepG_seq]
  refine ⟨dpX_nil, Win.rely ?_ h₁⟩
  refine ha (base 32) _ (cf :: cs) rfl (kind_base 32) ?_
  rintro e a w2 x ⟨rfl, rfl, hF2, rfl⟩
  refine win_mk rfl fun w₁ h₁ => ?_
  rw [stepG_seq]
  refine ⟨dpX_nil, Win.rely ?_ h₁⟩
  refine hb w2 hF2 (base 32) _ (cf :: cs) rfl (kind_base 32) ?_
  rintro e a w3 x ⟨rfl, rfl, hF3, rfl⟩
  refine win_mk rfl fun w₁ h₁ => ?_
  rw [stepG_seq]
  refine ⟨dpX_nil, Win.rely ?_ h₁⟩
  refine win_mk rfl fun w₁ h₁ => ?_
  rw [stepG_seq]
  refine ⟨dpX_nil, Win.rely ?_ h₁⟩
  refine hc w3 hF3 (base 32) _ (cf :: cs) rfl (kind_base 32) ?_
  rintro e a w4 x ⟨rfl, rfl, hF4, rfl⟩
  refine win_mk rfl fun w₁ h₁ => ?_
  rw [stepG_block]
  refine ⟨dpX_nil, Win.rely ?_ h₁⟩
  refine win_mk rfl fun w₁ h₁ => ?_
  rw [stepG_loop]
  refine ⟨dpX_nil, Win.rely ?_ h₁⟩
  obtain ⟨q, rfl⟩ := hF4
  have := allPh (Post := Post) k (kk := []) (cs := cf :: cs) (w := W.at q) (x := ⟨S, c.N0, 0⟩) (σ := σ) (us := us) rfl rfl hS (by have := A.h0; show c.H0 ≤ W.heap.size; omega) ⟨Nat.le_refl _, by have := A.h0; show c.H0 ≤ W.heap.size; omega, fun _ _ _ e => e, env_at W q⟩ hwg (rep_at A.K hrepW q) hju (fun w' σ' us' v2 v5 v8 v9 v10 v11 v12 v13 hf hr hj hd => by
    obtain ⟨lw, hf⟩ := hf
    refine win_mk rfl fun w₁ h₁ => ?_
    rw [stepG_end]
    refine ⟨dpX_nil, Win.rely ?_ h₁⟩
    refine hleave _ _ _ _ rfl ⟨σ', us', rfl, rfl, hr, hj, hd, fun g ob hg hs e => hf.old g ob ⟨by have := A.h0; omega, by have := A.wg; omega, hs⟩ ((hold g hg).trans e), henv.trans hf.env, ?_⟩
    have h1 := hf.h0
    have h2 := hf.lwle
    have := A.h0
    omega) undef undef undef undef undef undef undef undef
  unfold act32 at this
  rw [A.wg] at this
  exact this
end Go.Proofs.Ytinghnaigpenkaa
