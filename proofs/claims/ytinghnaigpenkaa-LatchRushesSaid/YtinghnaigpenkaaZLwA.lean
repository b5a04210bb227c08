/- Seat 05: atomics, nil latches and lazies, by goroutine 0 between phases. -/
import Derived.Test.YtinghnaigpenkaaZClA
import Derived.Test.YtinghnaigpenkaaZSkX
import Derived.Test.YtinghnaigpenkaaZWgL
import Derived.ProofKit
import Derived.Conc.CompanyMem
import Derived.Conc.AtomicLaws2
import Derived.Conc.MarkLaws
namespace Go.Proofs.Ytinghnaigpenkaa
open Go.Conc Go.RowKit
open Go.ConcR (WgAt stA)
set_option linter.unusedVariables false
set_option linter.unusedSimpArgs false
set_option maxRecDepth 100000
set_option maxHeartbeats 4000000
abbrev CW (Shun : Loc → Prop) (f : FuncId) (args : Array Value) (w : World) (Post : Value → World → Prop) : Prop := CallsW Try.prog true AtRel (DP0 Shun) f args w Post
theorem atRel_cell {W w : World} (h : AtRel W w) (p : Addr) : w.cell? p = W.cell? p := by obtain ⟨d, rfl⟩ := h; rfl
theorem atRel_frozen {W w : World} (h : AtRel W w) (p : Addr) : w.frozen? p = W.frozen? p := by obtain ⟨d, rfl⟩ := h; rfl
theorem atRel_size {W w : World} (h : AtRel W w) : w.heap.size = W.heap.size := by obtain ⟨d, rfl⟩ := h; rfl
theorem atRel_set {W w : World} (h : AtRel W w) (p : Addr) (v : Value) : AtRel (W.setCell p v) (w.setCell p v) := by obtain ⟨d, rfl⟩ := h; exact ⟨d, rfl⟩
theorem atRel_alloc {W w : World} (h : AtRel W w) (o : Obj) : AtRel (W.alloc o) (w.alloc o) := by obtain ⟨d, rfl⟩ := h; exact ⟨d, rfl⟩
theorem evP_sync (Shun : Loc → Prop) (a : Addr) (wr : Bool) : EvP Shun ⟨.cell a, wr, true⟩ := by
  refine ⟨fun x hx _ => ?_, by simp, by simp⟩
  simp only [ofEvent_cell0, MemAct.touch?, Option.some.injEq] at hx
  subst hx
  simp
theorem evP_cell {Shun : Loc → Prop} {a : Addr} (wr : Bool) (h : ¬ Shun (.cell a)) : EvP Shun ⟨.cell a, wr, false⟩ := by
  refine ⟨fun x hx hs => ?_, by simp, by simp⟩
  simp only [ofEvent_cell0, MemAct.touch?, Option.some.injEq] at hx
  subst hx
  exact absurd hs h
theorem dp0_nil {Shun : Loc → Prop} {w w' : World} : DP0 Shun w w' #[] := fun e he => by simp at he








theorem atRel_draw {W w : World} {n : Nat} (h : AtRel W w) : AtRel W { w with drawn := n } := by obtain ⟨d, rfl⟩ := h; exact ⟨n, rfl⟩
theorem opW_step {P : Program} {main : Bool} {R : World → World → Prop} {D : World → World → Array Event → Prop} {fn : FuncId} {ops : Array Oper} {a : Act} {w : World} {i : Nat} {o : Oper} {M : Act → World → Prop} (ho : ops[i]? = some o)
    (h : ∀ w₁, R w w₁ → ∃ v w' es, (∀ (b : Frame) (k : List Item) (cs : List Frame), b.fn = fn → b.kind ≠ .early → ∀ rest : List Nat, stepG P main (G (b.at a (.inRegion ops (i :: rest) :: k)) cs) w₁ = .go (G (b.at (a.put o.dst v) (.inRegion ops rest :: k)) cs) w' es) ∧ D w₁ w' es ∧ M (a.put o.dst v) w') : OpW P main R D fn ops i M a w :=
  fun rest Q' hQ => opsW_step ho fun w₁ h₁ => by
    obtain ⟨v, w', es, h1, h2, h3⟩ := h w₁ h₁
    exact ⟨v, w', es, fun b k cs hb hk => h1 b k cs hb hk rest, h2, hQ _ _ h3⟩
section
variable {Shun : Loc → Prop}
theorem bload_W (g o : Nat) (v : Int) (w : World) (hc : w.cell? ⟨g, o, none⟩ = some (.int .u32 v)) : CW Shun 26 #[.pointer (some ⟨g, o, none⟩)] w (fun r w' => r = .bool (v != 0) ∧ AtRel w w') := by
  have T9 := termsP Shun
  refine callsW_enter Try.func26 (by kernel_rfl) rfl ?_
  simp only [Try.ntmps26]
  walk_nrm
  have hF := atRel_refl w
  ((refine codeW_seq T9 ?_); (refine codeW_region T9 ?_; simp only [List.size_toArray, List.length_cons, List.length_nil, Nat.reduceAdd, Nat.zero_add, List.range, List.range.loop]); (repeat (refine opsW_cons rfl (by rfl) ?_; intro _ hR K hK; replace hF := atRel_trans _ _ _ hF hR; clear hR; have hs9 := atRel_size hF; go_simp; refine hK _ _ ⟨?_, ?_⟩; (· rw [listed_nil (by simp [go_sem, *])]; exact dp0_nil); clear hK K hs9; try walk_nrm)); (refine opsW_nil T9 ?_; simp only [Exit.then]))
  (refine codeW_seq T9 ?_)
  (refine codeW_region T9 ?_; simp only [List.size_toArray, List.length_cons, List.length_nil, Nat.reduceAdd, Nat.zero_add, List.range, List.range.loop])
  repeat (refine opsW_cons rfl (by rfl) ?_; intro _ hR K hK; replace hF := atRel_trans _ _ _ hF hR; clear hR; have hs9 := atRel_size hF; go_simp; refine hK _ _ ⟨?_, ?_⟩; (· rw [listed_nil (by simp [go_sem, *])]; exact dp0_nil); clear hK K hs9; try walk_nrm)
  refine opsW_step rfl (fun w₁ h₁ => ?_)
  replace hF := atRel_trans _ _ _ hF h₁
  clear h₁
  refine ⟨_, _, _, fun b k cs hb hk => stepG_load_atomic rfl rfl hk rfl Try.func39 (by kernel_rfl) (by kernel_rfl) (by kernel_rfl) .u32 (by rfl) rfl ((atRel_cell hF _).trans hc), ?_, ?_⟩
  · intro e he
    simp at he
    subst he
    exact evP_sync _ _ _
  walk_nrm
  (refine opsW_cons rfl (by rfl) ?_; intro _ hR K hK; replace hF := atRel_trans _ _ _ hF hR; clear hR; have hs9 := atRel_size hF; go_simp; refine hK _ _ ⟨?_, ?_⟩; (· rw [listed_nil (by simp [go_sem, *])]; exact dp0_nil); clear hK K hs9; try walk_nrm)
  (refine opsW_cons rfl (by rfl) ?_; intro _ hR K hK; replace hF := atRel_trans _ _ _ hF hR; clear hR; have hs9 := atRel_size hF; go_simp; refine hK _ _ ⟨?_, ?_⟩; (· rw [listed_nil (by simp [go_sem, *])]; exact dp0_nil); clear hK K hs9; try walk_nrm)
  (refine opsW_nil T9 ?_; simp only [Exit.then])
  (refine codeW_ret T9 ?_)
  exact ⟨rfl, _, resultsC_tmp rfl _, rfl, hF⟩
theorem iload_W (g o : Nat) (v : Int) (w : World) (hc : w.cell? ⟨g, o, none⟩ = some (.int .i32 v)) : CW Shun 30 #[.pointer (some ⟨g, o, none⟩)] w (fun r w' => r = .int .i32 v ∧ AtRel w w') := by
  have T9 := termsP Shun
  refine callsW_enter Try.func30 (by kernel_rfl) rfl ?_
  simp only [Try.ntmps30]
  walk_nrm
  have hF := atRel_refl w
  ((refine codeW_seq T9 ?_); (refine codeW_region T9 ?_; simp only [List.size_toArray, List.length_cons, List.length_nil, Nat.reduceAdd, Nat.zero_add, List.range, List.range.loop]); (repeat (refine opsW_cons rfl (by rfl) ?_; intro _ hR K hK; replace hF := atRel_trans _ _ _ hF hR; clear hR; have hs9 := atRel_size hF; go_simp; refine hK _ _ ⟨?_, ?_⟩; (· rw [listed_nil (by simp [go_sem, *])]; exact dp0_nil); clear hK K hs9; try walk_nrm)); (refine opsW_nil T9 ?_; simp only [Exit.then]))
  (refine codeW_seq T9 ?_)
  (refine codeW_region T9 ?_; simp only [List.size_toArray, List.length_cons, List.length_nil, Nat.reduceAdd, Nat.zero_add, List.range, List.range.loop])
  repeat (refine opsW_cons rfl (by rfl) ?_; intro _ hR K hK; replace hF := atRel_trans _ _ _ hF hR; clear hR; have hs9 := atRel_size hF; go_simp; refine hK _ _ ⟨?_, ?_⟩; (· rw [listed_nil (by simp [go_sem, *])]; exact dp0_nil); clear hK K hs9; try walk_nrm)
  refine opsW_step rfl (fun w₁ h₁ => ?_)
  replace hF := atRel_trans _ _ _ hF h₁
  clear h₁
  refine ⟨_, _, _, fun b k cs hb hk => stepG_load_atomic rfl rfl hk rfl Try.func41 (by kernel_rfl) (by kernel_rfl) (by kernel_rfl) .i32 (by rfl) rfl ((atRel_cell hF _).trans hc), ?_, ?_⟩
  · intro e he
    simp at he
    subst he
    exact evP_sync _ _ _
  walk_nrm
  (refine opsW_cons rfl (by rfl) ?_; intro _ hR K hK; replace hF := atRel_trans _ _ _ hF hR; clear hR; have hs9 := atRel_size hF; go_simp; refine hK _ _ ⟨?_, ?_⟩; (· rw [listed_nil (by simp [go_sem, *])]; exact dp0_nil); clear hK K hs9; try walk_nrm)
  (refine opsW_nil T9 ?_; simp only [Exit.then])
  (refine codeW_ret T9 ?_)
  exact ⟨rfl, _, resultsC_tmp rfl _, rfl, hF⟩
theorem b32_W (w : World) : CW Shun 38 #[.bool true] w (fun r w' => r = .int .u32 1 ∧ AtRel w w') := by
  have T9 := termsP Shun
  refine callsW_enter Try.func38 (by kernel_rfl) rfl ?_
  simp only [Try.ntmps38]
  walk_nrm
  have hF := atRel_refl w
  ((refine codeW_seq T9 ?_); (refine codeW_region T9 ?_; simp only [List.size_toArray, List.length_cons, List.length_nil, Nat.reduceAdd, Nat.zero_add, List.range, List.range.loop]); (repeat (refine opsW_cons rfl (by rfl) ?_; intro _ hR K hK; replace hF := atRel_trans _ _ _ hF hR; clear hR; have hs9 := atRel_size hF; go_simp; refine hK _ _ ⟨?_, ?_⟩; (· rw [listed_nil (by simp [go_sem, *])]; exact dp0_nil); clear hK K hs9; try walk_nrm)); (refine opsW_nil T9 ?_; simp only [Exit.then]))
  (refine codeW_seq T9 ?_)
  (refine codeW_seq T9 ?_)
  (refine codeW_region T9 ?_; simp only [List.size_toArray, List.length_cons, List.length_nil, Nat.reduceAdd, Nat.zero_add, List.range, List.range.loop])
  (repeat (refine opsW_cons rfl (by rfl) ?_; intro _ hR K hK; replace hF := atRel_trans _ _ _ hF hR; clear hR; have hs9 := atRel_size hF; go_simp; refine hK _ _ ⟨?_, ?_⟩; (· rw [listed_nil (by simp [go_sem, *])]; exact dp0_nil); clear hK K hs9; try walk_nrm))
  (refine opsW_nil T9 ?_; simp only [Exit.then])
  refine codeW_cond T9 (t := true) rfl ?_
  simp only [if_true]
  (refine codeW_seq T9 ?_)
  (refine codeW_region T9 ?_; simp only [List.size_toArray, List.length_cons, List.length_nil, Nat.reduceAdd, Nat.zero_add, List.range, List.range.loop])
  (repeat (refine opsW_cons rfl (by rfl) ?_; intro _ hR K hK; replace hF := atRel_trans _ _ _ hF hR; clear hR; have hs9 := atRel_size hF; go_simp; refine hK _ _ ⟨?_, ?_⟩; (· rw [listed_nil (by simp [go_sem, *])]; exact dp0_nil); clear hK K hs9; try walk_nrm))
  (refine opsW_nil T9 ?_; simp only [Exit.then])
  (refine codeW_ret T9 ?_)
  exact ⟨rfl, _, resultsC_tmp rfl _, rfl, hF⟩
theorem bstore_W (g o : Nat) (u : Value) (w : World) (hc : w.cell? ⟨g, o, none⟩ = some u) (hz : w.frozen? ⟨g, o, none⟩ = false) : CW Shun 25 #[.pointer (some ⟨g, o, none⟩), .bool true] w (fun r w' => r = .tuple #[] ∧ AtRel (w.setCell ⟨g, o, none⟩ (.int .u32 1)) w') := by
  have T9 := termsP Shun
  refine callsW_enter Try.func25 (by kernel_rfl) rfl ?_
  simp only [Try.ntmps25]
  walk_nrm
  have hF := atRel_refl w
  refine codeW_region_any T9 (letsDraw_P Shun) (by rfl) (fun w₁ h₁ => ?_)
  replace hF := atRel_draw (n := w₁.drawn + 1) (atRel_trans _ _ _ hF h₁)
  clear h₁
  generalize { w₁ with drawn := w₁.drawn + 1 } = w2 at hF ⊢
  simp only [List.size_toArray, List.length_cons, List.length_nil, Nat.reduceAdd, Nat.zero_add]
  refine anyW_all (rs := [0, 3]) (by kernel_rfl) (by simp) ?_
  intro i hi
  simp only [List.mem_cons, List.not_mem_nil, or_false] at hi
  rcases hi with rfl | rfl
  · skip
    (refine opW_cons rfl (by rfl) ?_; intro _ hR K hK; replace hF := atRel_trans _ _ _ hF hR; clear hR; go_simp; refine hK _ _ ⟨?_, ?_⟩; (· rw [listed_nil (by simp [go_sem, *])]; exact dp0_nil); clear hK K; try walk_nrm)
    refine anyW_all (rs := [1, 3]) (by kernel_rfl) (by simp) ?_
    intro i hi
    simp only [List.mem_cons, List.not_mem_nil, or_false] at hi
    rcases hi with rfl | rfl
    · skip
      (refine opW_cons rfl (by rfl) ?_; intro _ hR K hK; replace hF := atRel_trans _ _ _ hF hR; clear hR; go_simp; refine hK _ _ ⟨?_, ?_⟩; (· rw [listed_nil (by simp [go_sem, *])]; exact dp0_nil); clear hK K; try walk_nrm)
      refine anyW_all (rs := [2, 3]) (by kernel_rfl) (by simp) ?_
      intro i hi
      simp only [List.mem_cons, List.not_mem_nil, or_false] at hi
      rcases hi with rfl | rfl
      · skip
        (refine opW_cons rfl (by rfl) ?_; intro _ hR K hK; replace hF := atRel_trans _ _ _ hF hR; clear hR; go_simp; refine hK _ _ ⟨?_, ?_⟩; (· rw [listed_nil (by simp [go_sem, *])]; exact dp0_nil); clear hK K; try walk_nrm)
        refine anyW_all (rs := [3]) (by kernel_rfl) (by simp) ?_
        intro i hi
        simp only [List.mem_cons, List.not_mem_nil, or_false] at hi
        subst hi
        (refine opW_cons rfl (by rfl) ?_; intro _ hR K hK; replace hF := atRel_trans _ _ _ hF hR; clear hR; go_simp; refine hK _ _ ⟨?_, ?_⟩; (· rw [listed_nil (by simp [go_sem, *])]; exact dp0_nil); clear hK K; try walk_nrm)
        refine anyW_all (rs := [4]) (by kernel_rfl) (by simp) ?_
        intro i hi
        simp only [List.mem_cons, List.not_mem_nil, or_false] at hi
        subst hi
        co_apply opW_call T9 rfl (by rfl) rfl
        · walk_nrm
          exact b32_W _
        rintro _ w' ⟨rfl, hF'⟩
        replace hF := atRel_trans _ _ _ hF hF'
        clear hF'
        walk_nrm
        refine anyW_all (rs := [5]) (by kernel_rfl) (by simp) ?_
        intro i hi
        simp only [List.mem_cons, List.not_mem_nil, or_false] at hi
        subst hi
        refine opW_step rfl (fun w₁ h₁ => ?_)
        replace hF := atRel_trans _ _ _ hF h₁
        clear h₁
        refine ⟨_, _, _, fun b k cs hb hk rest => stepG_store_atomic rfl rfl hk rfl Try.func37 (by kernel_rfl) (by kernel_rfl) (by kernel_rfl) (by rfl) rfl rfl ((atRel_cell hF _).trans hc) ((atRel_frozen hF _).trans hz), ?_, ?_⟩
        · intro e he
          simp at he
          subst he
          exact evP_sync _ _ _
        replace hF := atRel_set hF ⟨g, o, none⟩ (.int .u32 1)
        walk_nrm
        refine anyW_done ?_
        exact ⟨rfl, _, resultsC_none rfl _, rfl, hF⟩
      · skip
        (refine opW_cons rfl (by rfl) ?_; intro _ hR K hK; replace hF := atRel_trans _ _ _ hF hR; clear hR; go_simp; refine hK _ _ ⟨?_, ?_⟩; (· rw [listed_nil (by simp [go_sem, *])]; exact dp0_nil); clear hK K; try walk_nrm)
        refine anyW_all (rs := [2, 4]) (by kernel_rfl) (by simp) ?_
        intro i hi
        simp only [List.mem_cons, List.not_mem_nil, or_false] at hi
        rcases hi with rfl | rfl
        · skip
          (refine opW_cons rfl (by rfl) ?_; intro _ hR K hK; replace hF := atRel_trans _ _ _ hF hR; clear hR; go_simp; refine hK _ _ ⟨?_, ?_⟩; (· rw [listed_nil (by simp [go_sem, *])]; exact dp0_nil); clear hK K; try walk_nrm)
          refine anyW_all (rs := [4]) (by kernel_rfl) (by simp) ?_
          intro i hi
          simp only [List.mem_cons, List.not_mem_nil, or_false] at hi
          subst hi
          co_apply opW_call T9 rfl (by rfl) rfl
          · walk_nrm
            exact b32_W _
          rintro _ w' ⟨rfl, hF'⟩
          replace hF := atRel_trans _ _ _ hF hF'
          clear hF'
          walk_nrm
          refine anyW_all (rs := [5]) (by kernel_rfl) (by simp) ?_
          intro i hi
          simp only [List.mem_cons, List.not_mem_nil, or_false] at hi
          subst hi
          refine opW_step rfl (fun w₁ h₁ => ?_)
          replace hF := atRel_trans _ _ _ hF h₁
          clear h₁
          refine ⟨_, _, _, fun b k cs hb hk rest => stepG_store_atomic rfl rfl hk rfl Try.func37 (by kernel_rfl) (by kernel_rfl) (by kernel_rfl) (by rfl) rfl rfl ((atRel_cell hF _).trans hc) ((atRel_frozen hF _).trans hz), ?_, ?_⟩
          · intro e he
            simp at he
            subst he
            exact evP_sync _ _ _
          replace hF := atRel_set hF ⟨g, o, none⟩ (.int .u32 1)
          walk_nrm
          refine anyW_done ?_
          exact ⟨rfl, _, resultsC_none rfl _, rfl, hF⟩
        · skip
          co_apply opW_call T9 rfl (by rfl) rfl
          · walk_nrm
            exact b32_W _
          rintro _ w' ⟨rfl, hF'⟩
          replace hF := atRel_trans _ _ _ hF hF'
          clear hF'
          walk_nrm
          refine anyW_all (rs := [2]) (by kernel_rfl) (by simp) ?_
          intro i hi
          simp only [List.mem_cons, List.not_mem_nil, or_false] at hi
          subst hi
          (refine opW_cons rfl (by rfl) ?_; intro _ hR K hK; replace hF := atRel_trans _ _ _ hF hR; clear hR; go_simp; refine hK _ _ ⟨?_, ?_⟩; (· rw [listed_nil (by simp [go_sem, *])]; exact dp0_nil); clear hK K; try walk_nrm)
          refine anyW_all (rs := [5]) (by kernel_rfl) (by simp) ?_
          intro i hi
          simp only [List.mem_cons, List.not_mem_nil, or_false] at hi
          subst hi
          refine opW_step rfl (fun w₁ h₁ => ?_)
          replace hF := atRel_trans _ _ _ hF h₁
          clear h₁
          refine ⟨_, _, _, fun b k cs hb hk rest => stepG_store_atomic rfl rfl hk rfl Try.func37 (by kernel_rfl) (by kernel_rfl) (by kernel_rfl) (by rfl) rfl rfl ((atRel_cell hF _).trans hc) ((atRel_frozen hF _).trans hz), ?_, ?_⟩
          · intro e he
            simp at he
            subst he
            exact evP_sync _ _ _
          replace hF := atRel_set hF ⟨g, o, none⟩ (.int .u32 1)
          walk_nrm
          refine anyW_done ?_
          exact ⟨rfl, _, resultsC_none rfl _, rfl, hF⟩
    · skip
      (refine opW_cons rfl (by rfl) ?_; intro _ hR K hK; replace hF := atRel_trans _ _ _ hF hR; clear hR; go_simp; refine hK _ _ ⟨?_, ?_⟩; (· rw [listed_nil (by simp [go_sem, *])]; exact dp0_nil); clear hK K; try walk_nrm)
      refine anyW_all (rs := [1, 4]) (by kernel_rfl) (by simp) ?_
      intro i hi
      simp only [List.mem_cons, List.not_mem_nil, or_false] at hi
      rcases hi with rfl | rfl
      · skip
        (refine opW_cons rfl (by rfl) ?_; intro _ hR K hK; replace hF := atRel_trans _ _ _ hF hR; clear hR; go_simp; refine hK _ _ ⟨?_, ?_⟩; (· rw [listed_nil (by simp [go_sem, *])]; exact dp0_nil); clear hK K; try walk_nrm)
        refine anyW_all (rs := [2, 4]) (by kernel_rfl) (by simp) ?_
        intro i hi
        simp only [List.mem_cons, List.not_mem_nil, or_false] at hi
        rcases hi with rfl | rfl
        · skip
          (refine opW_cons rfl (by rfl) ?_; intro _ hR K hK; replace hF := atRel_trans _ _ _ hF hR; clear hR; go_simp; refine hK _ _ ⟨?_, ?_⟩; (· rw [listed_nil (by simp [go_sem, *])]; exact dp0_nil); clear hK K; try walk_nrm)
          refine anyW_all (rs := [4]) (by kernel_rfl) (by simp) ?_
          intro i hi
          simp only [List.mem_cons, List.not_mem_nil, or_false] at hi
          subst hi
          co_apply opW_call T9 rfl (by rfl) rfl
          · walk_nrm
            exact b32_W _
          rintro _ w' ⟨rfl, hF'⟩
          replace hF := atRel_trans _ _ _ hF hF'
          clear hF'
          walk_nrm
          refine anyW_all (rs := [5]) (by kernel_rfl) (by simp) ?_
          intro i hi
          simp only [List.mem_cons, List.not_mem_nil, or_false] at hi
          subst hi
          refine opW_step rfl (fun w₁ h₁ => ?_)
          replace hF := atRel_trans _ _ _ hF h₁
          clear h₁
          refine ⟨_, _, _, fun b k cs hb hk rest => stepG_store_atomic rfl rfl hk rfl Try.func37 (by kernel_rfl) (by kernel_rfl) (by kernel_rfl) (by rfl) rfl rfl ((atRel_cell hF _).trans hc) ((atRel_frozen hF _).trans hz), ?_, ?_⟩
          · intro e he
            simp at he
            subst he
            exact evP_sync _ _ _
          replace hF := atRel_set hF ⟨g, o, none⟩ (.int .u32 1)
          walk_nrm
          refine anyW_done ?_
          exact ⟨rfl, _, resultsC_none rfl _, rfl, hF⟩
        · skip
          co_apply opW_call T9 rfl (by rfl) rfl
          · walk_nrm
            exact b32_W _
          rintro _ w' ⟨rfl, hF'⟩
          replace hF := atRel_trans _ _ _ hF hF'
          clear hF'
          walk_nrm
          refine anyW_all (rs := [2]) (by kernel_rfl) (by simp) ?_
          intro i hi
          simp only [List.mem_cons, List.not_mem_nil, or_false] at hi
          subst hi
          (refine opW_cons rfl (by rfl) ?_; intro _ hR K hK; replace hF := atRel_trans _ _ _ hF hR; clear hR; go_simp; refine hK _ _ ⟨?_, ?_⟩; (· rw [listed_nil (by simp [go_sem, *])]; exact dp0_nil); clear hK K; try walk_nrm)
          refine anyW_all (rs := [5]) (by kernel_rfl) (by simp) ?_
          intro i hi
          simp only [List.mem_cons, List.not_mem_nil, or_false] at hi
          subst hi
          refine opW_step rfl (fun w₁ h₁ => ?_)
          replace hF := atRel_trans _ _ _ hF h₁
          clear h₁
          refine ⟨_, _, _, fun b k cs hb hk rest => stepG_store_atomic rfl rfl hk rfl Try.func37 (by kernel_rfl) (by kernel_rfl) (by kernel_rfl) (by rfl) rfl rfl ((atRel_cell hF _).trans hc) ((atRel_frozen hF _).trans hz), ?_, ?_⟩
          · intro e he
            simp at he
            subst he
            exact evP_sync _ _ _
          replace hF := atRel_set hF ⟨g, o, none⟩ (.int .u32 1)
          walk_nrm
          refine anyW_done ?_
          exact ⟨rfl, _, resultsC_none rfl _, rfl, hF⟩
      · skip
        co_apply opW_call T9 rfl (by rfl) rfl
        · walk_nrm
          exact b32_W _
        rintro _ w' ⟨rfl, hF'⟩
        replace hF := atRel_trans _ _ _ hF hF'
        clear hF'
        walk_nrm
        refine anyW_all (rs := [1]) (by kernel_rfl) (by simp) ?_
        intro i hi
        simp only [List.mem_cons, List.not_mem_nil, or_false] at hi
        subst hi
        (refine opW_cons rfl (by rfl) ?_; intro _ hR K hK; replace hF := atRel_trans _ _ _ hF hR; clear hR; go_simp; refine hK _ _ ⟨?_, ?_⟩; (· rw [listed_nil (by simp [go_sem, *])]; exact dp0_nil); clear hK K; try walk_nrm)
        refine anyW_all (rs := [2]) (by kernel_rfl) (by simp) ?_
        intro i hi
        simp only [List.mem_cons, List.not_mem_nil, or_false] at hi
        subst hi
        (refine opW_cons rfl (by rfl) ?_; intro _ hR K hK; replace hF := atRel_trans _ _ _ hF hR; clear hR; go_simp; refine hK _ _ ⟨?_, ?_⟩; (· rw [listed_nil (by simp [go_sem, *])]; exact dp0_nil); clear hK K; try walk_nrm)
        refine anyW_all (rs := [5]) (by kernel_rfl) (by simp) ?_
        intro i hi
        simp only [List.mem_cons, List.not_mem_nil, or_false] at hi
        subst hi
        refine opW_step rfl (fun w₁ h₁ => ?_)
        replace hF := atRel_trans _ _ _ hF h₁
        clear h₁
        refine ⟨_, _, _, fun b k cs hb hk rest => stepG_store_atomic rfl rfl hk rfl Try.func37 (by kernel_rfl) (by kernel_rfl) (by kernel_rfl) (by rfl) rfl rfl ((atRel_cell hF _).trans hc) ((atRel_frozen hF _).trans hz), ?_, ?_⟩
        · intro e he
          simp at he
          subst he
          exact evP_sync _ _ _
        replace hF := atRel_set hF ⟨g, o, none⟩ (.int .u32 1)
        walk_nrm
        refine anyW_done ?_
        exact ⟨rfl, _, resultsC_none rfl _, rfl, hF⟩
  · skip
    (refine opW_cons rfl (by rfl) ?_; intro _ hR K hK; replace hF := atRel_trans _ _ _ hF hR; clear hR; go_simp; refine hK _ _ ⟨?_, ?_⟩; (· rw [listed_nil (by simp [go_sem, *])]; exact dp0_nil); clear hK K; try walk_nrm)
    refine anyW_all (rs := [0, 4]) (by kernel_rfl) (by simp) ?_
    intro i hi
    simp only [List.mem_cons, List.not_mem_nil, or_false] at hi
    rcases hi with rfl | rfl
    · skip
      (refine opW_cons rfl (by rfl) ?_; intro _ hR K hK; replace hF := atRel_trans _ _ _ hF hR; clear hR; go_simp; refine hK _ _ ⟨?_, ?_⟩; (· rw [listed_nil (by simp [go_sem, *])]; exact dp0_nil); clear hK K; try walk_nrm)
      refine anyW_all (rs := [1, 4]) (by kernel_rfl) (by simp) ?_
      intro i hi
      simp only [List.mem_cons, List.not_mem_nil, or_false] at hi
      rcases hi with rfl | rfl
      · skip
        (refine opW_cons rfl (by rfl) ?_; intro _ hR K hK; replace hF := atRel_trans _ _ _ hF hR; clear hR; go_simp; refine hK _ _ ⟨?_, ?_⟩; (· rw [listed_nil (by simp [go_sem, *])]; exact dp0_nil); clear hK K; try walk_nrm)
        refine anyW_all (rs := [2, 4]) (by kernel_rfl) (by simp) ?_
        intro i hi
        simp only [List.mem_cons, List.not_mem_nil, or_false] at hi
        rcases hi with rfl | rfl
        · skip
          (refine opW_cons rfl (by rfl) ?_; intro _ hR K hK; replace hF := atRel_trans _ _ _ hF hR; clear hR; go_simp; refine hK _ _ ⟨?_, ?_⟩; (· rw [listed_nil (by simp [go_sem, *])]; exact dp0_nil); clear hK K; try walk_nrm)
          refine anyW_all (rs := [4]) (by kernel_rfl) (by simp) ?_
          intro i hi
          simp only [List.mem_cons, List.not_mem_nil, or_false] at hi
          subst hi
          co_apply opW_call T9 rfl (by rfl) rfl
          · walk_nrm
            exact b32_W _
          rintro _ w' ⟨rfl, hF'⟩
          replace hF := atRel_trans _ _ _ hF hF'
          clear hF'
          walk_nrm
          refine anyW_all (rs := [5]) (by kernel_rfl) (by simp) ?_
          intro i hi
          simp only [List.mem_cons, List.not_mem_nil, or_false] at hi
          subst hi
          refine opW_step rfl (fun w₁ h₁ => ?_)
          replace hF := atRel_trans _ _ _ hF h₁
          clear h₁
          refine ⟨_, _, _, fun b k cs hb hk rest => stepG_store_atomic rfl rfl hk rfl Try.func37 (by kernel_rfl) (by kernel_rfl) (by kernel_rfl) (by rfl) rfl rfl ((atRel_cell hF _).trans hc) ((atRel_frozen hF _).trans hz), ?_, ?_⟩
          · intro e he
            simp at he
            subst he
            exact evP_sync _ _ _
          replace hF := atRel_set hF ⟨g, o, none⟩ (.int .u32 1)
          walk_nrm
          refine anyW_done ?_
          exact ⟨rfl, _, resultsC_none rfl _, rfl, hF⟩
        · skip
          co_apply opW_call T9 rfl (by rfl) rfl
          · walk_nrm
            exact b32_W _
          rintro _ w' ⟨rfl, hF'⟩
          replace hF := atRel_trans _ _ _ hF hF'
          clear hF'
          walk_nrm
          refine anyW_all (rs := [2]) (by kernel_rfl) (by simp) ?_
          intro i hi
          simp only [List.mem_cons, List.not_mem_nil, or_false] at hi
          subst hi
          (refine opW_cons rfl (by rfl) ?_; intro _ hR K hK; replace hF := atRel_trans _ _ _ hF hR; clear hR; go_simp; refine hK _ _ ⟨?_, ?_⟩; (· rw [listed_nil (by simp [go_sem, *])]; exact dp0_nil); clear hK K; try walk_nrm)
          refine anyW_all (rs := [5]) (by kernel_rfl) (by simp) ?_
          intro i hi
          simp only [List.mem_cons, List.not_mem_nil, or_false] at hi
          subst hi
          refine opW_step rfl (fun w₁ h₁ => ?_)
          replace hF := atRel_trans _ _ _ hF h₁
          clear h₁
          refine ⟨_, _, _, fun b k cs hb hk rest => stepG_store_atomic rfl rfl hk rfl Try.func37 (by kernel_rfl) (by kernel_rfl) (by kernel_rfl) (by rfl) rfl rfl ((atRel_cell hF _).trans hc) ((atRel_frozen hF _).trans hz), ?_, ?_⟩
          · intro e he
            simp at he
            subst he
            exact evP_sync _ _ _
          replace hF := atRel_set hF ⟨g, o, none⟩ (.int .u32 1)
          walk_nrm
          refine anyW_done ?_
          exact ⟨rfl, _, resultsC_none rfl _, rfl, hF⟩
      · skip
        co_apply opW_call T9 rfl (by rfl) rfl
        · walk_nrm
          exact b32_W _
        rintro _ w' ⟨rfl, hF'⟩
        replace hF := atRel_trans _ _ _ hF hF'
        clear hF'
        walk_nrm
        refine anyW_all (rs := [1]) (by kernel_rfl) (by simp) ?_
        intro i hi
        simp only [List.mem_cons, List.not_mem_nil, or_false] at hi
        subst hi
        (refine opW_cons rfl (by rfl) ?_; intro _ hR K hK; replace hF := atRel_trans _ _ _ hF hR; clear hR; go_simp; refine hK _ _ ⟨?_, ?_⟩; (· rw [listed_nil (by simp [go_sem, *])]; exact dp0_nil); clear hK K; try walk_nrm)
        refine anyW_all (rs := [2]) (by kernel_rfl) (by simp) ?_
        intro i hi
        simp only [List.mem_cons, List.not_mem_nil, or_false] at hi
        subst hi
        (refine opW_cons rfl (by rfl) ?_; intro _ hR K hK; replace hF := atRel_trans _ _ _ hF hR; clear hR; go_simp; refine hK _ _ ⟨?_, ?_⟩; (· rw [listed_nil (by simp [go_sem, *])]; exact dp0_nil); clear hK K; try walk_nrm)
        refine anyW_all (rs := [5]) (by kernel_rfl) (by simp) ?_
        intro i hi
        simp only [List.mem_cons, List.not_mem_nil, or_false] at hi
        subst hi
        refine opW_step rfl (fun w₁ h₁ => ?_)
        replace hF := atRel_trans _ _ _ hF h₁
        clear h₁
        refine ⟨_, _, _, fun b k cs hb hk rest => stepG_store_atomic rfl rfl hk rfl Try.func37 (by kernel_rfl) (by kernel_rfl) (by kernel_rfl) (by rfl) rfl rfl ((atRel_cell hF _).trans hc) ((atRel_frozen hF _).trans hz), ?_, ?_⟩
        · intro e he
          simp at he
          subst he
          exact evP_sync _ _ _
        replace hF := atRel_set hF ⟨g, o, none⟩ (.int .u32 1)
        walk_nrm
        refine anyW_done ?_
        exact ⟨rfl, _, resultsC_none rfl _, rfl, hF⟩
    · skip
      co_apply opW_call T9 rfl (by rfl) rfl
      · walk_nrm
        exact b32_W _
      rintro _ w' ⟨rfl, hF'⟩
      replace hF := atRel_trans _ _ _ hF hF'
      clear hF'
      walk_nrm
      refine anyW_all (rs := [0]) (by kernel_rfl) (by simp) ?_
      intro i hi
      simp only [List.mem_cons, List.not_mem_nil, or_false] at hi
      subst hi
      (refine opW_cons rfl (by rfl) ?_; intro _ hR K hK; replace hF := atRel_trans _ _ _ hF hR; clear hR; go_simp; refine hK _ _ ⟨?_, ?_⟩; (· rw [listed_nil (by simp [go_sem, *])]; exact dp0_nil); clear hK K; try walk_nrm)
      refine anyW_all (rs := [1]) (by kernel_rfl) (by simp) ?_
      intro i hi
      simp only [List.mem_cons, List.not_mem_nil, or_false] at hi
      subst hi
      (refine opW_cons rfl (by rfl) ?_; intro _ hR K hK; replace hF := atRel_trans _ _ _ hF hR; clear hR; go_simp; refine hK _ _ ⟨?_, ?_⟩; (· rw [listed_nil (by simp [go_sem, *])]; exact dp0_nil); clear hK K; try walk_nrm)
      refine anyW_all (rs := [2]) (by kernel_rfl) (by simp) ?_
      intro i hi
      simp only [List.mem_cons, List.not_mem_nil, or_false] at hi
      subst hi
      (refine opW_cons rfl (by rfl) ?_; intro _ hR K hK; replace hF := atRel_trans _ _ _ hF hR; clear hR; go_simp; refine hK _ _ ⟨?_, ?_⟩; (· rw [listed_nil (by simp [go_sem, *])]; exact dp0_nil); clear hK K; try walk_nrm)
      refine anyW_all (rs := [5]) (by kernel_rfl) (by simp) ?_
      intro i hi
      simp only [List.mem_cons, List.not_mem_nil, or_false] at hi
      subst hi
      refine opW_step rfl (fun w₁ h₁ => ?_)
      replace hF := atRel_trans _ _ _ hF h₁
      clear h₁
      refine ⟨_, _, _, fun b k cs hb hk rest => stepG_store_atomic rfl rfl hk rfl Try.func37 (by kernel_rfl) (by kernel_rfl) (by kernel_rfl) (by rfl) rfl rfl ((atRel_cell hF _).trans hc) ((atRel_frozen hF _).trans hz), ?_, ?_⟩
      · intro e he
        simp at he
        subst he
        exact evP_sync _ _ _
      replace hF := atRel_set hF ⟨g, o, none⟩ (.int .u32 1)
      walk_nrm
      refine anyW_done ?_
      exact ⟨rfl, _, resultsC_none rfl _, rfl, hF⟩
end
end Go.Proofs.Ytinghnaigpenkaa
