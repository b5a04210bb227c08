/- Seat 05: Rush of no lazy value: a worker. -/
import Derived.Test.YtinghnaigpenkaaNiC
namespace Go.Proofs.Ytinghnaigpenkaa
open Go.Conc Go.RowKit
open Go.ConcN (sumTo upd sumTo_upd upd_same upd_ne sumTo_congr sumTo_upd_out le_sumTo)
open Go.ConcR (WgAt stA Payload)
set_option linter.unusedVariables false
set_option linter.unusedSimpArgs false
set_option maxRecDepth 100000
set_option maxHeartbeats 8000000


theorem opV_visop {P : Program} {c : Cfg} {k C : Nat} {fn : FuncId} {ops : Array Oper} {B : Nat} {N : Nat} {u : c.U} {a : Act} {w : World} {i : Nat} {o : Oper} {M : Nat → c.U → Act → World → Prop} (ho : ops[i]? = some o) (hw : Region.wanted o (yielded ops a.tmps) = true) (hnf : ¬ c.fin u)
    (h : ∀ w₁, RW c C w w₁ → ∀ σ, c.Rep σ w₁ → c.Pre u σ → ∃ w' u' σ', (execOp a.eval o).run P w₁ = .ok .skip w' ∧ c.Tr u σ u' σ' ∧ c.Rep σ' w' ∧ OnlySB c w₁ w' ∧ (∀ e ∈ listed P fn a o w₁, EvV c k e) ∧ ∀ N1, N = N1 + 1 → M N1 u' (a.put o.dst undef) w') : OpV P c k C fn ops B i M N u a w :=
  opV_vis ho hnf fun w₁ h₁ σ hr hp => by
    obtain ⟨w', u', σ', h1, h2, h3, h4, h5, h6⟩ := h w₁ h₁ σ hr hp
    exact ⟨undef, w', listed P fn a o w₁, u', σ', fun b kk cs hb hk rest => by rw [← hb]; exact stepG_none ho hw hk h1, h2, h3, h4, h5, h6⟩
theorem cnt_spawn {n j : Nat} (us : Nat → Bool) (hj : j < n) : sumTo (j + 1) (fun i => if upd us j false i then 0 else 1) + (n - (j + 1)) ≤ sumTo j (fun i => if us i then 0 else 1) + (n - j) := by
  have e : sumTo (j + 1) (fun i => if upd us j false i then 0 else 1) = sumTo j (fun i => if us i then 0 else 1) + 1 := by
    simp only [sumTo, upd_same]
    rw [sumTo_upd_out us false (fun b => if b then 0 else 1) (Nat.le_refl _)]
    rfl
  rw [e]
  omega
theorem cnt_step {n j i : Nat} (us : Nat → Bool) (hi : i < j) (h : us i = false) : sumTo j (fun a => if upd us i true a then 0 else 1) + (n - j) < sumTo j (fun i => if us i then 0 else 1) + (n - j) := by
  have := sumTo_upd us true (fun b => if b then 0 else 1) hi
  rw [h] at this
  simp only [if_true, Bool.false_eq_true, if_false] at this
  omega
theorem onlySB_set {c : Cfg} (w : World) (a : Addr) (v : Value) (ha : c.SB a.block) : OnlySB c w (w.setCell a v) :=
  ⟨⟨(aside_setCell w a v).tape, (aside_setCell w a v).os, (aside_setCell w a v).output⟩, (aside_setCell w a v).size, fun b hb => (aside_setCell w a v).block b (fun e => hb (e ▸ ha))⟩
theorem evV_own {c : Cfg} {k : Nat} {a : Addr} (h : c.own k (.cell a)) : EvV c k ⟨.cell a, true, false⟩ := by
  refine ⟨fun x hx _ => ?_, by simp, by simp, by simp⟩
  simp only [ofEvent_cell0, MemAct.touch?, Option.some.injEq] at hx
  subst hx
  exact .inr ⟨by simp, h⟩
theorem heap_set9 {w : World} {g j : Nat} {cs : Array Value} {T : TypeId} {v : Value} (h : w.heap[g]? = some (.cells cs T)) (hv : cs[j]? = some v) : (w.setCell ⟨g, j, none⟩ v).heap[g]? = some (.cells cs T) := by
  have hlt : j < cs.size := (Array.getElem?_eq_some_iff.1 hv).1
  have e1 : cs.setIfInBounds j v = cs := by
    apply Array.ext_getElem?
    intro i
    by_cases hi : i = j
    · subst hi; rw [Array.getElem?_setIfInBounds_self_of_lt hlt, hv]
    · rw [Array.getElem?_setIfInBounds_ne (by omega)]
  rw [setCell_eq_setRow w g j _ _ (0, 0) _ h, setRow_heap w g _ _ _ _ h, e1]
/-- each worker writes a cell of its own -/
def nrC (H n N0 Ob : Nat) (d : Nat → Prop) : Cfg where
  ty := 95
  Wg := H + 1
  n := n
  N0 := N0
  H0 := H + 2
  SB := fun b => b = Ob
  sh := blkS fun b => b = H + 1 ∨ d b
  own := fun k l => N0 ≤ k ∧ l = .cell ⟨Ob, k - N0, none⟩
  U := Bool
  S := Unit
  Rep := fun _ w => w.heap[Ob]? = some (.cells (Array.replicate n (.int .u64 0)) 25)
  Pre := fun _ _ => True
  Tr := fun u _ u' _ => u = false ∧ u' = true
  fin := fun u => u = true
  init := fun _ => false
  JU := fun _ _ j => j ≤ n
  mu := fun _ us j => sumTo j (fun i => if us i then 0 else 1) + (n - j)
theorem nrO {H n N0 Ob : Nat} {d : Nat → Prop} (hn : n < 2147483648) (hN : 0 < N0) (hd : ∀ b, d b → b < H ∧ b ≠ Ob) (hO : Ob < H) : AlO (nrC H n N0 Ob d) H where
  K := {
    hn := hn
    hN := hN
    rep_same := fun _ w w' h e => (e Ob rfl).trans h
    sb_hard := fun _ w b h hb => by
      rintro ⟨v, hv⟩
      obtain rfl : b = Ob := hb
      have h : w.heap[b]? = some (.cells (Array.replicate n (.int .u64 0)) 25) := h
      rw [h] at hv
      injection hv with hv
      injection hv with _ hv
      exact absurd hv (by decide)
    sb_lt := fun _ w b h hb => by
      obtain rfl : b = Ob := hb
      exact (Array.getElem?_eq_some_iff.1 (show w.heap[b]? = _ from h)).1
    sbWg := fun h => by have h : H + 1 = Ob := h; omega
    shWg := fun a ha => ⟨a, rfl, .inl ha⟩
    own_sh := fun k l h => by
      obtain ⟨_, rfl⟩ := h
      rintro ⟨a, e, h⟩
      injection e with e
      subst e
      rcases h with h | h
      · simp only at h; omega
      · exact (hd _ h).2 rfl
    own_one := fun k k' l h h' => by
      obtain ⟨h1, rfl⟩ := h
      obtain ⟨h2, e⟩ := h'
      injection e with e
      injection e with _ e
      omega
    own_mem := fun _ l h => by obtain ⟨_, rfl⟩ := h; rfl
    spawn := fun σ (us : Nat → Bool) j (hj : j < n) h => ⟨by show j + 1 ≤ n; omega, cnt_spawn us hj⟩
    step := fun σ (us : Nat → Bool) j i u' σ' hi h hf ht => ⟨h, by
      obtain ⟨h1, h2⟩ := ht
      have h2 : u' = true := h2
      subst h2
      exact cnt_step us hi h1⟩
    pre := fun _ _ _ _ _ _ _ => trivial }
  ty := rfl
  wg := rfl
  h0 := rfl
  lo := fun b h => by obtain rfl : b = Ob := h; exact hO
  pl := fun a ha => ⟨by
    rintro ⟨a', e, h⟩
    injection e with e
    subst e
    rcases h with h | h
    · omega
    · have := (hd _ h).1; omega, fun k h => by
    obtain ⟨_, e⟩ := h
    injection e with e
    subst e
    simp only at ha
    omega⟩
theorem rush1Nil_V {H n N0 Ob : Nat} {d : Nat → Prop} {wb : World} {C N j : Nat} {lb ob : Nat} {fv : Value} (A : AlO (nrC H n N0 Ob d) H) (hC : (nrC H n N0 Ob d).H0 ≤ C) (hj : j < n) (hlb : wb.heap[lb]? = some (.cells #[.pointer none] 39)) (hob : wb.heap[ob]? = some (.cells #[.slice (some ⟨Ob, 0, none⟩) n n] 44))
    (hl : ∀ g, g = lb ∨ g = ob → g < H ∧ g ≠ Ob ∧ ¬ d g) (w : World) (hF : WK (nrC H n N0 Ob d) wb H fv j C w) :
    CallsV Try.prog (nrC H n N0 Ob d) (N0 + j) C 35 (#[.int .i64 j] ++ #[.pointer (some ⟨lb, 0, none⟩), .pointer (some ⟨ob, 0, none⟩)]) 500 N false w (fun N' u' v w' => u' = true ∧ WK (nrC H n N0 Ob d) wb H fv j C w') := by
  have T9 := termsW (nrC H n N0 Ob d) C
  have rl9 : ∀ {w w₁ : World}, WK (nrC H n N0 Ob d) wb H fv j C w → RW (nrC H n N0 Ob d) C w w₁ → WK (nrC H n N0 Ob d) wb H fv j C w₁ := fun h r => h.rely A hC r
  have hlow : ∀ a : Addr, (a = ⟨lb, 0, none⟩ ∨ a = ⟨ob, 0, none⟩) → a.block < (nrC H n N0 Ob d).H0 ∧ ¬ (nrC H n N0 Ob d).sh (.cell a) ∧ ∀ k, ¬ (nrC H n N0 Ob d).own k (.cell a) := by
    intro a ha
    have hg : a.block = lb ∨ a.block = ob := by rcases ha with rfl | rfl <;> simp
    obtain ⟨h1, h2, h3⟩ := hl _ hg
    refine ⟨by show a.block < H + 2; omega, ?_, ?_⟩
    · rintro ⟨a', e, h⟩
      injection e with e
      subst e
      rcases h with h | h
      · omega
      · exact h3 h
    · rintro k ⟨_, e⟩
      injection e with e
      exact h2 (by rw [e])
  have hP1 : ∀ w, WK (nrC H n N0 Ob d) wb H fv j C w → w.cell? ⟨lb, 0, none⟩ = some (.pointer none) := fun w h => box_cell (h.old _ _ (hl lb (.inl rfl)).1 (hl lb (.inl rfl)).2.1 hlb)
  have hP2 : ∀ w, WK (nrC H n N0 Ob d) wb H fv j C w → w.cell? ⟨ob, 0, none⟩ = some (.slice (some ⟨Ob, 0, none⟩) n n) := fun w h => box_cell (h.old _ _ (hl ob (.inr rfl)).1 (hl ob (.inr rfl)).2.1 hob)
  have q1 : (j : Int) < (n : Int) := by omega
  have ad9 : (if j = 0 then (⟨Ob, 0, none⟩ : Addr) else ⟨Ob, 0 + j, none⟩) = ⟨Ob, j, none⟩ := by
    by_cases h : j = 0
    · subst h; rfl
    · rw [if_neg h, Nat.zero_add]
  have ad8 : (if j = 0 then (⟨Ob, 0, none⟩ : Addr) else ⟨Ob, j, none⟩) = ⟨Ob, j, none⟩ := by
    by_cases h : j = 0
    · subst h; rfl
    · rw [if_neg h]
  refine ⟨_, _, Try.func35, by kernel_rfl, rfl, ?_⟩
  co_apply codeV_more
  · simp only [Try.ntmps35]
    walk_nrm
    refine codeV_region_any (B := 70) (by rfl) (fun w₁ h₁ => ?_)
    replace hF := (rl9 hF h₁).draw (w₁.drawn + 1)
    clear h₁
    generalize { w₁ with drawn := w₁.drawn + 1 } = w2 at hF ⊢
    simp only [List.size_toArray, List.length_cons, List.length_nil, Nat.reduceAdd, Nat.zero_add]
    refine anyV_all (rs := [0, 1, 2]) (by kernel_rfl) (by simp) ?_
    intro i hi
    simp only [List.mem_cons, List.not_mem_nil, or_false] at hi
    rcases hi with rfl | rfl | rfl
    · skip
      (refine opV_cons (by decide) rfl (by rfl) ?_; intro _ hR K hK; replace hF := rl9 hF hR; clear hR; have m1 := hP1 _ hF; have m2 := hP2 _ hF; go_simp; refine hK _ _ ⟨?_, ?_⟩; (· refine dw_read (fun e he => ?_); have hm := mem_listed he; simp [go_sem, m1, m2] at hm; subst hm; exact evW_cell (.inr (hlow _ (by simp)).1) (hlow _ (by simp)).2); clear hK K m1 m2; try walk_nrm)
      refine anyV_all (rs := [1, 2]) (by kernel_rfl) (by simp) ?_
      intro i hi
      simp only [List.mem_cons, List.not_mem_nil, or_false] at hi
      rcases hi with rfl | rfl
      · skip
        (refine opV_cons (by decide) rfl (by rfl) ?_; intro _ hR K hK; replace hF := rl9 hF hR; clear hR; go_simp; refine hK _ _ ⟨?_, ?_⟩; (· rw [listed_nil (by simp [go_sem, *])]; exact DW.refl _ _ _); clear hK K; try walk_nrm)
        refine anyV_all (rs := [2]) (by kernel_rfl) (by simp) ?_
        intro i hi
        simp only [List.mem_cons, List.not_mem_nil, or_false] at hi
        subst hi
        (refine opV_cons (by decide) rfl (by rfl) ?_; intro _ hR K hK; replace hF := rl9 hF hR; clear hR; have m1 := hP1 _ hF; have m2 := hP2 _ hF; go_simp; refine hK _ _ ⟨?_, ?_⟩; (· refine dw_read (fun e he => ?_); have hm := mem_listed he; simp [go_sem, m1, m2] at hm; subst hm; exact evW_cell (.inr (hlow _ (by simp)).1) (hlow _ (by simp)).2); clear hK K m1 m2; try walk_nrm)
        refine anyV_all (rs := [3]) (by kernel_rfl) (by simp) ?_
        intro i hi
        simp only [List.mem_cons, List.not_mem_nil, or_false] at hi
        subst hi
        refine opV_call_silent (nf := 60) (by decide) rfl (by rfl) rfl ?_ ?_ (Post := fun v w' => WK (nrC H n N0 Ob d) wb H fv j C w' ∧ v = .int .u64 0)
        · walk_nrm
          exact lzGetNil_C (fun w w₁ r h => rl9 h r) _ hF
        rintro _ w' ⟨hF', rfl⟩
        clear hF
        have hF := hF'
        clear hF'
        walk_nrm
        refine anyV_all (rs := [4]) (by kernel_rfl) (by simp) ?_
        intro i hi
        simp only [List.mem_cons, List.not_mem_nil, or_false] at hi
        subst hi
        (refine opV_cons (by decide) rfl (by rfl) ?_; intro _ hR K hK; replace hF := rl9 hF hR; clear hR; go_simp; refine hK _ _ ⟨?_, ?_⟩; (· rw [listed_nil (by simp [go_sem, *])]; exact DW.refl _ _ _); clear hK K; try walk_nrm)
        refine anyV_all (rs := [5]) (by kernel_rfl) (by simp) ?_
        intro i hi
        simp only [List.mem_cons, List.not_mem_nil, or_false] at hi
        subst hi
        refine opV_visop rfl (by rfl) (by simp [nrC]) (fun w₁ h₁ σ hr hp => ?_)
        replace hF := rl9 hF h₁
        clear h₁
        have hr9 : w₁.heap[Ob]? = some (.cells (Array.replicate n (.int .u64 0)) 25) := hr
        have hc9 : w₁.cell? ⟨Ob, j, none⟩ = some (.int .u64 0) := by simp [World.cell?, hr9, hj]
        have hz9 : w₁.frozen? ⟨Ob, j, none⟩ = false := by simp [World.frozen?, hr9]
        have hr8 := heap_set9 hr9 (j := j) (v := .int .u64 0) (by simp [hj])
        have ho8 := onlySB_set (c := nrC H n N0 Ob d) w₁ ⟨Ob, j, none⟩ (.int .u64 0) rfl
        refine ⟨w₁.setCell ⟨Ob, j, none⟩ (.int .u64 0), true, (), by go_simp, ⟨rfl, rfl⟩, hr8, ho8, ?_, ?_⟩
        · intro e he
          have hm := mem_listed he
          simp [go_sem, storedEv, hc9] at hm
          rw [hm.2]
          exact evV_own ⟨by omega, by rw [show N0 + j - N0 = j by omega]⟩
        rintro N1 rfl
        replace hF := hF.only A hC ho8
        clear hr hp hr9 hc9 hz9 hr8 ho8
        walk_nrm
        refine anyV_done ?_
        exact ⟨rfl, _, resultsC_none rfl _, rfl, hF⟩
      · skip
        (refine opV_cons (by decide) rfl (by rfl) ?_; intro _ hR K hK; replace hF := rl9 hF hR; clear hR; have m1 := hP1 _ hF; have m2 := hP2 _ hF; go_simp; refine hK _ _ ⟨?_, ?_⟩; (· refine dw_read (fun e he => ?_); have hm := mem_listed he; simp [go_sem, m1, m2] at hm; subst hm; exact evW_cell (.inr (hlow _ (by simp)).1) (hlow _ (by simp)).2); clear hK K m1 m2; try walk_nrm)
        refine anyV_all (rs := [1, 3]) (by kernel_rfl) (by simp) ?_
        intro i hi
        simp only [List.mem_cons, List.not_mem_nil, or_false] at hi
        rcases hi with rfl | rfl
        · skip
          (refine opV_cons (by decide) rfl (by rfl) ?_; intro _ hR K hK; replace hF := rl9 hF hR; clear hR; go_simp; refine hK _ _ ⟨?_, ?_⟩; (· rw [listed_nil (by simp [go_sem, *])]; exact DW.refl _ _ _); clear hK K; try walk_nrm)
          refine anyV_all (rs := [3]) (by kernel_rfl) (by simp) ?_
          intro i hi
          simp only [List.mem_cons, List.not_mem_nil, or_false] at hi
          subst hi
          refine opV_call_silent (nf := 60) (by decide) rfl (by rfl) rfl ?_ ?_ (Post := fun v w' => WK (nrC H n N0 Ob d) wb H fv j C w' ∧ v = .int .u64 0)
          · walk_nrm
            exact lzGetNil_C (fun w w₁ r h => rl9 h r) _ hF
          rintro _ w' ⟨hF', rfl⟩
          clear hF
          have hF := hF'
          clear hF'
          walk_nrm
          refine anyV_all (rs := [4]) (by kernel_rfl) (by simp) ?_
          intro i hi
          simp only [List.mem_cons, List.not_mem_nil, or_false] at hi
          subst hi
          (refine opV_cons (by decide) rfl (by rfl) ?_; intro _ hR K hK; replace hF := rl9 hF hR; clear hR; go_simp; refine hK _ _ ⟨?_, ?_⟩; (· rw [listed_nil (by simp [go_sem, *])]; exact DW.refl _ _ _); clear hK K; try walk_nrm)
          refine anyV_all (rs := [5]) (by kernel_rfl) (by simp) ?_
          intro i hi
          simp only [List.mem_cons, List.not_mem_nil, or_false] at hi
          subst hi
          refine opV_visop rfl (by rfl) (by simp [nrC]) (fun w₁ h₁ σ hr hp => ?_)
          replace hF := rl9 hF h₁
          clear h₁
          have hr9 : w₁.heap[Ob]? = some (.cells (Array.replicate n (.int .u64 0)) 25) := hr
          have hc9 : w₁.cell? ⟨Ob, j, none⟩ = some (.int .u64 0) := by simp [World.cell?, hr9, hj]
          have hz9 : w₁.frozen? ⟨Ob, j, none⟩ = false := by simp [World.frozen?, hr9]
          have hr8 := heap_set9 hr9 (j := j) (v := .int .u64 0) (by simp [hj])
          have ho8 := onlySB_set (c := nrC H n N0 Ob d) w₁ ⟨Ob, j, none⟩ (.int .u64 0) rfl
          refine ⟨w₁.setCell ⟨Ob, j, none⟩ (.int .u64 0), true, (), by go_simp, ⟨rfl, rfl⟩, hr8, ho8, ?_, ?_⟩
          · intro e he
            have hm := mem_listed he
            simp [go_sem, storedEv, hc9] at hm
            rw [hm.2]
            exact evV_own ⟨by omega, by rw [show N0 + j - N0 = j by omega]⟩
          rintro N1 rfl
          replace hF := hF.only A hC ho8
          clear hr hp hr9 hc9 hz9 hr8 ho8
          walk_nrm
          refine anyV_done ?_
          exact ⟨rfl, _, resultsC_none rfl _, rfl, hF⟩
        · skip
          refine opV_call_silent (nf := 60) (by decide) rfl (by rfl) rfl ?_ ?_ (Post := fun v w' => WK (nrC H n N0 Ob d) wb H fv j C w' ∧ v = .int .u64 0)
          · walk_nrm
            exact lzGetNil_C (fun w w₁ r h => rl9 h r) _ hF
          rintro _ w' ⟨hF', rfl⟩
          clear hF
          have hF := hF'
          clear hF'
          walk_nrm
          refine anyV_all (rs := [1]) (by kernel_rfl) (by simp) ?_
          intro i hi
          simp only [List.mem_cons, List.not_mem_nil, or_false] at hi
          subst hi
          (refine opV_cons (by decide) rfl (by rfl) ?_; intro _ hR K hK; replace hF := rl9 hF hR; clear hR; go_simp; refine hK _ _ ⟨?_, ?_⟩; (· rw [listed_nil (by simp [go_sem, *])]; exact DW.refl _ _ _); clear hK K; try walk_nrm)
          refine anyV_all (rs := [4]) (by kernel_rfl) (by simp) ?_
          intro i hi
          simp only [List.mem_cons, List.not_mem_nil, or_false] at hi
          subst hi
          (refine opV_cons (by decide) rfl (by rfl) ?_; intro _ hR K hK; replace hF := rl9 hF hR; clear hR; go_simp; refine hK _ _ ⟨?_, ?_⟩; (· rw [listed_nil (by simp [go_sem, *])]; exact DW.refl _ _ _); clear hK K; try walk_nrm)
          refine anyV_all (rs := [5]) (by kernel_rfl) (by simp) ?_
          intro i hi
          simp only [List.mem_cons, List.not_mem_nil, or_false] at hi
          subst hi
          refine opV_visop rfl (by rfl) (by simp [nrC]) (fun w₁ h₁ σ hr hp => ?_)
          replace hF := rl9 hF h₁
          clear h₁
          have hr9 : w₁.heap[Ob]? = some (.cells (Array.replicate n (.int .u64 0)) 25) := hr
          have hc9 : w₁.cell? ⟨Ob, j, none⟩ = some (.int .u64 0) := by simp [World.cell?, hr9, hj]
          have hz9 : w₁.frozen? ⟨Ob, j, none⟩ = false := by simp [World.frozen?, hr9]
          have hr8 := heap_set9 hr9 (j := j) (v := .int .u64 0) (by simp [hj])
          have ho8 := onlySB_set (c := nrC H n N0 Ob d) w₁ ⟨Ob, j, none⟩ (.int .u64 0) rfl
          refine ⟨w₁.setCell ⟨Ob, j, none⟩ (.int .u64 0), true, (), by go_simp, ⟨rfl, rfl⟩, hr8, ho8, ?_, ?_⟩
          · intro e he
            have hm := mem_listed he
            simp [go_sem, storedEv, hc9] at hm
            rw [hm.2]
            exact evV_own ⟨by omega, by rw [show N0 + j - N0 = j by omega]⟩
          rintro N1 rfl
          replace hF := hF.only A hC ho8
          clear hr hp hr9 hc9 hz9 hr8 ho8
          walk_nrm
          refine anyV_done ?_
          exact ⟨rfl, _, resultsC_none rfl _, rfl, hF⟩
    · skip
      (refine opV_cons (by decide) rfl (by rfl) ?_; intro _ hR K hK; replace hF := rl9 hF hR; clear hR; go_simp; refine hK _ _ ⟨?_, ?_⟩; (· rw [listed_nil (by simp [go_sem, *])]; exact DW.refl _ _ _); clear hK K; try walk_nrm)
      refine anyV_all (rs := [0, 2]) (by kernel_rfl) (by simp) ?_
      intro i hi
      simp only [List.mem_cons, List.not_mem_nil, or_false] at hi
      rcases hi with rfl | rfl
      · skip
        (refine opV_cons (by decide) rfl (by rfl) ?_; intro _ hR K hK; replace hF := rl9 hF hR; clear hR; have m1 := hP1 _ hF; have m2 := hP2 _ hF; go_simp; refine hK _ _ ⟨?_, ?_⟩; (· refine dw_read (fun e he => ?_); have hm := mem_listed he; simp [go_sem, m1, m2] at hm; subst hm; exact evW_cell (.inr (hlow _ (by simp)).1) (hlow _ (by simp)).2); clear hK K m1 m2; try walk_nrm)
        refine anyV_all (rs := [2]) (by kernel_rfl) (by simp) ?_
        intro i hi
        simp only [List.mem_cons, List.not_mem_nil, or_false] at hi
        subst hi
        (refine opV_cons (by decide) rfl (by rfl) ?_; intro _ hR K hK; replace hF := rl9 hF hR; clear hR; have m1 := hP1 _ hF; have m2 := hP2 _ hF; go_simp; refine hK _ _ ⟨?_, ?_⟩; (· refine dw_read (fun e he => ?_); have hm := mem_listed he; simp [go_sem, m1, m2] at hm; subst hm; exact evW_cell (.inr (hlow _ (by simp)).1) (hlow _ (by simp)).2); clear hK K m1 m2; try walk_nrm)
        refine anyV_all (rs := [3]) (by kernel_rfl) (by simp) ?_
        intro i hi
        simp only [List.mem_cons, List.not_mem_nil, or_false] at hi
        subst hi
        refine opV_call_silent (nf := 60) (by decide) rfl (by rfl) rfl ?_ ?_ (Post := fun v w' => WK (nrC H n N0 Ob d) wb H fv j C w' ∧ v = .int .u64 0)
        · walk_nrm
          exact lzGetNil_C (fun w w₁ r h => rl9 h r) _ hF
        rintro _ w' ⟨hF', rfl⟩
        clear hF
        have hF := hF'
        clear hF'
        walk_nrm
        refine anyV_all (rs := [4]) (by kernel_rfl) (by simp) ?_
        intro i hi
        simp only [List.mem_cons, List.not_mem_nil, or_false] at hi
        subst hi
        (refine opV_cons (by decide) rfl (by rfl) ?_; intro _ hR K hK; replace hF := rl9 hF hR; clear hR; go_simp; refine hK _ _ ⟨?_, ?_⟩; (· rw [listed_nil (by simp [go_sem, *])]; exact DW.refl _ _ _); clear hK K; try walk_nrm)
        refine anyV_all (rs := [5]) (by kernel_rfl) (by simp) ?_
        intro i hi
        simp only [List.mem_cons, List.not_mem_nil, or_false] at hi
        subst hi
        refine opV_visop rfl (by rfl) (by simp [nrC]) (fun w₁ h₁ σ hr hp => ?_)
        replace hF := rl9 hF h₁
        clear h₁
        have hr9 : w₁.heap[Ob]? = some (.cells (Array.replicate n (.int .u64 0)) 25) := hr
        have hc9 : w₁.cell? ⟨Ob, j, none⟩ = some (.int .u64 0) := by simp [World.cell?, hr9, hj]
        have hz9 : w₁.frozen? ⟨Ob, j, none⟩ = false := by simp [World.frozen?, hr9]
        have hr8 := heap_set9 hr9 (j := j) (v := .int .u64 0) (by simp [hj])
        have ho8 := onlySB_set (c := nrC H n N0 Ob d) w₁ ⟨Ob, j, none⟩ (.int .u64 0) rfl
        refine ⟨w₁.setCell ⟨Ob, j, none⟩ (.int .u64 0), true, (), by go_simp, ⟨rfl, rfl⟩, hr8, ho8, ?_, ?_⟩
        · intro e he
          have hm := mem_listed he
          simp [go_sem, storedEv, hc9] at hm
          rw [hm.2]
          exact evV_own ⟨by omega, by rw [show N0 + j - N0 = j by omega]⟩
        rintro N1 rfl
        replace hF := hF.only A hC ho8
        clear hr hp hr9 hc9 hz9 hr8 ho8
        walk_nrm
        refine anyV_done ?_
        exact ⟨rfl, _, resultsC_none rfl _, rfl, hF⟩
      · skip
        (refine opV_cons (by decide) rfl (by rfl) ?_; intro _ hR K hK; replace hF := rl9 hF hR; clear hR; have m1 := hP1 _ hF; have m2 := hP2 _ hF; go_simp; refine hK _ _ ⟨?_, ?_⟩; (· refine dw_read (fun e he => ?_); have hm := mem_listed he; simp [go_sem, m1, m2] at hm; subst hm; exact evW_cell (.inr (hlow _ (by simp)).1) (hlow _ (by simp)).2); clear hK K m1 m2; try walk_nrm)
        refine anyV_all (rs := [0, 3]) (by kernel_rfl) (by simp) ?_
        intro i hi
        simp only [List.mem_cons, List.not_mem_nil, or_false] at hi
        rcases hi with rfl | rfl
        · skip
          (refine opV_cons (by decide) rfl (by rfl) ?_; intro _ hR K hK; replace hF := rl9 hF hR; clear hR; have m1 := hP1 _ hF; have m2 := hP2 _ hF; go_simp; refine hK _ _ ⟨?_, ?_⟩; (· refine dw_read (fun e he => ?_); have hm := mem_listed he; simp [go_sem, m1, m2] at hm; subst hm; exact evW_cell (.inr (hlow _ (by simp)).1) (hlow _ (by simp)).2); clear hK K m1 m2; try walk_nrm)
          refine anyV_all (rs := [3]) (by kernel_rfl) (by simp) ?_
          intro i hi
          simp only [List.mem_cons, List.not_mem_nil, or_false] at hi
          subst hi
          refine opV_call_silent (nf := 60) (by decide) rfl (by rfl) rfl ?_ ?_ (Post := fun v w' => WK (nrC H n N0 Ob d) wb H fv j C w' ∧ v = .int .u64 0)
          · walk_nrm
            exact lzGetNil_C (fun w w₁ r h => rl9 h r) _ hF
          rintro _ w' ⟨hF', rfl⟩
          clear hF
          have hF := hF'
          clear hF'
          walk_nrm
          refine anyV_all (rs := [4]) (by kernel_rfl) (by simp) ?_
          intro i hi
          simp only [List.mem_cons, List.not_mem_nil, or_false] at hi
          subst hi
          (refine opV_cons (by decide) rfl (by rfl) ?_; intro _ hR K hK; replace hF := rl9 hF hR; clear hR; go_simp; refine hK _ _ ⟨?_, ?_⟩; (· rw [listed_nil (by simp [go_sem, *])]; exact DW.refl _ _ _); clear hK K; try walk_nrm)
          refine anyV_all (rs := [5]) (by kernel_rfl) (by simp) ?_
          intro i hi
          simp only [List.mem_cons, List.not_mem_nil, or_false] at hi
          subst hi
          refine opV_visop rfl (by rfl) (by simp [nrC]) (fun w₁ h₁ σ hr hp => ?_)
          replace hF := rl9 hF h₁
          clear h₁
          have hr9 : w₁.heap[Ob]? = some (.cells (Array.replicate n (.int .u64 0)) 25) := hr
          have hc9 : w₁.cell? ⟨Ob, j, none⟩ = some (.int .u64 0) := by simp [World.cell?, hr9, hj]
          have hz9 : w₁.frozen? ⟨Ob, j, none⟩ = false := by simp [World.frozen?, hr9]
          have hr8 := heap_set9 hr9 (j := j) (v := .int .u64 0) (by simp [hj])
          have ho8 := onlySB_set (c := nrC H n N0 Ob d) w₁ ⟨Ob, j, none⟩ (.int .u64 0) rfl
          refine ⟨w₁.setCell ⟨Ob, j, none⟩ (.int .u64 0), true, (), by go_simp, ⟨rfl, rfl⟩, hr8, ho8, ?_, ?_⟩
          · intro e he
            have hm := mem_listed he
            simp [go_sem, storedEv, hc9] at hm
            rw [hm.2]
            exact evV_own ⟨by omega, by rw [show N0 + j - N0 = j by omega]⟩
          rintro N1 rfl
          replace hF := hF.only A hC ho8
          clear hr hp hr9 hc9 hz9 hr8 ho8
          walk_nrm
          refine anyV_done ?_
          exact ⟨rfl, _, resultsC_none rfl _, rfl, hF⟩
        · skip
          refine opV_call_silent (nf := 60) (by decide) rfl (by rfl) rfl ?_ ?_ (Post := fun v w' => WK (nrC H n N0 Ob d) wb H fv j C w' ∧ v = .int .u64 0)
          · walk_nrm
            exact lzGetNil_C (fun w w₁ r h => rl9 h r) _ hF
          rintro _ w' ⟨hF', rfl⟩
          clear hF
          have hF := hF'
          clear hF'
          walk_nrm
          refine anyV_all (rs := [0]) (by kernel_rfl) (by simp) ?_
          intro i hi
          simp only [List.mem_cons, List.not_mem_nil, or_false] at hi
          subst hi
          (refine opV_cons (by decide) rfl (by rfl) ?_; intro _ hR K hK; replace hF := rl9 hF hR; clear hR; have m1 := hP1 _ hF; have m2 := hP2 _ hF; go_simp; refine hK _ _ ⟨?_, ?_⟩; (· refine dw_read (fun e he => ?_); have hm := mem_listed he; simp [go_sem, m1, m2] at hm; subst hm; exact evW_cell (.inr (hlow _ (by simp)).1) (hlow _ (by simp)).2); clear hK K m1 m2; try walk_nrm)
          refine anyV_all (rs := [4]) (by kernel_rfl) (by simp) ?_
          intro i hi
          simp only [List.mem_cons, List.not_mem_nil, or_false] at hi
          subst hi
          (refine opV_cons (by decide) rfl (by rfl) ?_; intro _ hR K hK; replace hF := rl9 hF hR; clear hR; go_simp; refine hK _ _ ⟨?_, ?_⟩; (· rw [listed_nil (by simp [go_sem, *])]; exact DW.refl _ _ _); clear hK K; try walk_nrm)
          refine anyV_all (rs := [5]) (by kernel_rfl) (by simp) ?_
          intro i hi
          simp only [List.mem_cons, List.not_mem_nil, or_false] at hi
          subst hi
          refine opV_visop rfl (by rfl) (by simp [nrC]) (fun w₁ h₁ σ hr hp => ?_)
          replace hF := rl9 hF h₁
          clear h₁
          have hr9 : w₁.heap[Ob]? = some (.cells (Array.replicate n (.int .u64 0)) 25) := hr
          have hc9 : w₁.cell? ⟨Ob, j, none⟩ = some (.int .u64 0) := by simp [World.cell?, hr9, hj]
          have hz9 : w₁.frozen? ⟨Ob, j, none⟩ = false := by simp [World.frozen?, hr9]
          have hr8 := heap_set9 hr9 (j := j) (v := .int .u64 0) (by simp [hj])
          have ho8 := onlySB_set (c := nrC H n N0 Ob d) w₁ ⟨Ob, j, none⟩ (.int .u64 0) rfl
          refine ⟨w₁.setCell ⟨Ob, j, none⟩ (.int .u64 0), true, (), by go_simp, ⟨rfl, rfl⟩, hr8, ho8, ?_, ?_⟩
          · intro e he
            have hm := mem_listed he
            simp [go_sem, storedEv, hc9] at hm
            rw [hm.2]
            exact evV_own ⟨by omega, by rw [show N0 + j - N0 = j by omega]⟩
          rintro N1 rfl
          replace hF := hF.only A hC ho8
          clear hr hp hr9 hc9 hz9 hr8 ho8
          walk_nrm
          refine anyV_done ?_
          exact ⟨rfl, _, resultsC_none rfl _, rfl, hF⟩
    · skip
      (refine opV_cons (by decide) rfl (by rfl) ?_; intro _ hR K hK; replace hF := rl9 hF hR; clear hR; have m1 := hP1 _ hF; have m2 := hP2 _ hF; go_simp; refine hK _ _ ⟨?_, ?_⟩; (· refine dw_read (fun e he => ?_); have hm := mem_listed he; simp [go_sem, m1, m2] at hm; subst hm; exact evW_cell (.inr (hlow _ (by simp)).1) (hlow _ (by simp)).2); clear hK K m1 m2; try walk_nrm)
      refine anyV_all (rs := [0, 1, 3]) (by kernel_rfl) (by simp) ?_
      intro i hi
      simp only [List.mem_cons, List.not_mem_nil, or_false] at hi
      rcases hi with rfl | rfl | rfl
      · skip
        (refine opV_cons (by decide) rfl (by rfl) ?_; intro _ hR K hK; replace hF := rl9 hF hR; clear hR; have m1 := hP1 _ hF; have m2 := hP2 _ hF; go_simp; refine hK _ _ ⟨?_, ?_⟩; (· refine dw_read (fun e he => ?_); have hm := mem_listed he; simp [go_sem, m1, m2] at hm; subst hm; exact evW_cell (.inr (hlow _ (by simp)).1) (hlow _ (by simp)).2); clear hK K m1 m2; try walk_nrm)
        refine anyV_all (rs := [1, 3]) (by kernel_rfl) (by simp) ?_
        intro i hi
        simp only [List.mem_cons, List.not_mem_nil, or_false] at hi
        rcases hi with rfl | rfl
        · skip
          (refine opV_cons (by decide) rfl (by rfl) ?_; intro _ hR K hK; replace hF := rl9 hF hR; clear hR; go_simp; refine hK _ _ ⟨?_, ?_⟩; (· rw [listed_nil (by simp [go_sem, *])]; exact DW.refl _ _ _); clear hK K; try walk_nrm)
          refine anyV_all (rs := [3]) (by kernel_rfl) (by simp) ?_
          intro i hi
          simp only [List.mem_cons, List.not_mem_nil, or_false] at hi
          subst hi
          refine opV_call_silent (nf := 60) (by decide) rfl (by rfl) rfl ?_ ?_ (Post := fun v w' => WK (nrC H n N0 Ob d) wb H fv j C w' ∧ v = .int .u64 0)
          · walk_nrm
            exact lzGetNil_C (fun w w₁ r h => rl9 h r) _ hF
          rintro _ w' ⟨hF', rfl⟩
          clear hF
          have hF := hF'
          clear hF'
          walk_nrm
          refine anyV_all (rs := [4]) (by kernel_rfl) (by simp) ?_
          intro i hi
          simp only [List.mem_cons, List.not_mem_nil, or_false] at hi
          subst hi
          (refine opV_cons (by decide) rfl (by rfl) ?_; intro _ hR K hK; replace hF := rl9 hF hR; clear hR; go_simp; refine hK _ _ ⟨?_, ?_⟩; (· rw [listed_nil (by simp [go_sem, *])]; exact DW.refl _ _ _); clear hK K; try walk_nrm)
          refine anyV_all (rs := [5]) (by kernel_rfl) (by simp) ?_
          intro i hi
          simp only [List.mem_cons, List.not_mem_nil, or_false] at hi
          subst hi
          refine opV_visop rfl (by rfl) (by simp [nrC]) (fun w₁ h₁ σ hr hp => ?_)
          replace hF := rl9 hF h₁
          clear h₁
          have hr9 : w₁.heap[Ob]? = some (.cells (Array.replicate n (.int .u64 0)) 25) := hr
          have hc9 : w₁.cell? ⟨Ob, j, none⟩ = some (.int .u64 0) := by simp [World.cell?, hr9, hj]
          have hz9 : w₁.frozen? ⟨Ob, j, none⟩ = false := by simp [World.frozen?, hr9]
          have hr8 := heap_set9 hr9 (j := j) (v := .int .u64 0) (by simp [hj])
          have ho8 := onlySB_set (c := nrC H n N0 Ob d) w₁ ⟨Ob, j, none⟩ (.int .u64 0) rfl
          refine ⟨w₁.setCell ⟨Ob, j, none⟩ (.int .u64 0), true, (), by go_simp, ⟨rfl, rfl⟩, hr8, ho8, ?_, ?_⟩
          · intro e he
            have hm := mem_listed he
            simp [go_sem, storedEv, hc9] at hm
            rw [hm.2]
            exact evV_own ⟨by omega, by rw [show N0 + j - N0 = j by omega]⟩
          rintro N1 rfl
          replace hF := hF.only A hC ho8
          clear hr hp hr9 hc9 hz9 hr8 ho8
          walk_nrm
          refine anyV_done ?_
          exact ⟨rfl, _, resultsC_none rfl _, rfl, hF⟩
        · skip
          refine opV_call_silent (nf := 60) (by decide) rfl (by rfl) rfl ?_ ?_ (Post := fun v w' => WK (nrC H n N0 Ob d) wb H fv j C w' ∧ v = .int .u64 0)
          · walk_nrm
            exact lzGetNil_C (fun w w₁ r h => rl9 h r) _ hF
          rintro _ w' ⟨hF', rfl⟩
          clear hF
          have hF := hF'
          clear hF'
          walk_nrm
          refine anyV_all (rs := [1]) (by kernel_rfl) (by simp) ?_
          intro i hi
          simp only [List.mem_cons, List.not_mem_nil, or_false] at hi
          subst hi
          (refine opV_cons (by decide) rfl (by rfl) ?_; intro _ hR K hK; replace hF := rl9 hF hR; clear hR; go_simp; refine hK _ _ ⟨?_, ?_⟩; (· rw [listed_nil (by simp [go_sem, *])]; exact DW.refl _ _ _); clear hK K; try walk_nrm)
          refine anyV_all (rs := [4]) (by kernel_rfl) (by simp) ?_
          intro i hi
          simp only [List.mem_cons, List.not_mem_nil, or_false] at hi
          subst hi
          (refine opV_cons (by decide) rfl (by rfl) ?_; intro _ hR K hK; replace hF := rl9 hF hR; clear hR; go_simp; refine hK _ _ ⟨?_, ?_⟩; (· rw [listed_nil (by simp [go_sem, *])]; exact DW.refl _ _ _); clear hK K; try walk_nrm)
          refine anyV_all (rs := [5]) (by kernel_rfl) (by simp) ?_
          intro i hi
          simp only [List.mem_cons, List.not_mem_nil, or_false] at hi
          subst hi
          refine opV_visop rfl (by rfl) (by simp [nrC]) (fun w₁ h₁ σ hr hp => ?_)
          replace hF := rl9 hF h₁
          clear h₁
          have hr9 : w₁.heap[Ob]? = some (.cells (Array.replicate n (.int .u64 0)) 25) := hr
          have hc9 : w₁.cell? ⟨Ob, j, none⟩ = some (.int .u64 0) := by simp [World.cell?, hr9, hj]
          have hz9 : w₁.frozen? ⟨Ob, j, none⟩ = false := by simp [World.frozen?, hr9]
          have hr8 := heap_set9 hr9 (j := j) (v := .int .u64 0) (by simp [hj])
          have ho8 := onlySB_set (c := nrC H n N0 Ob d) w₁ ⟨Ob, j, none⟩ (.int .u64 0) rfl
          refine ⟨w₁.setCell ⟨Ob, j, none⟩ (.int .u64 0), true, (), by go_simp, ⟨rfl, rfl⟩, hr8, ho8, ?_, ?_⟩
          · intro e he
            have hm := mem_listed he
            simp [go_sem, storedEv, hc9] at hm
            rw [hm.2]
            exact evV_own ⟨by omega, by rw [show N0 + j - N0 = j by omega]⟩
          rintro N1 rfl
          replace hF := hF.only A hC ho8
          clear hr hp hr9 hc9 hz9 hr8 ho8
          walk_nrm
          refine anyV_done ?_
          exact ⟨rfl, _, resultsC_none rfl _, rfl, hF⟩
      · skip
        (refine opV_cons (by decide) rfl (by rfl) ?_; intro _ hR K hK; replace hF := rl9 hF hR; clear hR; go_simp; refine hK _ _ ⟨?_, ?_⟩; (· rw [listed_nil (by simp [go_sem, *])]; exact DW.refl _ _ _); clear hK K; try walk_nrm)
        refine anyV_all (rs := [0, 3]) (by kernel_rfl) (by simp) ?_
        intro i hi
        simp only [List.mem_cons, List.not_mem_nil, or_false] at hi
        rcases hi with rfl | rfl
        · skip
          (refine opV_cons (by decide) rfl (by rfl) ?_; intro _ hR K hK; replace hF := rl9 hF hR; clear hR; have m1 := hP1 _ hF; have m2 := hP2 _ hF; go_simp; refine hK _ _ ⟨?_, ?_⟩; (· refine dw_read (fun e he => ?_); have hm := mem_listed he; simp [go_sem, m1, m2] at hm; subst hm; exact evW_cell (.inr (hlow _ (by simp)).1) (hlow _ (by simp)).2); clear hK K m1 m2; try walk_nrm)
          refine anyV_all (rs := [3]) (by kernel_rfl) (by simp) ?_
          intro i hi
          simp only [List.mem_cons, List.not_mem_nil, or_false] at hi
          subst hi
          refine opV_call_silent (nf := 60) (by decide) rfl (by rfl) rfl ?_ ?_ (Post := fun v w' => WK (nrC H n N0 Ob d) wb H fv j C w' ∧ v = .int .u64 0)
          · walk_nrm
            exact lzGetNil_C (fun w w₁ r h => rl9 h r) _ hF
          rintro _ w' ⟨hF', rfl⟩
          clear hF
          have hF := hF'
          clear hF'
          walk_nrm
          refine anyV_all (rs := [4]) (by kernel_rfl) (by simp) ?_
          intro i hi
          simp only [List.mem_cons, List.not_mem_nil, or_false] at hi
          subst hi
          (refine opV_cons (by decide) rfl (by rfl) ?_; intro _ hR K hK; replace hF := rl9 hF hR; clear hR; go_simp; refine hK _ _ ⟨?_, ?_⟩; (· rw [listed_nil (by simp [go_sem, *])]; exact DW.refl _ _ _); clear hK K; try walk_nrm)
          refine anyV_all (rs := [5]) (by kernel_rfl) (by simp) ?_
          intro i hi
          simp only [List.mem_cons, List.not_mem_nil, or_false] at hi
          subst hi
          refine opV_visop rfl (by rfl) (by simp [nrC]) (fun w₁ h₁ σ hr hp => ?_)
          replace hF := rl9 hF h₁
          clear h₁
          have hr9 : w₁.heap[Ob]? = some (.cells (Array.replicate n (.int .u64 0)) 25) := hr
          have hc9 : w₁.cell? ⟨Ob, j, none⟩ = some (.int .u64 0) := by simp [World.cell?, hr9, hj]
          have hz9 : w₁.frozen? ⟨Ob, j, none⟩ = false := by simp [World.frozen?, hr9]
          have hr8 := heap_set9 hr9 (j := j) (v := .int .u64 0) (by simp [hj])
          have ho8 := onlySB_set (c := nrC H n N0 Ob d) w₁ ⟨Ob, j, none⟩ (.int .u64 0) rfl
          refine ⟨w₁.setCell ⟨Ob, j, none⟩ (.int .u64 0), true, (), by go_simp, ⟨rfl, rfl⟩, hr8, ho8, ?_, ?_⟩
          · intro e he
            have hm := mem_listed he
            simp [go_sem, storedEv, hc9] at hm
            rw [hm.2]
            exact evV_own ⟨by omega, by rw [show N0 + j - N0 = j by omega]⟩
          rintro N1 rfl
          replace hF := hF.only A hC ho8
          clear hr hp hr9 hc9 hz9 hr8 ho8
          walk_nrm
          refine anyV_done ?_
          exact ⟨rfl, _, resultsC_none rfl _, rfl, hF⟩
        · skip
          refine opV_call_silent (nf := 60) (by decide) rfl (by rfl) rfl ?_ ?_ (Post := fun v w' => WK (nrC H n N0 Ob d) wb H fv j C w' ∧ v = .int .u64 0)
          · walk_nrm
            exact lzGetNil_C (fun w w₁ r h => rl9 h r) _ hF
          rintro _ w' ⟨hF', rfl⟩
          clear hF
          have hF := hF'
          clear hF'
          walk_nrm
          refine anyV_all (rs := [0]) (by kernel_rfl) (by simp) ?_
          intro i hi
          simp only [List.mem_cons, List.not_mem_nil, or_false] at hi
          subst hi
          (refine opV_cons (by decide) rfl (by rfl) ?_; intro _ hR K hK; replace hF := rl9 hF hR; clear hR; have m1 := hP1 _ hF; have m2 := hP2 _ hF; go_simp; refine hK _ _ ⟨?_, ?_⟩; (· refine dw_read (fun e he => ?_); have hm := mem_listed he; simp [go_sem, m1, m2] at hm; subst hm; exact evW_cell (.inr (hlow _ (by simp)).1) (hlow _ (by simp)).2); clear hK K m1 m2; try walk_nrm)
          refine anyV_all (rs := [4]) (by kernel_rfl) (by simp) ?_
          intro i hi
          simp only [List.mem_cons, List.not_mem_nil, or_false] at hi
          subst hi
          (refine opV_cons (by decide) rfl (by rfl) ?_; intro _ hR K hK; replace hF := rl9 hF hR; clear hR; go_simp; refine hK _ _ ⟨?_, ?_⟩; (· rw [listed_nil (by simp [go_sem, *])]; exact DW.refl _ _ _); clear hK K; try walk_nrm)
          refine anyV_all (rs := [5]) (by kernel_rfl) (by simp) ?_
          intro i hi
          simp only [List.mem_cons, List.not_mem_nil, or_false] at hi
          subst hi
          refine opV_visop rfl (by rfl) (by simp [nrC]) (fun w₁ h₁ σ hr hp => ?_)
          replace hF := rl9 hF h₁
          clear h₁
          have hr9 : w₁.heap[Ob]? = some (.cells (Array.replicate n (.int .u64 0)) 25) := hr
          have hc9 : w₁.cell? ⟨Ob, j, none⟩ = some (.int .u64 0) := by simp [World.cell?, hr9, hj]
          have hz9 : w₁.frozen? ⟨Ob, j, none⟩ = false := by simp [World.frozen?, hr9]
          have hr8 := heap_set9 hr9 (j := j) (v := .int .u64 0) (by simp [hj])
          have ho8 := onlySB_set (c := nrC H n N0 Ob d) w₁ ⟨Ob, j, none⟩ (.int .u64 0) rfl
          refine ⟨w₁.setCell ⟨Ob, j, none⟩ (.int .u64 0), true, (), by go_simp, ⟨rfl, rfl⟩, hr8, ho8, ?_, ?_⟩
          · intro e he
            have hm := mem_listed he
            simp [go_sem, storedEv, hc9] at hm
            rw [hm.2]
            exact evV_own ⟨by omega, by rw [show N0 + j - N0 = j by omega]⟩
          rintro N1 rfl
          replace hF := hF.only A hC ho8
          clear hr hp hr9 hc9 hz9 hr8 ho8
          walk_nrm
          refine anyV_done ?_
          exact ⟨rfl, _, resultsC_none rfl _, rfl, hF⟩
      · skip
        refine opV_call_silent (nf := 60) (by decide) rfl (by rfl) rfl ?_ ?_ (Post := fun v w' => WK (nrC H n N0 Ob d) wb H fv j C w' ∧ v = .int .u64 0)
        · walk_nrm
          exact lzGetNil_C (fun w w₁ r h => rl9 h r) _ hF
        rintro _ w' ⟨hF', rfl⟩
        clear hF
        have hF := hF'
        clear hF'
        walk_nrm
        refine anyV_all (rs := [0, 1]) (by kernel_rfl) (by simp) ?_
        intro i hi
        simp only [List.mem_cons, List.not_mem_nil, or_false] at hi
        rcases hi with rfl | rfl
        · skip
          (refine opV_cons (by decide) rfl (by rfl) ?_; intro _ hR K hK; replace hF := rl9 hF hR; clear hR; have m1 := hP1 _ hF; have m2 := hP2 _ hF; go_simp; refine hK _ _ ⟨?_, ?_⟩; (· refine dw_read (fun e he => ?_); have hm := mem_listed he; simp [go_sem, m1, m2] at hm; subst hm; exact evW_cell (.inr (hlow _ (by simp)).1) (hlow _ (by simp)).2); clear hK K m1 m2; try walk_nrm)
          refine anyV_all (rs := [1]) (by kernel_rfl) (by simp) ?_
          intro i hi
          simp only [List.mem_cons, List.not_mem_nil, or_false] at hi
          subst hi
          (refine opV_cons (by decide) rfl (by rfl) ?_; intro _ hR K hK; replace hF := rl9 hF hR; clear hR; go_simp; refine hK _ _ ⟨?_, ?_⟩; (· rw [listed_nil (by simp [go_sem, *])]; exact DW.refl _ _ _); clear hK K; try walk_nrm)
          refine anyV_all (rs := [4]) (by kernel_rfl) (by simp) ?_
          intro i hi
          simp only [List.mem_cons, List.not_mem_nil, or_false] at hi
          subst hi
          (refine opV_cons (by decide) rfl (by rfl) ?_; intro _ hR K hK; replace hF := rl9 hF hR; clear hR; go_simp; refine hK _ _ ⟨?_, ?_⟩; (· rw [listed_nil (by simp [go_sem, *])]; exact DW.refl _ _ _); clear hK K; try walk_nrm)
          refine anyV_all (rs := [5]) (by kernel_rfl) (by simp) ?_
          intro i hi
          simp only [List.mem_cons, List.not_mem_nil, or_false] at hi
          subst hi
          refine opV_visop rfl (by rfl) (by simp [nrC]) (fun w₁ h₁ σ hr hp => ?_)
          replace hF := rl9 hF h₁
          clear h₁
          have hr9 : w₁.heap[Ob]? = some (.cells (Array.replicate n (.int .u64 0)) 25) := hr
          have hc9 : w₁.cell? ⟨Ob, j, none⟩ = some (.int .u64 0) := by simp [World.cell?, hr9, hj]
          have hz9 : w₁.frozen? ⟨Ob, j, none⟩ = false := by simp [World.frozen?, hr9]
          have hr8 := heap_set9 hr9 (j := j) (v := .int .u64 0) (by simp [hj])
          have ho8 := onlySB_set (c := nrC H n N0 Ob d) w₁ ⟨Ob, j, none⟩ (.int .u64 0) rfl
          refine ⟨w₁.setCell ⟨Ob, j, none⟩ (.int .u64 0), true, (), by go_simp, ⟨rfl, rfl⟩, hr8, ho8, ?_, ?_⟩
          · intro e he
            have hm := mem_listed he
            simp [go_sem, storedEv, hc9] at hm
            rw [hm.2]
            exact evV_own ⟨by omega, by rw [show N0 + j - N0 = j by omega]⟩
          rintro N1 rfl
          replace hF := hF.only A hC ho8
          clear hr hp hr9 hc9 hz9 hr8 ho8
          walk_nrm
          refine anyV_done ?_
          exact ⟨rfl, _, resultsC_none rfl _, rfl, hF⟩
        · skip
          (refine opV_cons (by decide) rfl (by rfl) ?_; intro _ hR K hK; replace hF := rl9 hF hR; clear hR; go_simp; refine hK _ _ ⟨?_, ?_⟩; (· rw [listed_nil (by simp [go_sem, *])]; exact DW.refl _ _ _); clear hK K; try walk_nrm)
          refine anyV_all (rs := [0]) (by kernel_rfl) (by simp) ?_
          intro i hi
          simp only [List.mem_cons, List.not_mem_nil, or_false] at hi
          subst hi
          (refine opV_cons (by decide) rfl (by rfl) ?_; intro _ hR K hK; replace hF := rl9 hF hR; clear hR; have m1 := hP1 _ hF; have m2 := hP2 _ hF; go_simp; refine hK _ _ ⟨?_, ?_⟩; (· refine dw_read (fun e he => ?_); have hm := mem_listed he; simp [go_sem, m1, m2] at hm; subst hm; exact evW_cell (.inr (hlow _ (by simp)).1) (hlow _ (by simp)).2); clear hK K m1 m2; try walk_nrm)
          refine anyV_all (rs := [4]) (by kernel_rfl) (by simp) ?_
          intro i hi
          simp only [List.mem_cons, List.not_mem_nil, or_false] at hi
          subst hi
          (refine opV_cons (by decide) rfl (by rfl) ?_; intro _ hR K hK; replace hF := rl9 hF hR; clear hR; go_simp; refine hK _ _ ⟨?_, ?_⟩; (· rw [listed_nil (by simp [go_sem, *])]; exact DW.refl _ _ _); clear hK K; try walk_nrm)
          refine anyV_all (rs := [5]) (by kernel_rfl) (by simp) ?_
          intro i hi
          simp only [List.mem_cons, List.not_mem_nil, or_false] at hi
          subst hi
          refine opV_visop rfl (by rfl) (by simp [nrC]) (fun w₁ h₁ σ hr hp => ?_)
          replace hF := rl9 hF h₁
          clear h₁
          have hr9 : w₁.heap[Ob]? = some (.cells (Array.replicate n (.int .u64 0)) 25) := hr
          have hc9 : w₁.cell? ⟨Ob, j, none⟩ = some (.int .u64 0) := by simp [World.cell?, hr9, hj]
          have hz9 : w₁.frozen? ⟨Ob, j, none⟩ = false := by simp [World.frozen?, hr9]
          have hr8 := heap_set9 hr9 (j := j) (v := .int .u64 0) (by simp [hj])
          have ho8 := onlySB_set (c := nrC H n N0 Ob d) w₁ ⟨Ob, j, none⟩ (.int .u64 0) rfl
          refine ⟨w₁.setCell ⟨Ob, j, none⟩ (.int .u64 0), true, (), by go_simp, ⟨rfl, rfl⟩, hr8, ho8, ?_, ?_⟩
          · intro e he
            have hm := mem_listed he
            simp [go_sem, storedEv, hc9] at hm
            rw [hm.2]
            exact evV_own ⟨by omega, by rw [show N0 + j - N0 = j by omega]⟩
          rintro N1 rfl
          replace hF := hF.only A hC ho8
          clear hr hp hr9 hc9 hz9 hr8 ho8
          walk_nrm
          refine anyV_done ?_
          exact ⟨rfl, _, resultsC_none rfl _, rfl, hF⟩
  · decide
end Go.Proofs.Ytinghnaigpenkaa
