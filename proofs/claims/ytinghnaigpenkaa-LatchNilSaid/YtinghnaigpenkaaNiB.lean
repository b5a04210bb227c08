/- Seat 05: Race of no latch: a worker. -/
import Derived.Test.YtinghnaigpenkaaNiA
namespace Go.Proofs.Ytinghnaigpenkaa
open Go.Conc Go.RowKit
open Go.ConcR (WgAt stA Payload)
set_option linter.unusedVariables false
set_option linter.unusedSimpArgs false
set_option maxRecDepth 100000
set_option maxHeartbeats 8000000


/-- the memory of Race's closure -/
structure RcIn (c : Cfg) (wb : World) (H : Nat) (l : List Int) (lb vb db off cap : Nat) (A : Option Addr) (lv : Value) : Prop where
  lbox : wb.heap[lb]? = some (.cells #[lv] 23)
  vbox : wb.heap[vb]? = some (.cells #[.slice A l.length cap] 44)
  at_ : 0 < l.length → A = some ⟨db, off, none⟩
  data : ∀ q x, l[q]? = some x → wb.cell? ⟨db, off + q, none⟩ = some (.int .u64 x)
  low : ∀ g, g = lb ∨ g = vb ∨ (0 < l.length ∧ g = db) → g < H ∧ ¬ c.SB g ∧ ∀ i, ¬ c.sh (.cell ⟨g, i, none⟩) ∧ ∀ k, ¬ c.own k (.cell ⟨g, i, none⟩)
theorem race1Nil_V {c : Cfg} {wb : World} {H k C N j : Nat} {l : List Int} {lb vb db off cap : Nat} {Al : Option Addr} {won : Value} {fv : Value} (A : AlO c H) (hC : c.H0 ≤ C) (R : RcIn c wb H l lb vb db off cap Al (.pointer none)) (hj : j < l.length) (u : c.U) (hu : c.fin u) (w : World) (hF : WK c wb H fv j C w) :
    CallsV Try.prog c k C 33 (#[.int .i64 j] ++ #[.pointer (some ⟨lb, 0, none⟩), .pointer (some ⟨vb, 0, none⟩), won]) 500 N u w (fun N' u' v w' => c.fin u' ∧ WK c wb H fv j C w') := by
  have T9 := termsW c C
  have rl9 : ∀ {w w₁ : World}, WK c wb H fv j C w → RW c C w w₁ → WK c wb H fv j C w₁ := fun h r => h.rely A hC r
  obtain ⟨x, hx⟩ : ∃ x, l[j]? = some x := ⟨_, List.getElem?_eq_getElem hj⟩
  have hpos : 0 < l.length := by omega
  have hlow : ∀ a : Addr, (a = ⟨lb, 0, none⟩ ∨ a = ⟨vb, 0, none⟩ ∨ a = ⟨db, off + j, none⟩) → a.block < c.H0 ∧ ¬ c.sh (.cell a) ∧ ∀ k, ¬ c.own k (.cell a) := by
    rintro a (rfl | rfl | rfl)
    · have := R.low lb (.inl rfl); exact ⟨by have h0 := A.h0; have h1 := this.1; simp only; omega, this.2.2 0⟩
    · have := R.low vb (.inr (.inl rfl)); exact ⟨by have h0 := A.h0; have h1 := this.1; simp only; omega, this.2.2 0⟩
    · have := R.low db (.inr (.inr ⟨hpos, rfl⟩)); exact ⟨by have h0 := A.h0; have h1 := this.1; simp only; omega, this.2.2 _⟩
  have hP1 : ∀ w, WK c wb H fv j C w → w.cell? ⟨lb, 0, none⟩ = some (.pointer none) := fun w h => box_cell (h.old _ _ (R.low lb (.inl rfl)).1 (R.low lb (.inl rfl)).2.1 R.lbox)
  have hP2 : ∀ w, WK c wb H fv j C w → w.cell? ⟨vb, 0, none⟩ = some (.slice (some ⟨db, off, none⟩) l.length cap) := fun w h => by
    have := box_cell (h.old _ _ (R.low vb (.inr (.inl rfl))).1 (R.low vb (.inr (.inl rfl))).2.1 R.vbox)
    rwa [R.at_ hpos] at this
  have hP3 : ∀ w, WK c wb H fv j C w → w.cell? ⟨db, off + j, none⟩ = some (.int .u64 x) := fun w h => by
    have h1 := R.data j x hx
    obtain ⟨ob, hob⟩ := cell_some h1
    have h2 := h.old _ _ (R.low db (.inr (.inr ⟨hpos, rfl⟩))).1 (R.low db (.inr (.inr ⟨hpos, rfl⟩))).2.1 hob
    rw [cell_same (h2.trans hob.symm)]
    exact h1
  have q1 : (j : Int) < (l.length : Int) := by omega
  have ad9 : (if j = 0 then (⟨db, off, none⟩ : Addr) else ⟨db, off + j, none⟩) = ⟨db, off + j, none⟩ := by
    by_cases h : j = 0
    · subst h; rfl
    · exact if_neg h
  clear hx
  refine ⟨_, _, Try.func33, by kernel_rfl, rfl, ?_⟩
  co_apply codeV_more
  · simp only [Try.ntmps33]
    walk_nrm
    co_apply codeV_seq
    refine codeV_region_any (B := 70) (by rfl) (fun w₁ h₁ => ?_)
    replace hF := (rl9 hF h₁).draw (w₁.drawn + 1)
    clear h₁
    generalize { w₁ with drawn := w₁.drawn + 1 } = w2 at hF ⊢
    simp only [List.size_toArray, List.length_cons, List.length_nil, Nat.reduceAdd, Nat.zero_add]
    refine anyV_all (rs := [0, 1, 2]) (by kernel_rfl) (by simp) ?_
    intro i hi
    simp only [List.mem_cons, List.not_mem_nil, or_false] at hi
    rcases hi with rfl | rfl | rfl
    · skip
      (refine opV_cons (by decide) rfl (by rfl) ?_; intro _ hR K hK; replace hF := rl9 hF hR; clear hR; have m1 := hP1 _ hF; have m2 := hP2 _ hF; have m3 := hP3 _ hF; go_simp; refine hK _ _ ⟨?_, ?_⟩; (· refine dw_read (fun e he => ?_); have hm := mem_listed he; simp [go_sem, m1, m2, m3] at hm; subst hm; exact evW_cell (.inr (hlow _ (by simp)).1) (hlow _ (by simp)).2); clear hK K m1 m2 m3; try walk_nrm)
      refine anyV_all (rs := [1, 2]) (by kernel_rfl) (by simp) ?_
      intro i hi
      simp only [List.mem_cons, List.not_mem_nil, or_false] at hi
      rcases hi with rfl | rfl
      · skip
        (refine opV_cons (by decide) rfl (by rfl) ?_; intro _ hR K hK; replace hF := rl9 hF hR; clear hR; have m1 := hP1 _ hF; have m2 := hP2 _ hF; have m3 := hP3 _ hF; go_simp; refine hK _ _ ⟨?_, ?_⟩; (· refine dw_read (fun e he => ?_); have hm := mem_listed he; simp [go_sem, m1, m2, m3] at hm; subst hm; exact evW_cell (.inr (hlow _ (by simp)).1) (hlow _ (by simp)).2); clear hK K m1 m2 m3; try walk_nrm)
        refine anyV_all (rs := [2]) (by kernel_rfl) (by simp) ?_
        intro i hi
        simp only [List.mem_cons, List.not_mem_nil, or_false] at hi
        subst hi
        (refine opV_cons (by decide) rfl (by rfl) ?_; intro _ hR K hK; replace hF := rl9 hF hR; clear hR; go_simp; refine hK _ _ ⟨?_, ?_⟩; (· rw [listed_nil (by simp [go_sem, *])]; exact DW.refl _ _ _); clear hK K; try walk_nrm)
        refine anyV_all (rs := [3]) (by kernel_rfl) (by simp) ?_
        intro i hi
        simp only [List.mem_cons, List.not_mem_nil, or_false] at hi
        subst hi
        (refine opV_cons (by decide) rfl (by rfl) ?_; intro _ hR K hK; replace hF := rl9 hF hR; clear hR; go_simp; refine hK _ _ ⟨?_, ?_⟩; (· rw [listed_nil (by simp [go_sem, *])]; exact DW.refl _ _ _); clear hK K; try walk_nrm)
        refine anyV_all (rs := [4]) (by kernel_rfl) (by simp) ?_
        intro i hi
        simp only [List.mem_cons, List.not_mem_nil, or_false] at hi
        subst hi
        (refine opV_cons (by decide) rfl (by rfl) ?_; intro _ hR K hK; replace hF := rl9 hF hR; clear hR; have m1 := hP1 _ hF; have m2 := hP2 _ hF; have m3 := hP3 _ hF; go_simp; refine hK _ _ ⟨?_, ?_⟩; (· refine dw_read (fun e he => ?_); have hm := mem_listed he; simp [go_sem, m1, m2, m3] at hm; subst hm; exact evW_cell (.inr (hlow _ (by simp)).1) (hlow _ (by simp)).2); clear hK K m1 m2 m3; try walk_nrm)
        refine anyV_all (rs := [5]) (by kernel_rfl) (by simp) ?_
        intro i hi
        simp only [List.mem_cons, List.not_mem_nil, or_false] at hi
        subst hi
        refine opV_call_silent (nf := 60) (by decide) rfl (by rfl) rfl ?_ ?_ (Post := fun v w' => WK c wb H fv j C w' ∧ v = .bool false)
        · walk_nrm
          exact setNil_C A hC x _ hF
        rintro _ w' ⟨hF', rfl⟩
        clear hF
        have hF := hF'
        clear hF'
        walk_nrm
        refine anyV_done ?_
        simp only [ThenV]
        co_apply codeV_cond (t := false)
        focus (exact rfl)
        simp only [Bool.false_eq_true, if_false]
        refine codeV_of (wpC_skip T9 ?_)
        exact ⟨rfl, _, resultsC_none rfl _, hu, hF⟩
      · skip
        (refine opV_cons (by decide) rfl (by rfl) ?_; intro _ hR K hK; replace hF := rl9 hF hR; clear hR; go_simp; refine hK _ _ ⟨?_, ?_⟩; (· rw [listed_nil (by simp [go_sem, *])]; exact DW.refl _ _ _); clear hK K; try walk_nrm)
        refine anyV_all (rs := [1]) (by kernel_rfl) (by simp) ?_
        intro i hi
        simp only [List.mem_cons, List.not_mem_nil, or_false] at hi
        subst hi
        (refine opV_cons (by decide) rfl (by rfl) ?_; intro _ hR K hK; replace hF := rl9 hF hR; clear hR; have m1 := hP1 _ hF; have m2 := hP2 _ hF; have m3 := hP3 _ hF; go_simp; refine hK _ _ ⟨?_, ?_⟩; (· refine dw_read (fun e he => ?_); have hm := mem_listed he; simp [go_sem, m1, m2, m3] at hm; subst hm; exact evW_cell (.inr (hlow _ (by simp)).1) (hlow _ (by simp)).2); clear hK K m1 m2 m3; try walk_nrm)
        refine anyV_all (rs := [3]) (by kernel_rfl) (by simp) ?_
        intro i hi
        simp only [List.mem_cons, List.not_mem_nil, or_false] at hi
        subst hi
        (refine opV_cons (by decide) rfl (by rfl) ?_; intro _ hR K hK; replace hF := rl9 hF hR; clear hR; go_simp; refine hK _ _ ⟨?_, ?_⟩; (· rw [listed_nil (by simp [go_sem, *])]; exact DW.refl _ _ _); clear hK K; try walk_nrm)
        refine anyV_all (rs := [4]) (by kernel_rfl) (by simp) ?_
        intro i hi
        simp only [List.mem_cons, List.not_mem_nil, or_false] at hi
        subst hi
        (refine opV_cons (by decide) rfl (by rfl) ?_; intro _ hR K hK; replace hF := rl9 hF hR; clear hR; have m1 := hP1 _ hF; have m2 := hP2 _ hF; have m3 := hP3 _ hF; go_simp; refine hK _ _ ⟨?_, ?_⟩; (· refine dw_read (fun e he => ?_); have hm := mem_listed he; simp [go_sem, m1, m2, m3] at hm; subst hm; exact evW_cell (.inr (hlow _ (by simp)).1) (hlow _ (by simp)).2); clear hK K m1 m2 m3; try walk_nrm)
        refine anyV_all (rs := [5]) (by kernel_rfl) (by simp) ?_
        intro i hi
        simp only [List.mem_cons, List.not_mem_nil, or_false] at hi
        subst hi
        refine opV_call_silent (nf := 60) (by decide) rfl (by rfl) rfl ?_ ?_ (Post := fun v w' => WK c wb H fv j C w' ∧ v = .bool false)
        · walk_nrm
          exact setNil_C A hC x _ hF
        rintro _ w' ⟨hF', rfl⟩
        clear hF
        have hF := hF'
        clear hF'
        walk_nrm
        refine anyV_done ?_
        simp only [ThenV]
        co_apply codeV_cond (t := false)
        focus (exact rfl)
        simp only [Bool.false_eq_true, if_false]
        refine codeV_of (wpC_skip T9 ?_)
        exact ⟨rfl, _, resultsC_none rfl _, hu, hF⟩
    · skip
      (refine opV_cons (by decide) rfl (by rfl) ?_; intro _ hR K hK; replace hF := rl9 hF hR; clear hR; have m1 := hP1 _ hF; have m2 := hP2 _ hF; have m3 := hP3 _ hF; go_simp; refine hK _ _ ⟨?_, ?_⟩; (· refine dw_read (fun e he => ?_); have hm := mem_listed he; simp [go_sem, m1, m2, m3] at hm; subst hm; exact evW_cell (.inr (hlow _ (by simp)).1) (hlow _ (by simp)).2); clear hK K m1 m2 m3; try walk_nrm)
      refine anyV_all (rs := [0, 2]) (by kernel_rfl) (by simp) ?_
      intro i hi
      simp only [List.mem_cons, List.not_mem_nil, or_false] at hi
      rcases hi with rfl | rfl
      · skip
        (refine opV_cons (by decide) rfl (by rfl) ?_; intro _ hR K hK; replace hF := rl9 hF hR; clear hR; have m1 := hP1 _ hF; have m2 := hP2 _ hF; have m3 := hP3 _ hF; go_simp; refine hK _ _ ⟨?_, ?_⟩; (· refine dw_read (fun e he => ?_); have hm := mem_listed he; simp [go_sem, m1, m2, m3] at hm; subst hm; exact evW_cell (.inr (hlow _ (by simp)).1) (hlow _ (by simp)).2); clear hK K m1 m2 m3; try walk_nrm)
        refine anyV_all (rs := [2]) (by kernel_rfl) (by simp) ?_
        intro i hi
        simp only [List.mem_cons, List.not_mem_nil, or_false] at hi
        subst hi
        (refine opV_cons (by decide) rfl (by rfl) ?_; intro _ hR K hK; replace hF := rl9 hF hR; clear hR; go_simp; refine hK _ _ ⟨?_, ?_⟩; (· rw [listed_nil (by simp [go_sem, *])]; exact DW.refl _ _ _); clear hK K; try walk_nrm)
        refine anyV_all (rs := [3]) (by kernel_rfl) (by simp) ?_
        intro i hi
        simp only [List.mem_cons, List.not_mem_nil, or_false] at hi
        subst hi
        (refine opV_cons (by decide) rfl (by rfl) ?_; intro _ hR K hK; replace hF := rl9 hF hR; clear hR; go_simp; refine hK _ _ ⟨?_, ?_⟩; (· rw [listed_nil (by simp [go_sem, *])]; exact DW.refl _ _ _); clear hK K; try walk_nrm)
        refine anyV_all (rs := [4]) (by kernel_rfl) (by simp) ?_
        intro i hi
        simp only [List.mem_cons, List.not_mem_nil, or_false] at hi
        subst hi
        (refine opV_cons (by decide) rfl (by rfl) ?_; intro _ hR K hK; replace hF := rl9 hF hR; clear hR; have m1 := hP1 _ hF; have m2 := hP2 _ hF; have m3 := hP3 _ hF; go_simp; refine hK _ _ ⟨?_, ?_⟩; (· refine dw_read (fun e he => ?_); have hm := mem_listed he; simp [go_sem, m1, m2, m3] at hm; subst hm; exact evW_cell (.inr (hlow _ (by simp)).1) (hlow _ (by simp)).2); clear hK K m1 m2 m3; try walk_nrm)
        refine anyV_all (rs := [5]) (by kernel_rfl) (by simp) ?_
        intro i hi
        simp only [List.mem_cons, List.not_mem_nil, or_false] at hi
        subst hi
        refine opV_call_silent (nf := 60) (by decide) rfl (by rfl) rfl ?_ ?_ (Post := fun v w' => WK c wb H fv j C w' ∧ v = .bool false)
        · walk_nrm
          exact setNil_C A hC x _ hF
        rintro _ w' ⟨hF', rfl⟩
        clear hF
        have hF := hF'
        clear hF'
        walk_nrm
        refine anyV_done ?_
        simp only [ThenV]
        co_apply codeV_cond (t := false)
        focus (exact rfl)
        simp only [Bool.false_eq_true, if_false]
        refine codeV_of (wpC_skip T9 ?_)
        exact ⟨rfl, _, resultsC_none rfl _, hu, hF⟩
      · skip
        (refine opV_cons (by decide) rfl (by rfl) ?_; intro _ hR K hK; replace hF := rl9 hF hR; clear hR; go_simp; refine hK _ _ ⟨?_, ?_⟩; (· rw [listed_nil (by simp [go_sem, *])]; exact DW.refl _ _ _); clear hK K; try walk_nrm)
        refine anyV_all (rs := [0, 3]) (by kernel_rfl) (by simp) ?_
        intro i hi
        simp only [List.mem_cons, List.not_mem_nil, or_false] at hi
        rcases hi with rfl | rfl
        · skip
          (refine opV_cons (by decide) rfl (by rfl) ?_; intro _ hR K hK; replace hF := rl9 hF hR; clear hR; have m1 := hP1 _ hF; have m2 := hP2 _ hF; have m3 := hP3 _ hF; go_simp; refine hK _ _ ⟨?_, ?_⟩; (· refine dw_read (fun e he => ?_); have hm := mem_listed he; simp [go_sem, m1, m2, m3] at hm; subst hm; exact evW_cell (.inr (hlow _ (by simp)).1) (hlow _ (by simp)).2); clear hK K m1 m2 m3; try walk_nrm)
          refine anyV_all (rs := [3]) (by kernel_rfl) (by simp) ?_
          intro i hi
          simp only [List.mem_cons, List.not_mem_nil, or_false] at hi
          subst hi
          (refine opV_cons (by decide) rfl (by rfl) ?_; intro _ hR K hK; replace hF := rl9 hF hR; clear hR; go_simp; refine hK _ _ ⟨?_, ?_⟩; (· rw [listed_nil (by simp [go_sem, *])]; exact DW.refl _ _ _); clear hK K; try walk_nrm)
          refine anyV_all (rs := [4]) (by kernel_rfl) (by simp) ?_
          intro i hi
          simp only [List.mem_cons, List.not_mem_nil, or_false] at hi
          subst hi
          (refine opV_cons (by decide) rfl (by rfl) ?_; intro _ hR K hK; replace hF := rl9 hF hR; clear hR; have m1 := hP1 _ hF; have m2 := hP2 _ hF; have m3 := hP3 _ hF; go_simp; refine hK _ _ ⟨?_, ?_⟩; (· refine dw_read (fun e he => ?_); have hm := mem_listed he; simp [go_sem, m1, m2, m3] at hm; subst hm; exact evW_cell (.inr (hlow _ (by simp)).1) (hlow _ (by simp)).2); clear hK K m1 m2 m3; try walk_nrm)
          refine anyV_all (rs := [5]) (by kernel_rfl) (by simp) ?_
          intro i hi
          simp only [List.mem_cons, List.not_mem_nil, or_false] at hi
          subst hi
          refine opV_call_silent (nf := 60) (by decide) rfl (by rfl) rfl ?_ ?_ (Post := fun v w' => WK c wb H fv j C w' ∧ v = .bool false)
          · walk_nrm
            exact setNil_C A hC x _ hF
          rintro _ w' ⟨hF', rfl⟩
          clear hF
          have hF := hF'
          clear hF'
          walk_nrm
          refine anyV_done ?_
          simp only [ThenV]
          co_apply codeV_cond (t := false)
          focus (exact rfl)
          simp only [Bool.false_eq_true, if_false]
          refine codeV_of (wpC_skip T9 ?_)
          exact ⟨rfl, _, resultsC_none rfl _, hu, hF⟩
        · skip
          (refine opV_cons (by decide) rfl (by rfl) ?_; intro _ hR K hK; replace hF := rl9 hF hR; clear hR; go_simp; refine hK _ _ ⟨?_, ?_⟩; (· rw [listed_nil (by simp [go_sem, *])]; exact DW.refl _ _ _); clear hK K; try walk_nrm)
          refine anyV_all (rs := [0, 4]) (by kernel_rfl) (by simp) ?_
          intro i hi
          simp only [List.mem_cons, List.not_mem_nil, or_false] at hi
          rcases hi with rfl | rfl
          · skip
            (refine opV_cons (by decide) rfl (by rfl) ?_; intro _ hR K hK; replace hF := rl9 hF hR; clear hR; have m1 := hP1 _ hF; have m2 := hP2 _ hF; have m3 := hP3 _ hF; go_simp; refine hK _ _ ⟨?_, ?_⟩; (· refine dw_read (fun e he => ?_); have hm := mem_listed he; simp [go_sem, m1, m2, m3] at hm; subst hm; exact evW_cell (.inr (hlow _ (by simp)).1) (hlow _ (by simp)).2); clear hK K m1 m2 m3; try walk_nrm)
            refine anyV_all (rs := [4]) (by kernel_rfl) (by simp) ?_
            intro i hi
            simp only [List.mem_cons, List.not_mem_nil, or_false] at hi
            subst hi
            (refine opV_cons (by decide) rfl (by rfl) ?_; intro _ hR K hK; replace hF := rl9 hF hR; clear hR; have m1 := hP1 _ hF; have m2 := hP2 _ hF; have m3 := hP3 _ hF; go_simp; refine hK _ _ ⟨?_, ?_⟩; (· refine dw_read (fun e he => ?_); have hm := mem_listed he; simp [go_sem, m1, m2, m3] at hm; subst hm; exact evW_cell (.inr (hlow _ (by simp)).1) (hlow _ (by simp)).2); clear hK K m1 m2 m3; try walk_nrm)
            refine anyV_all (rs := [5]) (by kernel_rfl) (by simp) ?_
            intro i hi
            simp only [List.mem_cons, List.not_mem_nil, or_false] at hi
            subst hi
            refine opV_call_silent (nf := 60) (by decide) rfl (by rfl) rfl ?_ ?_ (Post := fun v w' => WK c wb H fv j C w' ∧ v = .bool false)
            · walk_nrm
              exact setNil_C A hC x _ hF
            rintro _ w' ⟨hF', rfl⟩
            clear hF
            have hF := hF'
            clear hF'
            walk_nrm
            refine anyV_done ?_
            simp only [ThenV]
            co_apply codeV_cond (t := false)
            focus (exact rfl)
            simp only [Bool.false_eq_true, if_false]
            refine codeV_of (wpC_skip T9 ?_)
            exact ⟨rfl, _, resultsC_none rfl _, hu, hF⟩
          · skip
            (refine opV_cons (by decide) rfl (by rfl) ?_; intro _ hR K hK; replace hF := rl9 hF hR; clear hR; have m1 := hP1 _ hF; have m2 := hP2 _ hF; have m3 := hP3 _ hF; go_simp; refine hK _ _ ⟨?_, ?_⟩; (· refine dw_read (fun e he => ?_); have hm := mem_listed he; simp [go_sem, m1, m2, m3] at hm; subst hm; exact evW_cell (.inr (hlow _ (by simp)).1) (hlow _ (by simp)).2); clear hK K m1 m2 m3; try walk_nrm)
            refine anyV_all (rs := [0]) (by kernel_rfl) (by simp) ?_
            intro i hi
            simp only [List.mem_cons, List.not_mem_nil, or_false] at hi
            subst hi
            (refine opV_cons (by decide) rfl (by rfl) ?_; intro _ hR K hK; replace hF := rl9 hF hR; clear hR; have m1 := hP1 _ hF; have m2 := hP2 _ hF; have m3 := hP3 _ hF; go_simp; refine hK _ _ ⟨?_, ?_⟩; (· refine dw_read (fun e he => ?_); have hm := mem_listed he; simp [go_sem, m1, m2, m3] at hm; subst hm; exact evW_cell (.inr (hlow _ (by simp)).1) (hlow _ (by simp)).2); clear hK K m1 m2 m3; try walk_nrm)
            refine anyV_all (rs := [5]) (by kernel_rfl) (by simp) ?_
            intro i hi
            simp only [List.mem_cons, List.not_mem_nil, or_false] at hi
            subst hi
            refine opV_call_silent (nf := 60) (by decide) rfl (by rfl) rfl ?_ ?_ (Post := fun v w' => WK c wb H fv j C w' ∧ v = .bool false)
            · walk_nrm
              exact setNil_C A hC x _ hF
            rintro _ w' ⟨hF', rfl⟩
            clear hF
            have hF := hF'
            clear hF'
            walk_nrm
            refine anyV_done ?_
            simp only [ThenV]
            co_apply codeV_cond (t := false)
            focus (exact rfl)
            simp only [Bool.false_eq_true, if_false]
            refine codeV_of (wpC_skip T9 ?_)
            exact ⟨rfl, _, resultsC_none rfl _, hu, hF⟩
    · skip
      (refine opV_cons (by decide) rfl (by rfl) ?_; intro _ hR K hK; replace hF := rl9 hF hR; clear hR; go_simp; refine hK _ _ ⟨?_, ?_⟩; (· rw [listed_nil (by simp [go_sem, *])]; exact DW.refl _ _ _); clear hK K; try walk_nrm)
      refine anyV_all (rs := [0, 1]) (by kernel_rfl) (by simp) ?_
      intro i hi
      simp only [List.mem_cons, List.not_mem_nil, or_false] at hi
      rcases hi with rfl | rfl
      · skip
        (refine opV_cons (by decide) rfl (by rfl) ?_; intro _ hR K hK; replace hF := rl9 hF hR; clear hR; have m1 := hP1 _ hF; have m2 := hP2 _ hF; have m3 := hP3 _ hF; go_simp; refine hK _ _ ⟨?_, ?_⟩; (· refine dw_read (fun e he => ?_); have hm := mem_listed he; simp [go_sem, m1, m2, m3] at hm; subst hm; exact evW_cell (.inr (hlow _ (by simp)).1) (hlow _ (by simp)).2); clear hK K m1 m2 m3; try walk_nrm)
        refine anyV_all (rs := [1]) (by kernel_rfl) (by simp) ?_
        intro i hi
        simp only [List.mem_cons, List.not_mem_nil, or_false] at hi
        subst hi
        (refine opV_cons (by decide) rfl (by rfl) ?_; intro _ hR K hK; replace hF := rl9 hF hR; clear hR; have m1 := hP1 _ hF; have m2 := hP2 _ hF; have m3 := hP3 _ hF; go_simp; refine hK _ _ ⟨?_, ?_⟩; (· refine dw_read (fun e he => ?_); have hm := mem_listed he; simp [go_sem, m1, m2, m3] at hm; subst hm; exact evW_cell (.inr (hlow _ (by simp)).1) (hlow _ (by simp)).2); clear hK K m1 m2 m3; try walk_nrm)
        refine anyV_all (rs := [3]) (by kernel_rfl) (by simp) ?_
        intro i hi
        simp only [List.mem_cons, List.not_mem_nil, or_false] at hi
        subst hi
        (refine opV_cons (by decide) rfl (by rfl) ?_; intro _ hR K hK; replace hF := rl9 hF hR; clear hR; go_simp; refine hK _ _ ⟨?_, ?_⟩; (· rw [listed_nil (by simp [go_sem, *])]; exact DW.refl _ _ _); clear hK K; try walk_nrm)
        refine anyV_all (rs := [4]) (by kernel_rfl) (by simp) ?_
        intro i hi
        simp only [List.mem_cons, List.not_mem_nil, or_false] at hi
        subst hi
        (refine opV_cons (by decide) rfl (by rfl) ?_; intro _ hR K hK; replace hF := rl9 hF hR; clear hR; have m1 := hP1 _ hF; have m2 := hP2 _ hF; have m3 := hP3 _ hF; go_simp; refine hK _ _ ⟨?_, ?_⟩; (· refine dw_read (fun e he => ?_); have hm := mem_listed he; simp [go_sem, m1, m2, m3] at hm; subst hm; exact evW_cell (.inr (hlow _ (by simp)).1) (hlow _ (by simp)).2); clear hK K m1 m2 m3; try walk_nrm)
        refine anyV_all (rs := [5]) (by kernel_rfl) (by simp) ?_
        intro i hi
        simp only [List.mem_cons, List.not_mem_nil, or_false] at hi
        subst hi
        refine opV_call_silent (nf := 60) (by decide) rfl (by rfl) rfl ?_ ?_ (Post := fun v w' => WK c wb H fv j C w' ∧ v = .bool false)
        · walk_nrm
          exact setNil_C A hC x _ hF
        rintro _ w' ⟨hF', rfl⟩
        clear hF
        have hF := hF'
        clear hF'
        walk_nrm
        refine anyV_done ?_
        simp only [ThenV]
        co_apply codeV_cond (t := false)
        focus (exact rfl)
        simp only [Bool.false_eq_true, if_false]
        refine codeV_of (wpC_skip T9 ?_)
        exact ⟨rfl, _, resultsC_none rfl _, hu, hF⟩
      · skip
        (refine opV_cons (by decide) rfl (by rfl) ?_; intro _ hR K hK; replace hF := rl9 hF hR; clear hR; have m1 := hP1 _ hF; have m2 := hP2 _ hF; have m3 := hP3 _ hF; go_simp; refine hK _ _ ⟨?_, ?_⟩; (· refine dw_read (fun e he => ?_); have hm := mem_listed he; simp [go_sem, m1, m2, m3] at hm; subst hm; exact evW_cell (.inr (hlow _ (by simp)).1) (hlow _ (by simp)).2); clear hK K m1 m2 m3; try walk_nrm)
        refine anyV_all (rs := [0, 3]) (by kernel_rfl) (by simp) ?_
        intro i hi
        simp only [List.mem_cons, List.not_mem_nil, or_false] at hi
        rcases hi with rfl | rfl
        · skip
          (refine opV_cons (by decide) rfl (by rfl) ?_; intro _ hR K hK; replace hF := rl9 hF hR; clear hR; have m1 := hP1 _ hF; have m2 := hP2 _ hF; have m3 := hP3 _ hF; go_simp; refine hK _ _ ⟨?_, ?_⟩; (· refine dw_read (fun e he => ?_); have hm := mem_listed he; simp [go_sem, m1, m2, m3] at hm; subst hm; exact evW_cell (.inr (hlow _ (by simp)).1) (hlow _ (by simp)).2); clear hK K m1 m2 m3; try walk_nrm)
          refine anyV_all (rs := [3]) (by kernel_rfl) (by simp) ?_
          intro i hi
          simp only [List.mem_cons, List.not_mem_nil, or_false] at hi
          subst hi
          (refine opV_cons (by decide) rfl (by rfl) ?_; intro _ hR K hK; replace hF := rl9 hF hR; clear hR; go_simp; refine hK _ _ ⟨?_, ?_⟩; (· rw [listed_nil (by simp [go_sem, *])]; exact DW.refl _ _ _); clear hK K; try walk_nrm)
          refine anyV_all (rs := [4]) (by kernel_rfl) (by simp) ?_
          intro i hi
          simp only [List.mem_cons, List.not_mem_nil, or_false] at hi
          subst hi
          (refine opV_cons (by decide) rfl (by rfl) ?_; intro _ hR K hK; replace hF := rl9 hF hR; clear hR; have m1 := hP1 _ hF; have m2 := hP2 _ hF; have m3 := hP3 _ hF; go_simp; refine hK _ _ ⟨?_, ?_⟩; (· refine dw_read (fun e he => ?_); have hm := mem_listed he; simp [go_sem, m1, m2, m3] at hm; subst hm; exact evW_cell (.inr (hlow _ (by simp)).1) (hlow _ (by simp)).2); clear hK K m1 m2 m3; try walk_nrm)
          refine anyV_all (rs := [5]) (by kernel_rfl) (by simp) ?_
          intro i hi
          simp only [List.mem_cons, List.not_mem_nil, or_false] at hi
          subst hi
          refine opV_call_silent (nf := 60) (by decide) rfl (by rfl) rfl ?_ ?_ (Post := fun v w' => WK c wb H fv j C w' ∧ v = .bool false)
          · walk_nrm
            exact setNil_C A hC x _ hF
          rintro _ w' ⟨hF', rfl⟩
          clear hF
          have hF := hF'
          clear hF'
          walk_nrm
          refine anyV_done ?_
          simp only [ThenV]
          co_apply codeV_cond (t := false)
          focus (exact rfl)
          simp only [Bool.false_eq_true, if_false]
          refine codeV_of (wpC_skip T9 ?_)
          exact ⟨rfl, _, resultsC_none rfl _, hu, hF⟩
        · skip
          (refine opV_cons (by decide) rfl (by rfl) ?_; intro _ hR K hK; replace hF := rl9 hF hR; clear hR; go_simp; refine hK _ _ ⟨?_, ?_⟩; (· rw [listed_nil (by simp [go_sem, *])]; exact DW.refl _ _ _); clear hK K; try walk_nrm)
          refine anyV_all (rs := [0, 4]) (by kernel_rfl) (by simp) ?_
          intro i hi
          simp only [List.mem_cons, List.not_mem_nil, or_false] at hi
          rcases hi with rfl | rfl
          · skip
            (refine opV_cons (by decide) rfl (by rfl) ?_; intro _ hR K hK; replace hF := rl9 hF hR; clear hR; have m1 := hP1 _ hF; have m2 := hP2 _ hF; have m3 := hP3 _ hF; go_simp; refine hK _ _ ⟨?_, ?_⟩; (· refine dw_read (fun e he => ?_); have hm := mem_listed he; simp [go_sem, m1, m2, m3] at hm; subst hm; exact evW_cell (.inr (hlow _ (by simp)).1) (hlow _ (by simp)).2); clear hK K m1 m2 m3; try walk_nrm)
            refine anyV_all (rs := [4]) (by kernel_rfl) (by simp) ?_
            intro i hi
            simp only [List.mem_cons, List.not_mem_nil, or_false] at hi
            subst hi
            (refine opV_cons (by decide) rfl (by rfl) ?_; intro _ hR K hK; replace hF := rl9 hF hR; clear hR; have m1 := hP1 _ hF; have m2 := hP2 _ hF; have m3 := hP3 _ hF; go_simp; refine hK _ _ ⟨?_, ?_⟩; (· refine dw_read (fun e he => ?_); have hm := mem_listed he; simp [go_sem, m1, m2, m3] at hm; subst hm; exact evW_cell (.inr (hlow _ (by simp)).1) (hlow _ (by simp)).2); clear hK K m1 m2 m3; try walk_nrm)
            refine anyV_all (rs := [5]) (by kernel_rfl) (by simp) ?_
            intro i hi
            simp only [List.mem_cons, List.not_mem_nil, or_false] at hi
            subst hi
            refine opV_call_silent (nf := 60) (by decide) rfl (by rfl) rfl ?_ ?_ (Post := fun v w' => WK c wb H fv j C w' ∧ v = .bool false)
            · walk_nrm
              exact setNil_C A hC x _ hF
            rintro _ w' ⟨hF', rfl⟩
            clear hF
            have hF := hF'
            clear hF'
            walk_nrm
            refine anyV_done ?_
            simp only [ThenV]
            co_apply codeV_cond (t := false)
            focus (exact rfl)
            simp only [Bool.false_eq_true, if_false]
            refine codeV_of (wpC_skip T9 ?_)
            exact ⟨rfl, _, resultsC_none rfl _, hu, hF⟩
          · skip
            (refine opV_cons (by decide) rfl (by rfl) ?_; intro _ hR K hK; replace hF := rl9 hF hR; clear hR; have m1 := hP1 _ hF; have m2 := hP2 _ hF; have m3 := hP3 _ hF; go_simp; refine hK _ _ ⟨?_, ?_⟩; (· refine dw_read (fun e he => ?_); have hm := mem_listed he; simp [go_sem, m1, m2, m3] at hm; subst hm; exact evW_cell (.inr (hlow _ (by simp)).1) (hlow _ (by simp)).2); clear hK K m1 m2 m3; try walk_nrm)
            refine anyV_all (rs := [0]) (by kernel_rfl) (by simp) ?_
            intro i hi
            simp only [List.mem_cons, List.not_mem_nil, or_false] at hi
            subst hi
            (refine opV_cons (by decide) rfl (by rfl) ?_; intro _ hR K hK; replace hF := rl9 hF hR; clear hR; have m1 := hP1 _ hF; have m2 := hP2 _ hF; have m3 := hP3 _ hF; go_simp; refine hK _ _ ⟨?_, ?_⟩; (· refine dw_read (fun e he => ?_); have hm := mem_listed he; simp [go_sem, m1, m2, m3] at hm; subst hm; exact evW_cell (.inr (hlow _ (by simp)).1) (hlow _ (by simp)).2); clear hK K m1 m2 m3; try walk_nrm)
            refine anyV_all (rs := [5]) (by kernel_rfl) (by simp) ?_
            intro i hi
            simp only [List.mem_cons, List.not_mem_nil, or_false] at hi
            subst hi
            refine opV_call_silent (nf := 60) (by decide) rfl (by rfl) rfl ?_ ?_ (Post := fun v w' => WK c wb H fv j C w' ∧ v = .bool false)
            · walk_nrm
              exact setNil_C A hC x _ hF
            rintro _ w' ⟨hF', rfl⟩
            clear hF
            have hF := hF'
            clear hF'
            walk_nrm
            refine anyV_done ?_
            simp only [ThenV]
            co_apply codeV_cond (t := false)
            focus (exact rfl)
            simp only [Bool.false_eq_true, if_false]
            refine codeV_of (wpC_skip T9 ?_)
            exact ⟨rfl, _, resultsC_none rfl _, hu, hF⟩
  · decide
end Go.Proofs.Ytinghnaigpenkaa
