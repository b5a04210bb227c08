/- Seat 05: many set a latch at once: a worker of Race. -/
import Derived.Test.YtinghnaigpenkaaZRaE
namespace Go.Proofs.Ytinghnaigpenkaa
open Go.Conc Go.RowKit Go.ConcR.Gen
open Go.ConcR (WgAt stA Payload)
set_option linter.unusedVariables false
set_option linter.unusedSimpArgs false
set_option maxRecDepth 100000
set_option maxHeartbeats 8000000


theorem cell_same {w w₁ : World} {g : Nat} (h : w₁.heap[g]? = w.heap[g]?) (i : Nat) : w₁.cell? ⟨g, i, none⟩ = w.cell? ⟨g, i, none⟩ := by simp [World.cell?, h]
theorem cell_some {w : World} {g i : Nat} {v : Value} (h : w.cell? ⟨g, i, none⟩ = some v) : ∃ o, w.heap[g]? = some o := by
  cases e : w.heap[g]? with
  | none => simp [World.cell?, e] at h
  | some o => exact ⟨o, rfl⟩
/-- the memory of Race's closure -/
structure RcIn (p : RaP) (wb : World) (l : List Int) (lb vb db off cap : Nat) (A : Option Addr) : Prop where
  lbox : wb.heap[lb]? = some (.cells #[.pointer (some ⟨p.L, 0, none⟩)] 23)
  vbox : wb.heap[vb]? = some (.cells #[.slice A l.length cap] 44)
  at_ : 0 < l.length → A = some ⟨db, off, none⟩
  data : ∀ q x, l[q]? = some x → wb.cell? ⟨db, off + q, none⟩ = some (.int .u64 x) ∧ p.vals q = x
  low : ∀ g, g = lb ∨ g = vb ∨ (0 < l.length ∧ g = db) → g < p.H ∧ g ≠ p.L ∧ g ≠ p.Wn
theorem race1_V {p : RaP} (h : p.Ok) {wb : World} {k C N j : Nat} {l : List Int} {lb vb db off cap : Nat} {Al : Option Addr} {fv : Value} (hC : p.H + 2 ≤ C) (R : RcIn p wb l lb vb db off cap Al) (hj : j < l.length) (w : World) (hF : WK (raC p) wb p.H fv j C w) :
    CallsV Try.prog (raC p) k C 33 (#[.int .i64 j] ++ #[.pointer (some ⟨lb, 0, none⟩), .pointer (some ⟨vb, 0, none⟩), .pointer (some ⟨p.Wn, 0, none⟩)]) ((N + 1) * 49014 + 190000) N ((raC p).init j) w (fun N' u' v w' => (raC p).fin u' ∧ WK (raC p) wb p.H fv j C w') := by
  have A := alo_ra h
  replace hF : FRa p wb fv j C w := ⟨hF, hF.rep⟩
  have T9 := termsW (raC p) C
  have hS : Stays (raC p) C (FRa p wb fv j C) := stays_ra h hC
  have rl9 : ∀ {w w₁ : World}, FRa p wb fv j C w → RW (raC p) C w w₁ → FRa p wb fv j C w₁ := fun h r => hS.rely _ _ r h
  obtain ⟨x, hx⟩ : ∃ x, l[j]? = some x := ⟨_, List.getElem?_eq_getElem hj⟩
  have hpos : 0 < l.length := by omega
  have hi9 : (raC p).init j = (⟨.a0, .pre, 0, false, x⟩ : RU) := by
    have := (R.data j x hx).2
    subst this
    rfl
  have hB : 1 ≤ (N + 1) * 7002 + 25003 := by omega
  have hsz : ∀ w, FRa p wb fv j C w → p.H + 2 ≤ w.heap.size := fun w hF => by obtain ⟨σ, hr⟩ := hF.2; exact hr.2.2.2
  have hpl : ∀ a : Addr, a.block < p.H → a.block ≠ p.L → a.block ≠ p.Wn → a.block < (raC p).H0 ∧ ¬ (raC p).sh (.cell a) ∧ ¬ (raC p).sp (.cell a) := by
    intro a h1 h2 h3
    refine ⟨by show a.block < p.H + 2; omega, ?_, ?_⟩
    · rintro ⟨a', e, h4⟩
      injection e with e
      subst e
      rcases h4 with h4 | h4 | h4
      · exact h2 h4.1
      · exact h3 h4
      · omega
    · intro e
      have e : (Loc.cell a) = .cell ⟨p.L, 4, none⟩ := e
      injection e with e
      subst e
      exact h2 rfl
  have hlow : ∀ a : Addr, (a = ⟨lb, 0, none⟩ ∨ a = ⟨vb, 0, none⟩ ∨ a = ⟨db, off + j, none⟩) → a.block < (raC p).H0 ∧ ¬ (raC p).sh (.cell a) ∧ ¬ (raC p).sp (.cell a) := by
    rintro a (rfl | rfl | rfl)
    · have := R.low lb (.inl rfl); exact hpl _ this.1 this.2.1 this.2.2
    · have := R.low vb (.inr (.inl rfl)); exact hpl _ this.1 this.2.1 this.2.2
    · have := R.low db (.inr (.inr ⟨hpos, rfl⟩)); exact hpl _ this.1 this.2.1 this.2.2
  have nsb : ∀ g, g ≠ p.L ∧ g ≠ p.Wn → ¬ (raC p).SB g := fun g h e => e.elim h.1 h.2
  have hP1 : ∀ w, FRa p wb fv j C w → w.cell? ⟨lb, 0, none⟩ = some (.pointer (some ⟨p.L, 0, none⟩)) := fun w h => box_cell (h.1.old _ _ (R.low lb (.inl rfl)).1 (nsb _ (R.low lb (.inl rfl)).2) R.lbox)
  have hP2 : ∀ w, FRa p wb fv j C w → w.cell? ⟨vb, 0, none⟩ = some (.slice (some ⟨db, off, none⟩) l.length cap) := fun w h => by
    have := box_cell (h.1.old _ _ (R.low vb (.inr (.inl rfl))).1 (nsb _ (R.low vb (.inr (.inl rfl))).2) R.vbox)
    rwa [R.at_ hpos] at this
  have hP3 : ∀ w, FRa p wb fv j C w → w.cell? ⟨db, off + j, none⟩ = some (.int .u64 x) := fun w h => by
    have h1 := (R.data j x hx).1
    obtain ⟨ob, hob⟩ := cell_some h1
    have h2 := h.1.old _ _ (R.low db (.inr (.inr ⟨hpos, rfl⟩))).1 (nsb _ (R.low db (.inr (.inr ⟨hpos, rfl⟩))).2) hob
    rw [cell_same (h2.trans hob.symm)]
    exact h1
  have q1 : (j : Int) < (l.length : Int) := by omega
  have ad9 : (if j = 0 then (⟨db, off, none⟩ : Addr) else ⟨db, off + j, none⟩) = ⟨db, off + j, none⟩ := by
    by_cases h : j = 0
    · subst h; rfl
    · exact if_neg h
  clear hx
  rw [hi9]
  clear hi9
  have fin9 : ∀ N1 u1 w1 b, FRa p wb fv j C w1 → ((b = true ∧ ∃ fb, u1 = (⟨.w0, .out, fb, true, x⟩ : RU)) ∨ (b = false ∧ RU.ph u1 = .fin)) →
      CodeV Try.prog (raC p) k C 33 (.cond (.tmp 10) (Cd.t (Cd.b (Try.f33.body.getD .skip))) .skip) 200 N1 u1 (bodyPostV Try.prog (raC p) Try.f33 (fun N' u' v w' => (raC p).fin u' ∧ WK (raC p) wb p.H fv j C w')) ⟨#[.int .i64 j, .pointer (some ⟨lb, 0, none⟩), .pointer (some ⟨vb, 0, none⟩), .pointer (some ⟨p.Wn, 0, none⟩), undef, .pointer (some ⟨p.L, 0, none⟩), .slice (some ⟨db, off, none⟩) l.length cap, .int .i64 j, .pointer (some ⟨db, off + j, none⟩), .int .u64 x, .bool b, undef], []⟩ w1 := by
    intro N1 u1 w1 b hF hu
    rw [show Cd.t (Cd.b (Try.f33.body.getD .skip)) = _ from (by simp only [Cd.b, Cd.t, Try.f33, Option.getD_some]; try rfl)]
    rcases hu with ⟨rfl, fb, rfl⟩ | ⟨rfl, hu⟩
    · co_apply codeV_more
      · co_apply codeV_cond (t := true)
        focus (exact rfl)
        simp only [if_true]
        co_apply codeV_region
        simp only [List.size_toArray, List.length_cons, List.length_nil, Nat.reduceAdd, Nat.zero_add, List.range, List.range.loop]
        co_apply opsV_call rfl (by rfl) rfl
        · exact callsV_args (by simp [Act.eval]) (add_V (k := k) (N := N1) h hS hF)
        rintro N4 u4 v4 w4 ⟨hN4, hF4, rfl⟩
        walk_nrm
        co_apply opsV_nil
        exact ⟨rfl, _, resultsC_none rfl _, rfl, hF4.1⟩
      · decide
    · co_apply codeV_more
      · co_apply codeV_cond (t := false)
        focus (exact rfl)
        simp only [if_false, Bool.false_eq_true]
        refine codeV_of (wpC_skip (termsW _ _) ?_)
        exact ⟨rfl, _, resultsC_none rfl _, hu, hF.1⟩
      · decide
  rw [show Cd.t (Cd.b (Try.f33.body.getD .skip)) = _ from (by simp only [Cd.b, Cd.t, Try.f33, Option.getD_some]; try rfl)] at fin9
  refine ⟨_, _, Try.func33, by kernel_rfl, rfl, ?_⟩
  simp only [Try.ntmps33]
  walk_nrm
  refine cv_seq (n₁ := 6 * ((N + 1) * 7002 + 25003) + 2) (n₂ := 200) (by omega) ?_
  refine codeV_region_any (B := (N + 1) * 7002 + 25003) (by rfl) (fun w₁ h₁ => ?_)
  replace hF := hS.draw (raC_ok h) (rl9 hF h₁) (w₁.drawn + 1)
  clear h₁
  generalize { w₁ with drawn := w₁.drawn + 1 } = w2 at hF ⊢
  simp only [List.size_toArray, List.length_cons, List.length_nil, Nat.reduceAdd, Nat.zero_add]
  refine anyV_all (rs := [0, 1, 2]) (by kernel_rfl) (by simp) ?_
  intro i hi
  simp only [List.mem_cons, List.not_mem_nil, or_false] at hi
  rcases hi with rfl | rfl | rfl
  · skip
    (refine opV_cons (by omega) rfl (by rfl) ?_; intro _ hR K hK; replace hF := rl9 hF hR; clear hR; have m1 := hP1 _ hF; have m2 := hP2 _ hF; have m3 := hP3 _ hF; go_simp; refine hK _ _ ⟨?_, ?_⟩; (· refine dw_read (fun e he => ?_); have hm := mem_listed he; simp [go_sem, m1, m2, m3] at hm; subst hm; exact evW_cell (.inr (hlow _ (by simp)).1) (hlow _ (by simp)).2); clear hK K m1 m2 m3; try walk_nrm)
    refine anyV_all (rs := [1, 2]) (by kernel_rfl) (by simp) ?_
    intro i hi
    simp only [List.mem_cons, List.not_mem_nil, or_false] at hi
    rcases hi with rfl | rfl
    · skip
      (refine opV_cons (by omega) rfl (by rfl) ?_; intro _ hR K hK; replace hF := rl9 hF hR; clear hR; have m1 := hP1 _ hF; have m2 := hP2 _ hF; have m3 := hP3 _ hF; go_simp; refine hK _ _ ⟨?_, ?_⟩; (· refine dw_read (fun e he => ?_); have hm := mem_listed he; simp [go_sem, m1, m2, m3] at hm; subst hm; exact evW_cell (.inr (hlow _ (by simp)).1) (hlow _ (by simp)).2); clear hK K m1 m2 m3; try walk_nrm)
      refine anyV_all (rs := [2]) (by kernel_rfl) (by simp) ?_
      intro i hi
      simp only [List.mem_cons, List.not_mem_nil, or_false] at hi
      subst hi
      (refine opV_cons (by omega) rfl (by rfl) ?_; intro _ hR K hK; replace hF := rl9 hF hR; clear hR; go_simp; refine hK _ _ ⟨?_, ?_⟩; (· rw [listed_nil (by simp [go_sem, *])]; exact DW.refl _ _ _); clear hK K; try walk_nrm)
      refine anyV_all (rs := [3]) (by kernel_rfl) (by simp) ?_
      intro i hi
      simp only [List.mem_cons, List.not_mem_nil, or_false] at hi
      subst hi
      (refine opV_cons (by omega) rfl (by rfl) ?_; intro _ hR K hK; replace hF := rl9 hF hR; clear hR; go_simp; refine hK _ _ ⟨?_, ?_⟩; (· rw [listed_nil (by simp [go_sem, *])]; exact DW.refl _ _ _); clear hK K; try walk_nrm)
      refine anyV_all (rs := [4]) (by kernel_rfl) (by simp) ?_
      intro i hi
      simp only [List.mem_cons, List.not_mem_nil, or_false] at hi
      subst hi
      (refine opV_cons (by omega) rfl (by rfl) ?_; intro _ hR K hK; replace hF := rl9 hF hR; clear hR; have m1 := hP1 _ hF; have m2 := hP2 _ hF; have m3 := hP3 _ hF; go_simp; refine hK _ _ ⟨?_, ?_⟩; (· refine dw_read (fun e he => ?_); have hm := mem_listed he; simp [go_sem, m1, m2, m3] at hm; subst hm; exact evW_cell (.inr (hlow _ (by simp)).1) (hlow _ (by simp)).2); clear hK K m1 m2 m3; try walk_nrm)
      refine anyV_all (rs := [5]) (by kernel_rfl) (by simp) ?_
      intro i hi
      simp only [List.mem_cons, List.not_mem_nil, or_false] at hi
      subst hi
      refine opV_call (nf := (N + 1) * 7002 + 25000) (by omega) rfl (by rfl) rfl (callsV_args (by simp [Act.eval]) (set_V (k := k) (N := N) (x := x) h hS hsz hF)) ?_
      rintro N4 u4 v4 w4 ⟨hN4, hF4, b, rfl, hu4⟩
      clear hF
      have hF := hF4
      clear hF4
      walk_nrm
      refine anyV_done ?_
      exact fin9 _ _ _ _ hF hu4
    · skip
      (refine opV_cons (by omega) rfl (by rfl) ?_; intro _ hR K hK; replace hF := rl9 hF hR; clear hR; go_simp; refine hK _ _ ⟨?_, ?_⟩; (· rw [listed_nil (by simp [go_sem, *])]; exact DW.refl _ _ _); clear hK K; try walk_nrm)
      refine anyV_all (rs := [1]) (by kernel_rfl) (by simp) ?_
      intro i hi
      simp only [List.mem_cons, List.not_mem_nil, or_false] at hi
      subst hi
      (refine opV_cons (by omega) rfl (by rfl) ?_; intro _ hR K hK; replace hF := rl9 hF hR; clear hR; have m1 := hP1 _ hF; have m2 := hP2 _ hF; have m3 := hP3 _ hF; go_simp; refine hK _ _ ⟨?_, ?_⟩; (· refine dw_read (fun e he => ?_); have hm := mem_listed he; simp [go_sem, m1, m2, m3] at hm; subst hm; exact evW_cell (.inr (hlow _ (by simp)).1) (hlow _ (by simp)).2); clear hK K m1 m2 m3; try walk_nrm)
      refine anyV_all (rs := [3]) (by kernel_rfl) (by simp) ?_
      intro i hi
      simp only [List.mem_cons, List.not_mem_nil, or_false] at hi
      subst hi
      (refine opV_cons (by omega) rfl (by rfl) ?_; intro _ hR K hK; replace hF := rl9 hF hR; clear hR; go_simp; refine hK _ _ ⟨?_, ?_⟩; (· rw [listed_nil (by simp [go_sem, *])]; exact DW.refl _ _ _); clear hK K; try walk_nrm)
      refine anyV_all (rs := [4]) (by kernel_rfl) (by simp) ?_
      intro i hi
      simp only [List.mem_cons, List.not_mem_nil, or_false] at hi
      subst hi
      (refine opV_cons (by omega) rfl (by rfl) ?_; intro _ hR K hK; replace hF := rl9 hF hR; clear hR; have m1 := hP1 _ hF; have m2 := hP2 _ hF; have m3 := hP3 _ hF; go_simp; refine hK _ _ ⟨?_, ?_⟩; (· refine dw_read (fun e he => ?_); have hm := mem_listed he; simp [go_sem, m1, m2, m3] at hm; subst hm; exact evW_cell (.inr (hlow _ (by simp)).1) (hlow _ (by simp)).2); clear hK K m1 m2 m3; try walk_nrm)
      refine anyV_all (rs := [5]) (by kernel_rfl) (by simp) ?_
      intro i hi
      simp only [List.mem_cons, List.not_mem_nil, or_false] at hi
      subst hi
      refine opV_call (nf := (N + 1) * 7002 + 25000) (by omega) rfl (by rfl) rfl (callsV_args (by simp [Act.eval]) (set_V (k := k) (N := N) (x := x) h hS hsz hF)) ?_
      rintro N4 u4 v4 w4 ⟨hN4, hF4, b, rfl, hu4⟩
      clear hF
      have hF := hF4
      clear hF4
      walk_nrm
      refine anyV_done ?_
      exact fin9 _ _ _ _ hF hu4
  · skip
    (refine opV_cons (by omega) rfl (by rfl) ?_; intro _ hR K hK; replace hF := rl9 hF hR; clear hR; have m1 := hP1 _ hF; have m2 := hP2 _ hF; have m3 := hP3 _ hF; go_simp; refine hK _ _ ⟨?_, ?_⟩; (· refine dw_read (fun e he => ?_); have hm := mem_listed he; simp [go_sem, m1, m2, m3] at hm; subst hm; exact evW_cell (.inr (hlow _ (by simp)).1) (hlow _ (by simp)).2); clear hK K m1 m2 m3; try walk_nrm)
    refine anyV_all (rs := [0, 2]) (by kernel_rfl) (by simp) ?_
    intro i hi
    simp only [List.mem_cons, List.not_mem_nil, or_false] at hi
    rcases hi with rfl | rfl
    · skip
      (refine opV_cons (by omega) rfl (by rfl) ?_; intro _ hR K hK; replace hF := rl9 hF hR; clear hR; have m1 := hP1 _ hF; have m2 := hP2 _ hF; have m3 := hP3 _ hF; go_simp; refine hK _ _ ⟨?_, ?_⟩; (· refine dw_read (fun e he => ?_); have hm := mem_listed he; simp [go_sem, m1, m2, m3] at hm; subst hm; exact evW_cell (.inr (hlow _ (by simp)).1) (hlow _ (by simp)).2); clear hK K m1 m2 m3; try walk_nrm)
      refine anyV_all (rs := [2]) (by kernel_rfl) (by simp) ?_
      intro i hi
      simp only [List.mem_cons, List.not_mem_nil, or_false] at hi
      subst hi
      (refine opV_cons (by omega) rfl (by rfl) ?_; intro _ hR K hK; replace hF := rl9 hF hR; clear hR; go_simp; refine hK _ _ ⟨?_, ?_⟩; (· rw [listed_nil (by simp [go_sem, *])]; exact DW.refl _ _ _); clear hK K; try walk_nrm)
      refine anyV_all (rs := [3]) (by kernel_rfl) (by simp) ?_
      intro i hi
      simp only [List.mem_cons, List.not_mem_nil, or_false] at hi
      subst hi
      (refine opV_cons (by omega) rfl (by rfl) ?_; intro _ hR K hK; replace hF := rl9 hF hR; clear hR; go_simp; refine hK _ _ ⟨?_, ?_⟩; (· rw [listed_nil (by simp [go_sem, *])]; exact DW.refl _ _ _); clear hK K; try walk_nrm)
      refine anyV_all (rs := [4]) (by kernel_rfl) (by simp) ?_
      intro i hi
      simp only [List.mem_cons, List.not_mem_nil, or_false] at hi
      subst hi
      (refine opV_cons (by omega) rfl (by rfl) ?_; intro _ hR K hK; replace hF := rl9 hF hR; clear hR; have m1 := hP1 _ hF; have m2 := hP2 _ hF; have m3 := hP3 _ hF; go_simp; refine hK _ _ ⟨?_, ?_⟩; (· refine dw_read (fun e he => ?_); have hm := mem_listed he; simp [go_sem, m1, m2, m3] at hm; subst hm; exact evW_cell (.inr (hlow _ (by simp)).1) (hlow _ (by simp)).2); clear hK K m1 m2 m3; try walk_nrm)
      refine anyV_all (rs := [5]) (by kernel_rfl) (by simp) ?_
      intro i hi
      simp only [List.mem_cons, List.not_mem_nil, or_false] at hi
      subst hi
      refine opV_call (nf := (N + 1) * 7002 + 25000) (by omega) rfl (by rfl) rfl (callsV_args (by simp [Act.eval]) (set_V (k := k) (N := N) (x := x) h hS hsz hF)) ?_
      rintro N4 u4 v4 w4 ⟨hN4, hF4, b, rfl, hu4⟩
      clear hF
      have hF := hF4
      clear hF4
      walk_nrm
      refine anyV_done ?_
      exact fin9 _ _ _ _ hF hu4
    · skip
      (refine opV_cons (by omega) rfl (by rfl) ?_; intro _ hR K hK; replace hF := rl9 hF hR; clear hR; go_simp; refine hK _ _ ⟨?_, ?_⟩; (· rw [listed_nil (by simp [go_sem, *])]; exact DW.refl _ _ _); clear hK K; try walk_nrm)
      refine anyV_all (rs := [0, 3]) (by kernel_rfl) (by simp) ?_
      intro i hi
      simp only [List.mem_cons, List.not_mem_nil, or_false] at hi
      rcases hi with rfl | rfl
      · skip
        (refine opV_cons (by omega) rfl (by rfl) ?_; intro _ hR K hK; replace hF := rl9 hF hR; clear hR; have m1 := hP1 _ hF; have m2 := hP2 _ hF; have m3 := hP3 _ hF; go_simp; refine hK _ _ ⟨?_, ?_⟩; (· refine dw_read (fun e he => ?_); have hm := mem_listed he; simp [go_sem, m1, m2, m3] at hm; subst hm; exact evW_cell (.inr (hlow _ (by simp)).1) (hlow _ (by simp)).2); clear hK K m1 m2 m3; try walk_nrm)
        refine anyV_all (rs := [3]) (by kernel_rfl) (by simp) ?_
        intro i hi
        simp only [List.mem_cons, List.not_mem_nil, or_false] at hi
        subst hi
        (refine opV_cons (by omega) rfl (by rfl) ?_; intro _ hR K hK; replace hF := rl9 hF hR; clear hR; go_simp; refine hK _ _ ⟨?_, ?_⟩; (· rw [listed_nil (by simp [go_sem, *])]; exact DW.refl _ _ _); clear hK K; try walk_nrm)
        refine anyV_all (rs := [4]) (by kernel_rfl) (by simp) ?_
        intro i hi
        simp only [List.mem_cons, List.not_mem_nil, or_false] at hi
        subst hi
        (refine opV_cons (by omega) rfl (by rfl) ?_; intro _ hR K hK; replace hF := rl9 hF hR; clear hR; have m1 := hP1 _ hF; have m2 := hP2 _ hF; have m3 := hP3 _ hF; go_simp; refine hK _ _ ⟨?_, ?_⟩; (· refine dw_read (fun e he => ?_); have hm := mem_listed he; simp [go_sem, m1, m2, m3] at hm; subst hm; exact evW_cell (.inr (hlow _ (by simp)).1) (hlow _ (by simp)).2); clear hK K m1 m2 m3; try walk_nrm)
        refine anyV_all (rs := [5]) (by kernel_rfl) (by simp) ?_
        intro i hi
        simp only [List.mem_cons, List.not_mem_nil, or_false] at hi
        subst hi
        refine opV_call (nf := (N + 1) * 7002 + 25000) (by omega) rfl (by rfl) rfl (callsV_args (by simp [Act.eval]) (set_V (k := k) (N := N) (x := x) h hS hsz hF)) ?_
        rintro N4 u4 v4 w4 ⟨hN4, hF4, b, rfl, hu4⟩
        clear hF
        have hF := hF4
        clear hF4
        walk_nrm
        refine anyV_done ?_
        exact fin9 _ _ _ _ hF hu4
      · skip
        (refine opV_cons (by omega) rfl (by rfl) ?_; intro _ hR K hK; replace hF := rl9 hF hR; clear hR; go_simp; refine hK _ _ ⟨?_, ?_⟩; (· rw [listed_nil (by simp [go_sem, *])]; exact DW.refl _ _ _); clear hK K; try walk_nrm)
        refine anyV_all (rs := [0, 4]) (by kernel_rfl) (by simp) ?_
        intro i hi
        simp only [List.mem_cons, List.not_mem_nil, or_false] at hi
        rcases hi with rfl | rfl
        · skip
          (refine opV_cons (by omega) rfl (by rfl) ?_; intro _ hR K hK; replace hF := rl9 hF hR; clear hR; have m1 := hP1 _ hF; have m2 := hP2 _ hF; have m3 := hP3 _ hF; go_simp; refine hK _ _ ⟨?_, ?_⟩; (· refine dw_read (fun e he => ?_); have hm := mem_listed he; simp [go_sem, m1, m2, m3] at hm; subst hm; exact evW_cell (.inr (hlow _ (by simp)).1) (hlow _ (by simp)).2); clear hK K m1 m2 m3; try walk_nrm)
          refine anyV_all (rs := [4]) (by kernel_rfl) (by simp) ?_
          intro i hi
          simp only [List.mem_cons, List.not_mem_nil, or_false] at hi
          subst hi
          (refine opV_cons (by omega) rfl (by rfl) ?_; intro _ hR K hK; replace hF := rl9 hF hR; clear hR; have m1 := hP1 _ hF; have m2 := hP2 _ hF; have m3 := hP3 _ hF; go_simp; refine hK _ _ ⟨?_, ?_⟩; (· refine dw_read (fun e he => ?_); have hm := mem_listed he; simp [go_sem, m1, m2, m3] at hm; subst hm; exact evW_cell (.inr (hlow _ (by simp)).1) (hlow _ (by simp)).2); clear hK K m1 m2 m3; try walk_nrm)
          refine anyV_all (rs := [5]) (by kernel_rfl) (by simp) ?_
          intro i hi
          simp only [List.mem_cons, List.not_mem_nil, or_false] at hi
          subst hi
          refine opV_call (nf := (N + 1) * 7002 + 25000) (by omega) rfl (by rfl) rfl (callsV_args (by simp [Act.eval]) (set_V (k := k) (N := N) (x := x) h hS hsz hF)) ?_
          rintro N4 u4 v4 w4 ⟨hN4, hF4, b, rfl, hu4⟩
          clear hF
          have hF := hF4
          clear hF4
          walk_nrm
          refine anyV_done ?_
          exact fin9 _ _ _ _ hF hu4
        · skip
          (refine opV_cons (by omega) rfl (by rfl) ?_; intro _ hR K hK; replace hF := rl9 hF hR; clear hR; have m1 := hP1 _ hF; have m2 := hP2 _ hF; have m3 := hP3 _ hF; go_simp; refine hK _ _ ⟨?_, ?_⟩; (· refine dw_read (fun e he => ?_); have hm := mem_listed he; simp [go_sem, m1, m2, m3] at hm; subst hm; exact evW_cell (.inr (hlow _ (by simp)).1) (hlow _ (by simp)).2); clear hK K m1 m2 m3; try walk_nrm)
          refine anyV_all (rs := [0]) (by kernel_rfl) (by simp) ?_
          intro i hi
          simp only [List.mem_cons, List.not_mem_nil, or_false] at hi
          subst hi
          (refine opV_cons (by omega) rfl (by rfl) ?_; intro _ hR K hK; replace hF := rl9 hF hR; clear hR; have m1 := hP1 _ hF; have m2 := hP2 _ hF; have m3 := hP3 _ hF; go_simp; refine hK _ _ ⟨?_, ?_⟩; (· refine dw_read (fun e he => ?_); have hm := mem_listed he; simp [go_sem, m1, m2, m3] at hm; subst hm; exact evW_cell (.inr (hlow _ (by simp)).1) (hlow _ (by simp)).2); clear hK K m1 m2 m3; try walk_nrm)
          refine anyV_all (rs := [5]) (by kernel_rfl) (by simp) ?_
          intro i hi
          simp only [List.mem_cons, List.not_mem_nil, or_false] at hi
          subst hi
          refine opV_call (nf := (N + 1) * 7002 + 25000) (by omega) rfl (by rfl) rfl (callsV_args (by simp [Act.eval]) (set_V (k := k) (N := N) (x := x) h hS hsz hF)) ?_
          rintro N4 u4 v4 w4 ⟨hN4, hF4, b, rfl, hu4⟩
          clear hF
          have hF := hF4
          clear hF4
          walk_nrm
          refine anyV_done ?_
          exact fin9 _ _ _ _ hF hu4
  · skip
    (refine opV_cons (by omega) rfl (by rfl) ?_; intro _ hR K hK; replace hF := rl9 hF hR; clear hR; go_simp; refine hK _ _ ⟨?_, ?_⟩; (· rw [listed_nil (by simp [go_sem, *])]; exact DW.refl _ _ _); clear hK K; try walk_nrm)
    refine anyV_all (rs := [0, 1]) (by kernel_rfl) (by simp) ?_
    intro i hi
    simp only [List.mem_cons, List.not_mem_nil, or_false] at hi
    rcases hi with rfl | rfl
    · skip
      (refine opV_cons (by omega) rfl (by rfl) ?_; intro _ hR K hK; replace hF := rl9 hF hR; clear hR; have m1 := hP1 _ hF; have m2 := hP2 _ hF; have m3 := hP3 _ hF; go_simp; refine hK _ _ ⟨?_, ?_⟩; (· refine dw_read (fun e he => ?_); have hm := mem_listed he; simp [go_sem, m1, m2, m3] at hm; subst hm; exact evW_cell (.inr (hlow _ (by simp)).1) (hlow _ (by simp)).2); clear hK K m1 m2 m3; try walk_nrm)
      refine anyV_all (rs := [1]) (by kernel_rfl) (by simp) ?_
      intro i hi
      simp only [List.mem_cons, List.not_mem_nil, or_false] at hi
      subst hi
      (refine opV_cons (by omega) rfl (by rfl) ?_; intro _ hR K hK; replace hF := rl9 hF hR; clear hR; have m1 := hP1 _ hF; have m2 := hP2 _ hF; have m3 := hP3 _ hF; go_simp; refine hK _ _ ⟨?_, ?_⟩; (· refine dw_read (fun e he => ?_); have hm := mem_listed he; simp [go_sem, m1, m2, m3] at hm; subst hm; exact evW_cell (.inr (hlow _ (by simp)).1) (hlow _ (by simp)).2); clear hK K m1 m2 m3; try walk_nrm)
      refine anyV_all (rs := [3]) (by kernel_rfl) (by simp) ?_
      intro i hi
      simp only [List.mem_cons, List.not_mem_nil, or_false] at hi
      subst hi
      (refine opV_cons (by omega) rfl (by rfl) ?_; intro _ hR K hK; replace hF := rl9 hF hR; clear hR; go_simp; refine hK _ _ ⟨?_, ?_⟩; (· rw [listed_nil (by simp [go_sem, *])]; exact DW.refl _ _ _); clear hK K; try walk_nrm)
      refine anyV_all (rs := [4]) (by kernel_rfl) (by simp) ?_
      intro i hi
      simp only [List.mem_cons, List.not_mem_nil, or_false] at hi
      subst hi
      (refine opV_cons (by omega) rfl (by rfl) ?_; intro _ hR K hK; replace hF := rl9 hF hR; clear hR; have m1 := hP1 _ hF; have m2 := hP2 _ hF; have m3 := hP3 _ hF; go_simp; refine hK _ _ ⟨?_, ?_⟩; (· refine dw_read (fun e he => ?_); have hm := mem_listed he; simp [go_sem, m1, m2, m3] at hm; subst hm; exact evW_cell (.inr (hlow _ (by simp)).1) (hlow _ (by simp)).2); clear hK K m1 m2 m3; try walk_nrm)
      refine anyV_all (rs := [5]) (by kernel_rfl) (by simp) ?_
      intro i hi
      simp only [List.mem_cons, List.not_mem_nil, or_false] at hi
      subst hi
      refine opV_call (nf := (N + 1) * 7002 + 25000) (by omega) rfl (by rfl) rfl (callsV_args (by simp [Act.eval]) (set_V (k := k) (N := N) (x := x) h hS hsz hF)) ?_
      rintro N4 u4 v4 w4 ⟨hN4, hF4, b, rfl, hu4⟩
      clear hF
      have hF := hF4
      clear hF4
      walk_nrm
      refine anyV_done ?_
      exact fin9 _ _ _ _ hF hu4
    · skip
      (refine opV_cons (by omega) rfl (by rfl) ?_; intro _ hR K hK; replace hF := rl9 hF hR; clear hR; have m1 := hP1 _ hF; have m2 := hP2 _ hF; have m3 := hP3 _ hF; go_simp; refine hK _ _ ⟨?_, ?_⟩; (· refine dw_read (fun e he => ?_); have hm := mem_listed he; simp [go_sem, m1, m2, m3] at hm; subst hm; exact evW_cell (.inr (hlow _ (by simp)).1) (hlow _ (by simp)).2); clear hK K m1 m2 m3; try walk_nrm)
      refine anyV_all (rs := [0, 3]) (by kernel_rfl) (by simp) ?_
      intro i hi
      simp only [List.mem_cons, List.not_mem_nil, or_false] at hi
      rcases hi with rfl | rfl
      · skip
        (refine opV_cons (by omega) rfl (by rfl) ?_; intro _ hR K hK; replace hF := rl9 hF hR; clear hR; have m1 := hP1 _ hF; have m2 := hP2 _ hF; have m3 := hP3 _ hF; go_simp; refine hK _ _ ⟨?_, ?_⟩; (· refine dw_read (fun e he => ?_); have hm := mem_listed he; simp [go_sem, m1, m2, m3] at hm; subst hm; exact evW_cell (.inr (hlow _ (by simp)).1) (hlow _ (by simp)).2); clear hK K m1 m2 m3; try walk_nrm)
        refine anyV_all (rs := [3]) (by kernel_rfl) (by simp) ?_
        intro i hi
        simp only [List.mem_cons, List.not_mem_nil, or_false] at hi
        subst hi
        (refine opV_cons (by omega) rfl (by rfl) ?_; intro _ hR K hK; replace hF := rl9 hF hR; clear hR; go_simp; refine hK _ _ ⟨?_, ?_⟩; (· rw [listed_nil (by simp [go_sem, *])]; exact DW.refl _ _ _); clear hK K; try walk_nrm)
        refine anyV_all (rs := [4]) (by kernel_rfl) (by simp) ?_
        intro i hi
        simp only [List.mem_cons, List.not_mem_nil, or_false] at hi
        subst hi
        (refine opV_cons (by omega) rfl (by rfl) ?_; intro _ hR K hK; replace hF := rl9 hF hR; clear hR; have m1 := hP1 _ hF; have m2 := hP2 _ hF; have m3 := hP3 _ hF; go_simp; refine hK _ _ ⟨?_, ?_⟩; (· refine dw_read (fun e he => ?_); have hm := mem_listed he; simp [go_sem, m1, m2, m3] at hm; subst hm; exact evW_cell (.inr (hlow _ (by simp)).1) (hlow _ (by simp)).2); clear hK K m1 m2 m3; try walk_nrm)
        refine anyV_all (rs := [5]) (by kernel_rfl) (by simp) ?_
        intro i hi
        simp only [List.mem_cons, List.not_mem_nil, or_false] at hi
        subst hi
        refine opV_call (nf := (N + 1) * 7002 + 25000) (by omega) rfl (by rfl) rfl (callsV_args (by simp [Act.eval]) (set_V (k := k) (N := N) (x := x) h hS hsz hF)) ?_
        rintro N4 u4 v4 w4 ⟨hN4, hF4, b, rfl, hu4⟩
        clear hF
        have hF := hF4
        clear hF4
        walk_nrm
        refine anyV_done ?_
        exact fin9 _ _ _ _ hF hu4
      · skip
        (refine opV_cons (by omega) rfl (by rfl) ?_; intro _ hR K hK; replace hF := rl9 hF hR; clear hR; go_simp; refine hK _ _ ⟨?_, ?_⟩; (· rw [listed_nil (by simp [go_sem, *])]; exact DW.refl _ _ _); clear hK K; try walk_nrm)
        refine anyV_all (rs := [0, 4]) (by kernel_rfl) (by simp) ?_
        intro i hi
        simp only [List.mem_cons, List.not_mem_nil, or_false] at hi
        rcases hi with rfl | rfl
        · skip
          (refine opV_cons (by omega) rfl (by rfl) ?_; intro _ hR K hK; replace hF := rl9 hF hR; clear hR; have m1 := hP1 _ hF; have m2 := hP2 _ hF; have m3 := hP3 _ hF; go_simp; refine hK _ _ ⟨?_, ?_⟩; (· refine dw_read (fun e he => ?_); have hm := mem_listed he; simp [go_sem, m1, m2, m3] at hm; subst hm; exact evW_cell (.inr (hlow _ (by simp)).1) (hlow _ (by simp)).2); clear hK K m1 m2 m3; try walk_nrm)
          refine anyV_all (rs := [4]) (by kernel_rfl) (by simp) ?_
          intro i hi
          simp only [List.mem_cons, List.not_mem_nil, or_false] at hi
          subst hi
          (refine opV_cons (by omega) rfl (by rfl) ?_; intro _ hR K hK; replace hF := rl9 hF hR; clear hR; have m1 := hP1 _ hF; have m2 := hP2 _ hF; have m3 := hP3 _ hF; go_simp; refine hK _ _ ⟨?_, ?_⟩; (· refine dw_read (fun e he => ?_); have hm := mem_listed he; simp [go_sem, m1, m2, m3] at hm; subst hm; exact evW_cell (.inr (hlow _ (by simp)).1) (hlow _ (by simp)).2); clear hK K m1 m2 m3; try walk_nrm)
          refine anyV_all (rs := [5]) (by kernel_rfl) (by simp) ?_
          intro i hi
          simp only [List.mem_cons, List.not_mem_nil, or_false] at hi
          subst hi
          refine opV_call (nf := (N + 1) * 7002 + 25000) (by omega) rfl (by rfl) rfl (callsV_args (by simp [Act.eval]) (set_V (k := k) (N := N) (x := x) h hS hsz hF)) ?_
          rintro N4 u4 v4 w4 ⟨hN4, hF4, b, rfl, hu4⟩
          clear hF
          have hF := hF4
          clear hF4
          walk_nrm
          refine anyV_done ?_
          exact fin9 _ _ _ _ hF hu4
        · skip
          (refine opV_cons (by omega) rfl (by rfl) ?_; intro _ hR K hK; replace hF := rl9 hF hR; clear hR; have m1 := hP1 _ hF; have m2 := hP2 _ hF; have m3 := hP3 _ hF; go_simp; refine hK _ _ ⟨?_, ?_⟩; (· refine dw_read (fun e he => ?_); have hm := mem_listed he; simp [go_sem, m1, m2, m3] at hm; subst hm; exact evW_cell (.inr (hlow _ (by simp)).1) (hlow _ (by simp)).2); clear hK K m1 m2 m3; try walk_nrm)
          refine anyV_all (rs := [0]) (by kernel_rfl) (by simp) ?_
          intro i hi
          simp only [List.mem_cons, List.not_mem_nil, or_false] at hi
          subst hi
          (refine opV_cons (by omega) rfl (by rfl) ?_; intro _ hR K hK; replace hF := rl9 hF hR; clear hR; have m1 := hP1 _ hF; have m2 := hP2 _ hF; have m3 := hP3 _ hF; go_simp; refine hK _ _ ⟨?_, ?_⟩; (· refine dw_read (fun e he => ?_); have hm := mem_listed he; simp [go_sem, m1, m2, m3] at hm; subst hm; exact evW_cell (.inr (hlow _ (by simp)).1) (hlow _ (by simp)).2); clear hK K m1 m2 m3; try walk_nrm)
          refine anyV_all (rs := [5]) (by kernel_rfl) (by simp) ?_
          intro i hi
          simp only [List.mem_cons, List.not_mem_nil, or_false] at hi
          subst hi
          refine opV_call (nf := (N + 1) * 7002 + 25000) (by omega) rfl (by rfl) rfl (callsV_args (by simp [Act.eval]) (set_V (k := k) (N := N) (x := x) h hS hsz hF)) ?_
          rintro N4 u4 v4 w4 ⟨hN4, hF4, b, rfl, hu4⟩
          clear hF
          have hF := hF4
          clear hF4
          walk_nrm
          refine anyV_done ?_
          exact fin9 _ _ _ _ hF hu4
end Go.Proofs.Ytinghnaigpenkaa
