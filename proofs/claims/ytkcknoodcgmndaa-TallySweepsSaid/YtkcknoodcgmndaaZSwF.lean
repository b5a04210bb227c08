import Derived.Test.YtkcknoodcgmndaaZSwD
import Derived.Laws.BitsAllLaws
section
/- A sweep's worker claims a number. -/
namespace Go.Proofs.Ytkcknoodcgmndaa
open Go.Conc Go.RowKit
open Go.ConcR (WgAt stA)
set_option linter.unusedVariables false
set_option linter.unusedSimpArgs false
set_option maxRecDepth 100000
set_option maxHeartbeats 4000000


theorem drawW (c : Cfg) (C : Nat) : LetsDraw (DW c C) := fun w => ⟨⟨rfl, rfl, rfl⟩, Nat.le_refl _, fun _ _ => rfl, fun b h hs => absurd (show Soft w b from hs).lt (Nat.not_lt.2 h), by simp⟩
theorem RW.at {c : Cfg} (K : c.Ok) {C : Nat} (w : World) : RW c C w { w with drawn := w.drawn + 1 } := ⟨⟨rfl, rfl, rfl⟩, Nat.le_refl _, fun _ _ _ _ _ => rfl, fun _ _ h => h, fun ⟨σ, h⟩ => ⟨σ, K.rep_same σ w _ h (fun _ _ => rfl)⟩, id⟩
theorem ev_eql_bool {P : Program} {t : TypeId} (h : P.underlying t = some .bool) (p q : Bool) (w : World) : Sem.events P (binOp .eql t (.bool p) (.bool q)) w #[] = #[] := by
  have key : Sem.events P (Op.equalIn (9999 + 1) t (.bool p) (.bool q)) w #[] = #[] := by
    unfold Op.equalIn
    simp [Sem.events_bind, run_underlying h, events_underlying, Sem.events_pure, Result.evThen]
  have key2 : ∃ b, Sem.run P (Op.equalIn (9999 + 1) t (.bool p) (.bool q)) w = .ok b w := by
    unfold Op.equalIn
    simp [Sem.run_bind, run_underlying h, Sem.run_pure]
  obtain ⟨b, hb⟩ := key2
  show Sem.events P (Op.equalIn (9999 + 1) t (.bool p) (.bool q) >>= fun b => pure (Value.bool b)) w #[] = #[]
  simp only [Sem.events_bind, hb, key, Sem.events_pure, Result.evThen_ok]
theorem and_pow2 (g k : Nat) : g &&& 2 ^ k = if g.testBit k then 2 ^ k else 0 := by
  apply Nat.eq_of_testBit_eq
  intro i
  rw [Nat.testBit_and, Nat.testBit_two_pow]
  by_cases e : k = i
  · subst e
    cases h : g.testBit k <;> simp
  · cases h : g.testBit k <;> simp [e, Nat.testBit_two_pow]
def tnN (N : Nat) : Nat := (N + 1) * 600 + 600
theorem turn33_V {s : SwP} {k C Mb cap N : Nat} {x : Int} {r : List Int} {F : World → Prop} (hFR : ∀ w w₁, RW (swCfg s) C w w₁ → F w → F w₁) (hFS : ∀ w w₁, OnlySB (swCfg s) w w₁ → F w → F w₁) (K : s.Ok) (hno : s.has = false → s.nn = 0)
    (hM : ∀ w, F w → s.has = true → w.heap[Mb]? = some (.cells #[.int .i64 s.nn, .slice (some ⟨s.Wb, 0, none⟩) s.σ0.ws.length cap] 74)) (hMo : s.has = true → RdOk s C Mb) (w : World) (hF : F w) :
    CallsV Try.prog (swCfg s) k C 33 #[mkV s Mb, .int .i64 x, .bool true] (tnN N) N (mkU s.nn (x :: r)) w (fun N' u' v w' => N' ≤ N ∧ F w' ∧ ∃ b, v = .bool b ∧ u' = ⟨x :: r, .done b⟩) := by
  have rl9 : ∀ {w w₁ : World}, F w → RW (swCfg s) C w w₁ → F w₁ := fun h r => hFR _ _ r h
  have T9 := termsW (swCfg s) C
  refine ⟨_, _, Try.func33, by kernel_rfl, rfl, ?_⟩
  by_cases hv : 0 ≤ x ∧ x < (s.nn : Int)
  rotate_left
  · have hd : decide (s.has = true ∧ 0 ≤ x ∧ x < (s.nn : Int)) = false := decide_eq_false fun h => hv h.2
    have hu : mkU s.nn (x :: r) = ⟨x :: r, .done false⟩ := by simp only [mkU, if_neg hv]
    rw [hu]
    co_apply codeV_more
    · simp only [Try.ntmps33]
      walk_nrm
      co_apply codeV_seq
      (co_apply codeV_region; simp only [List.size_toArray, List.length_cons, List.length_nil, Nat.reduceAdd, Nat.zero_add, List.range, List.range.loop])
      (co_apply opsV_cons_k rfl (by rfl); intro _ hR K hK; replace hF := rl9 hF hR; clear hR; go_simp; refine hK _ _ ⟨?_, ?_⟩; (· rw [listed_nil (by simp [go_sem, *])]; exact DW.refl _ _ _); clear hK K; try walk_nrm)
      co_apply opsV_nil
      simp only [ThenV]
      co_apply codeV_seq (n₂ := 0)
      co_apply codeV_seq
      (co_apply codeV_region; simp only [List.size_toArray, List.length_cons, List.length_nil, Nat.reduceAdd, Nat.zero_add, List.range, List.range.loop])
      (co_apply opsV_cons_k rfl (by rfl); intro _ hR K hK; replace hF := rl9 hF hR; clear hR; go_simp; refine hK _ _ ⟨?_, ?_⟩; (· rw [listed_nil (by simp [go_sem, *])]; exact DW.refl _ _ _); clear hK K; try walk_nrm)
      (co_apply opsV_cons_k rfl (by rfl); intro _ hR K hK; replace hF := rl9 hF hR; clear hR; go_simp; refine hK _ _ ⟨?_, ?_⟩; (· rw [listed_nil (by simp [go_sem, *])]; exact DW.refl _ _ _); clear hK K; try walk_nrm)
      co_apply opsV_call_silent rfl (by rfl) rfl
      · walk_nrm
        exact one44_C hFR hM hMo _ hF
      rintro v w' ⟨hF', rfl⟩
      rw [hd]
      clear hF
      have hF := hF'
      clear hF'
      walk_nrm
      (co_apply opsV_cons_k rfl (by rfl); intro _ hR K hK; replace hF := rl9 hF hR; clear hR; go_simp; refine hK _ _ ⟨?_, ?_⟩; (· rw [listed_nil (by simp [go_sem, *])]; exact DW.refl _ _ _); clear hK K; try walk_nrm)
      co_apply opsV_nil
      simp only [ThenV]
      co_apply codeV_cond (t := true)
      focus (exact rfl)
      simp only [if_true]
      co_apply codeV_seq
      (co_apply codeV_region; simp only [List.size_toArray, List.length_cons, List.length_nil, Nat.reduceAdd, Nat.zero_add, List.range, List.range.loop])
      (co_apply opsV_cons_k rfl (by rfl); intro _ hR K hK; replace hF := rl9 hF hR; clear hR; go_simp; refine hK _ _ ⟨?_, ?_⟩; (· rw [listed_nil (by simp [go_sem, *])]; exact DW.refl _ _ _); clear hK K; try walk_nrm)
      co_apply opsV_nil
      simp only [ThenV]
      refine codeV_of (wpC_ret T9 ?_)
      exact ⟨rfl, _, resultsC_tmp rfl _, Nat.le_refl _, hF, false, rfl, rfl⟩
    · unfold tnN; omega
  have hh : s.has = true := by
    cases h : s.has with
    | true => rfl
    | false => have := hno h; omega
  have hd : decide (s.has = true ∧ 0 ≤ x ∧ x < (s.nn : Int)) = true := decide_eq_true ⟨hh, hv⟩
  have hmk : mkV s Mb = .pointer (some ⟨Mb, 0, none⟩) := if_pos hh
  have hu : mkU s.nn (x :: r) = ⟨x :: r, .idle⟩ := by simp only [mkU, if_pos hv]
  rw [hu]
  have hC1 : ∀ w, F w → w.cell? ⟨Mb, 1, none⟩ = some (.slice (some ⟨s.Wb, 0, none⟩) s.σ0.ws.length cap) := fun w h => by simp [World.cell?, hM w h hh]
  obtain ⟨y, rfl⟩ := Int.eq_ofNat_of_zero_le hv.1
  have hyn : y < s.nn := by omega
  have hq : y / 64 < s.σ0.ws.length := by have := K.room; omega
  have HO : ∀ w, F w → CallsC Try.prog false (RW (swCfg s) C) (DW (swCfg s) C) 44 #[.pointer (some ⟨Mb, 0, none⟩), .int .i64 (y : Int)] 100 w (fun v w' => F w' ∧ v = .bool true) := fun w h => by
    have := one44_C (x := (y : Int)) hFR hM hMo w h
    rw [hmk, hd] at this
    exact this
  clear hd
  have d1 : Int.tdiv (y : Int) 64 = ((y / 64 : Nat) : Int) := by rw [Int.tdiv_eq_ediv_of_nonneg (by omega)]; omega
  have d2 : Int.tmod (y : Int) 64 = ((y % 64 : Nat) : Int) := by rw [Int.tmod_eq_emod_of_nonneg (by omega)]; omega
  have hy6 : y ≤ 65536 := by have := K.few2; omega
  have d3 : IntKind.i64.wrap ((y : Int) / 64) = (y : Int) / 64 := by rw [IntKind.wrap_i64]; omega
  have q0 : (0 : Int) ≤ (y : Int) / 64 := by omega
  have q1 : (y : Int) / 64 < (s.σ0.ws.length : Int) := by omega
  have qn : ((y : Int) / 64).toNat = y / 64 := by omega
  have evs : ∀ w, Sem.events Try.prog (Op.shift BinOp.shl IntKind.u64 1 IntKind.i64 ((y : Int) % 64)) w #[] = #[] := fun w => by
    unfold Op.shift
    have h9 : ¬ ((y : Int) % 64 < 0) := by omega
    simp [h9, Sem.events_pure]
  co_apply codeV_more
  · simp only [Try.ntmps33]
    walk_nrm
    co_apply codeV_seq
    (co_apply codeV_region; simp only [List.size_toArray, List.length_cons, List.length_nil, Nat.reduceAdd, Nat.zero_add, List.range, List.range.loop])
    (co_apply opsV_cons_k rfl (by rfl); intro _ hR K hK; replace hF := rl9 hF hR; clear hR; go_simp; refine hK _ _ ⟨?_, ?_⟩; (· rw [listed_nil (by simp [go_sem, *])]; exact DW.refl _ _ _); clear hK K; try walk_nrm)
    co_apply opsV_nil
    simp only [ThenV]
    co_apply codeV_seq
    co_apply codeV_seq
    (co_apply codeV_region; simp only [List.size_toArray, List.length_cons, List.length_nil, Nat.reduceAdd, Nat.zero_add, List.range, List.range.loop])
    (co_apply opsV_cons_k rfl (by rfl); intro _ hR K hK; replace hF := rl9 hF hR; clear hR; go_simp; refine hK _ _ ⟨?_, ?_⟩; (· rw [listed_nil (by simp [go_sem, *])]; exact DW.refl _ _ _); clear hK K; try walk_nrm)
    (co_apply opsV_cons_k rfl (by rfl); intro _ hR K hK; replace hF := rl9 hF hR; clear hR; go_simp; refine hK _ _ ⟨?_, ?_⟩; (· rw [listed_nil (by simp [go_sem, *])]; exact DW.refl _ _ _); clear hK K; try walk_nrm)
    co_apply opsV_call_silent rfl (by rfl) rfl
    · walk_nrm
      exact HO _ hF
    rintro v w' ⟨hF', rfl⟩
    clear hF
    have hF := hF'
    clear hF'
    walk_nrm
    (co_apply opsV_cons_k rfl (by rfl); intro _ hR K hK; replace hF := rl9 hF hR; clear hR; go_simp; refine hK _ _ ⟨?_, ?_⟩; (· rw [listed_nil (by simp [go_sem, *])]; exact DW.refl _ _ _); clear hK K; try walk_nrm)
    co_apply opsV_nil
    simp only [ThenV]
    co_apply codeV_cond (t := false)
    focus (exact rfl)
    simp only [Bool.false_eq_true, if_false]
    refine codeV_of (wpC_skip T9 ?_)
    simp only [ThenV]
    co_apply codeV_seq
    co_apply codeV_of
    co_held T9 (drawW _ _) (fun w => RW.at (swOk K) w) F (fun h r => hFR _ _ r h) hF
    co_applyP anyV_take (fun _ _ h r => hFR _ _ r h) (i := 0) rfl (by kernel_rfl) (by kernel_rfl) (by kernel_rfl) (.inl ⟨by rfl, fun _ hw => ⟨run_eq_of ?run0, ?guar0⟩⟩) hF ?rest0
    case run0 => (intro K hK; have m1 := hC1 _ hw; go_simp; exact hK)
    case guar0 => (have m1 := hC1 _ hw; (rw [listed_nil (by simp [go_sem, *])]; exact DW.refl _ _ _))
    try walk_nrm
    co_applyP anyV_take (fun _ _ h r => hFR _ _ r h) (i := 1) rfl (by kernel_rfl) (by kernel_rfl) (by kernel_rfl) (.inl ⟨by rfl, fun _ hw => ⟨run_eq_of ?run1, ?guar1⟩⟩) hF ?rest1
    case run1 => (intro K hK; have m1 := hC1 _ hw; go_simp; exact hK)
    case guar1 => (have m1 := hC1 _ hw; (rw [listed_nil (by simp [go_sem, *])]; exact DW.refl _ _ _))
    try walk_nrm
    co_applyP anyV_take (fun _ _ h r => hFR _ _ r h) (i := 2) rfl (by kernel_rfl) (by kernel_rfl) (by kernel_rfl) (.inl ⟨by rfl, fun _ hw => ⟨run_eq_of ?run2, ?guar2⟩⟩) hF ?rest2
    case run2 => (intro K hK; have m1 := hC1 _ hw; go_simp; exact hK)
    case guar2 => (have m1 := hC1 _ hw; (rw [listed_nil (by simp [go_sem, *])]; exact DW.refl _ _ _))
    try walk_nrm
    co_applyP anyV_take (fun _ _ h r => hFR _ _ r h) (i := 3) rfl (by kernel_rfl) (by kernel_rfl) (by kernel_rfl) (.inl ⟨by rfl, fun _ hw => ⟨run_eq_of ?run3, ?guar3⟩⟩) hF ?rest3
    case run3 => (intro K hK; have m1 := hC1 _ hw; go_simp; exact hK)
    case guar3 => (have m1 := hC1 _ hw; (refine dw_read (fun e he => ?_); have hm := mem_listed he; simp [go_sem, *] at hm; subst hm; exact evW_cell (hMo hh)))
    try walk_nrm
    co_applyP anyV_take (fun _ _ h r => hFR _ _ r h) (i := 4) rfl (by kernel_rfl) (by kernel_rfl) (by kernel_rfl) (.inl ⟨by rfl, fun _ hw => ⟨run_eq_of ?run4, ?guar4⟩⟩) hF ?rest4
    case run4 => (intro K hK; have m1 := hC1 _ hw; go_simp; exact hK)
    case guar4 => (have m1 := hC1 _ hw; (rw [listed_nil (by simp [go_sem, *])]; exact DW.refl _ _ _))
    try walk_nrm
    co_applyP anyV_take (fun _ _ h r => hFR _ _ r h) (i := 5) rfl (by kernel_rfl) (by kernel_rfl) (by kernel_rfl) (.inl ⟨by rfl, fun _ hw => ⟨run_eq_of ?run5, ?guar5⟩⟩) hF ?rest5
    case run5 => (intro K hK; have m1 := hC1 _ hw; go_simp; exact hK)
    case guar5 => (have m1 := hC1 _ hw; (rw [listed_nil (by simp [go_sem, *])]; exact DW.refl _ _ _))
    try walk_nrm
    co_applyP anyV_take (fun _ _ h r => hFR _ _ r h) (i := 6) rfl (by kernel_rfl) (by kernel_rfl) (by kernel_rfl) (.inl ⟨by rfl, fun _ hw => ⟨run_eq_of ?run6, ?guar6⟩⟩) hF ?rest6
    case run6 => (intro K hK; have m1 := hC1 _ hw; go_simp; exact hK)
    case guar6 => (have m1 := hC1 _ hw; (rw [listed_nil (by simp [go_sem, *])]; exact DW.refl _ _ _))
    try walk_nrm
    co_applyP anyV_take (fun _ _ h r => hFR _ _ r h) (i := 7) rfl (by kernel_rfl) (by kernel_rfl) (by kernel_rfl) (.inl ⟨by rfl, fun _ hw => ⟨run_eq_of ?run7, ?guar7⟩⟩) hF ?rest7
    case run7 => (intro K hK; have m1 := hC1 _ hw; go_simp; exact hK)
    case guar7 => (have m1 := hC1 _ hw; (rw [listed_nil (by simp [go_sem, *])]; exact DW.refl _ _ _))
    try walk_nrm
    co_applyP anyV_take (fun _ _ h r => hFR _ _ r h) (i := 8) rfl (by kernel_rfl) (by kernel_rfl) (by kernel_rfl) (.inl ⟨by rfl, fun _ hw => ⟨run_eq_of ?run8, ?guar8⟩⟩) hF ?rest8
    case run8 => (intro K hK; have m1 := hC1 _ hw; go_simp; exact hK)
    case guar8 => (have m1 := hC1 _ hw; (rw [listed_nil (by simp [go_sem, *])]; exact DW.refl _ _ _))
    try walk_nrm
    co_applyP anyV_take (fun _ _ h r => hFR _ _ r h) (i := 9) rfl (by kernel_rfl) (by kernel_rfl) (by kernel_rfl) (.inl ⟨by rfl, fun _ hw => ⟨run_eq_of ?run9, ?guar9⟩⟩) hF ?rest9
    case run9 => (intro K hK; have m1 := hC1 _ hw; go_simp; exact hK)
    case guar9 => (have m1 := hC1 _ hw; (rw [listed_nil (by simp [go_sem, *])]; exact DW.refl _ _ _))
    try walk_nrm
    co_applyP anyV_take (fun _ _ h r => hFR _ _ r h) (i := 10) rfl (by kernel_rfl) (by kernel_rfl) (by kernel_rfl) (.inl ⟨by rfl, fun _ hw => ⟨run_eq_of ?run10, ?guar10⟩⟩) hF ?rest10
    case run10 => (intro K hK; have m1 := hC1 _ hw; go_simp; exact hK)
    case guar10 => (have m1 := hC1 _ hw; (rw [listed_nil (by simp [go_sem, *])]; exact DW.refl _ _ _))
    try walk_nrm
    co_applyP anyV_take (fun _ _ h r => hFR _ _ r h) (i := 11) rfl (by kernel_rfl) (by kernel_rfl) (by kernel_rfl) (.inl ⟨by rfl, fun _ hw => ⟨run_eq_of ?run11, ?guar11⟩⟩) hF ?rest11
    case run11 => (intro K hK; have m1 := hC1 _ hw; go_simp; exact hK)
    case guar11 => (have m1 := hC1 _ hw; (rw [listed_nil (by simp [go_sem, *])]; exact DW.refl _ _ _))
    try walk_nrm
    refine anyCH_done (by kernel_rfl) ?_ _
    simp only [ThenV]
    have hbit : IntKind.u64.wrap (2 ^ min ((y : Int) % 64).toNat 64) = (2 : Int) ^ (y % 64) := by
      have h1 : min ((y : Int) % 64).toNat 64 = y % 64 := by omega
      rw [h1, IntKind.wrap_u64]
      have h2 : 2 ^ (y % 64) < 18446744073709551616 := Nat.pow_lt_pow_right (m := y % 64) (n := 64) (by decide) (by omega)
      have h3 : ((2 : Int) ^ (y % 64)) = ((2 ^ (y % 64) : Nat) : Int) := by norm_cast
      rw [h3]
      generalize 2 ^ (y % 64) = z at h2 ⊢
      omega
    rw [hbit]
    co_apply codeV_block
    co_apply codeV_loop (I := fun N' u' a' w' => N' ≤ N ∧ u' = (⟨(y : Int) :: r, .idle⟩ : SU) ∧ F w' ∧ ∃ v0 v1 v3 v4 v5 v6 v9 v10 v11 v12 v13 v14 v15 v16 v17 v18 v19 v20 v21 v22 v23 v24 v25 v26 v27 v28 v29 v30 v31 v32 v33 v34 v35 v36 v37 : Value, a' = ⟨#[v0, v1, .bool true, v3, v4, v5, v6, .pointer (some ⟨s.Wb, y / 64, none⟩), .int .u64 (2 ^ (y % 64)), v9, v10, v11, v12, v13, v14, v15, v16, v17, v18, v19, v20, v21, v22, v23, v24, v25, v26, v27, v28, v29, v30, v31, v32, v33, v34, v35, v36, v37], []⟩) (μ := fun N' _ _ _ => N') (r := 500) (M := N)
    · exact ⟨Nat.le_refl _, rfl, hF, _, _, _, _, _, _, _, _, _, _, _, _, _, _, _, _, _, _, _, _, _, _, _, _, _, _, _, _, _, _, _, _, _, _, _, rfl⟩
    · exact Nat.le_refl _
    · clear hbit d1 d2 d3 q0 q1 qn evs HO hC1 hF
      rintro N1 u1 a1 w1 ⟨hN1, rfl, hF, v0, v1, v3, v4, v5, v6, v9, v10, v11, v12, v13, v14, v15, v16, v17, v18, v19, v20, v21, v22, v23, v24, v25, v26, v27, v28, v29, v30, v31, v32, v33, v34, v35, v36, v37, rfl⟩
      have hbl : 2 ^ (y % 64) < 18446744073709551616 := Nat.pow_lt_pow_right (m := y % 64) (n := 64) (by decide) (by omega)
      co_apply codeV_more
      · co_apply codeV_block
        co_apply codeV_seq
        (co_apply codeV_region; simp only [List.size_toArray, List.length_cons, List.length_nil, Nat.reduceAdd, Nat.zero_add, List.range, List.range.loop])
        (co_apply opsV_cons_k rfl (by rfl); intro _ hR K hK; replace hF := rl9 hF hR; clear hR; go_simp; refine hK _ _ ⟨?_, ?_⟩; (· rw [listed_nil (by simp [go_sem, *])]; exact DW.refl _ _ _); clear hK K; try walk_nrm)
        co_apply opsV_call rfl (by rfl) rfl
        · walk_nrm
          exact load42_V (x := (y : Int)) (r := r) hFR hFS K hh _ hF
        rintro N2 u2 v w2 ⟨hlt, hF2, g, rfl, hg, hor⟩
        clear hF
        have hF := hF2
        clear hF2
        have hg' : g < 18446744073709551616 := hg
        have evb := fun (p q : Bool) (w : World) => ev_eql_bool (P := Try.prog) Try.underlying4 p q w
        have hpc : ((2 : Int) ^ (y % 64)) = ((2 ^ (y % 64) : Nat) : Int) := by norm_cast
        have ha : bits .and .u64 (g : Int) (2 ^ (y % 64)) = ((g &&& 2 ^ (y % 64) : Nat) : Int) := by rw [hpc]; exact u64_and_nat g _ hg' hbl
        have hx : bits .xor .u64 (g : Int) (2 ^ (y % 64)) = ((g ^^^ 2 ^ (y % 64) : Nat) : Int) := by rw [hpc]; exact u64_xor_nat g _ hg' hbl
        have hb : (bits .and .u64 (g : Int) (2 ^ (y % 64)) != 0) = g.testBit (y % 64) := by
          rw [ha, and_pow2]
          have hp2 := Nat.two_pow_pos (y % 64)
          cases g.testBit (y % 64)
          · simp
          · have h9 : ¬ ((2 : Int) ^ (y % 64) = 0) := by rw [hpc]; omega
            have h8 : ¬ (2 ^ (y % 64) = 0) := by omega
            simp [h9, h8]
        clear hpc ha
        walk_nrm
        (co_apply opsV_cons_k rfl (by rfl); intro _ hR K hK; replace hF := rl9 hF hR; clear hR; go_simp; refine hK _ _ ⟨?_, ?_⟩; (· rw [listed_nil (by simp [go_sem, *])]; exact DW.refl _ _ _); clear hK K; try walk_nrm)
        co_apply opsV_nil
        simp only [ThenV]
        co_apply codeV_seq
        co_apply codeV_seq
        (co_apply codeV_region; simp only [List.size_toArray, List.length_cons, List.length_nil, Nat.reduceAdd, Nat.zero_add, List.range, List.range.loop])
        (repeat (co_apply opsV_cons_k rfl (by rfl); intro _ hR K hK; replace hF := rl9 hF hR; clear hR; go_simp; refine hK _ _ ⟨?_, ?_⟩; (· rw [listed_nil (by simp [go_sem, *])]; exact DW.refl _ _ _); clear hK K; try walk_nrm))
        co_apply opsV_nil
        simp only [ThenV]
        rcases hor with ⟨hb1, rfl⟩ | ⟨hb1, rfl⟩
        · co_apply codeV_cond (t := true)
          focus (exact congrArg Value.bool hb1)
          (try simp only [if_true])
          co_apply codeV_seq
          (co_apply codeV_region; simp only [List.size_toArray, List.length_cons, List.length_nil, Nat.reduceAdd, Nat.zero_add, List.range, List.range.loop])
          (co_apply opsV_cons_k rfl (by rfl); intro _ hR K hK; replace hF := rl9 hF hR; clear hR; go_simp; refine hK _ _ ⟨?_, ?_⟩; (· rw [listed_nil (by simp [go_sem, *])]; exact DW.refl _ _ _); clear hK K; try walk_nrm)
          co_apply opsV_nil
          simp only [ThenV]
          refine codeV_of (wpC_ret T9 ?_)
          exact ⟨rfl, _, resultsC_tmp rfl _, by omega, hF, false, rfl, rfl⟩
        · co_apply codeV_cond (t := false)
          focus (exact congrArg Value.bool hb1)
          (try simp only [Bool.false_eq_true, if_false])
          refine codeV_more (codeV_of (wpC_skip T9 ?_)) (by omega)
          simp only [ThenV]
          co_apply codeV_seq
          (co_apply codeV_region; simp only [List.size_toArray, List.length_cons, List.length_nil, Nat.reduceAdd, Nat.zero_add, List.range, List.range.loop])
          (repeat (co_apply opsV_cons_k rfl (by rfl); intro _ hR K hK; replace hF := rl9 hF hR; clear hR; go_simp; refine hK _ _ ⟨?_, ?_⟩; (· rw [listed_nil (by simp [go_sem, *])]; exact DW.refl _ _ _); clear hK K; try walk_nrm))
          co_apply opsV_call rfl (by rfl) rfl
          · walk_nrm
            exact cas43_V (x := (y : Int)) (r := r) hFR hFS K hh _ hF
          rintro N3 u3 v w3 ⟨hlt3, hF3, hor3⟩
          clear hF
          have hF := hF3
          clear hF3
          walk_nrm
          co_apply opsV_nil
          simp only [ThenV]
          rcases hor3 with ⟨rfl, rfl⟩ | ⟨rfl, rfl⟩
          · co_apply codeV_cond (t := true)
            focus (exact rfl)
            (try simp only [if_true])
            co_apply codeV_seq
            (co_apply codeV_region; simp only [List.size_toArray, List.length_cons, List.length_nil, Nat.reduceAdd, Nat.zero_add, List.range, List.range.loop])
            (co_apply opsV_cons_k rfl (by rfl); intro _ hR K hK; replace hF := rl9 hF hR; clear hR; go_simp; refine hK _ _ ⟨?_, ?_⟩; (· rw [listed_nil (by simp [go_sem, *])]; exact DW.refl _ _ _); clear hK K; try walk_nrm)
            co_apply opsV_nil
            simp only [ThenV]
            refine codeV_of (wpC_ret T9 ?_)
            exact ⟨rfl, _, resultsC_tmp rfl _, by omega, hF, true, rfl, rfl⟩
          · co_apply codeV_cond (t := false)
            focus (exact rfl)
            (try simp only [Bool.false_eq_true, if_false])
            refine codeV_more (codeV_of (wpC_skip T9 ?_)) (by omega)
            simp only [ThenV, InBlockV, Exit.inBlock]
            exact ⟨⟨by omega, rfl, hF, _, _, _, _, _, _, _, _, _, _, _, _, _, _, _, _, _, _, _, _, _, _, _, _, _, _, _, _, _, _, _, _, _, _, _, rfl⟩, by omega⟩
      · omega
  · unfold tnN
    simp only [List.size_toArray, List.length_cons, List.length_nil]
    omega
end Go.Proofs.Ytkcknoodcgmndaa

end
section
/- A sweep's worker claims a number, and counts it. -/
namespace Go.Proofs.Ytkcknoodcgmndaa
open Go.Conc Go.RowKit
open Go.ConcR (WgAt stA)
set_option linter.unusedVariables false
set_option linter.unusedSimpArgs false
set_option maxRecDepth 100000
set_option maxHeartbeats 4000000





theorem claim14_V {s : SwP} {k C Mb cap N : Nat} {x : Int} {r : List Int} {F : World → Prop} (hFR : ∀ w w₁, RW (swCfg s) C w w₁ → F w → F w₁) (hFS : ∀ w w₁, OnlySB (swCfg s) w w₁ → F w → F w₁) (K : s.Ok) (hno : s.has = false → s.nn = 0)
    (hM : ∀ w, F w → s.has = true → w.heap[Mb]? = some (.cells #[.int .i64 s.nn, .slice (some ⟨s.Wb, 0, none⟩) s.σ0.ws.length cap] 74)) (hMo : s.has = true → RdOk s C Mb) (w : World) (hF : F w) :
    CallsV Try.prog (swCfg s) k C 14 #[mkV s Mb, .int .i64 x] (tnN N + 50) N (mkU s.nn (x :: r)) w (fun N' u' v w' => N' ≤ N ∧ F w' ∧ ∃ b, v = .bool b ∧ u' = ⟨x :: r, .done b⟩) := by
  have rl9 : ∀ {w w₁ : World}, F w → RW (swCfg s) C w w₁ → F w₁ := fun h r => hFR _ _ r h
  have T9 := termsW (swCfg s) C
  refine ⟨_, _, Try.func14, by kernel_rfl, rfl, ?_⟩
  co_apply codeV_more
  · simp only [Try.ntmps14]
    walk_nrm
    co_apply codeV_seq
    (co_apply codeV_region; simp only [List.size_toArray, List.length_cons, List.length_nil, Nat.reduceAdd, Nat.zero_add, List.range, List.range.loop])
    (co_apply opsV_cons_k rfl (by rfl); intro _ hR K hK; replace hF := rl9 hF hR; clear hR; go_simp; refine hK _ _ ⟨?_, ?_⟩; (· rw [listed_nil (by simp [go_sem, *])]; exact DW.refl _ _ _); clear hK K; try walk_nrm)
    co_apply opsV_nil
    simp only [ThenV]
    co_apply codeV_seq
    (co_apply codeV_region; simp only [List.size_toArray, List.length_cons, List.length_nil, Nat.reduceAdd, Nat.zero_add, List.range, List.range.loop])
    (co_apply opsV_cons_k rfl (by rfl); intro _ hR K hK; replace hF := rl9 hF hR; clear hR; go_simp; refine hK _ _ ⟨?_, ?_⟩; (· rw [listed_nil (by simp [go_sem, *])]; exact DW.refl _ _ _); clear hK K; try walk_nrm)
    (co_apply opsV_cons_k rfl (by rfl); intro _ hR K hK; replace hF := rl9 hF hR; clear hR; go_simp; refine hK _ _ ⟨?_, ?_⟩; (· rw [listed_nil (by simp [go_sem, *])]; exact DW.refl _ _ _); clear hK K; try walk_nrm)
    co_apply opsV_call rfl (by rfl) rfl
    · walk_nrm
      exact turn33_V hFR hFS K hno hM hMo _ hF
    rintro N2 u2 v w2 ⟨hN2, hF2, b, rfl, rfl⟩
    clear hF
    have hF := hF2
    clear hF2
    walk_nrm
    (co_apply opsV_cons_k rfl (by rfl); intro _ hR K hK; replace hF := rl9 hF hR; clear hR; go_simp; refine hK _ _ ⟨?_, ?_⟩; (· rw [listed_nil (by simp [go_sem, *])]; exact DW.refl _ _ _); clear hK K; try walk_nrm)
    co_apply opsV_nil
    simp only [ThenV]
    refine codeV_of (wpC_ret T9 ?_)
    exact ⟨rfl, _, resultsC_tmp rfl _, hN2, hF, b, rfl, rfl⟩
  · omega
theorem on30_C {s : SwP} {C : Nat} {b : Bool} {F : World → Prop} (hFR : ∀ w w₁, RW (swCfg s) C w w₁ → F w → F w₁) (w : World) (hF : F w) :
    CallsC Try.prog false (RW (swCfg s) C) (DW (swCfg s) C) 30 #[.pointer (some ⟨s.Bb, 0, none⟩), .int .i64 (if b then 0 else 1)] 100 w (fun v w' => F w' ∧ v = .bool true) := by
  have rl9 : ∀ {w w₁ : World}, F w → RW (swCfg s) C w w₁ → F w₁ := fun h r => hFR _ _ r h
  have T9 := termsW (swCfg s) C
  have ev9 := fun (p : Option Addr) (w : World) => ev_neq_nil (P := Try.prog) Try.underlying23 p w
  refine callsC_of_wpC Try.func30 (by kernel_rfl) rfl ?_
  cases b <;> simp only [Bool.false_eq_true, if_false, if_true] <;>
  · co_apply wpC_more
    · simp only [Try.ntmps30]
      walk_nrm
      co_apply wpC_seq T9
      (co_apply wpC_region T9; simp only [List.size_toArray, List.length_cons, List.length_nil, Nat.reduceAdd, Nat.zero_add, List.range, List.range.loop])
      (co_apply opsC_cons_k rfl (by rfl); intro _ hR K hK; replace hF := rl9 hF hR; clear hR; go_simp; refine hK _ _ ⟨?_, ?_⟩; (· rw [listed_nil (by simp [go_sem, *])]; exact DW.refl _ _ _); clear hK K; try walk_nrm)
      co_apply opsC_nil T9
      simp only [Exit.then]
      co_apply wpC_seq T9
      (co_apply wpC_region T9; simp only [List.size_toArray, List.length_cons, List.length_nil, Nat.reduceAdd, Nat.zero_add, List.range, List.range.loop])
      (repeat (first | (co_apply opsC_cons_k rfl (by rfl); intro _ hR K hK; replace hF := rl9 hF hR; clear hR; go_simp; refine hK _ _ ⟨?_, ?_⟩; (· rw [listed_nil (by simp [go_sem, *])]; exact DW.refl _ _ _); clear hK K; try walk_nrm) | (co_apply opsC_unwanted T9 rfl (by rfl); try walk_nrm)))
      co_apply opsC_nil T9
      simp only [Exit.then]
      refine wpC_ret T9 ?_
      exact ⟨rfl, _, resultsC_tmp rfl _, hF, rfl⟩
    · decide
theorem add9_V {s : SwP} {k C N : Nat} {x : Int} {r : List Int} {b : Bool} {F : World → Prop} (hFR : ∀ w w₁, RW (swCfg s) C w w₁ → F w → F w₁) (hFS : ∀ w w₁, OnlySB (swCfg s) w w₁ → F w → F w₁)
    (K : s.Ok) (w : World) (hF : F w) :
    CallsV Try.prog (swCfg s) k C 9 #[.pointer (some ⟨s.Bb, 0, none⟩), .int .i64 (if b then 0 else 1), .int .i64 1] 400 N (⟨x :: r, .done b⟩ : SU) w
      (fun N' u' v w' => N' < N ∧ F w' ∧ u' = mkU s.nn r ∧ ∃ z, v = .bool z) := by
  have rl9 : ∀ {w w₁ : World}, F w → RW (swCfg s) C w w₁ → F w₁ := fun h r => hFR _ _ r h
  have T9 := termsW (swCfg s) C
  refine ⟨_, _, Try.func9, by kernel_rfl, rfl, ?_⟩
  have evi0 := fun (w : World) => events_indexAt_array (P := Try.prog) (w := w) (es := #[]) 68 _ 16 ⟨s.Bb, 0, none⟩ .i64 0 Try.underlying68 (by decide)
  have evi1 := fun (w : World) => events_indexAt_array (P := Try.prog) (w := w) (es := #[]) 68 _ 16 ⟨s.Bb, 0, none⟩ .i64 1 Try.underlying68 (by decide)
  have HO := fun w h => on30_C (b := b) (s := s) (C := C) hFR w h
  have HA := fun w h N => add31_V (k := k) (N := N) (x := x) (r := r) (b := b) (s := s) (C := C) hFR hFS K w h
  cases b <;> simp only [Bool.false_eq_true, if_false, if_true] at HO HA ⊢ <;>
  · co_apply codeV_more
    · simp only [Try.ntmps9]
      walk_nrm
      co_apply codeV_seq
      (co_apply codeV_region; simp only [List.size_toArray, List.length_cons, List.length_nil, Nat.reduceAdd, Nat.zero_add, List.range, List.range.loop])
      (co_apply opsV_cons_k rfl (by rfl); intro _ hR K hK; replace hF := rl9 hF hR; clear hR; go_simp; refine hK _ _ ⟨?_, ?_⟩; (· rw [listed_nil (by simp [go_sem, *])]; exact DW.refl _ _ _); clear hK K; try walk_nrm)
      co_apply opsV_nil
      simp only [ThenV]
      co_apply codeV_seq
      co_apply codeV_seq
      (co_apply codeV_region; simp only [List.size_toArray, List.length_cons, List.length_nil, Nat.reduceAdd, Nat.zero_add, List.range, List.range.loop])
      (co_apply opsV_cons_k rfl (by rfl); intro _ hR K hK; replace hF := rl9 hF hR; clear hR; go_simp; refine hK _ _ ⟨?_, ?_⟩; (· rw [listed_nil (by simp [go_sem, *])]; exact DW.refl _ _ _); clear hK K; try walk_nrm)
      (co_apply opsV_cons_k rfl (by rfl); intro _ hR K hK; replace hF := rl9 hF hR; clear hR; go_simp; refine hK _ _ ⟨?_, ?_⟩; (· rw [listed_nil (by simp [go_sem, *])]; exact DW.refl _ _ _); clear hK K; try walk_nrm)
      co_apply opsV_call_silent rfl (by rfl) rfl
      · walk_nrm
        exact HO _ hF
      rintro v w' ⟨hF', rfl⟩
      clear hF
      have hF := hF'
      clear hF'
      walk_nrm
      (co_apply opsV_cons_k rfl (by rfl); intro _ hR K hK; replace hF := rl9 hF hR; clear hR; go_simp; refine hK _ _ ⟨?_, ?_⟩; (· rw [listed_nil (by simp [go_sem, *])]; exact DW.refl _ _ _); clear hK K; try walk_nrm)
      co_apply opsV_nil
      simp only [ThenV]
      co_apply codeV_cond (t := false)
      focus (exact rfl)
      (try simp only [Bool.false_eq_true, if_false])
      refine codeV_of (wpC_skip T9 ?_)
      simp only [ThenV]
      co_apply codeV_seq
      (co_apply codeV_region; simp only [List.size_toArray, List.length_cons, List.length_nil, Nat.reduceAdd, Nat.zero_add, List.range, List.range.loop])
      (repeat (co_apply opsV_cons_k rfl (by rfl); intro _ hR K hK; replace hF := rl9 hF hR; clear hR; go_simp; refine hK _ _ ⟨?_, ?_⟩; (· rw [listed_nil (by simp [go_sem, *])]; exact DW.refl _ _ _); clear hK K; try walk_nrm))
      co_apply opsV_call rfl (by rfl) rfl
      · walk_nrm
        exact HA _ hF _
      rintro N2 u2 v w2 ⟨hN2, hF2, rfl, z, rfl⟩
      clear hF
      have hF := hF2
      clear hF2
      walk_nrm
      co_apply opsV_nil
      simp only [ThenV]
      co_apply codeV_seq
      (co_apply codeV_region; simp only [List.size_toArray, List.length_cons, List.length_nil, Nat.reduceAdd, Nat.zero_add, List.range, List.range.loop])
      (co_apply opsV_cons_k rfl (by rfl); intro _ hR K hK; replace hF := rl9 hF hR; clear hR; go_simp; refine hK _ _ ⟨?_, ?_⟩; (· rw [listed_nil (by simp [go_sem, *])]; exact DW.refl _ _ _); clear hK K; try walk_nrm)
      co_apply opsV_nil
      simp only [ThenV]
      refine codeV_of (wpC_ret T9 ?_)
      exact ⟨rfl, _, resultsC_tmp rfl _, hN2, hF, rfl, _, rfl⟩
    · decide
end Go.Proofs.Ytkcknoodcgmndaa

end
