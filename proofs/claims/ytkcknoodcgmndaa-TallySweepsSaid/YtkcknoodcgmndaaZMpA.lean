import Derived.Laws.Bits128
import Derived.Test.YtkcknoodcgmndaaZOcB
import Derived.Test.YtkcknoodcgmndaaZTcD
import Derived.Test.YtkcknoodcgmndaaZSwF
import Derived.Test.YtkcknoodcgmndaaZTcE
import Derived.Test.YtkcknoodcgmndaaZTbA
import Derived.Test.YtkcknoodcgmndaaZRfD
import Derived.Test.YtkcknoodcgmndaaZSwB
section
/- tally's marks: one, turn, Claim, Free, Has, by one goroutine. -/
namespace Go.Proofs.Ytkcknoodcgmndaa
open Go.Conc Go.RowKit
set_option linter.unusedVariables false
set_option linter.unusedSimpArgs false
set_option maxRecDepth 100000
set_option maxHeartbeats 4000000














section
variable {Shun : Loc → Prop}
theorem one44_W (Mb : Nat) (n x : Int) (w : World) (hc : w.cell? ⟨Mb, 0, none⟩ = some (.int .i64 n)) (hS : ∀ o, ¬ Shun (.cell ⟨Mb, o, none⟩)) : CW Shun 44 #[.pointer (some ⟨Mb, 0, none⟩), .int .i64 x] w (fun r w' => r = .bool (decide (0 ≤ x ∧ x < n)) ∧ AtRel w w') := by
  have T9 := termsP Shun
  have ev9 := fun (p : Option Addr) (w : World) => ev_neq_nil (P := Try.prog) Try.underlying35 p w
  refine callsW_enter Try.func44 (by kernel_rfl) rfl ?_
  simp only [Try.ntmps44]
  walk_nrm
  have hF := atRel_refl w
  by_cases h0 : 0 ≤ x
  · have e0 : decide (0 ≤ x) = true := decide_eq_true h0
    by_cases hn : x < n
    · have e1 : decide (x < n) = true := decide_eq_true hn
      rw [show decide (0 ≤ x ∧ x < n) = true from decide_eq_true ⟨h0, hn⟩]
      (repeat (first | (refine codeW_seq T9 ?_) | (refine codeW_region T9 ?_; simp only [List.size_toArray, List.length_cons, List.length_nil, Nat.reduceAdd, Nat.zero_add, List.range, List.range.loop]) | (refine opsW_nil T9 ?_; simp only [Exit.then, Exit.inBlock]) | (refine codeW_skip T9 ?_; simp only [Exit.then]) | ((first | refine codeW_cond T9 (t := true) rfl ?_ | refine codeW_cond T9 (t := false) rfl ?_); simp only [if_true, if_false, Bool.false_eq_true, ↓reduceIte]) | (refine opsW_unwanted T9 rfl (by rfl) ?_; try walk_nrm) | (refine opsW_cons rfl (by rfl) ?_; intro _ hR K hK; replace hF := atRel_trans _ _ _ hF hR; clear hR; have hs9 := atRel_size hF; go_simp; refine hK _ _ ⟨?_, ?_⟩; (· rw [listed_nil (by simp [go_sem, *])]; exact dp0_nil); clear hK K hs9; try walk_nrm) | (refine codeW_block T9 ?_)))
      have hc1 := hc
      (refine opsW_cons rfl (by rfl) ?_; intro _ hR K hK; replace hF := atRel_trans _ _ _ hF hR; clear hR; have hl9 := (atRel_cell hF _).trans hc1; go_simp; refine hK _ _ ⟨?_, ?_⟩; (· intro e he; have hm := mem_listed he; simp [go_sem, hl9] at hm; rw [hm]; exact evP_cell _ (hS _)); clear hK K hl9; try walk_nrm)
      (repeat (first | (refine codeW_seq T9 ?_) | (refine codeW_region T9 ?_; simp only [List.size_toArray, List.length_cons, List.length_nil, Nat.reduceAdd, Nat.zero_add, List.range, List.range.loop]) | (refine opsW_nil T9 ?_; simp only [Exit.then, Exit.inBlock]) | (refine codeW_skip T9 ?_; simp only [Exit.then]) | ((first | refine codeW_cond T9 (t := true) rfl ?_ | refine codeW_cond T9 (t := false) rfl ?_); simp only [if_true, if_false, Bool.false_eq_true, ↓reduceIte]) | (refine opsW_unwanted T9 rfl (by rfl) ?_; try walk_nrm) | (refine opsW_cons rfl (by rfl) ?_; intro _ hR K hK; replace hF := atRel_trans _ _ _ hF hR; clear hR; have hs9 := atRel_size hF; go_simp; refine hK _ _ ⟨?_, ?_⟩; (· rw [listed_nil (by simp [go_sem, *])]; exact dp0_nil); clear hK K hs9; try walk_nrm) | (refine codeW_block T9 ?_)))
      (refine codeW_ret T9 ?_)
      exact ⟨rfl, _, resultsC_tmp rfl _, rfl, hF⟩
    · have e1 : decide (x < n) = false := decide_eq_false hn
      rw [show decide (0 ≤ x ∧ x < n) = false from decide_eq_false fun h => hn h.2]
      (repeat (first | (refine codeW_seq T9 ?_) | (refine codeW_region T9 ?_; simp only [List.size_toArray, List.length_cons, List.length_nil, Nat.reduceAdd, Nat.zero_add, List.range, List.range.loop]) | (refine opsW_nil T9 ?_; simp only [Exit.then, Exit.inBlock]) | (refine codeW_skip T9 ?_; simp only [Exit.then]) | ((first | refine codeW_cond T9 (t := true) rfl ?_ | refine codeW_cond T9 (t := false) rfl ?_); simp only [if_true, if_false, Bool.false_eq_true, ↓reduceIte]) | (refine opsW_unwanted T9 rfl (by rfl) ?_; try walk_nrm) | (refine opsW_cons rfl (by rfl) ?_; intro _ hR K hK; replace hF := atRel_trans _ _ _ hF hR; clear hR; have hs9 := atRel_size hF; go_simp; refine hK _ _ ⟨?_, ?_⟩; (· rw [listed_nil (by simp [go_sem, *])]; exact dp0_nil); clear hK K hs9; try walk_nrm) | (refine codeW_block T9 ?_)))
      have hc1 := hc
      (refine opsW_cons rfl (by rfl) ?_; intro _ hR K hK; replace hF := atRel_trans _ _ _ hF hR; clear hR; have hl9 := (atRel_cell hF _).trans hc1; go_simp; refine hK _ _ ⟨?_, ?_⟩; (· intro e he; have hm := mem_listed he; simp [go_sem, hl9] at hm; rw [hm]; exact evP_cell _ (hS _)); clear hK K hl9; try walk_nrm)
      (repeat (first | (refine codeW_seq T9 ?_) | (refine codeW_region T9 ?_; simp only [List.size_toArray, List.length_cons, List.length_nil, Nat.reduceAdd, Nat.zero_add, List.range, List.range.loop]) | (refine opsW_nil T9 ?_; simp only [Exit.then, Exit.inBlock]) | (refine codeW_skip T9 ?_; simp only [Exit.then]) | ((first | refine codeW_cond T9 (t := true) rfl ?_ | refine codeW_cond T9 (t := false) rfl ?_); simp only [if_true, if_false, Bool.false_eq_true, ↓reduceIte]) | (refine opsW_unwanted T9 rfl (by rfl) ?_; try walk_nrm) | (refine opsW_cons rfl (by rfl) ?_; intro _ hR K hK; replace hF := atRel_trans _ _ _ hF hR; clear hR; have hs9 := atRel_size hF; go_simp; refine hK _ _ ⟨?_, ?_⟩; (· rw [listed_nil (by simp [go_sem, *])]; exact dp0_nil); clear hK K hs9; try walk_nrm) | (refine codeW_block T9 ?_)))
      (refine codeW_ret T9 ?_)
      exact ⟨rfl, _, resultsC_tmp rfl _, rfl, hF⟩
  · have e0 : decide (0 ≤ x) = false := decide_eq_false h0
    rw [show decide (0 ≤ x ∧ x < n) = false from decide_eq_false fun h => h0 h.1]
    (repeat (first | (refine codeW_seq T9 ?_) | (refine codeW_region T9 ?_; simp only [List.size_toArray, List.length_cons, List.length_nil, Nat.reduceAdd, Nat.zero_add, List.range, List.range.loop]) | (refine opsW_nil T9 ?_; simp only [Exit.then, Exit.inBlock]) | (refine codeW_skip T9 ?_; simp only [Exit.then]) | ((first | refine codeW_cond T9 (t := true) rfl ?_ | refine codeW_cond T9 (t := false) rfl ?_); simp only [if_true, if_false, Bool.false_eq_true, ↓reduceIte]) | (refine opsW_unwanted T9 rfl (by rfl) ?_; try walk_nrm) | (refine opsW_cons rfl (by rfl) ?_; intro _ hR K hK; replace hF := atRel_trans _ _ _ hF hR; clear hR; have hs9 := atRel_size hF; go_simp; refine hK _ _ ⟨?_, ?_⟩; (· rw [listed_nil (by simp [go_sem, *])]; exact dp0_nil); clear hK K hs9; try walk_nrm) | (refine codeW_block T9 ?_)))
    (refine codeW_ret T9 ?_)
    exact ⟨rfl, _, resultsC_tmp rfl _, rfl, hF⟩
theorem turnOff_W (Mb : Nat) (n x : Int) (on : Bool) (w : World) (hc : w.cell? ⟨Mb, 0, none⟩ = some (.int .i64 n)) (hS : ∀ o, ¬ Shun (.cell ⟨Mb, o, none⟩)) (hx : ¬ (0 ≤ x ∧ x < n)) : CW Shun 33 #[.pointer (some ⟨Mb, 0, none⟩), .int .i64 x, .bool on] w (fun r w' => r = .bool false ∧ AtRel w w') := by
  have T9 := termsP Shun
  refine callsW_enter Try.func33 (by kernel_rfl) rfl ?_
  simp only [Try.ntmps33]
  walk_nrm
  have hF := atRel_refl w
  (repeat (first | (refine codeW_seq T9 ?_) | (refine codeW_region T9 ?_; simp only [List.size_toArray, List.length_cons, List.length_nil, Nat.reduceAdd, Nat.zero_add, List.range, List.range.loop]) | (refine opsW_nil T9 ?_; simp only [Exit.then, Exit.inBlock]) | (refine codeW_skip T9 ?_; simp only [Exit.then]) | ((first | refine codeW_cond T9 (t := true) rfl ?_ | refine codeW_cond T9 (t := false) rfl ?_); simp only [if_true, if_false, Bool.false_eq_true, ↓reduceIte]) | (refine opsW_unwanted T9 rfl (by rfl) ?_; try walk_nrm) | (refine opsW_cons rfl (by rfl) ?_; intro _ hR K hK; replace hF := atRel_trans _ _ _ hF hR; clear hR; have hs9 := atRel_size hF; go_simp; refine hK _ _ ⟨?_, ?_⟩; (· rw [listed_nil (by simp [go_sem, *])]; exact dp0_nil); clear hK K hs9; try walk_nrm) | (refine codeW_block T9 ?_)))
  co_apply opsW_call T9 rfl (by rfl) rfl
  · walk_nrm
    exact one44_W Mb n x _ ((atRel_cell hF _).trans hc) hS
  rw [show decide (0 ≤ x ∧ x < n) = false from decide_eq_false hx]
  rintro _ w' ⟨rfl, hF'⟩
  replace hF := atRel_trans _ _ _ hF hF'
  clear hF'
  walk_nrm
  (repeat (first | (refine codeW_seq T9 ?_) | (refine codeW_region T9 ?_; simp only [List.size_toArray, List.length_cons, List.length_nil, Nat.reduceAdd, Nat.zero_add, List.range, List.range.loop]) | (refine opsW_nil T9 ?_; simp only [Exit.then, Exit.inBlock]) | (refine codeW_skip T9 ?_; simp only [Exit.then]) | ((first | refine codeW_cond T9 (t := true) rfl ?_ | refine codeW_cond T9 (t := false) rfl ?_); simp only [if_true, if_false, Bool.false_eq_true, ↓reduceIte]) | (refine opsW_unwanted T9 rfl (by rfl) ?_; try walk_nrm) | (refine opsW_cons rfl (by rfl) ?_; intro _ hR K hK; replace hF := atRel_trans _ _ _ hF hR; clear hR; have hs9 := atRel_size hF; go_simp; refine hK _ _ ⟨?_, ?_⟩; (· rw [listed_nil (by simp [go_sem, *])]; exact dp0_nil); clear hK K hs9; try walk_nrm) | (refine codeW_block T9 ?_)))
  (refine codeW_ret T9 ?_)
  exact ⟨rfl, _, resultsC_tmp rfl _, rfl, hF⟩
theorem turnOn_W (Mb Wb n y g len cap : Nat) (on : Bool) (w : World) (hc0 : w.cell? ⟨Mb, 0, none⟩ = some (.int .i64 n)) (hc : w.cell? ⟨Mb, 1, none⟩ = some (.slice (some ⟨Wb, 0, none⟩) len cap)) (hS : ∀ o, ¬ Shun (.cell ⟨Mb, o, none⟩)) (hy : y < n) (hn : n ≤ 65536) (hq : y / 64 < len)
    (hg : w.cell? ⟨Wb, y / 64, none⟩ = some (.int .u64 g)) (hz : w.frozen? ⟨Wb, y / 64, none⟩ = false) (hg' : g < 18446744073709551616) :
    CW Shun 33 #[.pointer (some ⟨Mb, 0, none⟩), .int .i64 (y : Int), .bool on] w (fun r w' => (g.testBit (y % 64) = on ∧ r = .bool false ∧ AtRel w w') ∨ (g.testBit (y % 64) ≠ on ∧ r = .bool true ∧ AtRel (w.setCell ⟨Wb, y / 64, none⟩ (.int .u64 ((g ^^^ 2 ^ (y % 64) : Nat) : Int))) w')) := by
  have T9 := termsP Shun
  refine callsW_enter Try.func33 (by kernel_rfl) rfl ?_
  simp only [Try.ntmps33]
  walk_nrm
  have hF := atRel_refl w
  have d1 : Int.tdiv (y : Int) 64 = ((y / 64 : Nat) : Int) := by rw [Int.tdiv_eq_ediv_of_nonneg (by omega)]; omega
  have d2 : Int.tmod (y : Int) 64 = ((y % 64 : Nat) : Int) := by rw [Int.tmod_eq_emod_of_nonneg (by omega)]; omega
  have d3 : IntKind.i64.wrap ((y : Int) / 64) = (y : Int) / 64 := by rw [IntKind.wrap_i64]; omega
  have q0 : (0 : Int) ≤ (y : Int) / 64 := by omega
  have q1 : (y : Int) / 64 < (len : Int) := by omega
  have qn : ((y : Int) / 64).toNat = y / 64 := by omega
  have evs : ∀ w, Sem.events Try.prog (Op.shift BinOp.shl IntKind.u64 1 IntKind.i64 ((y : Int) % 64)) w #[] = #[] := fun w => by
    unfold Op.shift
    have h9 : ¬ ((y : Int) % 64 < 0) := by omega
    simp [h9, Sem.events_pure]
  have hbit : IntKind.u64.wrap (2 ^ min ((y : Int) % 64).toNat 64) = (2 : Int) ^ (y % 64) := by
    have h1 : min ((y : Int) % 64).toNat 64 = y % 64 := by omega
    rw [h1, IntKind.wrap_u64]
    have h2 : 2 ^ (y % 64) < 18446744073709551616 := Nat.pow_lt_pow_right (m := y % 64) (n := 64) (by decide) (by omega)
    have h3 : ((2 : Int) ^ (y % 64)) = ((2 ^ (y % 64) : Nat) : Int) := by norm_cast
    rw [h3]
    generalize 2 ^ (y % 64) = z at h2 ⊢
    omega
  (refine codeW_seq T9 ?_)
  (refine codeW_region T9 ?_; simp only [List.size_toArray, List.length_cons, List.length_nil, Nat.reduceAdd, Nat.zero_add, List.range, List.range.loop])
  (refine opsW_cons rfl (by rfl) ?_; intro _ hR K hK; replace hF := atRel_trans _ _ _ hF hR; clear hR; have hs9 := atRel_size hF; go_simp; refine hK _ _ ⟨?_, ?_⟩; (· rw [listed_nil (by simp [go_sem, *])]; exact dp0_nil); clear hK K hs9; try walk_nrm)
  (refine opsW_nil T9 ?_; simp only [Exit.then, Exit.inBlock])
  (refine codeW_seq T9 ?_)
  (refine codeW_seq T9 ?_)
  (refine codeW_region T9 ?_; simp only [List.size_toArray, List.length_cons, List.length_nil, Nat.reduceAdd, Nat.zero_add, List.range, List.range.loop])
  (refine opsW_cons rfl (by rfl) ?_; intro _ hR K hK; replace hF := atRel_trans _ _ _ hF hR; clear hR; have hs9 := atRel_size hF; go_simp; refine hK _ _ ⟨?_, ?_⟩; (· rw [listed_nil (by simp [go_sem, *])]; exact dp0_nil); clear hK K hs9; try walk_nrm)
  (refine opsW_cons rfl (by rfl) ?_; intro _ hR K hK; replace hF := atRel_trans _ _ _ hF hR; clear hR; have hs9 := atRel_size hF; go_simp; refine hK _ _ ⟨?_, ?_⟩; (· rw [listed_nil (by simp [go_sem, *])]; exact dp0_nil); clear hK K hs9; try walk_nrm)
  co_apply opsW_call T9 rfl (by rfl) rfl
  · walk_nrm
    exact one44_W Mb n y _ ((atRel_cell hF _).trans hc0) hS
  rw [show decide (0 ≤ (y : Int) ∧ (y : Int) < (n : Int)) = true from decide_eq_true ⟨by omega, by omega⟩]
  rintro _ w' ⟨rfl, hF'⟩
  replace hF := atRel_trans _ _ _ hF hF'
  clear hF'
  walk_nrm
  (refine opsW_cons rfl (by rfl) ?_; intro _ hR K hK; replace hF := atRel_trans _ _ _ hF hR; clear hR; have hs9 := atRel_size hF; go_simp; refine hK _ _ ⟨?_, ?_⟩; (· rw [listed_nil (by simp [go_sem, *])]; exact dp0_nil); clear hK K hs9; try walk_nrm)
  (refine opsW_nil T9 ?_; simp only [Exit.then, Exit.inBlock])
  ((first | refine codeW_cond T9 (t := true) rfl ?_ | refine codeW_cond T9 (t := false) rfl ?_); simp only [if_true, if_false, Bool.false_eq_true, ↓reduceIte])
  (refine codeW_skip T9 ?_; simp only [Exit.then])
  (refine codeW_seq T9 ?_)
  · have hc1 := hc
    refine codeW_of T9 atRel_refl (wpC_region_held (S := fun W => AtRel w W) T9 (letsDraw_P _) (by rfl) (fun w₁ h₁ => ?_))
    replace hF : AtRel w { w₁ with drawn := w₁.drawn + 1 } := atRel_draw (n := w₁.drawn + 1) (atRel_trans _ _ _ hF h₁)
    clear h₁
    generalize { w₁ with drawn := w₁.drawn + 1 } = w4 at hF ⊢
    simp only [List.size_toArray, List.length_cons, List.length_nil, Nat.reduceAdd, Nat.zero_add]
    co_applyP anyCH_take T9 (fun _ _ h r => atRel_trans _ _ _ h r) (fun _ _ _ h r => codeW_rely T9 h r) (i := 0) rfl (by kernel_rfl) (by kernel_rfl) (by kernel_rfl) (.inl ⟨by rfl, fun W hW => ⟨run_eq_of ?run0, ?guar0⟩⟩) hF ?rest0
    case run0 => (intro K hK; have m1 := (atRel_cell hW _).trans hc1; go_simp; exact hK)
    case guar0 => (have m1 := (atRel_cell hW _).trans hc1; (rw [listed_nil (by simp [go_sem, *])]; exact dp0_nil))
    try walk_nrm
    co_applyP anyCH_take T9 (fun _ _ h r => atRel_trans _ _ _ h r) (fun _ _ _ h r => codeW_rely T9 h r) (i := 1) rfl (by kernel_rfl) (by kernel_rfl) (by kernel_rfl) (.inl ⟨by rfl, fun W hW => ⟨run_eq_of ?run1, ?guar1⟩⟩) hF ?rest1
    case run1 => (intro K hK; have m1 := (atRel_cell hW _).trans hc1; go_simp; exact hK)
    case guar1 => (have m1 := (atRel_cell hW _).trans hc1; (rw [listed_nil (by simp [go_sem, *])]; exact dp0_nil))
    try walk_nrm
    co_applyP anyCH_take T9 (fun _ _ h r => atRel_trans _ _ _ h r) (fun _ _ _ h r => codeW_rely T9 h r) (i := 2) rfl (by kernel_rfl) (by kernel_rfl) (by kernel_rfl) (.inl ⟨by rfl, fun W hW => ⟨run_eq_of ?run2, ?guar2⟩⟩) hF ?rest2
    case run2 => (intro K hK; have m1 := (atRel_cell hW _).trans hc1; go_simp; exact hK)
    case guar2 => (have m1 := (atRel_cell hW _).trans hc1; (rw [listed_nil (by simp [go_sem, *])]; exact dp0_nil))
    try walk_nrm
    co_applyP anyCH_take T9 (fun _ _ h r => atRel_trans _ _ _ h r) (fun _ _ _ h r => codeW_rely T9 h r) (i := 3) rfl (by kernel_rfl) (by kernel_rfl) (by kernel_rfl) (.inl ⟨by rfl, fun W hW => ⟨run_eq_of ?run3, ?guar3⟩⟩) hF ?rest3
    case run3 => (intro K hK; have m1 := (atRel_cell hW _).trans hc1; go_simp; exact hK)
    case guar3 => (have m1 := (atRel_cell hW _).trans hc1; (intro e he; have hm := mem_listed he; simp [go_sem, m1] at hm; rw [hm]; exact evP_cell _ (hS _)))
    try walk_nrm
    co_applyP anyCH_take T9 (fun _ _ h r => atRel_trans _ _ _ h r) (fun _ _ _ h r => codeW_rely T9 h r) (i := 4) rfl (by kernel_rfl) (by kernel_rfl) (by kernel_rfl) (.inl ⟨by rfl, fun W hW => ⟨run_eq_of ?run4, ?guar4⟩⟩) hF ?rest4
    case run4 => (intro K hK; have m1 := (atRel_cell hW _).trans hc1; go_simp; exact hK)
    case guar4 => (have m1 := (atRel_cell hW _).trans hc1; (rw [listed_nil (by simp [go_sem, *])]; exact dp0_nil))
    try walk_nrm
    co_applyP anyCH_take T9 (fun _ _ h r => atRel_trans _ _ _ h r) (fun _ _ _ h r => codeW_rely T9 h r) (i := 5) rfl (by kernel_rfl) (by kernel_rfl) (by kernel_rfl) (.inl ⟨by rfl, fun W hW => ⟨run_eq_of ?run5, ?guar5⟩⟩) hF ?rest5
    case run5 => (intro K hK; have m1 := (atRel_cell hW _).trans hc1; go_simp; exact hK)
    case guar5 => (have m1 := (atRel_cell hW _).trans hc1; (rw [listed_nil (by simp [go_sem, *])]; exact dp0_nil))
    try walk_nrm
    co_applyP anyCH_take T9 (fun _ _ h r => atRel_trans _ _ _ h r) (fun _ _ _ h r => codeW_rely T9 h r) (i := 6) rfl (by kernel_rfl) (by kernel_rfl) (by kernel_rfl) (.inl ⟨by rfl, fun W hW => ⟨run_eq_of ?run6, ?guar6⟩⟩) hF ?rest6
    case run6 => (intro K hK; have m1 := (atRel_cell hW _).trans hc1; go_simp; exact hK)
    case guar6 => (have m1 := (atRel_cell hW _).trans hc1; (rw [listed_nil (by simp [go_sem, *])]; exact dp0_nil))
    try walk_nrm
    co_applyP anyCH_take T9 (fun _ _ h r => atRel_trans _ _ _ h r) (fun _ _ _ h r => codeW_rely T9 h r) (i := 7) rfl (by kernel_rfl) (by kernel_rfl) (by kernel_rfl) (.inl ⟨by rfl, fun W hW => ⟨run_eq_of ?run7, ?guar7⟩⟩) hF ?rest7
    case run7 => (intro K hK; have m1 := (atRel_cell hW _).trans hc1; go_simp; exact hK)
    case guar7 => (have m1 := (atRel_cell hW _).trans hc1; (rw [listed_nil (by simp [go_sem, *])]; exact dp0_nil))
    try walk_nrm
    co_applyP anyCH_take T9 (fun _ _ h r => atRel_trans _ _ _ h r) (fun _ _ _ h r => codeW_rely T9 h r) (i := 8) rfl (by kernel_rfl) (by kernel_rfl) (by kernel_rfl) (.inl ⟨by rfl, fun W hW => ⟨run_eq_of ?run8, ?guar8⟩⟩) hF ?rest8
    case run8 => (intro K hK; have m1 := (atRel_cell hW _).trans hc1; go_simp; exact hK)
    case guar8 => (have m1 := (atRel_cell hW _).trans hc1; (rw [listed_nil (by simp [go_sem, *])]; exact dp0_nil))
    try walk_nrm
    co_applyP anyCH_take T9 (fun _ _ h r => atRel_trans _ _ _ h r) (fun _ _ _ h r => codeW_rely T9 h r) (i := 9) rfl (by kernel_rfl) (by kernel_rfl) (by kernel_rfl) (.inl ⟨by rfl, fun W hW => ⟨run_eq_of ?run9, ?guar9⟩⟩) hF ?rest9
    case run9 => (intro K hK; have m1 := (atRel_cell hW _).trans hc1; go_simp; exact hK)
    case guar9 => (have m1 := (atRel_cell hW _).trans hc1; (rw [listed_nil (by simp [go_sem, *])]; exact dp0_nil))
    try walk_nrm
    co_applyP anyCH_take T9 (fun _ _ h r => atRel_trans _ _ _ h r) (fun _ _ _ h r => codeW_rely T9 h r) (i := 10) rfl (by kernel_rfl) (by kernel_rfl) (by kernel_rfl) (.inl ⟨by rfl, fun W hW => ⟨run_eq_of ?run10, ?guar10⟩⟩) hF ?rest10
    case run10 => (intro K hK; have m1 := (atRel_cell hW _).trans hc1; go_simp; exact hK)
    case guar10 => (have m1 := (atRel_cell hW _).trans hc1; (rw [listed_nil (by simp [go_sem, *])]; exact dp0_nil))
    try walk_nrm
    co_applyP anyCH_take T9 (fun _ _ h r => atRel_trans _ _ _ h r) (fun _ _ _ h r => codeW_rely T9 h r) (i := 11) rfl (by kernel_rfl) (by kernel_rfl) (by kernel_rfl) (.inl ⟨by rfl, fun W hW => ⟨run_eq_of ?run11, ?guar11⟩⟩) hF ?rest11
    case run11 => (intro K hK; have m1 := (atRel_cell hW _).trans hc1; go_simp; exact hK)
    case guar11 => (have m1 := (atRel_cell hW _).trans hc1; (rw [listed_nil (by simp [go_sem, *])]; exact dp0_nil))
    try walk_nrm
    refine anyCH_done (by kernel_rfl) ?_ _
    simp only [Exit.then]
    try rw [hbit]
    clear hbit d1 d2 d3 q0 q1 qn evs
    (refine codeW_block T9 ?_)
    refine codeW_loop T9 (fun a' w' => AtRel w w' ∧ ∃ v0 v1 v3 v4 v5 v6 v9 v10 v11 v12 v13 v14 v15 v16 v17 v18 v19 v20 v21 v22 v23 v24 v25 v26 v27 v28 v29 v30 v31 v32 v33 v34 v35 v36 v37 : Value, a' = ⟨#[v0, v1, .bool on, v3, v4, v5, v6, .pointer (some ⟨Wb, y / 64, none⟩), .int .u64 (2 ^ (y % 64)), v9, v10, v11, v12, v13, v14, v15, v16, v17, v18, v19, v20, v21, v22, v23, v24, v25, v26, v27, v28, v29, v30, v31, v32, v33, v34, v35, v36, v37], []⟩) (fun _ _ => 0) ⟨hF, _, _, _, _, _, _, _, _, _, _, _, _, _, _, _, _, _, _, _, _, _, _, _, _, _, _, _, _, _, _, _, _, _, _, _, rfl⟩ ?_
    clear hF
    rintro _ w2 ⟨hF, v0, v1, v3, v4, v5, v6, v9, v10, v11, v12, v13, v14, v15, v16, v17, v18, v19, v20, v21, v22, v23, v24, v25, v26, v27, v28, v29, v30, v31, v32, v33, v34, v35, v36, v37, rfl⟩
    have hbl : 2 ^ (y % 64) < 18446744073709551616 := Nat.pow_lt_pow_right (m := y % 64) (n := 64) (by decide) (by omega)
    have evb := fun (p q : Bool) (w : World) => ev_eql_bool (P := Try.prog) Try.underlying4 p q w
    have hpc : ((2 : Int) ^ (y % 64)) = ((2 ^ (y % 64) : Nat) : Int) := by norm_cast
    have ha : bits .and .u64 (g : Int) (2 ^ (y % 64)) = ((g &&& 2 ^ (y % 64) : Nat) : Int) := by rw [hpc]; exact u64_and_nat g _ hg' hbl
    have hx : bits .xor .u64 (g : Int) (2 ^ (y % 64)) = ((g ^^^ 2 ^ (y % 64) : Nat) : Int) := by rw [hpc]; exact u64_xor_nat g _ hg' hbl
    have hb : (bits .and .u64 (g : Int) (2 ^ (y % 64)) != 0) = g.testBit (y % 64) := by
      rw [ha, and_pow2]
      have hp2 := Nat.two_pow_pos (y % 64)
      cases g.testBit (y % 64)
      · simp
      · have h9 : ¬ ((2 : Int) ^ (y % 64) = 0) := by rw [hpc]; omega
        have h8 : ¬ (2 ^ (y % 64) = 0) := by omega
        simp [h9, h8]
    clear hpc ha
    generalize hgx : ((g ^^^ 2 ^ (y % 64) : Nat) : Int) = gx at hx ⊢
    replace hgx : RowKit.Hid _ := hgx
    generalize hgb : g.testBit (y % 64) = bb at hb ⊢
    replace hgb : RowKit.Hid _ := hgb
    walk_nrm
    (refine codeW_block T9 ?_)
    (refine codeW_seq T9 ?_)
    (refine codeW_region T9 ?_; simp only [List.size_toArray, List.length_cons, List.length_nil, Nat.reduceAdd, Nat.zero_add, List.range, List.range.loop])
    (refine opsW_cons rfl (by rfl) ?_; intro _ hR K hK; replace hF := atRel_trans _ _ _ hF hR; clear hR; have hs9 := atRel_size hF; go_simp; refine hK _ _ ⟨?_, ?_⟩; (· rw [listed_nil (by simp [go_sem, *])]; exact dp0_nil); clear hK K hs9; try walk_nrm)
    co_apply opsW_call T9 rfl (by rfl) rfl
    · walk_nrm
      exact load42_W _ _ _ _ ((atRel_cell hF _).trans hg)
    rintro _ w3 ⟨rfl, hF'⟩
    replace hF := atRel_trans _ _ _ hF hF'
    clear hF'
    walk_nrm
    (refine opsW_cons rfl (by rfl) ?_; intro _ hR K hK; replace hF := atRel_trans _ _ _ hF hR; clear hR; have hs9 := atRel_size hF; go_simp; refine hK _ _ ⟨?_, ?_⟩; (· rw [listed_nil (by simp [go_sem, *])]; exact dp0_nil); clear hK K hs9; try walk_nrm)
    (refine opsW_nil T9 ?_; simp only [Exit.then, Exit.inBlock])
    (refine codeW_seq T9 ?_)
    (refine codeW_seq T9 ?_)
    (refine codeW_region T9 ?_; simp only [List.size_toArray, List.length_cons, List.length_nil, Nat.reduceAdd, Nat.zero_add, List.range, List.range.loop])
    (repeat (refine opsW_cons rfl (by rfl) ?_; intro _ hR K hK; replace hF := atRel_trans _ _ _ hF hR; clear hR; have hs9 := atRel_size hF; go_simp; refine hK _ _ ⟨?_, ?_⟩; (· rw [listed_nil (by simp [go_sem, *])]; exact dp0_nil); clear hK K hs9; try walk_nrm))
    (refine opsW_nil T9 ?_; simp only [Exit.then, Exit.inBlock])
    by_cases hbo : bb = on
    · have hbo' : (bb == on) = true := by simpa using hbo
      refine codeW_cond T9 (t := true) (by exact congrArg Value.bool hbo') ?_
      simp only [if_true]
      (repeat (first | (refine codeW_seq T9 ?_) | (refine codeW_region T9 ?_; simp only [List.size_toArray, List.length_cons, List.length_nil, Nat.reduceAdd, Nat.zero_add, List.range, List.range.loop]) | (refine opsW_nil T9 ?_; simp only [Exit.then, Exit.inBlock]) | (refine codeW_skip T9 ?_; simp only [Exit.then]) | ((first | refine codeW_cond T9 (t := true) rfl ?_ | refine codeW_cond T9 (t := false) rfl ?_); simp only [if_true, if_false, Bool.false_eq_true, ↓reduceIte]) | (refine opsW_unwanted T9 rfl (by rfl) ?_; try walk_nrm) | (refine opsW_cons rfl (by rfl) ?_; intro _ hR K hK; replace hF := atRel_trans _ _ _ hF hR; clear hR; have hs9 := atRel_size hF; go_simp; refine hK _ _ ⟨?_, ?_⟩; (· rw [listed_nil (by simp [go_sem, *])]; exact dp0_nil); clear hK K hs9; try walk_nrm) | (refine codeW_block T9 ?_)))
      (refine codeW_ret T9 ?_)
      exact ⟨rfl, _, resultsC_tmp rfl _, .inl ⟨hbo, rfl, hF⟩⟩
    · have hbo' : (bb == on) = false := by simpa using hbo
      refine codeW_cond T9 (t := false) (by exact congrArg Value.bool hbo') ?_
      simp only [Bool.false_eq_true, if_false]
      (refine codeW_skip T9 ?_; simp only [Exit.then])
      (refine codeW_seq T9 ?_)
      (refine codeW_region T9 ?_; simp only [List.size_toArray, List.length_cons, List.length_nil, Nat.reduceAdd, Nat.zero_add, List.range, List.range.loop])
      (repeat (refine opsW_cons rfl (by rfl) ?_; intro _ hR K hK; replace hF := atRel_trans _ _ _ hF hR; clear hR; have hs9 := atRel_size hF; go_simp; refine hK _ _ ⟨?_, ?_⟩; (· rw [listed_nil (by simp [go_sem, *])]; exact dp0_nil); clear hK K hs9; try walk_nrm))
      co_apply opsW_call T9 rfl (by rfl) rfl
      · walk_nrm
        exact cas43_W _ _ _ _ _ _ ((atRel_cell hF _).trans hg) ((atRel_frozen hF _).trans hz)
      rintro _ w5 (⟨_, rfl, hF'⟩ | ⟨h, _⟩)
      · replace hF := atRel_trans _ _ _ (atRel_set hF _ _) hF'
        clear hF'
        walk_nrm
        (repeat (first | (refine codeW_seq T9 ?_) | (refine codeW_region T9 ?_; simp only [List.size_toArray, List.length_cons, List.length_nil, Nat.reduceAdd, Nat.zero_add, List.range, List.range.loop]) | (refine opsW_nil T9 ?_; simp only [Exit.then, Exit.inBlock]) | (refine codeW_skip T9 ?_; simp only [Exit.then]) | ((first | refine codeW_cond T9 (t := true) rfl ?_ | refine codeW_cond T9 (t := false) rfl ?_); simp only [if_true, if_false, Bool.false_eq_true, ↓reduceIte]) | (refine opsW_unwanted T9 rfl (by rfl) ?_; try walk_nrm) | (refine opsW_cons rfl (by rfl) ?_; intro _ hR K hK; replace hF := atRel_trans _ _ _ hF hR; clear hR; have hs9 := atRel_size hF; go_simp; refine hK _ _ ⟨?_, ?_⟩; (· rw [listed_nil (by simp [go_sem, *])]; exact dp0_nil); clear hK K hs9; try walk_nrm) | (refine codeW_block T9 ?_)))
        (refine codeW_ret T9 ?_)
        exact ⟨rfl, _, resultsC_tmp rfl _, .inr ⟨hbo, rfl, hF⟩⟩
      · exact absurd rfl h
end
end Go.Proofs.Ytkcknoodcgmndaa

end
section
/- tally's marks by one goroutine: Claim, Free, Has, Len, Count over the words' list. -/
namespace Go.Proofs.Ytkcknoodcgmndaa
open Go.Conc Go.RowKit
open Go.ConcN (sumTo)
set_option linter.unusedVariables false
set_option linter.unusedSimpArgs false
set_option maxRecDepth 100000
set_option maxHeartbeats 4000000














structure MkMem (w : World) (Mb Wb n cap : Nat) (ws : List Nat) : Prop where
  row : w.heap[Mb]? = some (.cells #[.int .i64 n, .slice (some ⟨Wb, 0, none⟩) ws.length cap] 74)
  wds : w.heap[Wb]? = some (.cells (ws.map (fun v : Nat => Value.int .u64 v)).toArray 78)
  ne : Mb ≠ Wb
  rng : ∀ v ∈ ws, v < 18446744073709551616
  room : n ≤ 64 * ws.length
  few : n ≤ 65536
  lim : ws.length ≤ 1024
def flipW (ws : List Nat) (y : Nat) : List Nat := ws.set (y / 64) (ws.getD (y / 64) 0 ^^^ 2 ^ (y % 64))
section
variable {w W W' : World} {Mb Wb n cap : Nat} {ws : List Nat}
theorem MkMem.at (h : MkMem W Mb Wb n cap ws) (r : AtRel W W') : MkMem W' Mb Wb n cap ws := by
  obtain ⟨q, rfl⟩ := r
  exact ⟨h.row, h.wds, h.ne, h.rng, h.room, h.few, h.lim⟩
theorem MkMem.of (h : MkMem W Mb Wb n cap ws) (h1 : W'.heap[Mb]? = W.heap[Mb]?) (h2 : W'.heap[Wb]? = W.heap[Wb]?) : MkMem W' Mb Wb n cap ws :=
  ⟨h1.trans h.row, h2.trans h.wds, h.ne, h.rng, h.room, h.few, h.lim⟩
theorem MkMem.c0 (h : MkMem W Mb Wb n cap ws) : W.cell? ⟨Mb, 0, none⟩ = some (.int .i64 n) := by simp only [World.cell?, h.row]; rfl
theorem MkMem.c1 (h : MkMem W Mb Wb n cap ws) : W.cell? ⟨Mb, 1, none⟩ = some (.slice (some ⟨Wb, 0, none⟩) ws.length cap) := by simp only [World.cell?, h.row]; rfl
theorem MkMem.wd (h : MkMem W Mb Wb n cap ws) {j x : Nat} (hx : ws[j]? = some x) : W.cell? ⟨Wb, j, none⟩ = some (.int .u64 (x : Nat)) := by
  simp [World.cell?, h.wds, hx]
theorem MkMem.wd' (h : MkMem W Mb Wb n cap ws) {j : Nat} (hj : j < ws.length) : W.cell? ⟨Wb, j, none⟩ = some (.int .u64 ((ws.getD j 0 : Nat) : Int)) := by
  refine h.wd ?_
  rw [List.getD_eq_getElem?_getD, List.getElem?_eq_getElem hj]
  rfl
theorem MkMem.thaw (h : MkMem W Mb Wb n cap ws) (j : Nat) : W.frozen? ⟨Wb, j, none⟩ = false := by simp [World.frozen?, h.wds]
theorem MkMem.lt (h : MkMem W Mb Wb n cap ws) (j : Nat) : ws.getD j 0 < 18446744073709551616 := by
  by_cases hj : j < ws.length
  · refine h.rng _ ?_
    rw [List.getD_eq_getElem?_getD, List.getElem?_eq_getElem hj]
    exact List.getElem_mem hj
  · rw [List.getD_eq_getElem?_getD, List.getElem?_eq_none (by omega)]
    decide
theorem xor_lt64 {a b : Nat} (ha : a < 18446744073709551616) (hb : b < 18446744073709551616) : a ^^^ b < 18446744073709551616 := Nat.xor_lt_two_pow (n := 64) ha hb
theorem MkMem.flip (h : MkMem W Mb Wb n cap ws) {y : Nat} (hy : y < n) : MkMem (W.setCell ⟨Wb, y / 64, none⟩ (.int .u64 ((ws.getD (y / 64) 0 ^^^ 2 ^ (y % 64) : Nat) : Int))) Mb Wb n cap (flipW ws y) := by
  have hbl : 2 ^ (y % 64) < 18446744073709551616 := Nat.pow_lt_pow_right (m := y % 64) (n := 64) (by decide) (by omega)
  refine ⟨?_, ?_, h.ne, fun v hv => ?_, by simpa [flipW] using h.room, h.few, by simpa [flipW] using h.lim⟩
  · rw [(aside_setCell W ⟨Wb, y / 64, none⟩ _).block Mb h.ne, h.row]
    simp [flipW]
  · rw [setCell_eq_setRow W Wb (y / 64) _ _ (0, 0) _ h.wds, setRow_heap W Wb _ _ _ _ h.wds]
    simp [flipW, List.map_set]
  · rcases List.mem_or_eq_of_mem_set hv with hv | rfl
    · exact h.rng v hv
    · exact xor_lt64 (h.lt _) hbl
def TurnP (Wb n : Nat) (ws : List Nat) (x : Int) (on : Bool) (w : World) (r : Value) (w' : World) : Prop :=
  (r = .bool false ∧ AtRel w w' ∧ ¬ ((0 ≤ x ∧ x < (n : Int)) ∧ bitW ws x.toNat ≠ on)) ∨
  (r = .bool true ∧ ((0 ≤ x ∧ x < (n : Int)) ∧ bitW ws x.toNat ≠ on) ∧ AtRel (w.setCell ⟨Wb, x.toNat / 64, none⟩ (.int .u64 ((ws.getD (x.toNat / 64) 0 ^^^ 2 ^ (x.toNat % 64) : Nat) : Int))) w')
end
section
variable {Shun : Loc → Prop}
theorem turn33_W {w : World} {Mb Wb n cap : Nat} {ws : List Nat} (h : MkMem w Mb Wb n cap ws) (x : Int) (on : Bool) (hS : ∀ o, ¬ Shun (.cell ⟨Mb, o, none⟩)) :
    CW Shun 33 #[.pointer (some ⟨Mb, 0, none⟩), .int .i64 x, .bool on] w (TurnP Wb n ws x on w) := by
  by_cases hx : 0 ≤ x ∧ x < (n : Int)
  · obtain ⟨y, rfl⟩ := Int.eq_ofNat_of_zero_le hx.1
    have hy : y < n := by omega
    have hq : y / 64 < ws.length := by have := h.room; omega
    refine CallsW.mono (turnOn_W Mb Wb n y (ws.getD (y / 64) 0) ws.length cap on w h.c0 h.c1 hS hy h.few hq (h.wd' hq) (h.thaw _) (h.lt _)) ?_
    rintro v w' (⟨h1, h2, h3⟩ | ⟨h1, h2, h3⟩)
    · exact .inl ⟨h2, h3, fun h => h.2 h1⟩
    · exact .inr ⟨h2, ⟨hx, h1⟩, h3⟩
  · refine CallsW.mono (turnOff_W Mb n x on w h.c0 hS hx) ?_
    rintro v w' ⟨h2, h3⟩
    exact .inl ⟨h2, h3, fun h => hx h.1⟩
theorem claim14_W {w : World} {Mb Wb n cap : Nat} {ws : List Nat} (h : MkMem w Mb Wb n cap ws) (x : Int) (hS : ∀ o, ¬ Shun (.cell ⟨Mb, o, none⟩)) :
    CW Shun 14 #[.pointer (some ⟨Mb, 0, none⟩), .int .i64 x] w (TurnP Wb n ws x true w) := by
  have T9 := termsP Shun
  refine callsW_enter Try.func14 (by kernel_rfl) rfl ?_
  simp only [Try.ntmps14]
  walk_nrm
  have hF := atRel_refl w
  (repeat (first | (refine codeW_seq T9 ?_) | (refine codeW_region T9 ?_; simp only [List.size_toArray, List.length_cons, List.length_nil, Nat.reduceAdd, Nat.zero_add, List.range, List.range.loop]) | (refine opsW_nil T9 ?_; simp only [Exit.then, Exit.inBlock]) | (refine codeW_skip T9 ?_; simp only [Exit.then]) | ((first | refine codeW_cond T9 (t := true) rfl ?_ | refine codeW_cond T9 (t := false) rfl ?_); simp only [if_true, if_false, Bool.false_eq_true, ↓reduceIte]) | (refine opsW_unwanted T9 rfl (by rfl) ?_; try walk_nrm) | (refine opsW_cons rfl (by rfl) ?_; intro _ hR K hK; replace hF := atRel_trans _ _ _ hF hR; clear hR; have hs9 := atRel_size hF; go_simp; refine hK _ _ ⟨?_, ?_⟩; (· rw [listed_nil (by simp [go_sem, *])]; exact dp0_nil); clear hK K hs9; try walk_nrm) | (refine codeW_block T9 ?_)))
  obtain ⟨q, rfl⟩ := hF
  co_apply opsW_call T9 rfl (by rfl) rfl
  · walk_nrm
    exact turn33_W (h.at ⟨q, rfl⟩) _ _ hS
  rintro v w' hT
  have hF := atRel_refl w'
  walk_nrm
  (repeat (first | (refine codeW_seq T9 ?_) | (refine codeW_region T9 ?_; simp only [List.size_toArray, List.length_cons, List.length_nil, Nat.reduceAdd, Nat.zero_add, List.range, List.range.loop]) | (refine opsW_nil T9 ?_; simp only [Exit.then, Exit.inBlock]) | (refine codeW_skip T9 ?_; simp only [Exit.then]) | ((first | refine codeW_cond T9 (t := true) rfl ?_ | refine codeW_cond T9 (t := false) rfl ?_); simp only [if_true, if_false, Bool.false_eq_true, ↓reduceIte]) | (refine opsW_unwanted T9 rfl (by rfl) ?_; try walk_nrm) | (refine opsW_cons rfl (by rfl) ?_; intro _ hR K hK; replace hF := atRel_trans _ _ _ hF hR; clear hR; have hs9 := atRel_size hF; go_simp; refine hK _ _ ⟨?_, ?_⟩; (· rw [listed_nil (by simp [go_sem, *])]; exact dp0_nil); clear hK K hs9; try walk_nrm) | (refine codeW_block T9 ?_)))
  (refine codeW_ret T9 ?_)
  refine ⟨rfl, _, resultsC_tmp rfl _, ?_⟩
  obtain ⟨q2, rfl⟩ := hF
  rcases hT with ⟨rfl, ⟨q3, rfl⟩, h2⟩ | ⟨rfl, h2, ⟨q3, rfl⟩⟩
  · exact .inl ⟨rfl, ⟨_, rfl⟩, h2⟩
  · exact .inr ⟨rfl, h2, ⟨_, rfl⟩⟩
theorem len29_W (Mb : Nat) (n : Int) (w : World) (hc : w.cell? ⟨Mb, 0, none⟩ = some (.int .i64 n)) (hS : ∀ o, ¬ Shun (.cell ⟨Mb, o, none⟩)) : CW Shun 29 #[.pointer (some ⟨Mb, 0, none⟩)] w (fun r w' => r = .int .i64 n ∧ AtRel w w') := by
  have T9 := termsP Shun
  have ev9 := fun (p : Option Addr) (w : World) => ev_eq_nil (P := Try.prog) Try.underlying35 p w
  refine callsW_enter Try.func29 (by kernel_rfl) rfl ?_
  simp only [Try.ntmps29]
  walk_nrm
  have hF := atRel_refl w
  (repeat (first | (refine codeW_seq T9 ?_) | (refine codeW_region T9 ?_; simp only [List.size_toArray, List.length_cons, List.length_nil, Nat.reduceAdd, Nat.zero_add, List.range, List.range.loop]) | (refine opsW_nil T9 ?_; simp only [Exit.then, Exit.inBlock]) | (refine codeW_skip T9 ?_; simp only [Exit.then]) | ((first | refine codeW_cond T9 (t := true) rfl ?_ | refine codeW_cond T9 (t := false) rfl ?_); simp only [if_true, if_false, Bool.false_eq_true, ↓reduceIte]) | (refine opsW_unwanted T9 rfl (by rfl) ?_; try walk_nrm) | (refine opsW_cons rfl (by rfl) ?_; intro _ hR K hK; replace hF := atRel_trans _ _ _ hF hR; clear hR; have hs9 := atRel_size hF; go_simp; refine hK _ _ ⟨?_, ?_⟩; (· rw [listed_nil (by simp [go_sem, *])]; exact dp0_nil); clear hK K hs9; try walk_nrm) | (refine codeW_block T9 ?_)))
  have hc1 := hc
  (refine opsW_cons rfl (by rfl) ?_; intro _ hR K hK; replace hF := atRel_trans _ _ _ hF hR; clear hR; have hl9 := (atRel_cell hF _).trans hc1; go_simp; refine hK _ _ ⟨?_, ?_⟩; (· intro e he; have hm := mem_listed he; simp [go_sem, hl9] at hm; rw [hm]; exact evP_cell _ (hS _)); clear hK K hl9; try walk_nrm)
  (repeat (first | (refine codeW_seq T9 ?_) | (refine codeW_region T9 ?_; simp only [List.size_toArray, List.length_cons, List.length_nil, Nat.reduceAdd, Nat.zero_add, List.range, List.range.loop]) | (refine opsW_nil T9 ?_; simp only [Exit.then, Exit.inBlock]) | (refine codeW_skip T9 ?_; simp only [Exit.then]) | ((first | refine codeW_cond T9 (t := true) rfl ?_ | refine codeW_cond T9 (t := false) rfl ?_); simp only [if_true, if_false, Bool.false_eq_true, ↓reduceIte]) | (refine opsW_unwanted T9 rfl (by rfl) ?_; try walk_nrm) | (refine opsW_cons rfl (by rfl) ?_; intro _ hR K hK; replace hF := atRel_trans _ _ _ hF hR; clear hR; have hs9 := atRel_size hF; go_simp; refine hK _ _ ⟨?_, ?_⟩; (· rw [listed_nil (by simp [go_sem, *])]; exact dp0_nil); clear hK K hs9; try walk_nrm) | (refine codeW_block T9 ?_)))
  (refine codeW_ret T9 ?_)
  exact ⟨rfl, _, resultsC_tmp rfl _, rfl, hF⟩
theorem has27_W {w : World} {Mb Wb n cap : Nat} {ws : List Nat} (h : MkMem w Mb Wb n cap ws) (x : Int) (hS : ∀ o, ¬ Shun (.cell ⟨Mb, o, none⟩)) :
    CW Shun 27 #[.pointer (some ⟨Mb, 0, none⟩), .int .i64 x] w (fun r w' => r = .bool (decide (0 ≤ x ∧ x < (n : Int)) && bitW ws x.toNat) ∧ AtRel w w') := by
  have T9 := termsP Shun
  refine callsW_enter Try.func27 (by kernel_rfl) rfl ?_
  simp only [Try.ntmps27]
  walk_nrm
  have hF := atRel_refl w
  by_cases hx : 0 ≤ x ∧ x < (n : Int)
  · rw [decide_eq_true hx, Bool.true_and]
    obtain ⟨y, rfl⟩ := Int.eq_ofNat_of_zero_le hx.1
    have hy : y < n := by omega
    have hq : y / 64 < ws.length := by have := h.room; omega
    have hc := h.wd' hq
    have hg' := h.lt (y / 64)
    show CodeW _ _ _ _ _ _ (bodyPostC _ _ (fun r w' => r = .bool ((ws.getD (y / 64) 0).testBit (y % 64)) ∧ AtRel w w')) _ _
    generalize ws.getD (y / 64) 0 = g at hc hg' ⊢
    have hn := h.few
    have d1 : Int.tdiv (y : Int) 64 = ((y / 64 : Nat) : Int) := by rw [Int.tdiv_eq_ediv_of_nonneg (by omega)]; omega
    have d2 : Int.tmod (y : Int) 64 = ((y % 64 : Nat) : Int) := by rw [Int.tmod_eq_emod_of_nonneg (by omega)]; omega
    have d3 : IntKind.i64.wrap ((y : Int) / 64) = (y : Int) / 64 := by rw [IntKind.wrap_i64]; omega
    have q0 : (0 : Int) ≤ (y : Int) / 64 := by omega
    have q1 : (y : Int) / 64 < (ws.length : Int) := by omega
    have qn : ((y : Int) / 64).toNat = y / 64 := by omega
    have evs : ∀ w, Sem.events Try.prog (Op.shift BinOp.shr IntKind.u64 (g : Int) IntKind.i64 ((y : Int) % 64)) w #[] = #[] := fun w => by
      unfold Op.shift
      have h9 : ¬ ((y : Int) % 64 < 0) := by omega
      simp [h9, Sem.events_pure]
    (repeat (first | (refine codeW_seq T9 ?_) | (refine codeW_region T9 ?_; simp only [List.size_toArray, List.length_cons, List.length_nil, Nat.reduceAdd, Nat.zero_add, List.range, List.range.loop]) | (refine opsW_nil T9 ?_; simp only [Exit.then, Exit.inBlock]) | (refine codeW_skip T9 ?_; simp only [Exit.then]) | ((first | refine codeW_cond T9 (t := true) rfl ?_ | refine codeW_cond T9 (t := false) rfl ?_); simp only [if_true, if_false, Bool.false_eq_true, ↓reduceIte]) | (refine opsW_unwanted T9 rfl (by rfl) ?_; try walk_nrm) | (refine opsW_cons rfl (by rfl) ?_; intro _ hR K hK; replace hF := atRel_trans _ _ _ hF hR; clear hR; have hs9 := atRel_size hF; go_simp; refine hK _ _ ⟨?_, ?_⟩; (· rw [listed_nil (by simp [go_sem, *])]; exact dp0_nil); clear hK K hs9; try walk_nrm) | (refine codeW_block T9 ?_)))
    co_apply opsW_call T9 rfl (by rfl) rfl
    · walk_nrm
      exact one44_W Mb n y _ ((atRel_cell hF _).trans h.c0) hS
    rw [show decide (0 ≤ (y : Int) ∧ (y : Int) < (n : Int)) = true from decide_eq_true hx]
    rintro _ w' ⟨rfl, hF'⟩
    replace hF := atRel_trans _ _ _ hF hF'
    clear hF' hx
    walk_nrm
    repeat (first | (refine opsW_unwanted T9 rfl (by rfl) ?_; try walk_nrm) | (refine opsW_cons rfl (by rfl) ?_; intro _ hR K hK; replace hF := atRel_trans _ _ _ hF hR; clear hR; have hs9 := atRel_size hF; go_simp; refine hK _ _ ⟨?_, ?_⟩; (· rw [listed_nil (by simp [go_sem, *])]; exact dp0_nil); clear hK K hs9; try walk_nrm))
    have hc1 := h.c1
    (refine opsW_cons rfl (by rfl) ?_; intro _ hR K hK; replace hF := atRel_trans _ _ _ hF hR; clear hR; have hl9 := (atRel_cell hF _).trans hc1; go_simp; refine hK _ _ ⟨?_, ?_⟩; (· intro e he; have hm := mem_listed he; simp [go_sem, hl9] at hm; rw [hm]; exact evP_cell _ (hS _)); clear hK K hl9; try walk_nrm)
    clear hc1
    repeat (first | (refine opsW_unwanted T9 rfl (by rfl) ?_; try walk_nrm) | (refine opsW_cons rfl (by rfl) ?_; intro _ hR K hK; replace hF := atRel_trans _ _ _ hF hR; clear hR; have hs9 := atRel_size hF; go_simp; refine hK _ _ ⟨?_, ?_⟩; (· rw [listed_nil (by simp [go_sem, *])]; exact dp0_nil); clear hK K hs9; try walk_nrm))
    co_apply opsW_call T9 rfl (by rfl) rfl
    · walk_nrm
      exact load42_W _ _ _ _ ((atRel_cell hF _).trans hc)
    rintro _ w3 ⟨rfl, hF'⟩
    replace hF := atRel_trans _ _ _ hF hF'
    clear hF'
    walk_nrm
    (refine opsW_cons rfl (by rfl) ?_; intro _ hR K hK; replace hF := atRel_trans _ _ _ hF hR; clear hR; have hs9 := atRel_size hF; go_simp; refine hK _ _ ⟨?_, ?_⟩; (· rw [listed_nil (by simp [go_sem, *])]; exact dp0_nil); clear hK K hs9; try walk_nrm)
    (refine opsW_cons rfl (by rfl) ?_; intro _ hR K hK; replace hF := atRel_trans _ _ _ hF hR; clear hR; have hs9 := atRel_size hF; go_simp; refine hK _ _ ⟨?_, ?_⟩; (· rw [listed_nil (by simp [go_sem, *])]; exact dp0_nil); clear hK K hs9; try walk_nrm)
    have runs : ∀ w, Sem.run Try.prog (Op.shift BinOp.shr IntKind.u64 (g : Int) IntKind.i64 ((y : Int) % 64)) w = .ok (.int .u64 ((g / 2 ^ (y % 64) : Nat) : Int)) w := fun w => by
      unfold Op.shift
      have h9 : ¬ ((y : Int) % 64 < 0) := by omega
      have h1 : ((y : Int) % 64).toNat = y % 64 := by omega
      have h8 : y % 64 < 64 := by omega
      simp [h9, h1, h8]
      rw [show min (y % 64) IntKind.u64.bits = y % 64 from by show min (y % 64) 64 = y % 64; omega]
      exact Int.fdiv_eq_ediv_of_nonneg _ (Int.le_of_lt (Int.pow_pos (by omega)))
    have eand : bits .and .u64 (((g / 2 ^ (y % 64) : Nat) : Int)) 1 = (if g.testBit (y % 64) then 1 else 0) := by
      rw [show (1 : Int) = ((1 : Nat) : Int) from rfl, u64_and_nat _ _ (Nat.lt_of_le_of_lt (Nat.div_le_self _ _) hg') (by omega), Nat.and_one_is_mod]
      rw [Nat.testBit_eq_decide_div_mod_eq]
      have := Nat.mod_two_eq_zero_or_one (g / 2 ^ (y % 64))
      rcases this with h | h <;> rw [h] <;> rfl
    generalize ((g / 2 ^ (y % 64) : Nat) : Int) = gs at runs eand
    generalize g.testBit (y % 64) = bb at eand ⊢
    cases bb
    · simp only [Bool.false_eq_true, if_false] at eand
      repeat (first | (refine opsW_unwanted T9 rfl (by rfl) ?_; try walk_nrm) | (refine opsW_cons rfl (by rfl) ?_; intro _ hR K hK; replace hF := atRel_trans _ _ _ hF hR; clear hR; have hs9 := atRel_size hF; go_simp; refine hK _ _ ⟨?_, ?_⟩; (· rw [listed_nil (by simp [go_sem, *])]; exact dp0_nil); clear hK K hs9; try walk_nrm))
      (refine opsW_nil T9 ?_; simp only [Exit.then, Exit.inBlock])
      (refine codeW_ret T9 ?_)
      exact ⟨rfl, _, resultsC_tmp rfl _, rfl, hF⟩
    · simp only [if_true] at eand
      repeat (first | (refine opsW_unwanted T9 rfl (by rfl) ?_; try walk_nrm) | (refine opsW_cons rfl (by rfl) ?_; intro _ hR K hK; replace hF := atRel_trans _ _ _ hF hR; clear hR; have hs9 := atRel_size hF; go_simp; refine hK _ _ ⟨?_, ?_⟩; (· rw [listed_nil (by simp [go_sem, *])]; exact dp0_nil); clear hK K hs9; try walk_nrm))
      (refine opsW_nil T9 ?_; simp only [Exit.then, Exit.inBlock])
      (refine codeW_ret T9 ?_)
      exact ⟨rfl, _, resultsC_tmp rfl _, rfl, hF⟩
  · rw [decide_eq_false hx, Bool.false_and]
    (repeat (first | (refine codeW_seq T9 ?_) | (refine codeW_region T9 ?_; simp only [List.size_toArray, List.length_cons, List.length_nil, Nat.reduceAdd, Nat.zero_add, List.range, List.range.loop]) | (refine opsW_nil T9 ?_; simp only [Exit.then, Exit.inBlock]) | (refine codeW_skip T9 ?_; simp only [Exit.then]) | ((first | refine codeW_cond T9 (t := true) rfl ?_ | refine codeW_cond T9 (t := false) rfl ?_); simp only [if_true, if_false, Bool.false_eq_true, ↓reduceIte]) | (refine opsW_unwanted T9 rfl (by rfl) ?_; try walk_nrm) | (refine opsW_cons rfl (by rfl) ?_; intro _ hR K hK; replace hF := atRel_trans _ _ _ hF hR; clear hR; have hs9 := atRel_size hF; go_simp; refine hK _ _ ⟨?_, ?_⟩; (· rw [listed_nil (by simp [go_sem, *])]; exact dp0_nil); clear hK K hs9; try walk_nrm) | (refine codeW_block T9 ?_)))
    co_apply opsW_call T9 rfl (by rfl) rfl
    · walk_nrm
      exact one44_W Mb n x _ ((atRel_cell hF _).trans h.c0) hS
    rw [show decide (0 ≤ x ∧ x < (n : Int)) = false from decide_eq_false hx]
    rintro _ w' ⟨rfl, hF'⟩
    replace hF := atRel_trans _ _ _ hF hF'
    clear hF'
    walk_nrm
    (repeat (first | (refine codeW_seq T9 ?_) | (refine codeW_region T9 ?_; simp only [List.size_toArray, List.length_cons, List.length_nil, Nat.reduceAdd, Nat.zero_add, List.range, List.range.loop]) | (refine opsW_nil T9 ?_; simp only [Exit.then, Exit.inBlock]) | (refine codeW_skip T9 ?_; simp only [Exit.then]) | ((first | refine codeW_cond T9 (t := true) rfl ?_ | refine codeW_cond T9 (t := false) rfl ?_); simp only [if_true, if_false, Bool.false_eq_true, ↓reduceIte]) | (refine opsW_unwanted T9 rfl (by rfl) ?_; try walk_nrm) | (refine opsW_cons rfl (by rfl) ?_; intro _ hR K hK; replace hF := atRel_trans _ _ _ hF hR; clear hR; have hs9 := atRel_size hF; go_simp; refine hK _ _ ⟨?_, ?_⟩; (· rw [listed_nil (by simp [go_sem, *])]; exact dp0_nil); clear hK K hs9; try walk_nrm) | (refine codeW_block T9 ?_)))
    (refine codeW_ret T9 ?_)
    exact ⟨rfl, _, resultsC_tmp rfl _, rfl, hF⟩
end
end Go.Proofs.Ytkcknoodcgmndaa

end
section
/- tally's All, in general: the memory, a round. -/
namespace Go.Proofs.Ytkcknoodcgmndaa
open Go.Conc Go.RowKit
set_option linter.unusedVariables false
set_option linter.unusedSimpArgs false
set_option maxRecDepth 100000
set_option maxHeartbeats 4000000















def markL (ws : List Nat) (i : Nat) : List Int := ((List.range i).filter (fun k => bitW ws k)).map (fun k : Nat => (k : Int))
theorem markL_succ (ws : List Nat) (i : Nat) : markL ws (i + 1) = markL ws i ++ (if bitW ws i then [(i : Int)] else []) := by
  unfold markL
  rw [List.range_succ, List.filter_append, List.map_append]
  congr 1
  by_cases h : bitW ws i = true <;> simp [h]
theorem markL_len (ws : List Nat) (i : Nat) : (markL ws i).length ≤ i := by
  unfold markL
  rw [List.length_map]
  exact Nat.le_trans (List.length_filter_le _ _) (by simp)
structure AllG (w0 : World) (Mb Wb n cap : Nat) (ws : List Nat) (rec : Loop) (v : Value) (W : World) : Prop where
  bel : Below w0.heap.size w0 W
  mm : MkMem W Mb Wb n cap ws
  mb : Mb < w0.heap.size
  wb : Wb < w0.heap.size
  mbox : W.heap[w0.heap.size]? = some (.cells #[.pointer (some ⟨Mb, 0, none⟩)] 35)
  box : W.heap[w0.heap.size + 1]? = some (.cells #[v] 33)
  mark : W.heap[w0.heap.size + 2]? = some (.deferred (some []))
  loop : W.heap[w0.heap.size + 3]? = some (.loop rec)
  size : w0.heap.size + 4 ≤ W.heap.size
section
variable {w0 W W' : World} {Mb Wb n cap : Nat} {ws : List Nat} {rec : Loop} {v : Value}
theorem AllG.of (h : AllG w0 Mb Wb n cap ws rec v W) (ho : W'.os = W.os) (ht : W'.tape = W.tape) (hout : W'.output = W.output) (hsz : W.heap.size ≤ W'.heap.size) (hb : ∀ g, g < w0.heap.size + 4 → W'.heap[g]? = W.heap[g]?) : AllG w0 Mb Wb n cap ws rec v W' := by
  have hm := h.mb
  have hw := h.wb
  exact ⟨⟨ho.trans h.bel.os, ht.trans h.bel.tape, hout.trans h.bel.output, Nat.le_trans h.bel.size hsz, fun g hg => (hb g (by omega)).trans (h.bel.block g hg)⟩, h.mm.of (hb _ (by omega)) (hb _ (by omega)), h.mb, h.wb,
    (hb _ (by omega)).trans h.mbox, (hb _ (by omega)).trans h.box, (hb _ (by omega)).trans h.mark, (hb _ (by omega)).trans h.loop, Nat.le_trans h.size hsz⟩
theorem AllG.at (h : AllG w0 Mb Wb n cap ws rec v W) (r : AtRel W W') : AllG w0 Mb Wb n cap ws rec v W' := by
  obtain ⟨q, rfl⟩ := r
  exact h.of rfl rfl rfl (Nat.le_refl _) fun _ _ => rfl
theorem AllG.alloc (h : AllG w0 Mb Wb n cap ws rec v W) (o : Obj) : AllG w0 Mb Wb n cap ws rec v (W.alloc o) :=
  h.of rfl rfl rfl (by simp) fun g hg => Below.heap_alloc _ _ _ (by have := h.size; omega)
theorem AllG.grow {r : Option Nat} (h : AllG w0 Mb Wb n cap ws rec v W) (g : W.grownBy W' r) (hr : ∀ k, r = some k → w0.heap.size + 4 ≤ k) : AllG w0 Mb Wb n cap ws rec v W' :=
  h.of g.os g.tape g.output g.size fun k hk => g.block k (by have := h.size; omega) fun e => by have := hr k e.symm; omega
theorem AllG.put (h : AllG w0 Mb Wb n cap ws rec v W) (rec' : Loop) : AllG w0 Mb Wb n cap ws rec' v (putO W (w0.heap.size + 3) (.loop rec')) := by
  have hm := h.mb
  have hw := h.wb
  have hs := h.size
  have e : ∀ g, g ≠ w0.heap.size + 3 → (putO W (w0.heap.size + 3) (.loop rec')).heap[g]? = W.heap[g]? := fun g hg => putO_obj _ hg
  exact ⟨below_putO h.bel _ (by omega) _, h.mm.of (e _ (by omega)) (e _ (by omega)), h.mb, h.wb, (e _ (by omega)).trans h.mbox, (e _ (by omega)).trans h.box, (e _ (by omega)).trans h.mark, by
    simp only [putO]
    rw [Array.getElem?_setIfInBounds_self_of_lt (by omega)], by simp only [putO, Array.size_setIfInBounds]; omega⟩
theorem AllG.setBox (h : AllG w0 Mb Wb n cap ws rec v W) (v' : Value) : AllG w0 Mb Wb n cap ws rec v' (W.setCell ⟨w0.heap.size + 1, 0, none⟩ v') := by
  have hm := h.mb
  have hw := h.wb
  have hs := h.size
  have y := aside_setCell W ⟨w0.heap.size + 1, 0, none⟩ v'
  have e : ∀ g, g ≠ w0.heap.size + 1 → (W.setCell ⟨w0.heap.size + 1, 0, none⟩ v').heap[g]? = W.heap[g]? := fun g hg => y.block g hg
  exact ⟨below_set h.bel _ (by show w0.heap.size ≤ w0.heap.size + 1; omega) _, h.mm.of (e _ (by omega)) (e _ (by omega)), h.mb, h.wb, (e _ (by omega)).trans h.mbox, box_set h.box, (e _ (by omega)).trans h.mark, (e _ (by omega)).trans h.loop, by rw [y.size]; exact h.size⟩
end
theorem ownsRow_of {W W' : World} {base : Nat} {e : TypeId} {size : Nat} {v : Value} {n : Nat} {xs : List Value} (h : W.ownsRow base e size v n xs) (hb : ∀ g, base ≤ g → g < W.heap.size → W'.heap[g]? = W.heap[g]?) : W'.ownsRow base e size v n xs := by
  refine ⟨h.1, ?_⟩
  rcases h.2 with h2 | ⟨g, cap, cur, h1, h2, h3, h4⟩
  · exact .inl h2
  · refine .inr ⟨g, cap, cur, h1, h2, ?_, h4⟩
    have hlt : g < W.heap.size := (Array.getElem?_eq_some_iff.1 h3).1
    exact (hb g h2 hlt).trans h3
noncomputable def asgA : Code := match (Try.f63.body.getD .skip) with
  | .seq _ (.seq (.seq _ (.block _ (.rangeFunc _ _ c _))) _) => c
  | _ => .skip
noncomputable def bodyA : Code := match (Try.f63.body.getD .skip) with
  | .seq _ (.seq (.seq _ (.block _ (.rangeFunc _ _ _ c))) _) => c
  | _ => .skip
def tmpA (H : Nat) (F : Value) : Array Value := #[.slice none 0 0, F, .pointer (some ⟨H + 1, 0, none⟩), undef, .slice none 0 0, undef, F, undef, undef, undef, undef, undef, undef]
noncomputable def recA (H : Nat) (F : Value) : Loop := { state := .ready, pending := none, fn := 63, tmps := tmpA H F, params := #[7], assign := asgA, body := bodyA, defers := H + 2 }
section
variable {Shun : Loc → Prop}
theorem roundA {w0 W : World} {Mb Wb n cap : Nat} {ws : List Nat} {F v : Value} {L : List Int} (hSn : ∀ a : Addr, w0.heap.size ≤ a.block → ¬ Shun (.cell a)) (x : Int)
    (h : AllG w0 Mb Wb n cap ws (recA w0.heap.size F) v W) (hown : W.ownsRow (w0.heap.size + 4) 3 1 v L.length (L.map (Value.int .i64))) (hL : L.length ≤ 900000) :
    CodeR Try.prog Shun (w0.heap.size + 3) (recA w0.heap.size F).fn (recA w0.heap.size F).assign (fun a1 w1 => w1.heap[w0.heap.size + 3]? = some (.loop (recA w0.heap.size F)) ∧ CodeR Try.prog Shun (w0.heap.size + 3) (recA w0.heap.size F).fn (recA w0.heap.size F).body
      (fun a2 w2 => ∃ r2, w2.heap[w0.heap.size + 3]? = some (.loop r2) ∧ ∃ v', AllG w0 Mb Wb n cap ws (recA w0.heap.size F) v' (putO w2 (w0.heap.size + 3) (.loop { r2 with state := .ready, pending := none })) ∧
        (putO w2 (w0.heap.size + 3) (.loop { r2 with state := .ready, pending := none })).ownsRow (w0.heap.size + 4) 3 1 v' (L ++ [x]).length ((L ++ [x]).map (Value.int .i64)))
      a1 (putO w1 (w0.heap.size + 3) (.loop { recA w0.heap.size F with state := .busy }))) ⟨(recA w0.heap.size F).tmps.setIfInBounds 7 (.int .i64 x), []⟩ W := by
  show CodeR Try.prog Shun (w0.heap.size + 3) 63 asgA (fun a1 w1 => _ ∧ CodeR Try.prog Shun (w0.heap.size + 3) 63 bodyA _ _ _) ⟨(tmpA w0.heap.size F).setIfInBounds 7 (.int .i64 x), []⟩ W
  have hF := atRel_refl W
  rw [show asgA = _ from (by unfold asgA; simp only [Try.f63, Option.getD_some]; try rfl), show bodyA = _ from (by unfold bodyA; simp only [Try.f63, Option.getD_some]; try rfl)]
  unfold tmpA
  refine codeR_region ?_
  simp only [List.size_toArray, List.length_cons, List.length_nil, Nat.reduceAdd, Nat.zero_add, List.range, List.range.loop]
  walk_nrm
  (refine opsR_cons rfl (by rfl) (by intro c h; cases h) ?_; intro _ hR K hK; replace hF := atRel_trans _ _ _ hF hR; clear hR; have hs9 := atRel_size hF; go_simp; refine hK _ _ ⟨?_, ?_⟩; (· rw [listed_nil (by simp [go_sem, *])]; exact dp0_nil); clear hK K hs9; try walk_nrm)
  refine opsR_nil ?_
  refine ⟨(h.at hF).loop, ?_⟩
  have h1 := (h.at hF).put { recA w0.heap.size F with state := .busy }
  have hown1 := ownsRow_of (W' := putO _ (w0.heap.size + 3) (.loop { recA w0.heap.size F with state := .busy })) (ownsRow_at hF hown) (fun g hg _ => putO_obj _ (by omega))
  revert h1 hown1
  generalize putO _ (w0.heap.size + 3) (.loop { recA w0.heap.size F with state := .busy }) = W1
  intro h1 hown1
  clear hF hown h
  have hF := atRel_refl W1
  refine codeR_block ?_
  refine codeR_region ?_
  simp only [List.size_toArray, List.length_cons, List.length_nil, Nat.reduceAdd, Nat.zero_add, List.range, List.range.loop]
  have hS := hSn ⟨w0.heap.size + 1, 0, none⟩ (by show w0.heap.size ≤ w0.heap.size + 1; omega)
  have hc1 := box_cell h1.box
  (refine opsR_cons rfl (by rfl) (by intro c h; cases h) ?_; intro _ hR K hK; replace hF := atRel_trans _ _ _ hF hR; clear hR; have hl9 := (atRel_cell hF _).trans hc1; go_simp; refine hK _ _ ⟨?_, ?_⟩; (· intro e he; have hm := mem_listed he; simp [go_sem, hl9] at hm; rw [hm]; exact evP_cell _ hS); clear hK K hl9; try walk_nrm)
  clear hc1
  (refine opsR_cons rfl (by rfl) (by intro c h; cases h) ?_; intro _ hR K hK; replace hF := atRel_trans _ _ _ hF hR; clear hR; have hs9 := atRel_size hF; go_simp; refine hK _ _ ⟨?_, ?_⟩; (· rw [listed_nil (by simp [go_sem, *])]; exact dp0_nil); clear hK K hs9; try walk_nrm)
  (refine opsR_cons rfl (by rfl) (by intro c h; cases h) ?_; intro _ hR K hK; replace hF := atRel_trans _ _ _ hF hR; clear hR; have hs9 := atRel_size hF; go_simp; refine hK _ _ ⟨?_, ?_⟩; (· rw [listed_nil (by simp [go_sem, *])]; exact dp0_nil); clear hK K hs9; try walk_nrm)
  replace hF := atRel_alloc hF (.cells #[.int .i64 x] 3)
  have h2 := h1.alloc (.cells #[.int .i64 x] 3)
  have hown2 := World.ownsRow.alloc hown1 (.cells #[.int .i64 x] 3)
  have hnew : (W1.alloc (.cells #[.int .i64 x] 3)).cell? ⟨W1.heap.size, 0, none⟩ = some (.int .i64 x) := box_cell (alloc_new W1 _)
  have hz1 : w0.heap.size + 4 ≤ W1.heap.size := h1.size
  clear h1 hown1
  revert h2 hown2 hnew hF
  generalize W1.alloc (.cells #[.int .i64 x] 3) = W2
  intro hF h2 hown2 hnew
  refine opsR_cons rfl (by rfl) (by intro c h; cases h) ?_
  intro w9 hR K hK
  replace hF := atRel_trans _ _ _ hF hR
  clear hR
  refine append_int (S := Shun) (fn := 63) (w := W2) (base := w0.heap.size + 4) (v := v) (n := L.length) (xs := L.map (Value.int .i64)) (ad := ⟨W1.heap.size, 0, none⟩) (m := 1) (c := 1) (news := [.int .i64 x]) rfl rfl rfl hown2 rfl ?_ (by simp [Value.oneCell']) (by omega) h2.size (fun a ha => hSn a (by omega)) (fun a ha => hSn a (by rw [ha]; show w0.heap.size ≤ W1.heap.size; omega)) w9 hF ?_
  · intro j u hu
    have hj : j = 0 := by
      have := (List.getElem?_eq_some_iff.1 hu).1
      simp at this
      exact this
    subst hj
    simp at hu
    subst hu
    exact hnew
  intro v' w' hown3 hgr hdp
  refine hK _ _ ⟨hdp, ?_⟩
  have h3 := h2.grow hgr (fun k hk => (hown2.lt k hk).1)
  clear hK K hF h2 hown2 hnew hgr hdp
  have hxs : L.map (Value.int .i64) ++ [Value.int .i64 x] = (L ++ [x]).map (Value.int .i64) := by simp
  have hln : L.length + 1 = (L ++ [x]).length := by simp
  rw [hxs, hln] at hown3
  obtain ⟨sb, sn, sc, rfl⟩ : ∃ b n c, v' = .slice b n c := by
    rcases hown3.2 with ⟨e, _⟩ | ⟨g, cap, cur, e, _⟩
    · exact ⟨_, _, _, e⟩
    · exact ⟨_, _, _, e⟩
  have hF := atRel_refl w'
  have hbc := box_cell h3.box
  have hbz := box_thaw h3.box
  walk_nrm
  (refine opsR_cons rfl (by rfl) (by intro c h; cases h) ?_; intro w8 hR K hK; replace hF := atRel_trans _ _ _ hF hR; clear hR; have c0 := (atRel_cell hF _).trans hbc; have d0 := (atRel_frozen hF _).trans hbz; go_simp; refine hK _ _ ⟨?_, ?_⟩; (· intro e he; have hm := mem_listed he; simp [go_sem, storedEv, c0, d0] at hm; rw [hm]; exact evP_cell _ hS); clear hK K c0 d0; try walk_nrm)
  have h4 := (h3.at hF).setBox (.slice sb sn sc)
  have hown4 := ownsRow_of (W' := w8.setCell ⟨w0.heap.size + 1, 0, none⟩ (.slice sb sn sc)) (ownsRow_at hF hown3) (fun g hg _ => (aside_setCell w8 ⟨w0.heap.size + 1, 0, none⟩ _).block g (by show g ≠ w0.heap.size + 1; omega))
  refine opsR_nil ⟨_, h4.loop, _, h4.put (recA w0.heap.size F), ownsRow_of hown4 (fun g hg _ => putO_obj _ (by omega))⟩
end
end Go.Proofs.Ytkcknoodcgmndaa

end
section
/- The numbers that are marked, as a rising list: plain laws. -/
namespace Go.Proofs.Ytkcknoodcgmndaa
open Go.ConcN (sumTo)
set_option linter.unusedVariables false
set_option linter.unusedSimpArgs false
theorem eq_of_sorted9 : ∀ {l1 l2 : List Int}, l1.Pairwise (· < ·) → l2.Pairwise (· < ·) → (∀ x, x ∈ l1 ↔ x ∈ l2) → l1 = l2
  | [], [], _, _, _ => rfl
  | [], b :: r, _, _, h => absurd ((h b).2 (List.mem_cons_self ..)) (by simp)
  | a :: r, [], _, _, h => absurd ((h a).1 (List.mem_cons_self ..)) (by simp)
  | a :: r, b :: s, h1, h2, h => by
    obtain ⟨a1, a2⟩ := List.pairwise_cons.1 h1
    obtain ⟨b1, b2⟩ := List.pairwise_cons.1 h2
    have hab : a = b := by
      rcases List.mem_cons.1 ((h a).1 (List.mem_cons_self ..)) with e | e
      · exact e
      · rcases List.mem_cons.1 ((h b).2 (List.mem_cons_self ..)) with e' | e'
        · exact e'.symm
        · have := b1 a e
          have := a1 b e'
          omega
    subst hab
    rw [eq_of_sorted9 a2 b2 fun x => ?_]
    constructor
    · intro hx
      rcases List.mem_cons.1 ((h x).1 (List.mem_cons_of_mem _ hx)) with e | e
      · have := a1 x hx
        omega
      · exact e
    · intro hx
      rcases List.mem_cons.1 ((h x).2 (List.mem_cons_of_mem _ hx)) with e | e
      · have := b1 x hx
        omega
      · exact e
theorem markL_sorted (ws : List Nat) (n : Nat) : (markL ws n).Pairwise (· < ·) := by
  unfold markL
  rw [List.pairwise_map]
  refine List.Pairwise.imp (fun h => by omega) ((List.pairwise_lt_range (n := n)).filter _)
theorem mem_markL {ws : List Nat} {n : Nat} {x : Int} : x ∈ markL ws n ↔ (0 ≤ x ∧ x < (n : Int)) ∧ bitW ws x.toNat = true := by
  unfold markL
  rw [List.mem_map]
  constructor
  · rintro ⟨k, hk, rfl⟩
    obtain ⟨h1, h2⟩ := List.mem_filter.1 hk
    have := List.mem_range.1 h1
    exact ⟨by omega, h2⟩
  · rintro ⟨⟨h1, h2⟩, h3⟩
    exact ⟨x.toNat, List.mem_filter.2 ⟨List.mem_range.2 (by omega), h3⟩, by omega⟩
theorem bit_flip {ws : List Nat} {y : Nat} (hy : y / 64 < ws.length) (k : Nat) : bitW (flipW ws y) k = (if k = y then !bitW ws y else bitW ws k) := by
  unfold bitW flipW
  by_cases hq : k / 64 = y / 64
  · rw [hq, List.getD_eq_getElem?_getD, List.getElem?_set_self hy]
    simp only [Option.getD_some, Nat.testBit_xor, Nat.testBit_two_pow]
    by_cases hk : k = y
    · subst hk
      simp
    · rw [if_neg hk]
      have : ¬ y % 64 = k % 64 := by omega
      simp [this]
  · have hk : ¬ k = y := fun e => hq (by rw [e])
    rw [if_neg hk]
    simp only [List.getD_eq_getElem?_getD]
    rw [List.getElem?_set_ne (by omega)]
theorem markL_with {ws : List Nat} {n i : Nat} {x : Int} (hx0 : 0 ≤ x) (hxn : x < (n : Int)) (hq : x.toNat / 64 < ws.length) (hb : bitW ws x.toNat = false) (h1 : ∀ q y, q < i → (markL ws n)[q]? = some y → y < x) (h2 : ∀ y, (markL ws n)[i]? = some y → x ≤ y) :
    (markL ws n).take i ++ [x] ++ (markL ws n).drop i = markL (flipW ws x.toNat) n := by
  have hs := markL_sorted ws n
  have hx : x ∉ markL ws n := fun h => by rw [(mem_markL.1 h).2] at hb; cases hb
  have ht : ∀ y ∈ (markL ws n).take i, y < x := by
    intro y hy
    obtain ⟨q, hq, e⟩ := List.getElem_of_mem hy
    rw [List.length_take] at hq
    have h9 : ((markL ws n).take i)[q]? = some y := by rw [List.getElem?_eq_getElem (by rw [List.length_take]; exact hq), e]
    rw [List.getElem?_take_of_lt (by omega)] at h9
    exact h1 q y (by omega) h9
  have hd : ∀ y ∈ (markL ws n).drop i, x < y := by
    intro y hy
    have hne : y ≠ x := fun e => hx (e ▸ List.mem_of_mem_drop hy)
    have hle : x ≤ y := by
      obtain ⟨q, hq, e⟩ := List.getElem_of_mem hy
      rw [List.getElem_drop] at e
      by_cases hq0 : q = 0
      · subst hq0
        refine h2 y ?_
        rw [List.length_drop] at hq
        rw [List.getElem?_eq_getElem (by omega)]
        rw [← e]
        rfl
      · rw [List.length_drop] at hq
        have h3 := h2 ((markL ws n)[i]) (List.getElem?_eq_getElem (by omega))
        have h4 := List.pairwise_iff_getElem.1 hs i (i + q) (by omega) (by omega) (by omega)
        omega
    omega
  refine eq_of_sorted9 ?_ (markL_sorted _ _) fun y => ?_
  · rw [List.append_assoc, List.pairwise_append]
    refine ⟨hs.sublist (List.take_sublist _ _), ?_, ?_⟩
    · rw [List.singleton_append, List.pairwise_cons]
      exact ⟨hd, hs.sublist (List.drop_sublist _ _)⟩
    · intro a ha b hb
      have := ht a ha
      rcases List.mem_cons.1 (show b ∈ x :: (markL ws n).drop i from hb) with rfl | hb
      · exact this
      · have := hd b hb
        omega
  · rw [mem_markL, List.append_assoc, List.mem_append, List.singleton_append, List.mem_cons]
    have hm : y ∈ markL ws n ↔ y ∈ (markL ws n).take i ∨ y ∈ (markL ws n).drop i := by
      rw [← List.mem_append, List.take_append_drop]
    rw [mem_markL] at hm
    rw [bit_flip hq]
    by_cases hyx : y = x
    · subst hyx
      simp [hb, hx0, hxn]
    · constructor
      · rintro (h | h | h)
        · have h9 := hm.2 (.inl h)
          refine ⟨h9.1, ?_⟩
          rw [if_neg (by omega)]
          exact h9.2
        · exact absurd h hyx
        · have h9 := hm.2 (.inr h)
          refine ⟨h9.1, ?_⟩
          rw [if_neg (by omega)]
          exact h9.2
      · rintro ⟨h, h'⟩
        rw [if_neg (by omega)] at h'
        rcases hm.1 ⟨h, h'⟩ with h9 | h9
        · exact .inl h9
        · exact .inr (.inr h9)
def Clean (ws : List Nat) (n : Nat) : Prop := ∀ k, n ≤ k → bitW ws k = false
theorem Clean.flip {ws : List Nat} {n y : Nat} (h : Clean ws n) (hy : y < n) (hq : y / 64 < ws.length) : Clean (flipW ws y) n := by
  intro k hk
  rw [bit_flip hq, if_neg (by omega)]
  exact h k hk
theorem filter_range_add (p : Nat → Bool) (a b : Nat) : ((List.range (a + b)).filter p).length = ((List.range a).filter p).length + ((List.range b).filter (fun k => p (a + k))).length := by
  rw [List.range_add, List.filter_append, List.length_append, List.filter_map, List.length_map]
  rfl
theorem sum_pop (ws : List Nat) : ∀ m, sumTo m (fun j => Ones.popc 64 (ws.getD j 0)) = ((List.range (64 * m)).filter (fun k => bitW ws k)).length
  | 0 => by simp [sumTo]
  | m + 1 => by
    rw [show 64 * (m + 1) = 64 * m + 64 by omega, filter_range_add, ← sum_pop ws m]
    simp only [sumTo]
    congr 1
    unfold Ones.popc
    congr 1
    refine List.filter_congr fun k hk => ?_
    have := List.mem_range.1 hk
    unfold bitW
    rw [show (64 * m + k) / 64 = m by omega, show (64 * m + k) % 64 = k by omega]
theorem count_markL {ws : List Nat} {n : Nat} (hc : Clean ws n) (hn : n ≤ 64 * ws.length) : sumTo ws.length (fun j => Ones.popc 64 (ws.getD j 0)) = (markL ws n).length := by
  rw [sum_pop]
  unfold markL
  rw [List.length_map]
  obtain ⟨d, hd⟩ := Nat.exists_eq_add_of_le hn
  rw [hd, filter_range_add]
  have : (List.range d).filter (fun k => bitW ws (n + k)) = [] := by
    rw [List.filter_eq_nil_iff]
    intro k _
    rw [hc (n + k) (by omega)]
    simp
  rw [this]
  rfl
theorem bitW_zero (m k : Nat) : bitW (List.replicate m 0) k = false := by
  unfold bitW
  have : (List.replicate m 0).getD (k / 64) 0 = 0 := by
    rw [List.getD_eq_getElem?_getD, List.getElem?_replicate]
    split <;> rfl
  rw [this]
  simp
theorem markL_zero (m n : Nat) : markL (List.replicate m 0) n = [] := by
  unfold markL
  rw [List.map_eq_nil_iff, List.filter_eq_nil_iff]
  intro k _
  rw [bitW_zero]
  simp
end Go.Proofs.Ytkcknoodcgmndaa

end
