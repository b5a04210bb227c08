/- tally's marks: NewMarks, Count. -/
import Derived.Test.YtkcknoodcgmndaaTcC
import Derived.Test.YtkcknoodcgmndaaSwL
import Derived.Conc.AppendWalk
import Derived.Laws.MakeOwn
namespace Go.Proofs.Ytkcknoodcgmndaa
open Go.Conc Go.RowKit
open Go.ConcN (sumTo)
set_option linter.unusedVariables false
set_option linter.unusedSimpArgs false
set_option maxRecDepth 100000
set_option maxHeartbeats 4000000













section
variable {Shun : Loc → Prop}
theorem info_parts {P : Program} {t : TypeId} {a : Option Value} {b c : Nat} (h : (P.info? t).map (fun i => (i.zero, i.size, i.bytes)) = some (a, b, c)) : ∃ i, P.info? t = some i ∧ i.zero = a ∧ i.size = b ∧ i.bytes = c := by
  cases e : P.info? t with
  | none => rw [e] at h; simp at h
  | some i =>
    rw [e] at h
    simp only [Option.map_some, Option.some.injEq, Prod.mk.injEq] at h
    exact ⟨i, rfl, h⟩
theorem u64Info : (Try.prog.info? 78).map (fun i => (i.zero, i.size, i.bytes)) = some (some (.agg #[.int .u64 0]), 1, 8) := by kernel_rfl
theorem ones7_W (w : World) : CW Shun 46 #[.int .u64 7] w (fun r w' => r = .int .i64 3 ∧ AtRel w w') := by
  have T9 := termsP Shun
  refine callsW_enter Try.func46 (by kernel_rfl) rfl ?_
  simp only [Try.ntmps46]
  walk_nrm
  have hF := atRel_refl w
  (repeat (first | (refine codeW_seq T9 ?_) | (refine codeW_region T9 ?_; simp only [List.size_toArray, List.length_cons, List.length_nil, Nat.reduceAdd, Nat.zero_add, List.range, List.range.loop]) | (refine opsW_nil T9 ?_; simp only [Exit.then]) | (refine codeW_skip T9 ?_; simp only [Exit.then]) | ((first | refine codeW_cond T9 (t := true) rfl ?_ | refine codeW_cond T9 (t := false) rfl ?_); simp only [if_true, if_false, Bool.false_eq_true, ↓reduceIte]) | (refine opsW_unwanted T9 rfl (by rfl) ?_; try walk_nrm) | (refine opsW_cons rfl (by rfl) ?_; intro _ hR K hK; replace hF := atRel_trans _ _ _ hF hR; clear hR; have hs9 := atRel_size hF; go_simp; refine hK _ _ ⟨?_, ?_⟩; (· rw [listed_nil (by simp [go_sem, *])]; exact dp0_nil); clear hK K hs9; try walk_nrm) | (refine codeW_block T9 ?_)))
  (refine codeW_ret T9 ?_)
  exact ⟨rfl, _, resultsC_tmp rfl _, rfl, hF⟩
theorem words45_W (Mb : Nat) (A : Option Addr) (l c : Nat) (w : World) (hc1 : w.cell? ⟨Mb, 1, none⟩ = some (.slice A l c)) (hS : ∀ o, ¬ Shun (.cell ⟨Mb, o, none⟩)) : CW Shun 45 #[.pointer (some ⟨Mb, 0, none⟩)] w (fun r w' => r = .int .i64 l ∧ AtRel w w') := by
  have T9 := termsP Shun
  have ev9 := fun (p : Option Addr) (w : World) => ev_eq_nil (P := Try.prog) Try.underlying35 p w
  refine callsW_enter Try.func45 (by kernel_rfl) rfl ?_
  simp only [Try.ntmps45]
  walk_nrm
  have hF := atRel_refl w
  (repeat (first | (refine codeW_seq T9 ?_) | (refine codeW_region T9 ?_; simp only [List.size_toArray, List.length_cons, List.length_nil, Nat.reduceAdd, Nat.zero_add, List.range, List.range.loop]) | (refine opsW_nil T9 ?_; simp only [Exit.then]) | (refine codeW_skip T9 ?_; simp only [Exit.then]) | ((first | refine codeW_cond T9 (t := true) rfl ?_ | refine codeW_cond T9 (t := false) rfl ?_); simp only [if_true, if_false, Bool.false_eq_true, ↓reduceIte]) | (refine opsW_unwanted T9 rfl (by rfl) ?_; try walk_nrm) | (refine opsW_cons rfl (by rfl) ?_; intro _ hR K hK; replace hF := atRel_trans _ _ _ hF hR; clear hR; have hs9 := atRel_size hF; go_simp; refine hK _ _ ⟨?_, ?_⟩; (· rw [listed_nil (by simp [go_sem, *])]; exact dp0_nil); clear hK K hs9; try walk_nrm) | (refine codeW_block T9 ?_)))
  (refine opsW_cons rfl (by rfl) ?_; intro _ hR K hK; replace hF := atRel_trans _ _ _ hF hR; clear hR; have hl9 := (atRel_cell hF _).trans hc1; go_simp; refine hK _ _ ⟨?_, ?_⟩; (· intro e he; have hm := mem_listed he; simp [go_sem, hl9] at hm; rw [hm]; exact evP_cell _ (hS _)); clear hK K hl9; try walk_nrm)
  (repeat (first | (refine codeW_seq T9 ?_) | (refine codeW_region T9 ?_; simp only [List.size_toArray, List.length_cons, List.length_nil, Nat.reduceAdd, Nat.zero_add, List.range, List.range.loop]) | (refine opsW_nil T9 ?_; simp only [Exit.then]) | (refine codeW_skip T9 ?_; simp only [Exit.then]) | ((first | refine codeW_cond T9 (t := true) rfl ?_ | refine codeW_cond T9 (t := false) rfl ?_); simp only [if_true, if_false, Bool.false_eq_true, ↓reduceIte]) | (refine opsW_unwanted T9 rfl (by rfl) ?_; try walk_nrm) | (refine opsW_cons rfl (by rfl) ?_; intro _ hR K hK; replace hF := atRel_trans _ _ _ hF hR; clear hR; have hs9 := atRel_size hF; go_simp; refine hK _ _ ⟨?_, ?_⟩; (· rw [listed_nil (by simp [go_sem, *])]; exact dp0_nil); clear hK K hs9; try walk_nrm) | (refine codeW_block T9 ?_)))
  (refine codeW_ret T9 ?_)
  exact ⟨rfl, _, resultsC_tmp rfl _, rfl, hF⟩
theorem newMarks_W (n : Nat) (hn : n ≤ 65536) (w : World) : CW Shun 13 #[.int .i64 n] w (fun r w' => r = .tuple #[.pointer (some ⟨w.heap.size + 1, 0, none⟩), .int .i64 0] ∧ AtRel ((w.alloc (.cells (Array.replicate ((n + 63) / 64) (.int .u64 0)) 78)).alloc (.cells #[.int .i64 n, .slice (some ⟨w.heap.size, 0, none⟩) ((n + 63) / 64) ((n + 63) / 64)] 74)) w') := by
  have T9 := termsP Shun
  have e8 : decide ((n : Int) < 0) = false := decide_eq_false (by omega)
  have e9 : decide ((65536 : Int) < n) = false := decide_eq_false (by omega)
  have e7 : IntKind.i64.wrap ((n : Int) + 64) = (n : Int) + 64 := by rw [IntKind.wrap_i64]; omega
  have e6 : IntKind.i64.wrap ((n : Int) + 64 - 1) = (n : Int) + 63 := by rw [IntKind.wrap_i64]; omega
  obtain ⟨k, hk⟩ : ∃ k, RowKit.Hid (k = (n + 63) / 64) := ⟨_, rfl⟩
  have e5 : IntKind.i64.wrap (((n : Int) + 63).tdiv 64) = (k : Int) := by
    rw [Int.tdiv_eq_ediv_of_nonneg (by omega), IntKind.wrap_i64, hk.out]
    omega
  have k1 : k ≤ 1025 := by rw [hk.out]; omega
  rw [← hk.out]
  refine callsW_enter Try.func13 (by kernel_rfl) rfl ?_
  simp only [Try.ntmps13]
  walk_nrm
  have hF := atRel_refl w
  (repeat (first | (refine codeW_seq T9 ?_) | (refine codeW_region T9 ?_; simp only [List.size_toArray, List.length_cons, List.length_nil, Nat.reduceAdd, Nat.zero_add, List.range, List.range.loop]) | (refine opsW_nil T9 ?_; simp only [Exit.then]) | (refine codeW_skip T9 ?_; simp only [Exit.then]) | ((first | refine codeW_cond T9 (t := true) rfl ?_ | refine codeW_cond T9 (t := false) rfl ?_); simp only [if_true, if_false, Bool.false_eq_true, ↓reduceIte]) | (refine opsW_unwanted T9 rfl (by rfl) ?_; try walk_nrm) | (refine opsW_cons rfl (by rfl) ?_; intro _ hR K hK; replace hF := atRel_trans _ _ _ hF hR; clear hR; have hs9 := atRel_size hF; go_simp; refine hK _ _ ⟨?_, ?_⟩; (· rw [listed_nil (by simp [go_sem, *])]; exact dp0_nil); clear hK K hs9; try walk_nrm) | (refine codeW_block T9 ?_)))
  have hmk : ∀ W : World, (Instr.makeSlice 72 (.int .i64 (k : Int)) (.int .i64 (k : Int))).run Try.prog W = .ok (.slice (some ⟨W.heap.size, 0, none⟩) k k) (W.alloc (.cells (Array.replicate k (.int .u64 0)) 78)) := fun W => by
    obtain ⟨i0, hi, hz0, hz1, hz2⟩ := info_parts u64Info
    have := run_makeSlice (P := Try.prog) W _ _ i0 _ Try.underlying72 hi hz0 .i64 .i64 k k (by omega) (by omega) (by rw [hz1]; omega) (by rw [hz2]; omega) (by omega)
    rw [this]
    have hc : madeCells (Value.cells (.agg #[.int .u64 0])) ((k : Int).toNat * i0.size) = Array.replicate k (Value.int .u64 0) := by
      rw [hz1, Int.toNat_natCast, Nat.mul_one]
      apply Array.ext
      · simp [madeCells]
      · intro q h1 h2
        simp [madeCells, Value.cells, Nat.mod_one]
    rw [hc]
    simp only [Int.toNat_natCast]
  have hme : ∀ W : World, (Instr.makeSlice 72 (.int .i64 (k : Int)) (.int .i64 (k : Int))).events Try.prog W #[] = #[] := fun W => by
    obtain ⟨i0, hi, hz0, hz1, hz2⟩ := info_parts u64Info
    exact events_make W _ _ i0 _ Try.underlying72 hi hz0 .i64 .i64 k k (by omega) (by omega) (by rw [hz2]; omega) (by omega) (by rw [hz2, Int.toNat_natCast]; omega) #[]
  have hbd : ∀ (W : World) (n : Int) (A : Option Addr) (l c : Nat), (Instr.build 74 #[(0, .int .i64 n), (1, .slice A l c)]).run Try.prog W = .ok (.agg #[.int .i64 n, .slice A l c]) W := fun W n A l c => by kernel_rfl
  have hbe : ∀ (W : World) (n : Int) (A : Option Addr) (l c : Nat), (Instr.build 74 #[(0, .int .i64 n), (1, .slice A l c)]).events Try.prog W #[] = #[] := fun W n A l c => by kernel_rfl
  (refine opsW_cons rfl (by rfl) ?_; intro _ hR K hK; replace hF := atRel_trans _ _ _ hF hR; clear hR; have hs9 := atRel_size hF; go_simp; refine hK _ _ ⟨?_, ?_⟩; (· rw [listed_nil (by simp [go_sem, *])]; exact dp0_nil); clear hK K hs9; try walk_nrm)
  replace hF := atRel_alloc hF (.cells (Array.replicate k (.int .u64 0)) 78)
  repeat (refine opsW_cons rfl (by rfl) ?_; intro _ hR K hK; replace hF := atRel_trans _ _ _ hF hR; clear hR; have hs9 := atRel_size hF; go_simp; refine hK _ _ ⟨?_, ?_⟩; (· rw [listed_nil (by simp [go_sem, *])]; exact dp0_nil); clear hK K hs9; try walk_nrm)
  replace hF := atRel_alloc hF (.cells #[.int .i64 n, .slice (some ⟨w.heap.size, 0, none⟩) k k] 74)
  (repeat (first | (refine codeW_seq T9 ?_) | (refine codeW_region T9 ?_; simp only [List.size_toArray, List.length_cons, List.length_nil, Nat.reduceAdd, Nat.zero_add, List.range, List.range.loop]) | (refine opsW_nil T9 ?_; simp only [Exit.then]) | (refine codeW_skip T9 ?_; simp only [Exit.then]) | ((first | refine codeW_cond T9 (t := true) rfl ?_ | refine codeW_cond T9 (t := false) rfl ?_); simp only [if_true, if_false, Bool.false_eq_true, ↓reduceIte]) | (refine opsW_unwanted T9 rfl (by rfl) ?_; try walk_nrm) | (refine opsW_cons rfl (by rfl) ?_; intro _ hR K hK; replace hF := atRel_trans _ _ _ hF hR; clear hR; have hs9 := atRel_size hF; go_simp; refine hK _ _ ⟨?_, ?_⟩; (· rw [listed_nil (by simp [go_sem, *])]; exact dp0_nil); clear hK K hs9; try walk_nrm) | (refine codeW_block T9 ?_)))
  (refine codeW_ret T9 ?_)
  exact ⟨rfl, _, resultsC_tmp2 rfl _, rfl, hF⟩
end
end Go.Proofs.Ytkcknoodcgmndaa
