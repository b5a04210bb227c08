/- No table: nil receivers; the walk of SessNil. -/
import Derived.Test.YtcmaekkfeilclaaSesF
import Derived.Laws.StructEq
namespace Go.Proofs.Ytcmaekkfeilclaa
open Go.RowKit
set_option linter.unusedSimpArgs false
set_option linter.unusedVariables false
set_option maxHeartbeats 1000000
set_option maxRecDepth 100000
attribute [local go_sem] Rw.agg Rw.cells

theorem judgeNil (who num : Int) (w : World) : Calls Try.prog 9 #[.pointer none, .int .i64 who, .int .u64 num] w fun e w' => e = .returned (.int .i64 2) ∧ w = w' := by
  go_enter Try.func9, Try.ntmps9
  go_wp2
  all_goals (go_ret; exact ⟨rfl, rfl⟩)
theorem getNil (who : Int) (w : World) : Calls Try.prog 8 #[.pointer none, .int .i64 who] w fun e w' => e = .returned (.tuple #[Rw.zero.agg, .bool false]) ∧ w.alloc (.cells Rw.zero.cells 28) = w' := by
  unfold Rw.agg Rw.cells Rw.zero
  go_enter Try.func8, Try.ntmps8
  go_wp2
  refine bodyPost_ret (v := .tuple #[Rw.zero.agg, .bool false]) (by simp [results, Try.results8, go_sem, Rw.zero]) rfl ⟨rfl, rfl⟩
theorem setNil (r : Rw) (w : World) : Calls Try.prog 10 #[.pointer none, r.agg] w fun e w' => e = .returned (.int .i64 2) ∧ w.alloc (.cells r.cells 28) = w' := by
  unfold Rw.agg Rw.cells
  go_enter Try.func10, Try.ntmps10
  go_wp2
  go_ret
  exact ⟨rfl, rfl⟩
theorem allNil (w : World) : Calls Try.prog 18 #[.pointer none] w fun e w' => e = .returned (.slice none 0 0) ∧ Below w.heap.size w w' := by
  go_enter Try.func18, Try.ntmps18
  go_wp2
  go_loopw [3, 7] (fun v i wr => ∃ k : Nat, k ≤ 6 ∧ i = .int .i64 k ∧ v = .slice none 0 0 ∧ Hid (Below w.heap.size w wr)) (fun _ i _ => 6 - (intOf i).toNat)
  case atStart => exact ⟨0, by omega, rfl, rfl, Lib.hid (Below.refl _ _)⟩
  case round =>
    obtain ⟨k, hk, rfl, rfl, hb⟩ := hrel
    have hs := hb.out.size
    by_cases hlt : k < 6
    · go_wp2_with (first | (go_at_call 8; refine (getNil _ _).mono ?_; rintro e w' ⟨rfl, rfl⟩) | fail)
      go_roundw
      case rel => exact ⟨k + 1, by omega, by go_num, rfl, Lib.hid (((hb.out.alloc hs _).alloc (by simp; omega) _))⟩
      case measure => simp [intOf]; omega
    · obtain rfl : k = 6 := by omega
      go_wp2
      go_ret
      exact ⟨rfl, hb.out⟩
theorem lenNil (w : World) : Calls Try.prog 16 #[.pointer none] w fun e w' => e = .returned (.int .i64 0) ∧ Below w.heap.size w w' := by
  go_enter Try.func16, Try.ntmps16
  go_wp2_with (fail)
  refine (allNil _).mono ?_
  rintro e w1 ⟨rfl, h1⟩
  have H1 := Lib.hid h1
  clear h1
  go_wp2
  go_ret
  exact ⟨rfl, H1.out⟩
theorem putTNil (v : Value) (w : World) : Calls Try.prog 21 #[.pointer none, v] w fun e w' => e = .returned (.tuple #[]) ∧ w = w' := by
  go_enter Try.func21, Try.ntmps21
  go_wp2
  first | (go_end0; exact ⟨rfl, rfl⟩) | (refine bodyPost_ret (results_none rfl _ _ _) rfl ?_; exact ⟨rfl, rfl⟩)

theorem newO (w : World) : Calls Try.prog 20 #[.int .i64 50] w fun e w' => e = .returned (.pointer (some ⟨w.heap.size, 0, none⟩)) ∧ w.alloc (.cells #[.slice none 0 0, .int .i64 50, .int .i64 0] 73) = w' := by
  go_enter Try.func20, Try.ntmps20
  go_wp2
  go_ret
  exact ⟨rfl, rfl⟩
theorem cloneO (w : World) : Calls Try.prog 34 #[.slice none 0 0] w fun e w' => e = .returned (.slice none 0 0) ∧ w = w' := by
  have hnil := fun w => Lib.run_eql_slice_nil (P := Try.prog) w 51 5 none 0 0 0 0 Try.underlying51
  go_enter Try.func34, Try.ntmps34
  go_wp2
  go_ret
  exact ⟨rfl, rfl⟩
theorem blk_new_at (w : World) (t : TypeId) (cs : Array Value) (g : Nat) (hg : g = w.heap.size) : Blk (w.alloc (.cells cs t)) g t cs := by subst hg; exact Blk.new _ _ _
theorem doneO (g : Nat) (w : World) (h : Blk w g 73 #[.slice none 0 0, .int .i64 50, .int .i64 0]) : Calls Try.prog 22 #[.pointer (some ⟨g, 0, none⟩)] w fun e w' => e = .returned (.tuple #[.slice none 0 0, .int .i64 0]) ∧ w = w' := by
  have c0 := h.cell 0
  have c2 := h.cell 2
  simp only [List.getElem?_toArray, List.getElem?_cons_succ, List.getElem?_cons_zero] at c0 c2
  go_enter Try.func22, Try.ntmps22
  go_wp2_with (first | (go_at_call 34; refine (cloneO _).mono ?_; rintro e w' ⟨rfl, rfl⟩) | fail)
  go_ret2
  exact ⟨rfl, rfl⟩

theorem below_allocs {w W w' : World} (h : Below W.heap.size W w') (hb : Below w.heap.size w W) : Below w.heap.size w w' := hb.trans (h.mono hb.size)

theorem sessNil_law (r : Rw) (who num : Int) (w : World) :
    Calls Try.prog 5 #[r.agg, .int .i64 who, .int .u64 num] w fun e w' => e = .returned (.bool true) ∧ Below w.heap.size w w' := by
  go_enter Try.func5, Try.ntmps5
  go_wp2_with (fail)
  refine (newO _).mono ?_
  rintro e w1 ⟨rfl, rfl⟩
  go_wp2_with (fail)
  refine (putTNil _ _).mono ?_
  rintro e w1 ⟨rfl, rfl⟩
  go_wp2_with (fail)
  refine (doneO _ _ (by exact blk_new_at _ _ _ _ (by simp))).mono ?_
  rintro e w1 ⟨rfl, rfl⟩
  go_wp2_with (fail)
  refine (getNil who _).mono ?_
  rintro e w1 ⟨rfl, rfl⟩
  go_wp2_with (fail)
  refine (judgeNil _ _ _).mono ?_
  rintro e w1 ⟨rfl, rfl⟩
  go_wp2_with (fail)
  refine (ours_any r _).mono ?_
  rintro e w1 ⟨rfl, rfl⟩
  go_wp2_with (fail)
  refine (setNil r _).mono ?_
  rintro e w1 ⟨rfl, rfl⟩
  go_wp2_with (fail)
  refine (allNil _).mono ?_
  rintro e w1 ⟨rfl, h1⟩
  have H1 := Lib.hid (below_allocs (w := w) h1 (by repeat (first | with_reducible exact Below.refl _ _ | with_reducible refine Below.alloc ?_ (by simp <;> omega) _)))
  clear h1
  go_wp2_with (fail)
  refine (lenNil _).mono ?_
  rintro e w2 ⟨rfl, h1⟩
  have H2 := Lib.hid (H1.out.trans (h1.mono H1.out.size))
  clear h1
  go_wp2_with (fail)
  refine (awake_any _).mono ?_
  rintro e w3 ⟨rfl, h1⟩
  have H3 := Lib.hid (H2.out.trans (h1.mono H2.out.size))
  clear h1
  go_wp2
  go_ret
  exact ⟨rfl, H3.out⟩
end Go.Proofs.Ytcmaekkfeilclaa
