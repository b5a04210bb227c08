/- TallyMarks: the law's end; NewMarks where it refuses; the memory where the loop begins. -/
import Derived.Test.YtkcknoodcgmndaaZMqA
import Derived.Test.YtkcknoodcgmndaaZTbA
namespace Go.Proofs.Ytkcknoodcgmndaa
open Go.Conc Go.RowKit
set_option linter.unusedVariables false
set_option linter.unusedSimpArgs false
set_option maxRecDepth 100000
set_option maxHeartbeats 8000000



















section
variable {Shun : Loc → Prop}
end
theorem KAt.new (w : World) (n : Nat) (hn : n ≤ 65536) : KAt w n (List.replicate ((n + 63) / 64) 0) (.slice none 0 0) ((w.alloc (.cells (Array.replicate ((n + 63) / 64) (.int .u64 0)) 78)).alloc (.cells #[.int .i64 n, .slice (some ⟨w.heap.size, 0, none⟩) ((n + 63) / 64) ((n + 63) / 64)] 74)) where
  bel := below_alloc9 (below_alloc9 (below_self _ w) (Nat.le_refl _) _) (Nat.le_refl _) _
  mm := by
    refine ⟨?_, ?_, by omega, ?_, ?_, hn, ?_⟩
    · have := alloc_new (w.alloc (.cells (Array.replicate ((n + 63) / 64) (.int .u64 0)) 78)) (.cells #[.int .i64 n, .slice (some ⟨w.heap.size, 0, none⟩) ((n + 63) / 64) ((n + 63) / 64)] 74)
      rw [List.length_replicate]
      simpa using this
    · rw [Below.heap_alloc _ _ _ (by simp), alloc_new w _]
      rw [List.map_replicate, List.toArray_replicate]
      rfl
    · intro v hv
      rw [List.eq_of_mem_replicate hv]
      decide
    · rw [List.length_replicate]; omega
    · rw [List.length_replicate]; omega
  own := by
    rw [markL_zero]
    exact World.ownsRow_nil _ _ _ _
  size := by simp
  clean := fun k _ => bitW_zero _ _
end Go.Proofs.Ytkcknoodcgmndaa
