/- TallyClock: words; the law's end. -/
import Derived.Test.YtkcknoodcgmndaaZTbA
namespace Go.Proofs.Ytkcknoodcgmndaa
open Go.Conc Go.RowKit
set_option linter.unusedVariables false
set_option linter.unusedSimpArgs false
set_option maxRecDepth 100000
set_option maxHeartbeats 4000000













structure CkAt (w : World) (v : Int) (w' : World) : Prop where
  bel : Below w.heap.size w w'
  cell : w'.cell? ⟨w.heap.size, 0, none⟩ = some (.int .u64 v)
  thaw : w'.frozen? ⟨w.heap.size, 0, none⟩ = false
theorem CkAt.at {w W W' : World} {v : Int} (h : CkAt w v W) (r : AtRel W W') : CkAt w v W' := by
  obtain ⟨q, rfl⟩ := r
  exact ⟨⟨h.bel.os, h.bel.tape, h.bel.output, h.bel.size, h.bel.block⟩, h.cell, h.thaw⟩
theorem CkAt.set {w W : World} {v : Int} (h : CkAt w v W) (u : Int) : CkAt w u (W.setCell ⟨w.heap.size, 0, none⟩ (.int .u64 u)) := by
  have a := aside_setCell W ⟨w.heap.size, 0, none⟩ (.int .u64 u)
  refine ⟨⟨a.os.trans h.bel.os, a.tape.trans h.bel.tape, a.output.trans h.bel.output, ?_, fun g hg => (a.block g (by show g ≠ w.heap.size; omega)).trans (h.bel.block g hg)⟩, ?_, ?_⟩
  · rw [a.size]; exact h.bel.size
  · exact World.cell?_setCell_same _ _ _ h.cell
  · exact (World.frozen?_setCell _ _ _ _).trans h.thaw
theorem CkAt.new (w : World) (u : Int) : CkAt w u ((w.alloc (.cells #[.int .u64 0] 88)).setCell ⟨w.heap.size, 0, none⟩ (.int .u64 u)) :=
  CkAt.set (w := w) (W := w.alloc (.cells #[.int .u64 0] 88)) (v := 0) ⟨⟨rfl, rfl, rfl, by simp, fun g hg => Below.heap_alloc _ _ _ hg⟩, box_cell (alloc_new w _), box_thaw (alloc_new w _)⟩ u
end Go.Proofs.Ytkcknoodcgmndaa
