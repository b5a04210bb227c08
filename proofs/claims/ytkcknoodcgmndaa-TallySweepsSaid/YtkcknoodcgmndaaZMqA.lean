/- TallyMarks: the memory of the law; a mark's copy; is it in range. -/
import Derived.Test.YtkcknoodcgmndaaZMpA
import Derived.Test.YtkcknoodcgmndaaZReB
import Derived.Test.YtkcknoodcgmndaaZReC
import Derived.Test.YtkcknoodcgmndaaZRfG
import Derived.Test.YtkcknoodcgmndaaZTbA
namespace Go.Proofs.Ytkcknoodcgmndaa
open Go.Conc Go.RowKit
set_option linter.unusedVariables false
set_option linter.unusedSimpArgs false
set_option maxRecDepth 100000
set_option maxHeartbeats 8000000














structure KAt (w0 : World) (n : Nat) (ws : List Nat) (v : Value) (W : World) : Prop where
  bel : Below w0.heap.size w0 W
  mm : MkMem W (w0.heap.size + 1) w0.heap.size n ((n + 63) / 64) ws
  own : Own (w0.heap.size + 2) W v (markL ws n)
  size : w0.heap.size + 2 ≤ W.heap.size
  clean : Clean ws n
theorem KAt.below {w0 W W' : World} {n : Nat} {ws : List Nat} {v : Value} (h : KAt w0 n ws v W) (b : Below W.heap.size W W') : KAt w0 n ws v W' := by
  have hs := h.size
  exact ⟨h.bel.trans ⟨b.os, b.tape, b.output, b.size, fun g hg => b.block g (by have := h.bel.size; omega)⟩, h.mm.of (b.block _ (by omega)) (b.block _ (by omega)), h.own.keep (fun g _ hg => b.block g hg), Nat.le_trans hs b.size, h.clean⟩
theorem KAt.at {w0 W W' : World} {n : Nat} {ws : List Nat} {v : Value} (h : KAt w0 n ws v W) (r : AtRel W W') : KAt w0 n ws v W' := h.below (below_at (below_self _ W) r)
theorem KAt.flip {w0 W W' : World} {n y : Nat} {ws : List Nat} {v v' : Value} (h : KAt w0 n ws v W) (hy : y < n) (o : Own (w0.heap.size + 2) W v' (markL (flipW ws y) n))
    (hr : AtRel (W.setCell ⟨w0.heap.size, y / 64, none⟩ (.int .u64 ((ws.getD (y / 64) 0 ^^^ 2 ^ (y % 64) : Nat) : Int))) W') : KAt w0 n (flipW ws y) v' W' := by
  have hq : y / 64 < ws.length := by have := h.mm.room; omega
  have hs := h.size
  have z := aside_setCell W ⟨w0.heap.size, y / 64, none⟩ (.int .u64 ((ws.getD (y / 64) 0 ^^^ 2 ^ (y % 64) : Nat) : Int))
  have k : KAt w0 n (flipW ws y) v' (W.setCell ⟨w0.heap.size, y / 64, none⟩ (.int .u64 ((ws.getD (y / 64) 0 ^^^ 2 ^ (y % 64) : Nat) : Int))) :=
    ⟨below_set h.bel _ (by show w0.heap.size ≤ w0.heap.size; omega) _, h.mm.flip hy, o.keep (fun g hg _ => z.block g (by show g ≠ w0.heap.size; omega)), by rw [z.size]; exact hs, h.clean.flip hy hq⟩
  exact k.at hr
end Go.Proofs.Ytkcknoodcgmndaa
