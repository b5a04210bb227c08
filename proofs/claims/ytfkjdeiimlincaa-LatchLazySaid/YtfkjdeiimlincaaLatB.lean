/- A latch of uint64: New, Set, Get, Or. -/
import Derived.Test.YtfkjdeiimlincaaLatA
namespace Go.Proofs.Ytfkjdeiimlincaa
open Go.RowKit
set_option linter.unusedSimpArgs false
set_option linter.unusedVariables false
set_option maxRecDepth 100000
set_option maxHeartbeats 8000000

/-- a latch: whether it is set, its value -/
def LatU (w : World) (g : Nat) (b : Bool) (v : Int) : Prop := Blk w g 57 #[.int .u32 (if b then 1 else 0), .int .i32 0, .int .u32 0, .int .u32 (if b then 1 else 0), .int .u64 v]
theorem newU_any (w : World) : Calls Try.prog 5 #[] w fun e w' => e = .returned (.pointer (some ⟨w.heap.size, 0, none⟩)) ∧ LatU w' w.heap.size false 0 ∧ Below w.heap.size w w' := by
  go_enter Try.func5, Try.ntmps5
  go_wp2
  go_ret
  exact ⟨rfl, Blk.new _ _ _, (Below.refl _ _).alloc (Nat.le_refl _) _⟩
theorem getU_any (g : Nat) (b : Bool) (v : Int) (w : World) (h : LatU w g b v) :
    Calls Try.prog 8 #[.pointer (some ⟨g, 0, none⟩)] w fun e w' => e = .returned (.tuple #[.int .u64 (if b then v else 0), .bool b]) ∧ w = w' := by
  have c3 : w.cell? ⟨g, 3, none⟩ = some (.int .u32 (if b then 1 else 0)) := h.cell 3
  have c4 : w.cell? ⟨g, 4, none⟩ = some (.int .u64 v) := h.cell 4
  have hnot := run_not
  have hB := fun w h => bload_any ⟨g, 3, none⟩ (if b then 1 else 0) w h
  clear h
  cases b
  · go_enter Try.func8, Try.ntmps8
    go_wp2_with (first | (go_at_call 19; refine (hB _ c3).mono ?_; rintro e w' ⟨rfl, rfl⟩) | fail)
    go_ret2
    exact ⟨rfl, rfl⟩
  · go_enter Try.func8, Try.ntmps8
    go_wp2_with (first | (go_at_call 19; refine (hB _ c3).mono ?_; rintro e w' ⟨rfl, rfl⟩) | fail)
    go_ret2
    exact ⟨rfl, rfl⟩
theorem setFU_any (g vB lB fB : Nat) (x v : Int) (w : World) (hv : Blk w vB 25 #[.int .u64 x]) (hl : Blk w lB 23 #[.pointer (some ⟨g, 0, none⟩)]) (hf : Blk w fB 4 #[.bool false])
    (hg : Blk w g 57 #[.int .u32 0, .int .i32 1, .int .u32 0, .int .u32 0, .int .u64 v]) :
    Calls Try.prog 17 #[.pointer (some ⟨vB, 0, none⟩), .pointer (some ⟨lB, 0, none⟩), .pointer (some ⟨fB, 0, none⟩)] w fun e w' => e = .returned (.tuple #[]) ∧
      w' = ((w.setCell ⟨g, 4, none⟩ (.int .u64 x)).setCell ⟨fB, 0, none⟩ (.bool true)).drew.setCell ⟨g, 3, none⟩ (.int .u32 1) := by
  have c0 : w.cell? ⟨vB, 0, none⟩ = some (.int .u64 x) := hv.cell 0
  have c1 : w.cell? ⟨lB, 0, none⟩ = some (.pointer (some ⟨g, 0, none⟩)) := hl.cell 0
  have c2 : w.cell? ⟨fB, 0, none⟩ = some (.bool false) := hf.cell 0
  have c4 : w.cell? ⟨g, 4, none⟩ = some (.int .u64 v) := hg.cell 4
  have f2 := hf.frozen 0
  have f4 := hg.frozen 4
  have n1 : g ≠ lB := Blk.ne_ hg hl (by decide)
  have n2 : g ≠ fB := Blk.ne_ hg hf (by decide)
  have n3 : fB ≠ lB := Blk.ne_ hf hl (by decide)
  have n1' := n1.symm
  have n2' := n2.symm
  have n3' := n3.symm
  have hg2 := ((hg.set_ 4 (.int .u64 x)).far (p := ⟨fB, 0, none⟩) n2 (.bool true))
  have c3 : ((w.setCell ⟨g, 4, none⟩ (.int .u64 x)).setCell ⟨fB, 0, none⟩ (.bool true)).cell? ⟨g, 3, none⟩ = some (.int .u32 0) := hg2.cell 3
  have f3 := hg2.frozen 3
  have hS := Lib.hid (bstore_any ⟨g, 3, none⟩ (.int .u32 0) _ c3 f3)
  clear hv hl hf hg hg2 c3 f3
  go_enter Try.func17, Try.ntmps17
  go_wp2_with (fail)
  refine hS.out.mono ?_
  rintro e w' ⟨rfl, rfl⟩
  go_wp2
  go_end0
  exact ⟨rfl, rfl⟩
theorem setFU_enter : ∀ (args : Array Value) (w : World), (callFunc 17 args).run Try.prog w = .ok (.enter 17 args) w :=
  enters_of Try.func17 (by kernel_rfl) rfl
theorem setU_any (g : Nat) (b : Bool) (v x : Int) (w : World) (h : LatU w g b v) :
    Calls Try.prog 7 #[.pointer (some ⟨g, 0, none⟩), .int .u64 x] w fun e w' => e = .returned (.bool (!b)) ∧ LatU w' g true (if b then v else x) ∧ Chg w w' (fun k => k = g) := by
  have hmf : ∀ (fn : Fn) (first cap : Array Value) (w : World), (Instr.makeFunc fn first cap).run Try.prog w = .ok (.func fn first cap) w := fun _ _ _ _ => rfl
  have H := Lib.hid h
  have hlt := h.lt
  have hfw : w.heap.size ≤ w.heap.size + 1 + 1 := by omega
  have hlB : Hid (Blk (((w.alloc (.cells #[.pointer (some ⟨g, 0, none⟩)] 23)).alloc (.cells #[.int .u64 x] 25)).alloc (.cells #[.bool false] 4)) w.heap.size 23 #[.pointer (some ⟨g, 0, none⟩)]) := Lib.hid (((Blk.new w _ _).alloc _).alloc _)
  have hvB : Hid (Blk (((w.alloc (.cells #[.pointer (some ⟨g, 0, none⟩)] 23)).alloc (.cells #[.int .u64 x] 25)).alloc (.cells #[.bool false] 4)) (w.heap.size + 1) 25 #[.int .u64 x]) := Lib.hid (by
    have := (Blk.new (w.alloc (.cells #[.pointer (some ⟨g, 0, none⟩)] 23)) 25 #[.int .u64 x]).alloc (.cells #[.bool false] 4)
    simpa using this)
  have hfB : Hid (Blk (((w.alloc (.cells #[.pointer (some ⟨g, 0, none⟩)] 23)).alloc (.cells #[.int .u64 x] 25)).alloc (.cells #[.bool false] 4)) (w.heap.size + 1 + 1) 4 #[.bool false]) := Lib.hid (by
    have := Blk.new ((w.alloc (.cells #[.pointer (some ⟨g, 0, none⟩)] 23)).alloc (.cells #[.int .u64 x] 25)) 4 #[.bool false]
    simpa using this)
  have hbel : Hid (Below w.heap.size w (((w.alloc (.cells #[.pointer (some ⟨g, 0, none⟩)] 23)).alloc (.cells #[.int .u64 x] 25)).alloc (.cells #[.bool false] 4))) := Lib.hid ((((Below.refl _ _).alloc (Nat.le_refl _) _).alloc (by simp) _).alloc (by simp <;> omega) _)
  have hd5 : (((w.alloc (.cells #[.pointer (some ⟨g, 0, none⟩)] 23)).alloc (.cells #[.int .u64 x] 25)).alloc (.cells #[.bool false] 4)).cell? ⟨w.heap.size, 0, none⟩ = some (.pointer (some ⟨g, 0, none⟩)) := hlB.out.cell 0
  clear h
  go_enter Try.func7, Try.ntmps7
  go_wp2_with (fail)
  have hLW : Hid (LatU (((w.alloc (.cells #[.pointer (some ⟨g, 0, none⟩)] 23)).alloc (.cells #[.int .u64 x] 25)).alloc (.cells #[.bool false] 4)) g b v) := Lib.hid (H.out.below hbel.out hlt)
  clear hd5
  generalize ((w.alloc (.cells #[.pointer (some ⟨g, 0, none⟩)] 23)).alloc (.cells #[.int .u64 x] 25)).alloc (.cells #[.bool false] 4) = W0 at *
  generalize w.heap.size + 1 + 1 = fB at *
  generalize w.heap.size + 1 = vB at *
  obtain ⟨lB, hl⟩ : ∃ lB, lB = w.heap.size := ⟨_, rfl⟩
  rw [← hl] at hlB ⊢
  clear hl
  have n2 : g ≠ fB := Blk.ne_ hLW.out hfB.out (by decide)
  have n1 : g ≠ lB := Blk.ne_ hLW.out hlB.out (by decide)
  have n3 : g ≠ vB := Blk.ne_ hLW.out hvB.out (by decide)
  have n4 : lB ≠ fB := Blk.ne_ hlB.out hfB.out (by decide)
  cases b
  · have hG : Blk W0 g 57 #[.int .u32 0, .int .i32 0, .int .u32 0, .int .u32 0, .int .u64 v] := hLW.out
    have C := setFU_any g vB lB fB x v (W0.setCell ⟨g, 1, none⟩ (.int .i32 1)) (hvB.out.far (p := ⟨g, 1, none⟩) n3.symm _) (hlB.out.far (p := ⟨g, 1, none⟩) n1.symm _) (hfB.out.far (p := ⟨g, 1, none⟩) n2.symm _) (hG.set_ 1 (.int .i32 1))
    have hG2 : Blk ((((W0.setCell ⟨g, 1, none⟩ (.int .i32 1)).setCell ⟨g, 4, none⟩ (.int .u64 x)).setCell ⟨fB, 0, none⟩ (.bool true)).drew.setCell ⟨g, 3, none⟩ (.int .u32 1)) g 57 #[.int .u32 0, .int .i32 1, .int .u32 0, .int .u32 1, .int .u64 x] :=
      ((((hG.set_ 1 (.int .i32 1)).set_ 4 (.int .u64 x)).far (p := ⟨fB, 0, none⟩) n2 (.bool true)).drew).set_ 3 (.int .u32 1)
    have hF2 : Blk ((((W0.setCell ⟨g, 1, none⟩ (.int .i32 1)).setCell ⟨g, 4, none⟩ (.int .u64 x)).setCell ⟨fB, 0, none⟩ (.bool true)).drew.setCell ⟨g, 3, none⟩ (.int .u32 1)) fB 4 #[.bool true] :=
      (((((hfB.out.far (p := ⟨g, 1, none⟩) n2.symm (.int .i32 1)).far (p := ⟨g, 4, none⟩) n2.symm (.int .u64 x)).set_ 0 (.bool true)).drew).far (p := ⟨g, 3, none⟩) n2.symm (.int .u32 1))
    have hC2 : Chg W0 ((((W0.setCell ⟨g, 1, none⟩ (.int .i32 1)).setCell ⟨g, 4, none⟩ (.int .u64 x)).setCell ⟨fB, 0, none⟩ (.bool true)).drew.setCell ⟨g, 3, none⟩ (.int .u32 1)) (fun k => k = g ∨ k = fB) :=
      ⟨rfl, rfl, rfl, by simp [World.setCell, World.drew], fun k hk hn => by
        have e1 : k ≠ g := fun e => hn (.inl e)
        have e2 : k ≠ fB := fun e => hn (.inr e)
        rw [Below.heap_setCell _ _ _ k e1]
        show (((W0.setCell ⟨g, 1, none⟩ (.int .i32 1)).setCell ⟨g, 4, none⟩ (.int .u64 x)).setCell ⟨fB, 0, none⟩ (.bool true)).heap[k]? = _
        rw [Below.heap_setCell _ _ _ k e2, Below.heap_setCell _ _ _ k e1, Below.heap_setCell _ _ _ k e1]⟩
    have D := Lib.hid (do_first g 17 setFU_enter #[.pointer (some ⟨vB, 0, none⟩), .pointer (some ⟨lB, 0, none⟩), .pointer (some ⟨fB, 0, none⟩)]
      (fun w2 => Blk w2 g 57 #[.int .u32 0, .int .i32 1, .int .u32 0, .int .u32 1, .int .u64 x] ∧ Blk w2 fB 4 #[.bool true] ∧ Chg W0 w2 (fun k => k = g ∨ k = fB)) W0 (hG.cell 0) (hG.cell 1) (hG.frozen 1)
      (by
        have := C.mono (R' := fun e w2 => e = .returned (.tuple #[]) ∧ (Blk w2 g 57 #[.int .u32 0, .int .i32 1, .int .u32 0, .int .u32 1, .int .u64 x] ∧ Blk w2 fB 4 #[.bool true] ∧ Chg W0 w2 (fun k => k = g ∨ k = fB))) (fun e w2 ⟨he, hw⟩ => ⟨he, by rw [hw]; exact ⟨hG2, hF2, hC2⟩⟩)
        simpa using this)
      (fun w2 hw => ⟨⟨hw.1.cell 0, hw.1.frozen 0⟩, hw.1.cell 1, hw.1.frozen 1⟩))
    clear C hG hG2 hF2 hC2
    refine D.out.mono ?_
    rintro e w3 ⟨rfl, w2, ⟨hg2, hf2, hc2⟩, rfl⟩
    have hfin : Hid (LatU (onced w2 g) g true x ∧ Blk (onced w2 g) fB 4 #[.bool true] ∧ Chg W0 (onced w2 g) (fun k => k = g ∨ k = fB)) := Lib.hid ⟨((hg2.drew).set_ 0 (.int .u32 1)).set_ 1 (.int .i32 0), ((hf2.drew).far (p := ⟨g, 0, none⟩) n2.symm _).far (p := ⟨g, 1, none⟩) n2.symm _,
      hc2.trans (T := fun k => k = g) ⟨rfl, rfl, rfl, Nat.le_of_eq (by unfold onced; simp only [World.setCell, Array.size_modify]; rfl), fun k hk hn => by
        unfold onced
        rw [Below.heap_setCell _ _ _ k hn, Below.heap_setCell _ _ _ k hn]; rfl⟩ (fun _ _ h => .inl h)⟩
    have c2 : (onced w2 g).cell? ⟨fB, 0, none⟩ = some (.bool true) := hfin.out.2.1.cell 0
    have hPost : Hid (LatU (onced w2 g) g true x ∧ Chg w (onced w2 g) (fun k => k = g)) := Lib.hid ⟨hfin.out.1, (Chg.of_below hbel.out _).trans hfin.out.2.2 (fun k hk hs => by
      rcases hs with hs | hs
      · exact hs
      · omega)⟩
    clear hg2 hf2 hc2 hfin D
    generalize onced w2 g = w3 at *
    go_wp2_with (fail)
    go_ret
    exact ⟨rfl, hPost.out.1, hPost.out.2⟩
  · have hG : Blk W0 g 57 #[.int .u32 1, .int .i32 0, .int .u32 0, .int .u32 1, .int .u64 v] := hLW.out
    have D := Lib.hid (do_done g (.func (.func 17) #[] #[.pointer (some ⟨vB, 0, none⟩), .pointer (some ⟨lB, 0, none⟩), .pointer (some ⟨fB, 0, none⟩)]) W0 (hG.cell 0))
    have c2 : W0.cell? ⟨fB, 0, none⟩ = some (.bool false) := hfB.out.cell 0
    refine D.out.mono ?_
    rintro e w3 ⟨rfl, rfl⟩
    go_wp2_with (fail)
    go_ret
    exact ⟨rfl, hLW.out, Chg.of_below hbel.out _⟩
end Go.Proofs.Ytfkjdeiimlincaa
