/- A latch of replies: New, Get, Set. -/
import Derived.Test.YtmpedblelnpjdaaGreatDoorZGE
namespace Go.Proofs.YtmpedblelnpjdaaGreatDoor
open Go.RowKit
set_option linter.unusedSimpArgs false
set_option linter.unusedVariables false
set_option maxRecDepth 100000
set_option maxHeartbeats 8000000
structure Rp where
 cd : Int
 vr : Int
 A : Option Addr
 n : Nat
 c : Nat
def Rp.cells (r : Rp) : Array Value := #[.int .i64 r.cd, .int .u64 r.vr, .slice r.A r.n r.c]
def Rp.agg (r : Rp) : Value := .agg #[.int .i64 r.cd, .int .u64 r.vr, .slice r.A r.n r.c]
def Rp.zero : Rp := ⟨0, 0, none, 0, 0⟩
def LatRp (w : World) (g : Nat) (b : Bool) (r : Rp) : Prop := Blk w g 265 #[.int .u32 (if b then 1 else 0), .int .i32 0, .int .u32 0, .int .u32 (if b then 1 else 0), .int .i64 r.cd, .int .u64 r.vr, .slice r.A r.n r.c]
theorem cells3 {w : World} {g : Nat} {t : TypeId} {a0 a1 a2 : Value} (h : Blk w g t #[a0, a1, a2]) : w.cell? ⟨g, 0, none⟩ = some a0 ∧ w.cell? ⟨g, 1, none⟩ = some a1 ∧ w.cell? ⟨g, 2, none⟩ = some a2 := ⟨h.cell 0, h.cell 1, h.cell 2⟩
theorem frozen3 {w : World} {g : Nat} {t : TypeId} {cs : Array Value} (h : Blk w g t cs) : w.frozen? ⟨g, 0, none⟩ = false ∧ w.frozen? ⟨g, 1, none⟩ = false ∧ w.frozen? ⟨g, 2, none⟩ = false := ⟨h.frozen 0, h.frozen 1, h.frozen 2⟩
theorem set3_chg (W : World) (g : Nat) (a0 a1 a2 : Value) : Chg W (((W.setCell ⟨g, 0, none⟩ a0).setCell ⟨g, 1, none⟩ a1).setCell ⟨g, 2, none⟩ a2) (fun k => k = g) :=
 ⟨rfl, rfl, rfl, by simp [World.setCell], fun k hk hn => by
  rw [Below.heap_setCell _ _ _ k hn, Below.heap_setCell _ _ _ k hn, Below.heap_setCell _ _ _ k hn]⟩
theorem set3_blk {W : World} {g : Nat} {t : TypeId} {b0 b1 b2 : Value} (h : Blk W g t #[b0, b1, b2]) (a0 a1 a2 : Value) : Blk (((W.setCell ⟨g, 0, none⟩ a0).setCell ⟨g, 1, none⟩ a1).setCell ⟨g, 2, none⟩ a2) g t #[a0, a1, a2] := ((h.set_ 0 a0).set_ 1 a1).set_ 2 a2
theorem newRp_any (w : World) : Calls Tryz.prog 76 #[] w fun e w' => e = .returned (.pointer (some ⟨w.heap.size, 0, none⟩)) ∧ LatRp w' w.heap.size false Rp.zero ∧ Below w.heap.size w w' := by
 go_enter Tryz.func76, Tryz.ntmps76
 go_wp2
 go_ret
 exact ⟨rfl, Blk.new _ _ _, (Below.refl _ _).alloc (Nat.le_refl _) _⟩
theorem getRp_any (g : Nat) (b : Bool) (r : Rp) (w : World) (h : LatRp w g b r) :
  Calls Tryz.prog 143 #[.pointer (some ⟨g, 0, none⟩)] w fun e w' => e = .returned (.tuple #[(if b = true then r else Rp.zero).agg, .bool b]) ∧ Below w.heap.size w w' := by
 have H := Lib.hid h
 have hl := h.lt
 have hb : Below w.heap.size w ((w.alloc (.cells #[.int .i64 0, .int .u64 0, .slice none 0 0] 60)).alloc (.cells #[.int .i64 0, .int .u64 0, .slice none 0 0] 60)) := ((Below.refl _ _).alloc (Nat.le_refl _) _).alloc (by simp) _
 obtain ⟨W2, hW2⟩ : ∃ W2, W2 = (w.alloc (.cells #[.int .i64 0, .int .u64 0, .slice none 0 0] 60)).alloc (.cells #[.int .i64 0, .int .u64 0, .slice none 0 0] 60) := ⟨_, rfl⟩
 have hX : Hid (Blk W2 w.heap.size 60 #[.int .i64 0, .int .u64 0, .slice none 0 0]) := Lib.hid (by rw [hW2]; exact (Blk.new w _ _).alloc _)
 have hY : Hid (Blk W2 (w.heap.size + 1) 60 #[.int .i64 0, .int .u64 0, .slice none 0 0]) := Lib.hid (by
  rw [hW2]
  have := Blk.new (w.alloc (.cells #[.int .i64 0, .int .u64 0, .slice none 0 0] 60)) 60 #[.int .i64 0, .int .u64 0, .slice none 0 0]
  simpa using this)
 rw [← hW2] at hb
 have HB := Lib.hid hb
 have hL := h.below hb hl
 have HL := Lib.hid hL
 have hB := fun w h => bload_any ⟨g, 3, none⟩ (if b then 1 else 0) w h
 have HW := Lib.hid hW2
 clear h hb hW2 hL
 go_enter Tryz.func143, Tryz.ntmps143
 go_upto_region 2 with (fail)
 rw [← HW.out]
 clear HW
 have hnot := run_not
 have c3 : W2.cell? ⟨g, 3, none⟩ = some (.int .u32 (if b then 1 else 0)) := HL.out.cell 3
 have l4 : W2.cell? ⟨g, 4, none⟩ = some (.int .i64 r.cd) := HL.out.cell 4
 have l5 : W2.cell? ⟨g, 5, none⟩ = some (.int .u64 r.vr) := HL.out.cell 5
 have l6 : W2.cell? ⟨g, 6, none⟩ = some (.slice r.A r.n r.c) := HL.out.cell 6
 obtain ⟨x0, x1, x2⟩ := cells3 hX.out
 obtain ⟨y0, y1, y2⟩ := cells3 hY.out
 obtain ⟨f0, f1, f2⟩ := frozen3 hX.out
 have lx := hX.out.lt
 have ly := hY.out.lt
 cases b
 ·go_wp2_with (first | (go_at_call 230; refine (hB _ c3).mono ?_; rintro e w' ⟨rfl, rfl⟩) | fail)
  all_goals
   have HC := Lib.hid (set3_chg W2 w.heap.size (.int .i64 0) (.int .u64 0) (.slice none 0 0))
   have HK := Lib.hid (set3_blk hX.out (.int .i64 0) (.int .u64 0) (.slice none 0 0))
   generalize ((W2.setCell ⟨w.heap.size, 0, none⟩ (.int .i64 0)).setCell ⟨w.heap.size, 1, none⟩ (.int .u64 0)).setCell ⟨w.heap.size, 2, none⟩ (.slice none 0 0) = wz at *
   obtain ⟨k0, k1, k2⟩ := cells3 HK.out
   refine bodyPost_ret (v := .tuple #[.agg #[.int .i64 0, .int .u64 0, .slice none 0 0], .bool false]) (by simp [results, Tryz.results143, go_sem, k0, k1, k2]) rfl ?_
   exact ⟨rfl, HB.out.trans (HC.out.below HB.out.size (fun k hk e => by omega))⟩
 ·go_wp2_with (first | (go_at_call 230; refine (hB _ c3).mono ?_; rintro e w' ⟨rfl, rfl⟩) | fail)
  all_goals
   have HC := Lib.hid (set3_chg W2 w.heap.size (.int .i64 r.cd) (.int .u64 r.vr) (.slice r.A r.n r.c))
   have HK := Lib.hid (set3_blk hX.out (.int .i64 r.cd) (.int .u64 r.vr) (.slice r.A r.n r.c))
   generalize ((W2.setCell ⟨w.heap.size, 0, none⟩ (.int .i64 r.cd)).setCell ⟨w.heap.size, 1, none⟩ (.int .u64 r.vr)).setCell ⟨w.heap.size, 2, none⟩ (.slice r.A r.n r.c) = wz at *
   obtain ⟨k0, k1, k2⟩ := cells3 HK.out
   refine bodyPost_ret (v := .tuple #[.agg #[.int .i64 r.cd, .int .u64 r.vr, .slice r.A r.n r.c], .bool true]) (by simp [results, Tryz.results143, go_sem, k0, k1, k2]) rfl ?_
   exact ⟨rfl, HB.out.trans (HC.out.below HB.out.size (fun k hk e => by omega))⟩
def setV (w : World) (g : Nat) (x : Rp) : World := ((w.setCell ⟨g, 4, none⟩ (.int .i64 x.cd)).setCell ⟨g, 5, none⟩ (.int .u64 x.vr)).setCell ⟨g, 6, none⟩ (.slice x.A x.n x.c)
theorem chg_one (w : World) (p : Addr) (v : Value) : Chg w (w.setCell p v) (fun k => k = p.block) := ⟨rfl, rfl, rfl, by simp [World.setCell], fun k hk hn => Below.heap_setCell _ _ _ k hn⟩
theorem setV_chg (w : World) (g : Nat) (x : Rp) : Chg w (setV w g x) (fun k => k = g) := ((chg_one w ⟨g, 4, none⟩ _).trans (chg_one _ ⟨g, 5, none⟩ _) (fun _ _ e => e)).trans (chg_one _ ⟨g, 6, none⟩ _) (fun _ _ e => e)
theorem setV_blk {w : World} {g : Nat} {t : TypeId} {a0 a1 a2 a3 b4 b5 b6 : Value} (h : Blk w g t #[a0, a1, a2, a3, b4, b5, b6]) (x : Rp) : Blk (setV w g x) g t #[a0, a1, a2, a3, .int .i64 x.cd, .int .u64 x.vr, .slice x.A x.n x.c] := ((h.set_ 4 _).set_ 5 _).set_ 6 _
theorem Blk.V_far {w : World} {g k : Nat} {t : TypeId} {cs : Array Value} (h : Blk w k t cs) (hn : k ≠ g) (x : Rp) : Blk (setV w g x) k t cs := ((h.far (p := ⟨g, 4, none⟩) hn _).far (p := ⟨g, 5, none⟩) hn _).far (p := ⟨g, 6, none⟩) hn _
theorem setFRp_any (g vB lB fB : Nat) (x v : Rp) (w : World) (hv : Blk w vB 60 #[.int .i64 x.cd, .int .u64 x.vr, .slice x.A x.n x.c]) (hl : Blk w lB 154 #[.pointer (some ⟨g, 0, none⟩)]) (hf : Blk w fB 4 #[.bool false])
  (hg : Blk w g 265 #[.int .u32 0, .int .i32 1, .int .u32 0, .int .u32 0, .int .i64 v.cd, .int .u64 v.vr, .slice v.A v.n v.c]) :
  Calls Tryz.prog 241 #[.pointer (some ⟨vB, 0, none⟩), .pointer (some ⟨lB, 0, none⟩), .pointer (some ⟨fB, 0, none⟩)] w fun e w' => e = .returned (.tuple #[]) ∧
   w' = ((setV w g x).setCell ⟨fB, 0, none⟩ (.bool true)).drew.setCell ⟨g, 3, none⟩ (.int .u32 1) := by
 obtain ⟨c00, c01, c02⟩ := cells3 hv
 have c1 : w.cell? ⟨lB, 0, none⟩ = some (.pointer (some ⟨g, 0, none⟩)) := hl.cell 0
 have c2 : w.cell? ⟨fB, 0, none⟩ = some (.bool false) := hf.cell 0
 have c4 : w.cell? ⟨g, 4, none⟩ = some (.int .i64 v.cd) := hg.cell 4
 have c5 : w.cell? ⟨g, 5, none⟩ = some (.int .u64 v.vr) := hg.cell 5
 have c6 : w.cell? ⟨g, 6, none⟩ = some (.slice v.A v.n v.c) := hg.cell 6
 have f5 := hg.frozen 5
 have f6 := hg.frozen 6
 have f2 := hf.frozen 0
 have f4 := hg.frozen 4
 have n1 : g ≠ lB := Blk.ne_ hg hl (by decide)
 have n2 : g ≠ fB := Blk.ne_ hg hf (by decide)
 have n3 : fB ≠ lB := Blk.ne_ hf hl (by decide)
 have n1' := n1.symm
 have n2' := n2.symm
 have n3' := n3.symm
 have hg2 := ((setV_blk hg x).far (p := ⟨fB, 0, none⟩) n2 (.bool true))
 have c3 : ((setV w g x).setCell ⟨fB, 0, none⟩ (.bool true)).cell? ⟨g, 3, none⟩ = some (.int .u32 0) := hg2.cell 3
 have f3 := hg2.frozen 3
 have hS := Lib.hid (bstore_any ⟨g, 3, none⟩ (.int .u32 0) _ c3 f3)
 clear hv hl hf hg hg2 c3 f3
 go_enter Tryz.func241, Tryz.ntmps241
 go_wp2_with (fail)
 refine hS.out.mono ?_
 rintro e w' ⟨rfl, rfl⟩
 go_wp2
 go_end0
 exact ⟨rfl, rfl⟩
theorem setFRp_enter : ∀ (args : Array Value) (w : World), (callFunc 241 args).run Tryz.prog w = .ok (.enter 241 args) w :=
 enters_of Tryz.func241 (by kernel_rfl) rfl
theorem setRp_any (g : Nat) (b : Bool) (v x : Rp) (w : World) (h : LatRp w g b v) :
  Calls Tryz.prog 160 #[.pointer (some ⟨g, 0, none⟩), .agg #[.int .i64 x.cd, .int .u64 x.vr, .slice x.A x.n x.c]] w fun e w' => e = .returned (.bool (!b)) ∧ LatRp w' g true (if b then v else x) ∧ Chg w w' (fun k => k = g) := by
 have hmf : ∀ (fn : Fn) (first cap : Array Value) (w : World), (Instr.makeFunc fn first cap).run Tryz.prog w = .ok (.func fn first cap) w := fun _ _ _ _ => rfl
 have H := Lib.hid h
 have hlt := h.lt
 have hfw : w.heap.size ≤ w.heap.size + 1 + 1 := by omega
 have hlB : Hid (Blk (((w.alloc (.cells #[.pointer (some ⟨g, 0, none⟩)] 154)).alloc (.cells #[.int .i64 x.cd, .int .u64 x.vr, .slice x.A x.n x.c] 60)).alloc (.cells #[.bool false] 4)) w.heap.size 154 #[.pointer (some ⟨g, 0, none⟩)]) := Lib.hid (((Blk.new w _ _).alloc _).alloc _)
 have hvB : Hid (Blk (((w.alloc (.cells #[.pointer (some ⟨g, 0, none⟩)] 154)).alloc (.cells #[.int .i64 x.cd, .int .u64 x.vr, .slice x.A x.n x.c] 60)).alloc (.cells #[.bool false] 4)) (w.heap.size + 1) 60 #[.int .i64 x.cd, .int .u64 x.vr, .slice x.A x.n x.c]) := Lib.hid (by
  have := (Blk.new (w.alloc (.cells #[.pointer (some ⟨g, 0, none⟩)] 154)) 60 #[.int .i64 x.cd, .int .u64 x.vr, .slice x.A x.n x.c]).alloc (.cells #[.bool false] 4)
  simpa using this)
 have hfB : Hid (Blk (((w.alloc (.cells #[.pointer (some ⟨g, 0, none⟩)] 154)).alloc (.cells #[.int .i64 x.cd, .int .u64 x.vr, .slice x.A x.n x.c] 60)).alloc (.cells #[.bool false] 4)) (w.heap.size + 1 + 1) 4 #[.bool false]) := Lib.hid (by
  have := Blk.new ((w.alloc (.cells #[.pointer (some ⟨g, 0, none⟩)] 154)).alloc (.cells #[.int .i64 x.cd, .int .u64 x.vr, .slice x.A x.n x.c] 60)) 4 #[.bool false]
  simpa using this)
 have hbel : Hid (Below w.heap.size w (((w.alloc (.cells #[.pointer (some ⟨g, 0, none⟩)] 154)).alloc (.cells #[.int .i64 x.cd, .int .u64 x.vr, .slice x.A x.n x.c] 60)).alloc (.cells #[.bool false] 4))) := Lib.hid ((((Below.refl _ _).alloc (Nat.le_refl _) _).alloc (by simp) _).alloc (by simp <;> omega) _)
 have hd5 : (((w.alloc (.cells #[.pointer (some ⟨g, 0, none⟩)] 154)).alloc (.cells #[.int .i64 x.cd, .int .u64 x.vr, .slice x.A x.n x.c] 60)).alloc (.cells #[.bool false] 4)).cell? ⟨w.heap.size, 0, none⟩ = some (.pointer (some ⟨g, 0, none⟩)) := hlB.out.cell 0
 clear h
 go_enter Tryz.func160, Tryz.ntmps160
 go_wp2_with (fail)
 have hLW : Hid (LatRp (((w.alloc (.cells #[.pointer (some ⟨g, 0, none⟩)] 154)).alloc (.cells #[.int .i64 x.cd, .int .u64 x.vr, .slice x.A x.n x.c] 60)).alloc (.cells #[.bool false] 4)) g b v) := Lib.hid (H.out.below hbel.out hlt)
 clear hd5
 generalize ((w.alloc (.cells #[.pointer (some ⟨g, 0, none⟩)] 154)).alloc (.cells #[.int .i64 x.cd, .int .u64 x.vr, .slice x.A x.n x.c] 60)).alloc (.cells #[.bool false] 4) = W0 at *
 generalize w.heap.size + 1 + 1 = fB at *
 generalize w.heap.size + 1 = vB at *
 obtain ⟨lB, hl⟩ : ∃ lB, lB = w.heap.size := ⟨_, rfl⟩
 rw [← hl] at hlB ⊢
 clear hl
 have n2 : g ≠ fB := Blk.ne_ hLW.out hfB.out (by decide)
 have n1 : g ≠ lB := Blk.ne_ hLW.out hlB.out (by decide)
 have n3 : g ≠ vB := Blk.ne_ hLW.out hvB.out (by decide)
 have n4 : lB ≠ fB := Blk.ne_ hlB.out hfB.out (by decide)
 cases b
 ·have hG : Blk W0 g 265 #[.int .u32 0, .int .i32 0, .int .u32 0, .int .u32 0, .int .i64 v.cd, .int .u64 v.vr, .slice v.A v.n v.c] := hLW.out
  have C := setFRp_any g vB lB fB x v (W0.setCell ⟨g, 1, none⟩ (.int .i32 1)) (hvB.out.far (p := ⟨g, 1, none⟩) n3.symm _) (hlB.out.far (p := ⟨g, 1, none⟩) n1.symm _) (hfB.out.far (p := ⟨g, 1, none⟩) n2.symm _) (hG.set_ 1 (.int .i32 1))
  have hG2 : Blk (((setV (W0.setCell ⟨g, 1, none⟩ (.int .i32 1)) g x).setCell ⟨fB, 0, none⟩ (.bool true)).drew.setCell ⟨g, 3, none⟩ (.int .u32 1)) g 265 #[.int .u32 0, .int .i32 1, .int .u32 0, .int .u32 1, .int .i64 x.cd, .int .u64 x.vr, .slice x.A x.n x.c] :=
   (((setV_blk (hG.set_ 1 (.int .i32 1)) x).far (p := ⟨fB, 0, none⟩) n2 (.bool true)).drew).set_ 3 (.int .u32 1)
  have hF2 : Blk (((setV (W0.setCell ⟨g, 1, none⟩ (.int .i32 1)) g x).setCell ⟨fB, 0, none⟩ (.bool true)).drew.setCell ⟨g, 3, none⟩ (.int .u32 1)) fB 4 #[.bool true] :=
   (((((hfB.out.far (p := ⟨g, 1, none⟩) n2.symm (.int .i32 1)).V_far n2.symm x).set_ 0 (.bool true)).drew).far (p := ⟨g, 3, none⟩) n2.symm (.int .u32 1))
  have hC2 : Chg W0 (((setV (W0.setCell ⟨g, 1, none⟩ (.int .i32 1)) g x).setCell ⟨fB, 0, none⟩ (.bool true)).drew.setCell ⟨g, 3, none⟩ (.int .u32 1)) (fun k => k = g ∨ k = fB) :=
   ((((chg_one W0 ⟨g, 1, none⟩ _).mono (fun _ _ e => Or.inl e)).trans ((setV_chg _ g x).mono (fun _ _ e => Or.inl e)) (fun _ _ e => e)).trans ((chg_one _ ⟨fB, 0, none⟩ _).mono (fun _ _ e => Or.inr e)) (fun _ _ e => e)).trans ((Chg.of_below ((Below.refl _ _).drew) _).trans ((chg_one _ ⟨g, 3, none⟩ _).mono (fun _ _ e => Or.inl e)) (fun _ _ e => e)) (fun _ _ e => e)
  have D := Lib.hid (do_first g 241 setFRp_enter #[.pointer (some ⟨vB, 0, none⟩), .pointer (some ⟨lB, 0, none⟩), .pointer (some ⟨fB, 0, none⟩)]
   (fun w2 => Blk w2 g 265 #[.int .u32 0, .int .i32 1, .int .u32 0, .int .u32 1, .int .i64 x.cd, .int .u64 x.vr, .slice x.A x.n x.c] ∧ Blk w2 fB 4 #[.bool true] ∧ Chg W0 w2 (fun k => k = g ∨ k = fB)) W0 (hG.cell 0) (hG.cell 1) (hG.frozen 1)
   (by
    have := C.mono (R' := fun e w2 => e = .returned (.tuple #[]) ∧ (Blk w2 g 265 #[.int .u32 0, .int .i32 1, .int .u32 0, .int .u32 1, .int .i64 x.cd, .int .u64 x.vr, .slice x.A x.n x.c] ∧ Blk w2 fB 4 #[.bool true] ∧ Chg W0 w2 (fun k => k = g ∨ k = fB))) (fun e w2 ⟨he, hw⟩ => ⟨he, by rw [hw]; exact ⟨hG2, hF2, hC2⟩⟩)
    simpa using this)
   (fun w2 hw => ⟨⟨hw.1.cell 0, hw.1.frozen 0⟩, hw.1.cell 1, hw.1.frozen 1⟩))
  clear C hG hG2 hF2 hC2
  refine D.out.mono ?_
  rintro e w3 ⟨rfl, w2, ⟨hg2, hf2, hc2⟩, rfl⟩
  have hfin : Hid (LatRp (onced w2 g) g true x ∧ Blk (onced w2 g) fB 4 #[.bool true] ∧ Chg W0 (onced w2 g) (fun k => k = g ∨ k = fB)) := Lib.hid ⟨((hg2.drew).set_ 0 (.int .u32 1)).set_ 1 (.int .i32 0), ((hf2.drew).far (p := ⟨g, 0, none⟩) n2.symm _).far (p := ⟨g, 1, none⟩) n2.symm _,
   hc2.trans (T := fun k => k = g) ⟨rfl, rfl, rfl, Nat.le_of_eq (by unfold onced; simp only [World.setCell, Array.size_modify]; rfl), fun k hk hn => by
    unfold onced
    rw [Below.heap_setCell _ _ _ k hn, Below.heap_setCell _ _ _ k hn]; rfl⟩ (fun _ _ h => .inl h)⟩
  have c2 : (onced w2 g).cell? ⟨fB, 0, none⟩ = some (.bool true) := hfin.out.2.1.cell 0
  have hPost : Hid (LatRp (onced w2 g) g true x ∧ Chg w (onced w2 g) (fun k => k = g)) := Lib.hid ⟨hfin.out.1, (Chg.of_below hbel.out _).trans hfin.out.2.2 (fun k hk hs => by
   rcases hs with hs | hs
   ·exact hs
   ·omega)⟩
  clear hg2 hf2 hc2 hfin D
  generalize onced w2 g = w3 at *
  go_wp2_with (fail)
  go_ret
  exact ⟨rfl, hPost.out.1, hPost.out.2⟩
 ·have hG : Blk W0 g 265 #[.int .u32 1, .int .i32 0, .int .u32 0, .int .u32 1, .int .i64 v.cd, .int .u64 v.vr, .slice v.A v.n v.c] := hLW.out
  have D := Lib.hid (do_done g (.func (.func 241) #[] #[.pointer (some ⟨vB, 0, none⟩), .pointer (some ⟨lB, 0, none⟩), .pointer (some ⟨fB, 0, none⟩)]) W0 (hG.cell 0))
  have c2 : W0.cell? ⟨fB, 0, none⟩ = some (.bool false) := hfB.out.cell 0
  refine D.out.mono ?_
  rintro e w3 ⟨rfl, rfl⟩
  go_wp2_with (fail)
  go_ret
  exact ⟨rfl, hLW.out, Chg.of_below hbel.out _⟩
end Go.Proofs.YtmpedblelnpjdaaGreatDoor
