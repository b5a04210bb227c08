/- The law's step: the walk. -/
import Derived.Test.YtpkmbnmlepmceaaBagR



namespace Go.Proofs.Ytpkmbnmlepmceaa
open Go.RowKit
set_option linter.unusedSimpArgs false
set_option linter.unusedVariables false
set_option maxHeartbeats 4000000
set_option maxRecDepth 100000
attribute [local go_sem] RB.agg RB.cells RB.zero

theorem farOf {w W : World} {x y : RB} (hx : RBn w x) (hs : w.heap.size + 2 < W.heap.size) (hn : NewA x W y) : (∀ ad, 0 < y.l.length → y.A = some ad → ad.block ≠ w.heap.size + 2) ∧ NewA x w y := by
  refine ⟨fun ad h0 hA e => ?_, ?_⟩
  · rcases hn with h | h
    · subst h; have := hx.blt h0 hA; omega
    · have := h ad hA; omega
  · rcases hn with h | h
    · exact .inl h
    · exact .inr (fun ad hA => by have := h ad hA; omega)
/-- the world behind step's boxes -/
def W0of (w : World) (x : RB) (k i z : Int) : World := ((w.alloc (.cells x.cells 45)).alloc (.cells #[.int .i64 k, .int .i64 i, .int .i64 z] 38)).alloc (.cells #[.int .i64 0, .int .i64 0, .slice none 0 0] 45)
theorem W0of_size (w : World) (x : RB) (k i z : Int) : (W0of w x k i z).heap.size = w.heap.size + 3 := by simp [W0of]
theorem W0of_below (w : World) (x : RB) (k i z : Int) : Below w.heap.size w (W0of w x k i z) := by unfold W0of; repeat (first | with_reducible exact Below.refl _ _ | with_reducible refine Below.setCell ?_ (by first | omega | (simp <;> omega)) _ | with_reducible refine Below.alloc ?_ (by first | omega | (simp <;> omega)) _ | with_reducible refine below_drewN ?_ _ | with_reducible refine Below.drew ?_)
theorem W0of_sp (w : World) (g : Nat) (v : Value) (x : RB) (k i z : Int) (s : Bg) (h : BagAt w g v s) : SP w g v x k i z (W0of w x k i z) v s :=
  ⟨((Blk.new w _ _).alloc _).alloc _, (blk_at6 _ _ _ _ (by simp)).alloc _, blk_at6 _ _ _ _ (by simp), h.below (W0of_below w x k i z), BStep.of_below (W0of_below w x k i z) _ _⟩
theorem step0 (g : Nat) (v : Value) (x : RB) (i z : Int) (w : World) (hA : BagAt w g v x.bg) (hR : RBg w g v x) (hl : x.l.length ≤ 1000000) (h0 : 0 ≤ x.last) (h1 : x.last ≤ 1000000) :
    Calls Try.prog 19 #[.pointer (some ⟨g, 0, none⟩), x.agg, .agg #[.int .i64 0, .int .i64 i, .int .i64 z]] w (StepPost w g v x (x.bg.put z)) := by
  obtain ⟨W0, hW0⟩ : ∃ W0, W0 = W0of w x 0 i z := ⟨_, rfl⟩
  have HS0 : Hid (SP w g v x 0 i z W0 v x.bg) := Lib.hid (by rw [hW0]; exact W0of_sp w g v x 0 i z x.bg hA)
  have hsz : W0.heap.size = w.heap.size + 3 := by rw [hW0]; exact W0of_size w x 0 i z
  have HR0 : Hid (RBg W0 g v x) := Lib.hid (by rw [hW0]; exact hR.below (W0of_below w x 0 i z))
  have HRX := Lib.hid hR.rb
  clear hA hR
  obtain ⟨xm, xl, xA, xc, ll⟩ := x
  rw [W0of, show RB.cells ⟨xm, xl, xA, xc, ll⟩ = #[.int .i64 xm, .int .i64 xl, .slice xA ll.length xc] from rfl] at hW0
  go_enter Try.func19, Try.ntmps19
  go_wp2_with (fail)
  rw [← hW0]
  clear hW0
  refine (refPut_any ⟨xm, xl, xA, xc, ll⟩ z W0 HR0.out.rb hl h0 h1).mono ?_
  rintro e w1 ⟨⟨ym, yl, yA, yc, yll⟩, rfl, hy, hyn, hb1, hna⟩
  have HY := Lib.hid hy
  have HF := Lib.hid (farOf HRX.out (by omega) hna)
  have HP := Lib.hid (HS0.out.below hb1)
  have HRY := Lib.hid (HR0.out.new HS0.out.ba hyn hna)
  have hs1 := hb1.size
  clear hy hyn hb1 hna
  have e0 := HP.out.p2.cell 0; have e1 := HP.out.p2.cell 1; have e2 := HP.out.p2.cell 2; obtain ⟨x0, x1, x2⟩ := rb_cells HP.out.p1; simp only [List.getElem?_toArray, List.getElem?_cons_succ, List.getElem?_cons_zero] at e0 e1 e2
  have lp := HP.out.p2.lt
  go_wp2_with (fail)
  have HP2 := Lib.hid (HP.out.below ((Below.refl _ _).alloc (Nat.le_refl _) (.cells (RB.cells ⟨ym, yl, yA, yc, yll⟩) 45)))
  have HRY2 := Lib.hid (HRY.out.below ((Below.refl _ _).alloc (Nat.le_refl _) (.cells (RB.cells ⟨ym, yl, yA, yc, yll⟩) 45)))
  have BY := Blk.new w1 45 (RB.cells ⟨ym, yl, yA, yc, yll⟩)
  refine (put_any g v (RB.bg ⟨xm, xl, xA, xc, ll⟩) z _ HP2.out.ba hl h0 h1).mono ?_
  rintro e w3 ⟨rfl, v3, hA3, hS3⟩
  have HRY3 := Lib.hid (HRY2.out.bstep HP2.out.ba hS3)
  have BY3 := hS3.blk HP2.out.ba BY (by decide) (by decide)
  replace HP := Lib.hid (HP2.out.step hS3 hA3)
  obtain ⟨y0, y1, y2⟩ := rb_cells BY3
  have ly := BY3.lt
  have hne : w1.heap.size ≠ w.heap.size + 2 := by omega
  simp only [] at y0 y1 y2
  clear e0 e1 e2 x0 x1 x2 hA3 hS3 HP2 HRY2 BY BY3
  have z0 := HP.out.p3.cell 0; have z1 := HP.out.p3.cell 1; have z2 := HP.out.p3.cell 2; have f0 := HP.out.p3.frozen 0; have f1 := HP.out.p3.frozen 1; have f2 := HP.out.p3.frozen 2; have l3 := HP.out.p3.lt; simp only [List.getElem?_toArray, List.getElem?_cons_succ, List.getElem?_cons_zero] at z0 z1 z2
  go_wp2_with (fail)
  refine bodyPost_ret (v := .tuple #[RB.agg ⟨ym, yl, yA, yc, yll⟩, .bool true]) (by simp [results, Try.results19, go_sem, z0, z1, z2, l3]) rfl ?_
  exact HP.out.fin HRY3.out HF.out HY.out _ _ _
theorem step1 (g : Nat) (v : Value) (x : RB) (i z : Int) (w : World) (hA : BagAt w g v x.bg) (hR : RBg w g v x) (hl : x.l.length ≤ 1000000) (h0 : 0 ≤ x.last) (h1 : x.last ≤ 1000000) :
    Calls Try.prog 19 #[.pointer (some ⟨g, 0, none⟩), x.agg, .agg #[.int .i64 1, .int .i64 i, .int .i64 z]] w (StepPost w g v x (x.bg.twice i)) := by
  obtain ⟨W0, hW0⟩ : ∃ W0, W0 = W0of w x 1 i z := ⟨_, rfl⟩
  have HS0 : Hid (SP w g v x 1 i z W0 v x.bg) := Lib.hid (by rw [hW0]; exact W0of_sp w g v x 1 i z x.bg hA)
  have hsz : W0.heap.size = w.heap.size + 3 := by rw [hW0]; exact W0of_size w x 1 i z
  have HR0 : Hid (RBg W0 g v x) := Lib.hid (by rw [hW0]; exact hR.below (W0of_below w x 1 i z))
  have HRX := Lib.hid hR.rb
  clear hA hR
  obtain ⟨xm, xl, xA, xc, ll⟩ := x
  rw [W0of, show RB.cells ⟨xm, xl, xA, xc, ll⟩ = #[.int .i64 xm, .int .i64 xl, .slice xA ll.length xc] from rfl] at hW0
  go_enter Try.func19, Try.ntmps19
  go_wp2_with (fail)
  rw [← hW0]
  clear hW0
  refine (refTwice_any ⟨xm, xl, xA, xc, ll⟩ i W0 HR0.out.rb hl h0 h1).mono ?_
  rintro e w1 ⟨⟨ym, yl, yA, yc, yll⟩, rfl, hy, hyn, hb1, hna⟩
  have HY := Lib.hid hy
  have HF := Lib.hid (farOf HRX.out (by omega) hna)
  have HP := Lib.hid (HS0.out.below hb1)
  have HRY := Lib.hid (HR0.out.new HS0.out.ba hyn hna)
  have hs1 := hb1.size
  clear hy hyn hb1 hna
  have e0 := HP.out.p2.cell 0; have e1 := HP.out.p2.cell 1; have e2 := HP.out.p2.cell 2; obtain ⟨x0, x1, x2⟩ := rb_cells HP.out.p1; simp only [List.getElem?_toArray, List.getElem?_cons_succ, List.getElem?_cons_zero] at e0 e1 e2
  have lp := HP.out.p2.lt
  go_wp2_with (fail)
  have HP2 := Lib.hid (HP.out.below ((Below.refl _ _).alloc (Nat.le_refl _) (.cells (RB.cells ⟨ym, yl, yA, yc, yll⟩) 45)))
  have HRY2 := Lib.hid (HRY.out.below ((Below.refl _ _).alloc (Nat.le_refl _) (.cells (RB.cells ⟨ym, yl, yA, yc, yll⟩) 45)))
  have BY := Blk.new w1 45 (RB.cells ⟨ym, yl, yA, yc, yll⟩)
  refine (twice_any g v (RB.bg ⟨xm, xl, xA, xc, ll⟩) i _ HP2.out.ba hl h0 h1).mono ?_
  rintro e w3 ⟨rfl, v3, hA3, hS3⟩
  have HRY3 := Lib.hid (HRY2.out.bstep HP2.out.ba hS3)
  have BY3 := hS3.blk HP2.out.ba BY (by decide) (by decide)
  replace HP := Lib.hid (HP2.out.step hS3 hA3)
  obtain ⟨y0, y1, y2⟩ := rb_cells BY3
  have ly := BY3.lt
  have hne : w1.heap.size ≠ w.heap.size + 2 := by omega
  simp only [] at y0 y1 y2
  clear e0 e1 e2 x0 x1 x2 hA3 hS3 HP2 HRY2 BY BY3
  have z0 := HP.out.p3.cell 0; have z1 := HP.out.p3.cell 1; have z2 := HP.out.p3.cell 2; have f0 := HP.out.p3.frozen 0; have f1 := HP.out.p3.frozen 1; have f2 := HP.out.p3.frozen 2; have l3 := HP.out.p3.lt; simp only [List.getElem?_toArray, List.getElem?_cons_succ, List.getElem?_cons_zero] at z0 z1 z2
  go_wp2_with (fail)
  refine bodyPost_ret (v := .tuple #[RB.agg ⟨ym, yl, yA, yc, yll⟩, .bool true]) (by simp [results, Try.results19, go_sem, z0, z1, z2, l3]) rfl ?_
  exact HP.out.fin HRY3.out HF.out HY.out _ _ _
end Go.Proofs.Ytpkmbnmlepmceaa
