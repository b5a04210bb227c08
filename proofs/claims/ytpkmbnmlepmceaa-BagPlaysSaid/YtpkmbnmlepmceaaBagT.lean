/- The law's step: the walk of Take, Set. -/
import Derived.Test.YtpkmbnmlepmceaaBagS



namespace Go.Proofs.Ytpkmbnmlepmceaa
open Go.RowKit
set_option linter.unusedSimpArgs false
set_option linter.unusedVariables false
set_option maxHeartbeats 4000000
set_option maxRecDepth 100000
attribute [local go_sem] RB.agg RB.cells RB.zero


theorem at2_has (s : Bg) (i : Int) : (s.at_ i).2 = s.has i := by unfold Bg.at_; cases s.has i <;> rfl
theorem step2 (g : Nat) (v : Value) (x : RB) (i z : Int) (w : World) (hA : BagAt w g v x.bg) (hR : RBg w g v x) (hl : x.l.length ≤ 1000000) :
    Calls Try.prog 19 #[.pointer (some ⟨g, 0, none⟩), x.agg, .agg #[.int .i64 2, .int .i64 i, .int .i64 z]] w (StepPost w g v x (x.bg.take i)) := by
  obtain ⟨W0, hW0⟩ : ∃ W0, W0 = W0of w x 2 i z := ⟨_, rfl⟩
  have HS0 : Hid (SP w g v x 2 i z W0 v x.bg) := Lib.hid (by rw [hW0]; exact W0of_sp w g v x 2 i z x.bg hA)
  have hsz : W0.heap.size = w.heap.size + 3 := by rw [hW0]; exact W0of_size w x 2 i z
  have HR0 : Hid (RBg W0 g v x) := Lib.hid (by rw [hW0]; exact hR.below (W0of_below w x 2 i z))
  have HRX := Lib.hid hR.rb
  clear hA hR
  obtain ⟨xm, xl, xA, xc, ll⟩ := x
  rw [W0of, show RB.cells ⟨xm, xl, xA, xc, ll⟩ = #[.int .i64 xm, .int .i64 xl, .slice xA ll.length xc] from rfl] at hW0
  go_enter Try.func19, Try.ntmps19
  go_wp2_with (fail)
  rw [← hW0]
  clear hW0
  refine (refAt_any ⟨xm, xl, xA, xc, ll⟩ i W0 HR0.out.rb).mono ?_
  rintro e w1 ⟨rfl, hb1⟩
  have hs1 := hb1.size
  have HP := Lib.hid (HS0.out.below hb1)
  have HRX1 := Lib.hid (HR0.out.below hb1)
  obtain ⟨p, hp⟩ : ∃ p, p = RB.item ⟨xm, xl, xA, xc, ll⟩ i := ⟨_, rfl⟩
  have HPP : Hid (((RB.bg ⟨xm, xl, xA, xc, ll⟩).at_ i).1 = p.2) := Lib.hid (by rw [hp]; rfl)
  rw [← hp]
  rw [show itAgg p = .agg #[.int .i64 p.1, .int .i64 p.2] from rfl]
  clear hp hb1 HS0 HR0
  have e0 := HP.out.p2.cell 0; have e1 := HP.out.p2.cell 1; have e2 := HP.out.p2.cell 2; obtain ⟨x0, x1, x2⟩ := rb_cells HP.out.p1; simp only [List.getElem?_toArray, List.getElem?_cons_succ, List.getElem?_cons_zero] at e0 e1 e2
  have lp := HP.out.p2.lt
  go_wp2_with (fail)
  have HP2 := Lib.hid (HP.out.below ((Below.refl _ _).alloc (Nat.le_refl _) (.cells #[.int .i64 p.1, .int .i64 p.2] 63)))
  have HRX2 := Lib.hid (HRX1.out.below ((Below.refl _ _).alloc (Nat.le_refl _) (.cells #[.int .i64 p.1, .int .i64 p.2] 63)))
  have BI := Blk.new w1 63 #[.int .i64 p.1, .int .i64 p.2]
  refine (take_any g v (RB.bg ⟨xm, xl, xA, xc, ll⟩) i _ HP2.out.ba).mono ?_
  rintro e w3 ⟨rfl, v3, hA3, hS3⟩
  rw [HPP.out, at2_has]
  have HRX3 := Lib.hid (HRX2.out.bstep HP2.out.ba hS3)
  have BI3 := Lib.hid (hS3.blk HP2.out.ba BI (by decide) (by decide))
  replace HP := Lib.hid (HP2.out.step hS3 hA3)
  have i1 := BI3.out.cell 1
  have li := BI3.out.lt
  have hne : w1.heap.size ≠ w.heap.size + 2 := by omega
  have hs3 : w.heap.size + 2 < w3.heap.size := by have := HP.out.p3.lt; omega
  simp only [List.getElem?_toArray, List.getElem?_cons_succ, List.getElem?_cons_zero] at i1
  clear e0 e1 e2 x0 x1 x2 hA3 hS3 HP2 HRX2 BI HRX1 HPP lp
  have e0 := HP.out.p2.cell 0; have e1 := HP.out.p2.cell 1; have e2 := HP.out.p2.cell 2; obtain ⟨x0, x1, x2⟩ := rb_cells HP.out.p1; simp only [List.getElem?_toArray, List.getElem?_cons_succ, List.getElem?_cons_zero] at e0 e1 e2
  have z0 := HP.out.p3.cell 0; have z1 := HP.out.p3.cell 1; have z2 := HP.out.p3.cell 2; have f0 := HP.out.p3.frozen 0; have f1 := HP.out.p3.frozen 1; have f2 := HP.out.p3.frozen 2; have l3 := HP.out.p3.lt; simp only [List.getElem?_toArray, List.getElem?_cons_succ, List.getElem?_cons_zero] at z0 z1 z2
  have hb : Below w3.heap.size w3 w3 := Below.refl _ _
  have hq1 : w.heap.size + 1 + 1 ≠ w.heap.size := by omega
  have hq2 : w.heap.size + 1 + 1 ≠ w.heap.size + 1 := by omega
  have hq3 : w.heap.size + 1 + 1 ≠ w1.heap.size := by omega
  have hq4 : w.heap.size ≠ w.heap.size + 1 + 1 := by omega
  have hq5 : w.heap.size + 1 ≠ w.heap.size + 1 + 1 := by omega
  have hq6 : w1.heap.size ≠ w.heap.size + 1 + 1 := by omega
  have RT := Lib.hid (fun W h => refTake_any ⟨xm, xl, xA, xc, ll⟩ i W h hl)
  have lp := HP.out.p2.lt
  have lq := HP.out.p1.lt
  go_wp2_with (fail)
  go_region_held3 (fun w' => w'.cell? ⟨w.heap.size, 0, none⟩ = some (.int .i64 xm) ∧ w'.cell? ⟨w.heap.size, 1, none⟩ = some (.int .i64 xl) ∧ w'.cell? ⟨w.heap.size, 2, none⟩ = some (.slice xA ll.length xc) ∧ w'.cell? ⟨w.heap.size + 1, 1, none⟩ = some (.int .i64 i) ∧ w'.cell? ⟨w1.heap.size, 1, none⟩ = some (.int .i64 p.2)) (go_keep) (first
    | (go_at_call 32; refine (RT.out _ ?_).mono ?_; (· refine HRX3.out.rb.below ?_; repeat (first | with_reducible exact hb | with_reducible refine Below.alloc ?_ (by first | omega | (simp <;> omega)) _ | with_reducible refine below_drewN ?_ _ | with_reducible refine Below.drew ?_)); rintro e w6 ⟨⟨ym, yl, yA, yc, yll⟩, rfl, hy, hyn, hb6, hna⟩; have HY := Lib.hid hy; have HRY := Lib.hid (RBg.new (HRX3.out.below (by repeat (first | with_reducible exact hb | with_reducible refine Below.alloc ?_ (by first | omega | (simp <;> omega)) _ | with_reducible refine below_drewN ?_ _ | with_reducible refine Below.drew ?_))) (HP.out.ba.below (by repeat (first | with_reducible exact hb | with_reducible refine Below.alloc ?_ (by first | omega | (simp <;> omega)) _ | with_reducible refine below_drewN ?_ _ | with_reducible refine Below.drew ?_))) hyn hna); have HF := Lib.hid (farOf HRX.out (by first | exact hs3 | (simp; omega)) hna); replace hb := below_step6 (w := w3) hb6 (by repeat (first | with_reducible exact hb | with_reducible refine Below.alloc ?_ (by first | omega | (simp <;> omega)) _ | with_reducible refine below_drewN ?_ _ | with_reducible refine Below.drew ?_)); replace i1 := (hb.cell (p := ⟨w1.heap.size, 1, none⟩) li).trans i1; have HRX6 := Lib.hid (HRX3.out.below hb); replace HP := Lib.hid (HP.out.below hb); clear hy hyn hb6 hna e0 e1 e2 x0 x1 x2 z0 z1 z2 f0 f1 f2 l3; have e0 := HP.out.p2.cell 0; have e1 := HP.out.p2.cell 1; have e2 := HP.out.p2.cell 2; obtain ⟨x0, x1, x2⟩ := rb_cells HP.out.p1; simp only [List.getElem?_toArray, List.getElem?_cons_succ, List.getElem?_cons_zero] at e0 e1 e2; have z0 := HP.out.p3.cell 0; have z1 := HP.out.p3.cell 1; have z2 := HP.out.p3.cell 2; have f0 := HP.out.p3.frozen 0; have f1 := HP.out.p3.frozen 1; have f2 := HP.out.p3.frozen 2; have l3 := HP.out.p3.lt; simp only [List.getElem?_toArray, List.getElem?_cons_succ, List.getElem?_cons_zero] at z0 z1 z2))
  go_wp2_with (fail)
  refine bodyPost_ret (v := .tuple #[RB.agg ⟨ym, yl, yA, yc, yll⟩, .bool true]) (by simp [results, Try.results19, go_sem, z0, z1, z2, l3]) rfl ?_
  exact HP.out.fin HRY.out HF.out HY.out _ _ _
end Go.Proofs.Ytpkmbnmlepmceaa
