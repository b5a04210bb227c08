/- The law's step: the walk of Set, Keep, and of what looks alone. -/
import Derived.Test.YtpkmbnmlepmceaaBagT




namespace Go.Proofs.Ytpkmbnmlepmceaa
open Go.RowKit
set_option linter.unusedSimpArgs false
set_option linter.unusedVariables false
set_option maxHeartbeats 4000000
set_option maxRecDepth 100000
attribute [local go_sem] RB.agg RB.cells RB.zero


theorem StepPost.alloc {w W : World} {g : Nat} {v : Value} {x : RB} {s : Bg} {e : Ending} (h : StepPost w g v x s e W) (o : Obj) : StepPost w g v x s e (W.alloc o) := by
  obtain ⟨y, v', he, hb, ba, rb, st, hn⟩ := h
  have hbl : Below W.heap.size W (W.alloc o) := (Below.refl _ _).alloc (Nat.le_refl _) _
  exact ⟨y, v', he, hb, ba.below hbl, rb.below hbl, st.trans (BStep.of_below hbl _ _), hn⟩
theorem step3 (g : Nat) (v : Value) (x : RB) (i z : Int) (w : World) (hA : BagAt w g v x.bg) (hR : RBg w g v x) (hl : x.l.length ≤ 1000000) :
    Calls Try.prog 19 #[.pointer (some ⟨g, 0, none⟩), x.agg, .agg #[.int .i64 3, .int .i64 i, .int .i64 z]] w (StepPost w g v x (x.bg.set i z)) := by
  obtain ⟨W0, hW0⟩ : ∃ W0, W0 = W0of w x 3 i z := ⟨_, rfl⟩
  have HS0 : Hid (SP w g v x 3 i z W0 v x.bg) := Lib.hid (by rw [hW0]; exact W0of_sp w g v x 3 i z x.bg hA)
  have hsz : W0.heap.size = w.heap.size + 3 := by rw [hW0]; exact W0of_size w x 3 i z
  have HR0 : Hid (RBg W0 g v x) := Lib.hid (by rw [hW0]; exact hR.below (W0of_below w x 3 i z))
  have HRX0 := Lib.hid hR.rb
  clear hA hR
  obtain ⟨xm, xl, xA, xc, ll⟩ := x
  rw [W0of, show RB.cells ⟨xm, xl, xA, xc, ll⟩ = #[.int .i64 xm, .int .i64 xl, .slice xA ll.length xc] from rfl] at hW0
  go_enter Try.func19, Try.ntmps19
  go_wp2_with (fail)
  rw [← hW0]
  clear hW0
  have HP := HS0
  have HRX := HR0
  clear HS0 HR0
  have e0 := HP.out.p2.cell 0; have e1 := HP.out.p2.cell 1; have e2 := HP.out.p2.cell 2; obtain ⟨x0, x1, x2⟩ := rb_cells HP.out.p1; simp only [List.getElem?_toArray, List.getElem?_cons_succ, List.getElem?_cons_zero] at e0 e1 e2
  have z0 := HP.out.p3.cell 0; have z1 := HP.out.p3.cell 1; have z2 := HP.out.p3.cell 2; have f0 := HP.out.p3.frozen 0; have f1 := HP.out.p3.frozen 1; have f2 := HP.out.p3.frozen 2; have l3 := HP.out.p3.lt; simp only [List.getElem?_toArray, List.getElem?_cons_succ, List.getElem?_cons_zero] at z0 z1 z2
  have hq1 : w.heap.size + 1 + 1 ≠ w.heap.size := by omega
  have hq2 : w.heap.size + 1 + 1 ≠ w.heap.size + 1 := by omega
  have hq4 : w.heap.size ≠ w.heap.size + 1 + 1 := by omega
  have hq5 : w.heap.size + 1 ≠ w.heap.size + 1 + 1 := by omega
  have hb : Below W0.heap.size W0 W0 := Below.refl _ _
  have RS := Lib.hid (fun W h => refSet_any ⟨xm, xl, xA, xc, ll⟩ i z W h hl)
  have RH := Lib.hid (fun W => refHas_any ⟨xm, xl, xA, xc, ll⟩ i W)
  have HX0 : Hid (RBn w ⟨xm, xl, xA, xc, ll⟩) := HRX0
  have lp := HP.out.p2.lt
  have lq := HP.out.p1.lt
  go_region_held3 (fun w' => w'.cell? ⟨w.heap.size, 0, none⟩ = some (.int .i64 xm) ∧ w'.cell? ⟨w.heap.size, 1, none⟩ = some (.int .i64 xl) ∧ w'.cell? ⟨w.heap.size, 2, none⟩ = some (.slice xA ll.length xc) ∧ w'.cell? ⟨w.heap.size + 1, 1, none⟩ = some (.int .i64 i) ∧ w'.cell? ⟨w.heap.size + 1, 2, none⟩ = some (.int .i64 z)) (go_keep) (first
    | (go_at_call 33; refine (RS.out _ ?_).mono ?_; (· refine HRX.out.rb.below ?_; repeat (first | with_reducible exact hb | with_reducible refine Below.alloc ?_ (by first | omega | (simp <;> omega)) _ | with_reducible refine below_drewN ?_ _ | with_reducible refine Below.drew ?_)); rintro e w6 ⟨⟨ym, yl, yA, yc, yll⟩, rfl, hy, hyn, hb6, hna⟩; have HY := Lib.hid hy; have HRY := Lib.hid (RBg.new (HRX.out.below (by repeat (first | with_reducible exact hb | with_reducible refine Below.alloc ?_ (by first | omega | (simp <;> omega)) _ | with_reducible refine below_drewN ?_ _ | with_reducible refine Below.drew ?_))) (HP.out.ba.below (by repeat (first | with_reducible exact hb | with_reducible refine Below.alloc ?_ (by first | omega | (simp <;> omega)) _ | with_reducible refine below_drewN ?_ _ | with_reducible refine Below.drew ?_))) hyn hna); have HF := Lib.hid (farOf HX0.out (by first | omega | (simp; omega)) hna); replace hb := below_step6 (w := W0) hb6 (by repeat (first | with_reducible exact hb | with_reducible refine Below.alloc ?_ (by first | omega | (simp <;> omega)) _ | with_reducible refine below_drewN ?_ _ | with_reducible refine Below.drew ?_)); replace HP := Lib.hid (HP.out.below hb); replace HRX := Lib.hid (HRX.out.below hb); replace hb : Below w6.heap.size w6 w6 := Below.refl _ _; clear hy hyn hb6 hna; clear e0 e1 e2 x0 x1 x2 z0 z1 z2 f0 f1 f2 l3 lp lq; have e0 := HP.out.p2.cell 0; have e1 := HP.out.p2.cell 1; have e2 := HP.out.p2.cell 2; obtain ⟨x0, x1, x2⟩ := rb_cells HP.out.p1; simp only [List.getElem?_toArray, List.getElem?_cons_succ, List.getElem?_cons_zero] at e0 e1 e2; have z0 := HP.out.p3.cell 0; have z1 := HP.out.p3.cell 1; have z2 := HP.out.p3.cell 2; have f0 := HP.out.p3.frozen 0; have f1 := HP.out.p3.frozen 1; have f2 := HP.out.p3.frozen 2; have l3 := HP.out.p3.lt; simp only [List.getElem?_toArray, List.getElem?_cons_succ, List.getElem?_cons_zero] at z0 z1 z2; have lp := HP.out.p2.lt; have lq := HP.out.p1.lt)
    | (go_at_call 22; refine (set_any g v (RB.bg ⟨xm, xl, xA, xc, ll⟩) i z _ ?_).mono ?_; (· refine HP.out.ba.below ?_; repeat (first | with_reducible exact hb | with_reducible refine Below.alloc ?_ (by first | omega | (simp <;> omega)) _ | with_reducible refine below_drewN ?_ _ | with_reducible refine Below.drew ?_)); rintro e w7 ⟨rfl, hA7, hS7⟩; replace HRX := Lib.hid (RBg.bstep (HRX.out.below (by repeat (first | with_reducible exact hb | with_reducible refine Below.alloc ?_ (by first | omega | (simp <;> omega)) _ | with_reducible refine below_drewN ?_ _ | with_reducible refine Below.drew ?_))) (HP.out.ba.below (by repeat (first | with_reducible exact hb | with_reducible refine Below.alloc ?_ (by first | omega | (simp <;> omega)) _ | with_reducible refine below_drewN ?_ _ | with_reducible refine Below.drew ?_))) hS7); replace HRY := Lib.hid (RBg.bstep (HRY.out.below (by repeat (first | with_reducible exact hb | with_reducible refine Below.alloc ?_ (by first | omega | (simp <;> omega)) _ | with_reducible refine below_drewN ?_ _ | with_reducible refine Below.drew ?_))) (HP.out.ba.below (by repeat (first | with_reducible exact hb | with_reducible refine Below.alloc ?_ (by first | omega | (simp <;> omega)) _ | with_reducible refine below_drewN ?_ _ | with_reducible refine Below.drew ?_))) hS7); replace HP := Lib.hid (SP.step (HP.out.below (by repeat (first | with_reducible exact hb | with_reducible refine Below.alloc ?_ (by first | omega | (simp <;> omega)) _ | with_reducible refine below_drewN ?_ _ | with_reducible refine Below.drew ?_))) hS7 hA7); replace hb : Below w7.heap.size w7 w7 := Below.refl _ _; clear hA7 hS7; clear e0 e1 e2 x0 x1 x2 z0 z1 z2 f0 f1 f2 l3 lp lq; have e0 := HP.out.p2.cell 0; have e1 := HP.out.p2.cell 1; have e2 := HP.out.p2.cell 2; obtain ⟨x0, x1, x2⟩ := rb_cells HP.out.p1; simp only [List.getElem?_toArray, List.getElem?_cons_succ, List.getElem?_cons_zero] at e0 e1 e2; have z0 := HP.out.p3.cell 0; have z1 := HP.out.p3.cell 1; have z2 := HP.out.p3.cell 2; have f0 := HP.out.p3.frozen 0; have f1 := HP.out.p3.frozen 1; have f2 := HP.out.p3.frozen 2; have l3 := HP.out.p3.lt; simp only [List.getElem?_toArray, List.getElem?_cons_succ, List.getElem?_cons_zero] at z0 z1 z2; have lp := HP.out.p2.lt; have lq := HP.out.p1.lt)
    | (go_at_call 34; refine (RH.out _).mono ?_; rintro e w8 ⟨rfl, rfl⟩))
  go_wp2_with (fail)
  refine bodyPost_ret (v := .tuple #[RB.agg ⟨ym, yl, yA, yc, yll⟩, .bool true]) (by simp [results, Try.results19, go_sem, z0, z1, z2, l3]) rfl ?_
  exact (SP.fin HP.out HRY.out HF.out HY.out _ _ _).alloc _
theorem step4 (g : Nat) (v : Value) (x : RB) (i z : Int) (w : World) (hA : BagAt w g v x.bg) (hR : RBg w g v x) (hl : x.l.length ≤ 1000000) :
    Calls Try.prog 19 #[.pointer (some ⟨g, 0, none⟩), x.agg, .agg #[.int .i64 4, .int .i64 i, .int .i64 z]] w (StepPost w g v x x.bg.keep) := by
  obtain ⟨W0, hW0⟩ : ∃ W0, W0 = W0of w x 4 i z := ⟨_, rfl⟩
  have HS0 : Hid (SP w g v x 4 i z W0 v x.bg) := Lib.hid (by rw [hW0]; exact W0of_sp w g v x 4 i z x.bg hA)
  have hsz : W0.heap.size = w.heap.size + 3 := by rw [hW0]; exact W0of_size w x 4 i z
  have HR0 : Hid (RBg W0 g v x) := Lib.hid (by rw [hW0]; exact hR.below (W0of_below w x 4 i z))
  have HRX0 := Lib.hid hR.rb
  clear hA hR
  obtain ⟨xm, xl, xA, xc, ll⟩ := x
  rw [W0of, show RB.cells ⟨xm, xl, xA, xc, ll⟩ = #[.int .i64 xm, .int .i64 xl, .slice xA ll.length xc] from rfl] at hW0
  go_enter Try.func19, Try.ntmps19
  go_wp2_with (fail)
  rw [← hW0]
  clear hW0
  refine (refOdd_any ⟨xm, xl, xA, xc, ll⟩ W0 HR0.out.rb hl).mono ?_
  rintro e w1 ⟨⟨ym, yl, yA, yc, yll⟩, rfl, hy, hyn, hb1, hna⟩
  have HY := Lib.hid hy
  have HF := Lib.hid (farOf HRX0.out (by omega) hna)
  have HP0 := Lib.hid (HS0.out.below hb1)
  have HRY0 := Lib.hid (HR0.out.new HS0.out.ba hyn hna)
  have hs1 := hb1.size
  clear hy hyn hb1 hna HS0 HR0
  have BY0 := Lib.hid (Blk.new w1 45 (RB.cells ⟨ym, yl, yA, yc, yll⟩))
  have HP := Lib.hid (HP0.out.below ((Below.refl _ _).alloc (Nat.le_refl _) (.cells (RB.cells ⟨ym, yl, yA, yc, yll⟩) 45)))
  have HRY := Lib.hid (HRY0.out.below ((Below.refl _ _).alloc (Nat.le_refl _) (.cells (RB.cells ⟨ym, yl, yA, yc, yll⟩) 45)))
  clear HP0 HRY0
  go_wp2_with (fail)
  obtain ⟨W5, hW5⟩ : ∃ W5, W5 = w1.alloc (.cells #[.int .i64 ym, .int .i64 yl, .slice yA yll.length yc] 45) := ⟨_, rfl⟩
  rw [show RB.cells ⟨ym, yl, yA, yc, yll⟩ = #[.int .i64 ym, .int .i64 yl, .slice yA yll.length yc] from rfl] at HP HRY BY0
  rw [← hW5] at HP HRY BY0 ⊢
  clear hW5
  have KE := Lib.hid (show ∀ W, BagAt W g v (RB.bg ⟨xm, xl, xA, xc, ll⟩) → Calls Try.prog 15 #[.pointer (some ⟨g, 0, none⟩), .func (.func 16) #[] #[]] W (fun e w' => e = .returned (.int .i64 ((ll.length : Int) - (oddL ll).length)) ∧ ∃ v', BagAt w' g v' (RB.bg ⟨xm, xl, xA, xc, ll⟩).keep ∧ BStep W w' g v v') from fun W h => keep_any g v (RB.bg ⟨xm, xl, xA, xc, ll⟩) W h hl)
  have e0 := HP.out.p2.cell 0; have e1 := HP.out.p2.cell 1; have e2 := HP.out.p2.cell 2; obtain ⟨x0, x1, x2⟩ := rb_cells HP.out.p1; simp only [List.getElem?_toArray, List.getElem?_cons_succ, List.getElem?_cons_zero] at e0 e1 e2
  have z0 := HP.out.p3.cell 0; have z1 := HP.out.p3.cell 1; have z2 := HP.out.p3.cell 2; have f0 := HP.out.p3.frozen 0; have f1 := HP.out.p3.frozen 1; have f2 := HP.out.p3.frozen 2; have l3 := HP.out.p3.lt; simp only [List.getElem?_toArray, List.getElem?_cons_succ, List.getElem?_cons_zero] at z0 z1 z2
  have hq1 : w.heap.size + 1 + 1 ≠ w.heap.size := by omega
  have hq2 : w.heap.size + 1 + 1 ≠ w.heap.size + 1 := by omega
  have hq4 : w.heap.size ≠ w.heap.size + 1 + 1 := by omega
  have hq5 : w.heap.size + 1 ≠ w.heap.size + 1 + 1 := by omega
  have hq7 : w1.heap.size ≠ w.heap.size + 1 + 1 := by omega
  have hq8 : w.heap.size + 1 + 1 ≠ w1.heap.size := by omega
  have hb : Below W5.heap.size W5 W5 := Below.refl _ _
  have lp := HP.out.p2.lt
  have lq := HP.out.p1.lt
  have y0 := BY0.out.cell 0
  have y1 := BY0.out.cell 1
  have y2 := BY0.out.cell 2
  have ly := BY0.out.lt
  simp only [List.getElem?_toArray, List.getElem?_cons_succ, List.getElem?_cons_zero] at y0 y1 y2
  go_region_held3 (fun w' => w'.cell? ⟨w1.heap.size, 0, none⟩ = some (.int .i64 ym) ∧ w'.cell? ⟨w1.heap.size, 1, none⟩ = some (.int .i64 yl) ∧ w'.cell? ⟨w1.heap.size, 2, none⟩ = some (.slice yA yll.length yc)) (go_keep) (first
    | (go_at_call 15; refine (KE.out _ ?_).mono ?_; (· refine HP.out.ba.below ?_; repeat (first | with_reducible exact hb | with_reducible refine Below.alloc ?_ (by first | omega | (simp <;> omega)) _ | with_reducible refine below_drewN ?_ _ | with_reducible refine Below.drew ?_)); rintro e w7 ⟨rfl, v7, hA7, hS7⟩; replace HRY := Lib.hid (RBg.bstep (HRY.out.below (by repeat (first | with_reducible exact hb | with_reducible refine Below.alloc ?_ (by first | omega | (simp <;> omega)) _ | with_reducible refine below_drewN ?_ _ | with_reducible refine Below.drew ?_))) (HP.out.ba.below (by repeat (first | with_reducible exact hb | with_reducible refine Below.alloc ?_ (by first | omega | (simp <;> omega)) _ | with_reducible refine below_drewN ?_ _ | with_reducible refine Below.drew ?_))) hS7); replace BY0 := Lib.hid (hS7.blk (HP.out.ba.below (by repeat (first | with_reducible exact hb | with_reducible refine Below.alloc ?_ (by first | omega | (simp <;> omega)) _ | with_reducible refine below_drewN ?_ _ | with_reducible refine Below.drew ?_))) (BY0.out.below (by repeat (first | with_reducible exact hb | with_reducible refine Below.alloc ?_ (by first | omega | (simp <;> omega)) _ | with_reducible refine below_drewN ?_ _ | with_reducible refine Below.drew ?_)) ly) (by decide) (by decide)); replace HP := Lib.hid (SP.step (HP.out.below (by repeat (first | with_reducible exact hb | with_reducible refine Below.alloc ?_ (by first | omega | (simp <;> omega)) _ | with_reducible refine below_drewN ?_ _ | with_reducible refine Below.drew ?_))) hS7 hA7); replace hb : Below w7.heap.size w7 w7 := Below.refl _ _; clear hA7 hS7 y0 y1 y2 ly; have y0 := BY0.out.cell 0; have y1 := BY0.out.cell 1; have y2 := BY0.out.cell 2; have ly := BY0.out.lt; simp only [List.getElem?_toArray, List.getElem?_cons_succ, List.getElem?_cons_zero] at y0 y1 y2; clear e0 e1 e2 x0 x1 x2 z0 z1 z2 f0 f1 f2 l3 lp lq; have e0 := HP.out.p2.cell 0; have e1 := HP.out.p2.cell 1; have e2 := HP.out.p2.cell 2; obtain ⟨x0, x1, x2⟩ := rb_cells HP.out.p1; simp only [List.getElem?_toArray, List.getElem?_cons_succ, List.getElem?_cons_zero] at e0 e1 e2; have z0 := HP.out.p3.cell 0; have z1 := HP.out.p3.cell 1; have z2 := HP.out.p3.cell 2; have f0 := HP.out.p3.frozen 0; have f1 := HP.out.p3.frozen 1; have f2 := HP.out.p3.frozen 2; have l3 := HP.out.p3.lt; simp only [List.getElem?_toArray, List.getElem?_cons_succ, List.getElem?_cons_zero] at z0 z1 z2; have lp := HP.out.p2.lt; have lq := HP.out.p1.lt))
  go_wp2_with (fail)
  refine bodyPost_ret (v := .tuple #[RB.agg ⟨ym, yl, yA, yc, yll⟩, .bool true]) (by simp [results, Try.results19, go_sem, z0, z1, z2, l3]) rfl ?_
  exact SP.fin HP.out HRY.out HF.out HY.out _ _ _
theorem step5 (g : Nat) (v : Value) (x : RB) (k i z : Int) (w : World) (hk : k ≠ 0 ∧ k ≠ 1 ∧ k ≠ 2 ∧ k ≠ 3 ∧ k ≠ 4) (hA : BagAt w g v x.bg) (hR : RBg w g v x) (hl : x.l.length ≤ 1000000) (hS : Srt x.bg) (hla : x.last ≤ 1000000) (hz : z ≤ 9223372036854775807) :
    Calls Try.prog 19 #[.pointer (some ⟨g, 0, none⟩), x.agg, .agg #[.int .i64 k, .int .i64 i, .int .i64 z]] w (StepPost w g v x x.bg) := by
  have k0 : (k == 0) = false := by simp [hk.1]
  have k1 : (k == 1) = false := by simp [hk.2.1]
  have k2 : (k == 2) = false := by simp [hk.2.2.1]
  have k3 : (k == 3) = false := by simp [hk.2.2.2.1]
  have k4 : (k == 4) = false := by simp [hk.2.2.2.2]
  have HS := Lib.hid hS
  clear hk hS
  obtain ⟨W0, hW0⟩ : ∃ W0, W0 = W0of w x k i z := ⟨_, rfl⟩
  have HS0 : Hid (SP w g v x k i z W0 v x.bg) := Lib.hid (by rw [hW0]; exact W0of_sp w g v x k i z x.bg hA)
  have hsz : W0.heap.size = w.heap.size + 3 := by rw [hW0]; exact W0of_size w x k i z
  have HR0 : Hid (RBg W0 g v x) := Lib.hid (by rw [hW0]; exact hR.below (W0of_below w x k i z))
  have HRX0 := Lib.hid hR.rb
  clear hA hR
  obtain ⟨xm, xl, xA, xc, ll⟩ := x
  rw [W0of, show RB.cells ⟨xm, xl, xA, xc, ll⟩ = #[.int .i64 xm, .int .i64 xl, .slice xA ll.length xc] from rfl] at hW0
  go_enter Try.func19, Try.ntmps19
  go_wp2_with (fail)
  rw [← hW0]
  clear hW0
  refine (refAt_any ⟨xm, xl, xA, xc, ll⟩ i W0 HR0.out.rb).mono ?_
  rintro e w1 ⟨rfl, hb1⟩
  have hs1 := hb1.size
  have HP1 := Lib.hid (HS0.out.below hb1)
  have HRX1 := Lib.hid (HR0.out.below hb1)
  obtain ⟨p, hp⟩ : ∃ p, p = RB.item ⟨xm, xl, xA, xc, ll⟩ i := ⟨_, rfl⟩
  obtain ⟨hs, hhs⟩ : ∃ hs, hs = (RB.bg ⟨xm, xl, xA, xc, ll⟩).has i := ⟨_, rfl⟩
  obtain ⟨nu, hnu⟩ : ∃ nu, nu = (RB.bg ⟨xm, xl, xA, xc, ll⟩).upto z := ⟨_, rfl⟩
  have AT := Lib.hid (show ∀ W, BagAt W g v (RB.bg ⟨xm, xl, xA, xc, ll⟩) → Calls Try.prog 21 #[.pointer (some ⟨g, 0, none⟩), .int .i64 i] W (fun e w' => e = .returned (.tuple #[.int .i64 p.2, .bool hs]) ∧ W = w') from fun W h => (at_any g v (RB.bg ⟨xm, xl, xA, xc, ll⟩) i W h).mono fun e w' ⟨a, b⟩ => ⟨by rw [a, at2_has, ← hhs, hp]; rfl, b⟩)
  have NO := Lib.hid (show ∀ W, BagAt W g v (RB.bg ⟨xm, xl, xA, xc, ll⟩) → Calls Try.prog 17 #[.pointer (some ⟨g, 0, none⟩), .int .i64 i] W (fun e w' => e = .returned (.int .i64 p.1) ∧ W = w') from fun W h => (no_any g v (RB.bg ⟨xm, xl, xA, xc, ll⟩) i W h).mono fun e w' ⟨a, b⟩ => ⟨by rw [a, hp]; rfl, b⟩)
  have UP := Lib.hid (show ∀ W, BagAt W g v (RB.bg ⟨xm, xl, xA, xc, ll⟩) → Calls Try.prog 18 #[.pointer (some ⟨g, 0, none⟩), .int .i64 z] W (fun e w' => e = .returned (.int .i64 nu) ∧ Below W.heap.size W w') from fun W h => (upto_any g v (RB.bg ⟨xm, xl, xA, xc, ll⟩) z W h hl HS.out hla hz).mono fun e w' ⟨a, b⟩ => ⟨by rw [a, hnu], b⟩)
  have RU := Lib.hid (show ∀ W, RBn W ⟨xm, xl, xA, xc, ll⟩ → Calls Try.prog 36 #[RB.agg ⟨xm, xl, xA, xc, ll⟩, .int .i64 z] W (fun e w' => e = .returned (.int .i64 nu) ∧ Below W.heap.size W w') from fun W h => (refUpto_any ⟨xm, xl, xA, xc, ll⟩ z W h).mono fun e w' ⟨a, b⟩ => ⟨by rw [a, hnu], b⟩)
  rw [← hp, ← hhs]
  rw [show itAgg p = .agg #[.int .i64 p.1, .int .i64 p.2] from rfl]
  have HP := Lib.hid (HP1.out.below ((Below.refl _ _).alloc (Nat.le_refl _) (.cells #[.int .i64 p.1, .int .i64 p.2] 63)))
  have HRX := Lib.hid (HRX1.out.below ((Below.refl _ _).alloc (Nat.le_refl _) (.cells #[.int .i64 p.1, .int .i64 p.2] 63)))
  have BI := Lib.hid (Blk.new w1 63 #[.int .i64 p.1, .int .i64 p.2])
  clear hp hhs hnu hb1 HS0 HR0 HRX1
  have ea := HP1.out.p2.cell 1
  have la := HP1.out.p2.lt
  simp only [List.getElem?_toArray, List.getElem?_cons_succ, List.getElem?_cons_zero] at ea
  go_wp2_with (fail)
  refine (AT.out _ HP.out.ba).mono ?_
  rintro e w' ⟨rfl, rfl⟩
  clear ea la HP1
  obtain ⟨W5, hW5⟩ : ∃ W5, W5 = w1.alloc (.cells #[.int .i64 p.1, .int .i64 p.2] 63) := ⟨_, rfl⟩
  rw [← hW5] at HP HRX BI ⊢
  clear hW5
  have e0 := HP.out.p2.cell 0; have e1 := HP.out.p2.cell 1; have e2 := HP.out.p2.cell 2; obtain ⟨x0, x1, x2⟩ := rb_cells HP.out.p1; simp only [List.getElem?_toArray, List.getElem?_cons_succ, List.getElem?_cons_zero] at e0 e1 e2
  have z0 := HP.out.p3.cell 0; have z1 := HP.out.p3.cell 1; have z2 := HP.out.p3.cell 2; have f0 := HP.out.p3.frozen 0; have f1 := HP.out.p3.frozen 1; have f2 := HP.out.p3.frozen 2; have l3 := HP.out.p3.lt; simp only [List.getElem?_toArray, List.getElem?_cons_succ, List.getElem?_cons_zero] at z0 z1 z2
  have hq1 : w.heap.size + 1 + 1 ≠ w.heap.size := by omega
  have hq2 : w.heap.size + 1 + 1 ≠ w.heap.size + 1 := by omega
  have hq4 : w.heap.size ≠ w.heap.size + 1 + 1 := by omega
  have hq5 : w.heap.size + 1 ≠ w.heap.size + 1 + 1 := by omega
  have hq7 : w1.heap.size ≠ w.heap.size + 1 + 1 := by omega
  have hq8 : w.heap.size + 1 + 1 ≠ w1.heap.size := by omega
  have hb : Below W5.heap.size W5 W5 := Below.refl _ _
  have lp := HP.out.p2.lt
  have lq := HP.out.p1.lt
  have i0 := BI.out.cell 0
  have i1 := BI.out.cell 1
  have li := BI.out.lt
  simp only [List.getElem?_toArray, List.getElem?_cons_succ, List.getElem?_cons_zero] at i0 i1
  go_wp2_with (fail)
  go_region_held3 (fun w' => w'.cell? ⟨w.heap.size, 0, none⟩ = some (.int .i64 xm) ∧ w'.cell? ⟨w.heap.size, 1, none⟩ = some (.int .i64 xl) ∧ w'.cell? ⟨w.heap.size, 2, none⟩ = some (.slice xA ll.length xc) ∧ w'.cell? ⟨w.heap.size + 1, 1, none⟩ = some (.int .i64 i) ∧ w'.cell? ⟨w.heap.size + 1, 2, none⟩ = some (.int .i64 z) ∧ w'.cell? ⟨w1.heap.size, 0, none⟩ = some (.int .i64 p.1) ∧ w'.cell? ⟨w1.heap.size, 1, none⟩ = some (.int .i64 p.2)) (go_keep) (first
    | (go_at_call 17; refine (NO.out _ ?_).mono ?_; (· refine HP.out.ba.below ?_; repeat (first | with_reducible exact hb | with_reducible refine Below.alloc ?_ (by first | omega | (simp <;> omega)) _ | with_reducible refine below_drewN ?_ _ | with_reducible refine Below.drew ?_)); rintro e w6 ⟨rfl, rfl⟩)
    | (go_at_call 18; refine (UP.out _ ?_).mono ?_; (· refine HP.out.ba.below ?_; repeat (first | with_reducible exact hb | with_reducible refine Below.alloc ?_ (by first | omega | (simp <;> omega)) _ | with_reducible refine below_drewN ?_ _ | with_reducible refine Below.drew ?_)); rintro e w6 ⟨rfl, hb6⟩; replace hb := below_step6 (w := W5) hb6 (by repeat (first | with_reducible exact hb | with_reducible refine Below.alloc ?_ (by first | omega | (simp <;> omega)) _ | with_reducible refine below_drewN ?_ _ | with_reducible refine Below.drew ?_)); replace BI := Lib.hid (BI.out.below hb li); replace HP := Lib.hid (HP.out.below hb); replace HRX := Lib.hid (HRX.out.below hb); replace hb : Below w6.heap.size w6 w6 := Below.refl _ _; clear hb6; clear e0 e1 e2 x0 x1 x2 z0 z1 z2 f0 f1 f2 l3 lp lq i0 i1 li; have e0 := HP.out.p2.cell 0; have e1 := HP.out.p2.cell 1; have e2 := HP.out.p2.cell 2; obtain ⟨x0, x1, x2⟩ := rb_cells HP.out.p1; simp only [List.getElem?_toArray, List.getElem?_cons_succ, List.getElem?_cons_zero] at e0 e1 e2; have z0 := HP.out.p3.cell 0; have z1 := HP.out.p3.cell 1; have z2 := HP.out.p3.cell 2; have f0 := HP.out.p3.frozen 0; have f1 := HP.out.p3.frozen 1; have f2 := HP.out.p3.frozen 2; have l3 := HP.out.p3.lt; simp only [List.getElem?_toArray, List.getElem?_cons_succ, List.getElem?_cons_zero] at z0 z1 z2; have lp := HP.out.p2.lt; have lq := HP.out.p1.lt; have i0 := BI.out.cell 0; have i1 := BI.out.cell 1; have li := BI.out.lt; simp only [List.getElem?_toArray, List.getElem?_cons_succ, List.getElem?_cons_zero] at i0 i1)
    | (go_at_call 36; refine (RU.out _ ?_).mono ?_; (· refine HRX.out.rb.below ?_; repeat (first | with_reducible exact hb | with_reducible refine Below.alloc ?_ (by first | omega | (simp <;> omega)) _ | with_reducible refine below_drewN ?_ _ | with_reducible refine Below.drew ?_)); rintro e w7 ⟨rfl, hb6⟩; replace hb := below_step6 (w := w6) hb6 (by repeat (first | with_reducible exact hb | with_reducible refine Below.alloc ?_ (by first | omega | (simp <;> omega)) _ | with_reducible refine below_drewN ?_ _ | with_reducible refine Below.drew ?_)); replace BI := Lib.hid (BI.out.below hb li); replace HP := Lib.hid (HP.out.below hb); replace HRX := Lib.hid (HRX.out.below hb); replace hb : Below w7.heap.size w7 w7 := Below.refl _ _; clear hb6; clear e0 e1 e2 x0 x1 x2 z0 z1 z2 f0 f1 f2 l3 lp lq i0 i1 li; have e0 := HP.out.p2.cell 0; have e1 := HP.out.p2.cell 1; have e2 := HP.out.p2.cell 2; obtain ⟨x0, x1, x2⟩ := rb_cells HP.out.p1; simp only [List.getElem?_toArray, List.getElem?_cons_succ, List.getElem?_cons_zero] at e0 e1 e2; have z0 := HP.out.p3.cell 0; have z1 := HP.out.p3.cell 1; have z2 := HP.out.p3.cell 2; have f0 := HP.out.p3.frozen 0; have f1 := HP.out.p3.frozen 1; have f2 := HP.out.p3.frozen 2; have l3 := HP.out.p3.lt; simp only [List.getElem?_toArray, List.getElem?_cons_succ, List.getElem?_cons_zero] at z0 z1 z2; have lp := HP.out.p2.lt; have lq := HP.out.p1.lt; have i0 := BI.out.cell 0; have i1 := BI.out.cell 1; have li := BI.out.lt; simp only [List.getElem?_toArray, List.getElem?_cons_succ, List.getElem?_cons_zero] at i0 i1))
  go_wp2_with (fail)
  refine bodyPost_ret (v := .tuple #[RB.agg ⟨xm, xl, xA, xc, ll⟩, .bool true]) (by simp [results, Try.results19, go_sem, z0, z1, z2, l3]) rfl ?_
  exact SP.fin HP.out HRX.out ⟨fun ad h0 hA e => by have := HRX0.out.blt h0 hA; omega, .inl rfl⟩ rfl _ _ _
theorem step_any (g : Nat) (v : Value) (x : RB) (k i z : Int) (w : World) (hA : BagAt w g v x.bg) (hR : RBg w g v x) (hl : x.l.length ≤ 1000000) (hS : Srt x.bg) (h0 : 0 ≤ x.last) (h1 : x.last ≤ 1000000) (hz : z ≤ 9223372036854775807) :
    Calls Try.prog 19 #[.pointer (some ⟨g, 0, none⟩), x.agg, .agg #[.int .i64 k, .int .i64 i, .int .i64 z]] w (StepPost w g v x (x.bg.step k i z)) := by
  unfold Bg.step
  by_cases e0 : k = 0
  · rw [if_pos e0]; subst e0; exact step0 g v x i z w hA hR hl h0 h1
  rw [if_neg e0]
  by_cases e1 : k = 1
  · rw [if_pos e1]; subst e1; exact step1 g v x i z w hA hR hl h0 h1
  rw [if_neg e1]
  by_cases e2 : k = 2
  · rw [if_pos e2]; subst e2; exact step2 g v x i z w hA hR hl
  rw [if_neg e2]
  by_cases e3 : k = 3
  · rw [if_pos e3]; subst e3; exact step3 g v x i z w hA hR hl
  rw [if_neg e3]
  by_cases e4 : k = 4
  · rw [if_pos e4]; subst e4; exact step4 g v x i z w hA hR hl
  rw [if_neg e4]
  exact step5 g v x k i z w ⟨e0, e1, e2, e3, e4⟩ hA hR hl hS h1 hz
end Go.Proofs.Ytpkmbnmlepmceaa
