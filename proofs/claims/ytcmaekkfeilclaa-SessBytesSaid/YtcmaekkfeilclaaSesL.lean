/- The reference's Read of rows: the contract. -/
import Derived.Test.YtcmaekkfeilclaaSesK
namespace Go.Proofs.Ytcmaekkfeilclaa
open Go.RowKit
set_option linter.unusedSimpArgs false
set_option linter.unusedVariables false
set_option maxHeartbeats 2000000
set_option maxRecDepth 100000
attribute [local go_sem] Rw.agg Rw.cells RI.agg RI.cells RI.nil

def RfPost (B : Nat) (w : World) (s : FI) (e : Ending) (w' : World) : Prop :=
  ∃ (y : RI) (A : Option Addr) (c : Nat), e = .returned (.tuple #[y.agg, .slice A (readL s).length c, .int .i64 (readE s)]) ∧ y.s = readI s ∧ RIn w' B y ∧ Reads w' w'.heap.size 5 A (readL s).length ((readL s).flatMap Rw.vals) ∧ Below w.heap.size w w'




/-- what stands while a row's numbers are read -/
structure St3 (w W : World) (J : Nat) (y z : RI) (ov : Value) (k : Nat) (l : List Rw) : Prop where
  p1 : Blk W w.heap.size 63 y.cells
  p2 : Blk W (w.heap.size + 1) 63 (RI.nil 0).cells
  p4 : Blk W J 63 z.cells
  ow : W.ownsRow (w.heap.size + 2) 31 5 ov k (l.flatMap Rw.vals)
  lt : ∀ g, ov.ownBlock = some g → g < J
  hj : w.heap.size + 2 ≤ J
  bl : Below w.heap.size w W
theorem chg_setAt (w : World) (g o : Nat) (u : Value) : Chg w (w.setCell ⟨g, o, none⟩ u) (isG g) := chg_set0 w g u o
theorem St3.step {w W W2 : World} {J : Nat} {y z z' : RI} {ov : Value} {k : Nat} {l : List Rw} (h : St3 w W J y z ov k l)
    (hb : Below ((W.setCell ⟨J, 0, none⟩ (.slice z'.A z'.s.l.length z'.cap)).setCell ⟨J, 1, none⟩ (.int .i64 z'.s.e)).heap.size ((W.setCell ⟨J, 0, none⟩ (.slice z'.A z'.s.l.length z'.cap)).setCell ⟨J, 1, none⟩ (.int .i64 z'.s.e)) W2) : St3 w W2 J y z' ov k l := by
  have hj := h.hj
  have hl := h.p4.lt
  have c : Chg W W2 (isG J) := ((chg_setAt W J 0 _).trans (chg_setAt _ J 1 _) (fun _ _ x => x)).trans (Chg.of_below hb _) (fun _ _ x => x)
  refine ⟨c.blk h.p1 (by unfold isG; omega), c.blk h.p2 (by unfold isG; omega), ((h.p4.set_ 0 _).set_ 1 _).below hb (by simpa using hl), c.own h.ow (fun g hg e => ?_), h.lt, hj, ?_⟩
  · have := h.lt g hg; unfold isG at e; omega
  · exact h.bl.trans (c.below h.bl.size (fun g hg e => by unfold isG at e; omega))
theorem St3.new {w W W2 : World} {y z' : RI} {ov : Value} {k : Nat} {l : List Rw} (p1 : Blk W w.heap.size 63 y.cells) (p2 : Blk W (w.heap.size + 1) 63 (RI.nil 0).cells)
    (ow : W.ownsRow (w.heap.size + 2) 31 5 ov k (l.flatMap Rw.vals)) (bl : Below w.heap.size w W) (hs : w.heap.size + 2 ≤ W.heap.size)
    (hb : Below (W.alloc (.cells z'.cells 63)).heap.size (W.alloc (.cells z'.cells 63)) W2) : St3 w W2 W.heap.size y z' ov k l := by
  have c : Chg W W2 (fun _ => False) := (Chg.of_below (((Below.refl W.heap.size W).alloc (Nat.le_refl _) _).trans (hb.mono (by simp))) _)
  exact ⟨c.blk p1 id, c.blk p2 id, (Blk.new W _ _).below hb (by simp), c.own ow (fun _ _ h => h), fun g hg => (ow.lt g hg).2, hs, bl.trans (c.below bl.size (fun _ _ h => h))⟩

structure St4 (w W : World) (J : Nat) (y : RI) (r : Rw) (ov : Value) (k : Nat) (l : List Rw) : Prop where
  p1 : Blk W w.heap.size 63 y.cells
  p2 : Blk W (w.heap.size + 1) 63 (RI.nil 0).cells
  p4 : Blk W J 31 r.cells
  ow : W.ownsRow (w.heap.size + 2) 31 5 ov k (l.flatMap Rw.vals)
  hj : w.heap.size + 2 ≤ J
  bl : Below w.heap.size w W
theorem St3.row {w W : World} {J : Nat} {y z z' : RI} {ov : Value} {k : Nat} {l : List Rw} (h : St3 w W J y z ov k l) (r : Rw) :
    St4 w (((((W.setCell ⟨J, 0, none⟩ (.slice z'.A z'.s.l.length z'.cap)).setCell ⟨J, 1, none⟩ (.int .i64 z'.s.e)).setCell ⟨w.heap.size, 0, none⟩ (.slice z'.A z'.s.l.length z'.cap)).setCell ⟨w.heap.size, 1, none⟩ (.int .i64 z'.s.e)).alloc (.cells r.cells 31)) W.heap.size z' r ov k l := by
  have hj := h.hj
  have hl := h.p4.lt
  obtain ⟨V, hV⟩ : ∃ V, V = (W.setCell ⟨J, 0, none⟩ (.slice z'.A z'.s.l.length z'.cap)).setCell ⟨J, 1, none⟩ (.int .i64 z'.s.e) := ⟨_, rfl⟩
  have hVs : V.heap.size = W.heap.size := by rw [hV]; simp
  have c : Chg W V (isG J) := by rw [hV]; exact ((chg_setAt W J 0 _).trans (chg_setAt _ J 1 _) (fun _ _ x => x))
  rw [← hV]
  have c2 : Chg V ((V.setCell ⟨w.heap.size, 0, none⟩ (.slice z'.A z'.s.l.length z'.cap)).setCell ⟨w.heap.size, 1, none⟩ (.int .i64 z'.s.e)) (isG w.heap.size) := ((chg_setAt V w.heap.size 0 _).trans (chg_setAt _ w.heap.size 1 _) (fun _ _ x => x))
  have q1 : Blk V w.heap.size 63 y.cells := c.blk h.p1 (by unfold isG; omega)
  have q2 : Blk V (w.heap.size + 1) 63 (RI.nil 0).cells := c.blk h.p2 (by unfold isG; omega)
  have q3 := c.own h.ow (fun g hg e => by have := h.lt g hg; unfold isG at e; omega)
  have q4 : Below w.heap.size w V := h.bl.trans (c.below h.bl.size (fun g hg e => by unfold isG at e; omega))
  refine ⟨((q1.set_ 0 _).set_ 1 _).alloc _, (c2.blk q2 (by unfold isG; omega)).alloc _, blk_at _ _ _ _ (by simp [hVs]), (c2.own q3 (fun g hg e => ?_)).alloc _, by omega, ?_⟩
  · have := (q3.lt g hg).1; unfold isG at e; omega
  · exact ((q4.setCell (by simp) _).setCell (by simp) _).alloc (by simp; omega) _
theorem St4.below {w W W2 : World} {J : Nat} {y : RI} {r : Rw} {ov : Value} {k : Nat} {l : List Rw} (h : St4 w W J y r ov k l) (hb : Below W.heap.size W W2) : St4 w W2 J y r ov k l := by
  have c : Chg W W2 (fun _ => False) := Chg.of_below hb _
  exact ⟨c.blk h.p1 id, c.blk h.p2 id, c.blk h.p4 id, c.own h.ow (fun _ _ x => x), h.hj, h.bl.trans (c.below h.bl.size (fun _ _ x => x))⟩

theorem RIn.grown {w w' : World} {B : Nat} {x : RI} {row : Option Nat} (h : RIn w B x) (hg : w.grownBy w' row) (hB : B ≤ w.heap.size) (hr : ∀ g, row = some g → B ≤ g) : RIn w' B x := ⟨h.rd.grown hg hB hr, h.hc, h.hm, h.by_, h.inv⟩
theorem St4.app {w W W2 W3 : World} {B J : Nat} {y : RI} {r : Rw} {ov v3 : Value} {k : Nat} {l : List Rw} (h : St4 w W J y r ov k l) (hb : Below W.heap.size W W2) (hg : W2.grownBy W3 ov.ownBlock) (hB : B ≤ w.heap.size) (hx : RIn W B y)
    (hown : W3.ownsRow (w.heap.size + 2) 31 5 v3 (k + 1) (l.flatMap Rw.vals ++ r.vals)) :
    Blk W3 w.heap.size 63 y.cells ∧ Blk W3 (w.heap.size + 1) 63 (RI.nil 0).cells ∧ RIn W3 B y ∧ W3.ownsRow (w.heap.size + 2) 31 5 v3 (k + 1) ((l ++ [r]).flatMap Rw.vals) ∧ Below w.heap.size w W3 ∧ w.heap.size + 2 ≤ W3.heap.size := by
  have h2 := h.below hb
  have hge : ∀ g, ov.ownBlock = some g → w.heap.size + 2 ≤ g := fun g hg => (h.ow.lt g hg).1
  have hWs := h.p4.lt
  have hj := h.hj
  have hs := hb.size
  have hs3 := hg.size
  refine ⟨h2.p1.grown hg (fun e => by have := hge _ e.symm; omega), h2.p2.grown hg (fun e => by have := hge _ e.symm; omega), (hx.below (hb.mono (by omega))).grown hg (by omega) (fun g e => by have := hge _ e; omega), by simpa using hown, h2.bl.grown hg h2.bl.size (fun g e => by have := hge _ e; omega), by omega⟩
theorem reads_new_row (W : World) (r : Rw) (t b : Nat) (hb : b = W.heap.size) : Reads (W.alloc (.cells r.cells t)) (b + 1) 5 (some ⟨b, 0, none⟩) 1 r.vals :=
  ⟨rfl, fun _ => ⟨_, rfl, by simp, fun j u hu => cells_new_at W r.cells t b hb j u hu⟩⟩

theorem refReadT_any (x : RI) (B : Nat) (w : World) (hx : RIn w B x) (hB : B ≤ w.heap.size) :
    Calls Try.prog 28 #[x.agg] w (RfPost B w x.s) := by
  obtain ⟨i0, hi, hz0, hz1, hz2⟩ := info_parts rowInfo
  have HX := Lib.hid hx
  obtain ⟨s, hs⟩ : ∃ s, s = x.s := ⟨_, rfl⟩
  have U1 := fun w => refUpto_any x 1 6 B w
  rw [← hs] at U1 ⊢
  have HSX := Lib.hid hs
  clear hs
  obtain ⟨p0, hp0⟩ : ∃ p, p = s.upto 1 6 := ⟨_, rfl⟩
  have hE : readE s = if (getRows p0.2 p0.1).1.e ≠ 0 then (getRows p0.2 p0.1).1.e else if (getRows p0.2 p0.1).2.2 then 0 else 4 := by rw [hp0]; rfl
  have hL : readL s = if readE s = 0 then (getRows p0.2 p0.1).2.1 else [] := by rw [hp0]; rfl
  have hI : readI s = (getRows p0.2 p0.1).1 := by rw [hp0]; rfl
  have hn6 : p0.2 ≤ 6 := by rw [hp0]; exact FI.upto_most _ _ _
  rw [← hp0] at U1
  have HE := Lib.hid hE
  have HL := Lib.hid hL
  have HI := Lib.hid hI
  have U1' := Lib.hid U1
  clear hp0 hE hL hI U1 hx
  obtain ⟨s1, n⟩ := p0
  simp only at hn6 HE HL HI U1'
  go_enter Try.func28, Try.ntmps28
  go_wp2_with (fail)
  refine (U1'.out _ (by repeat (first | with_reducible exact HX.out | with_reducible refine RIn.alloc ?_ (by first | omega | (simp; omega)) _ | with_reducible refine RIn.setC ?_ (by first | omega | (simp <;> omega)) _ | with_reducible refine RIn.drewN ?_ _ | with_reducible refine RIn.drew ?_)) (by simp; omega)).mono ?_
  rintro e w1 ⟨y1, rfl, hy, h1, h2⟩
  have b0 : Blk ((w.alloc (.cells x.cells 63)).alloc (.cells (RI.nil 0).cells 63)) w.heap.size 63 x.cells := (Blk.new w _ _).alloc _
  have b1 := blk_at (w.alloc (.cells x.cells 63)) 63 (RI.nil 0).cells (w.heap.size + 1) (by simp)
  have HP1 := Lib.hid (b0.below h2 (by simp; omega))
  have HP2 := Lib.hid (b1.below h2 (by simp))
  have HB1 := Lib.hid (box2_below h2)
  have hs1 : w.heap.size + 2 ≤ w1.heap.size := by have := h2.size; simp at this; omega
  have HX := Lib.hid h1
  have HYS := Lib.hid hy
  obtain ⟨r0, r1⟩ := ri_cells HP1.out; have f0 := HP1.out.frozen 0; have f1 := HP1.out.frozen 1
  clear b0 b1 h2 h1 hy U1'
  go_wp2_with (fail)
  go_loopw [6, 7, 8] (fun ov gv iv wr => ∃ (k : Nat) (y : RI), k ≤ n ∧ iv = .int .u64 k ∧ gv = .bool (getRows k s1).2.2 ∧ Hid (y.s = (getRows k s1).1) ∧ Hid (RIn wr B y) ∧ Hid (Blk wr w.heap.size 63 y.cells) ∧ Hid (Blk wr (w.heap.size + 1) 63 (RI.nil 0).cells) ∧ Hid (wr.ownsRow (w.heap.size + 2) 31 5 ov k ((getRows k s1).2.1.flatMap Rw.vals)) ∧ Hid (Below w.heap.size w wr) ∧ w.heap.size + 2 ≤ wr.heap.size) (fun _ _ iv _ => n - (intOf iv).toNat)
  case atStart =>
    refine ⟨0, y1, Nat.zero_le _, rfl, rfl, HYS, Lib.hid (by repeat (first | with_reducible exact HX.out | with_reducible refine RIn.alloc ?_ (by first | omega | (simp; omega)) _ | with_reducible refine RIn.setC ?_ (by first | omega | (simp <;> omega)) _ | with_reducible refine RIn.drewN ?_ _ | with_reducible refine RIn.drew ?_)), Lib.hid ((HP1.out.set_ 0 _).set_ 1 _), Lib.hid ((HP2.out.far (by simp) _).far (by simp) _), Lib.hid (World.ownsRow_nil _ _ _ _), Lib.hid ?_, by simp; omega⟩
    exact (HB1.out.setCell (by simp) _).setCell (by simp) _
  case round =>
    clear HP1 HP2 HB1 HX HYS r0 r1 f0 f1 hs1
    obtain ⟨k, y, hk, rfl, rfl, HY0, HX0, HP1, HP2, HO, HB1, hs1⟩ := hrel
    by_cases hlt : k < n
    · obtain ⟨P, hP⟩ : ∃ P, P = getRows k s1 := ⟨_, rfl⟩
      have hP1 : getRows (k + 1) s1 = ((getRow P.1).1, P.2.1 ++ [(getRow P.1).2], P.2.2 && goodR P.2.1 (getRow P.1).2) := by rw [hP]; rfl
      rw [← hP] at HY0 HO ⊢
      have HP3 := Lib.hid hP1
      clear hP hP1
      obtain ⟨a, l, gd⟩ := P
      simp only at HY0 HO HP3 ⊢
      have hkn : (k : Int) < n := by omega
      obtain ⟨r0, r1⟩ := ri_cells HP1.out
      have f0 := HP1.out.frozen 0
      have f1 := HP1.out.frozen 1
      have G1 := fun w => refGet_any y 1 B w
      rw [HY0.out] at G1
      obtain ⟨p1, hp1⟩ : ∃ p, p = a.upto 1 18446744073709551615 := ⟨_, rfl⟩
      rw [← hp1] at G1
      have HG1 := Lib.hid G1
      have lt1 : p1.2 < 256 ^ 1 := by rw [hp1]; exact FI.upto_lt _ 1 _ (by rw [← HY0.out]; exact HX0.out.by_)
      have HP_1 := Lib.hid hp1
      clear hp1 G1
      obtain ⟨b1, v1⟩ := p1
      simp only [Nat.reducePow] at lt1
      have wr1 : IntKind.i64.wrap (v1 : Int) = v1 := i64_keep (by omega)
      go_wp2_with (fail)
      refine (HG1.out _ HX0.out (by omega)).mono ?_
      rintro e w2 ⟨y1, rfl, hy, h1, h2⟩
      simp only at hy
      have HY1 := Lib.hid hy
      have HX1 := Lib.hid h1
      have c2 : Chg wr w2 (fun _ => False) := Chg.of_below h2 _
      have N1 := Lib.hid (c2.blk HP1.out id)
      have N2 := Lib.hid (c2.blk HP2.out id)
      have N3 := Lib.hid (c2.own HO.out (fun _ _ h => h))
      have N4 := Lib.hid (HB1.out.trans (c2.below HB1.out.size (fun _ _ h => h)))
      have hs2 : w.heap.size + 2 ≤ w2.heap.size := Nat.le_trans hs1 h2.size
      clear c2 h2 h1 hy r0 r1 f0 f1 HP1 HP2 HO HB1 HX0 HY0
      have G2 := fun w => refGet_any y1 8 B w
      rw [HY1.out] at G2
      obtain ⟨p2, hp2⟩ : ∃ p, p = b1.upto 8 18446744073709551615 := ⟨_, rfl⟩
      rw [← hp2] at G2
      have HG2 := Lib.hid G2
      have lt2 : p2.2 < 256 ^ 8 := by rw [hp2]; exact FI.upto_lt _ 8 _ (by rw [← HY1.out]; exact HX1.out.by_)
      have HP_2 := Lib.hid hp2
      clear hp2 G2 HG1
      obtain ⟨b2, v2⟩ := p2
      simp only [Nat.reducePow] at lt2
      go_wp2_with (fail)
      refine (HG2.out _ (by repeat (first | with_reducible exact HX1.out | with_reducible refine RIn.alloc ?_ (by first | omega | (simp; omega)) _ | with_reducible refine RIn.setC ?_ (by first | omega | (simp <;> omega)) _ | with_reducible refine RIn.drewN ?_ _ | with_reducible refine RIn.drew ?_)) (by simp; omega)).mono ?_
      rintro e w3 ⟨y2, rfl, hy, h1, h2⟩
      simp only at hy
      have HY2 := Lib.hid hy
      have HX2 := Lib.hid h1
      have T2 := Lib.hid (St3.new (z' := y1) N1.out N2.out N3.out N4.out hs2 h2)
      have hs3 : w2.heap.size < w3.heap.size := T2.out.p4.lt
      clear h2 h1 hy N1 N2 N3 N4
      have f0 := T2.out.p4.frozen 0
      have f1 := T2.out.p4.frozen 1
      obtain ⟨r0, r1⟩ := ri_cells T2.out.p4
      have G3 := fun w => refGet_any y2 8 B w
      rw [HY2.out] at G3
      obtain ⟨p3, hp3⟩ : ∃ p, p = b2.upto 8 18446744073709551615 := ⟨_, rfl⟩
      rw [← hp3] at G3
      have HG3 := Lib.hid G3
      have lt3 : p3.2 < 256 ^ 8 := by rw [hp3]; exact FI.upto_lt _ 8 _ (by rw [← HY2.out]; exact HX2.out.by_)
      have HP_3 := Lib.hid hp3
      clear hp3 G3 HG2
      obtain ⟨b3, v3⟩ := p3
      simp only [Nat.reducePow] at lt3
      go_wp2_with (fail)
      refine (HG3.out _ (by repeat (first | with_reducible exact HX2.out | with_reducible refine RIn.alloc ?_ (by first | omega | (simp; omega)) _ | with_reducible refine RIn.setC ?_ (by first | omega | (simp <;> omega)) _ | with_reducible refine RIn.drewN ?_ _ | with_reducible refine RIn.drew ?_)) (by simp; omega)).mono ?_
      rintro e w4 ⟨y3, rfl, hy, h1, h2⟩
      simp only at hy
      have HY3 := Lib.hid hy
      have HX3 := Lib.hid h1
      have T3 := Lib.hid (T2.out.step (z' := y2) h2)
      have hs4 : w2.heap.size < w4.heap.size := T3.out.p4.lt
      clear h2 h1 hy f0 f1 r0 r1 T2
      have f0 := T3.out.p4.frozen 0
      have f1 := T3.out.p4.frozen 1
      obtain ⟨r0, r1⟩ := ri_cells T3.out.p4
      have G4 := fun w => refGet_any y3 1 B w
      rw [HY3.out] at G4
      obtain ⟨p4, hp4⟩ : ∃ p, p = b3.upto 1 18446744073709551615 := ⟨_, rfl⟩
      rw [← hp4] at G4
      have HG4 := Lib.hid G4
      have lt4 : p4.2 < 256 ^ 1 := by rw [hp4]; exact FI.upto_lt _ 1 _ (by rw [← HY3.out]; exact HX3.out.by_)
      have HP_4 := Lib.hid hp4
      clear hp4 G4 HG3
      obtain ⟨b4, v4⟩ := p4
      simp only [Nat.reducePow] at lt4
      go_wp2_with (fail)
      refine (HG4.out _ (by repeat (first | with_reducible exact HX3.out | with_reducible refine RIn.alloc ?_ (by first | omega | (simp; omega)) _ | with_reducible refine RIn.setC ?_ (by first | omega | (simp <;> omega)) _ | with_reducible refine RIn.drewN ?_ _ | with_reducible refine RIn.drew ?_)) (by simp; omega)).mono ?_
      rintro e w5 ⟨y4, rfl, hy, h1, h2⟩
      simp only at hy
      have HY4 := Lib.hid hy
      have HX4 := Lib.hid h1
      have T4 := Lib.hid (T3.out.step (z' := y3) h2)
      have hs5 : w2.heap.size < w5.heap.size := T4.out.p4.lt
      clear h2 h1 hy f0 f1 r0 r1 T3
      have f0 := T4.out.p4.frozen 0
      have f1 := T4.out.p4.frozen 1
      obtain ⟨r0, r1⟩ := ri_cells T4.out.p4
      have G5 := fun w => refGet_any y4 8 B w
      rw [HY4.out] at G5
      obtain ⟨p5, hp5⟩ : ∃ p, p = b4.upto 8 18446744073709551615 := ⟨_, rfl⟩
      rw [← hp5] at G5
      have HG5 := Lib.hid G5
      have lt5 : p5.2 < 256 ^ 8 := by rw [hp5]; exact FI.upto_lt _ 8 _ (by rw [← HY4.out]; exact HX4.out.by_)
      have HP_5 := Lib.hid hp5
      clear hp5 G5 HG4
      obtain ⟨b5, v5⟩ := p5
      simp only [Nat.reducePow] at lt5
      go_wp2_with (fail)
      refine (HG5.out _ (by repeat (first | with_reducible exact HX4.out | with_reducible refine RIn.alloc ?_ (by first | omega | (simp; omega)) _ | with_reducible refine RIn.setC ?_ (by first | omega | (simp <;> omega)) _ | with_reducible refine RIn.drewN ?_ _ | with_reducible refine RIn.drew ?_)) (by simp; omega)).mono ?_
      rintro e w6 ⟨y5, rfl, hy, h1, h2⟩
      simp only at hy
      have HY5 := Lib.hid hy
      have HX5 := Lib.hid h1
      have T5 := Lib.hid (T4.out.step (z' := y4) h2)
      have hs6 : w2.heap.size < w6.heap.size := T5.out.p4.lt
      clear h2 h1 hy f0 f1 r0 r1 T4
      have f0 := T5.out.p4.frozen 0
      have f1 := T5.out.p4.frozen 1
      have f2 := T5.out.p1.frozen 0
      have f3 := T5.out.p1.frozen 1
      obtain ⟨r0, r1⟩ := ri_cells T5.out.p4
      obtain ⟨r2, r3⟩ := ri_cells T5.out.p1
      have wr4 : IntKind.i64.wrap (v4 : Int) = v4 := i64_keep (by omega)
      go_wp2_with (fail)
      have ha : (getRow a) = (b5, ⟨v1, v2, v3, v4, v5⟩) := by
        have q1 := HP_1.out; have q2 := HP_2.out; have q3 := HP_3.out; have q4 := HP_4.out; have q5 := HP_5.out
        simp only [getRow, Mx, ← q1, ← q2, ← q3, ← q4, ← q5]
      obtain ⟨r, hrr⟩ : ∃ r : Rw, r = ⟨v1, v2, v3, v4, v5⟩ := ⟨_, rfl⟩
      have hP2 := HP3.out
      rw [ha] at hP2
      simp only at hP2
      rw [← hrr] at hP2
      have HQ := Lib.hid hP2
      have HY9 : Hid (y5.s = b5) := HY5
      have hs7 := T5.out.hj
      have HT := Lib.hid (T5.out.row (z' := y5) r)
      have HX7 : Hid (RIn (((((w6.setCell ⟨w2.heap.size, 0, none⟩ (.slice y5.A y5.s.l.length y5.cap)).setCell ⟨w2.heap.size, 1, none⟩ (.int .i64 y5.s.e)).setCell ⟨w.heap.size, 0, none⟩ (.slice y5.A y5.s.l.length y5.cap)).setCell ⟨w.heap.size, 1, none⟩ (.int .i64 y5.s.e)).alloc (.cells r.cells 31)) B y5) := Lib.hid (by repeat (first | with_reducible exact HX5.out | with_reducible refine RIn.alloc ?_ (by first | omega | (simp; omega)) _ | with_reducible refine RIn.setC ?_ (by first | omega | (simp <;> omega)) _))
      rw [show (Obj.cells #[Value.int IntKind.i64 v1, Value.int IntKind.u64 v2, Value.int IntKind.u64 v3, Value.int IntKind.i64 v4, Value.int IntKind.u64 v5] 31) = Obj.cells r.cells 31 from by rw [hrr]; rfl]
      have hs8 : (((((w6.setCell ⟨w2.heap.size, 0, none⟩ (.slice y5.A y5.s.l.length y5.cap)).setCell ⟨w2.heap.size, 1, none⟩ (.int .i64 y5.s.e)).setCell ⟨w.heap.size, 0, none⟩ (.slice y5.A y5.s.l.length y5.cap)).setCell ⟨w.heap.size, 1, none⟩ (.int .i64 y5.s.e)).alloc (.cells r.cells 31)).heap.size = w6.heap.size + 1 := by simp
      generalize (((((w6.setCell ⟨w2.heap.size, 0, none⟩ (.slice y5.A y5.s.l.length y5.cap)).setCell ⟨w2.heap.size, 1, none⟩ (.int .i64 y5.s.e)).setCell ⟨w.heap.size, 0, none⟩ (.slice y5.A y5.s.l.length y5.cap)).setCell ⟨w.heap.size, 1, none⟩ (.int .i64 y5.s.e)).alloc (.cells r.cells 31)) = w7 at *
      have D := HT.out.p4
      have d0 := (D.cell 0).trans (show _ = some (Value.int .i64 r.c) from rfl)
      have d1 := (D.cell 1).trans (show _ = some (Value.int .u64 r.n) from rfl)
      have d2 := (D.cell 2).trans (show _ = some (Value.int .u64 r.s) from rfl)
      have d3 := (D.cell 3).trans (show _ = some (Value.int .i64 r.k) from rfl)
      have d4 := (D.cell 4).trans (show _ = some (Value.int .u64 r.v) from rfl)
      clear T5 f0 f1 f2 f3 r0 r1 r2 r3 HP_1 HP_2 HP_3 HP_4 HP_5 HP3 HY1 HY2 HY3 HY4 HY5 HX1 HX2 HX3 HX4 HX5 lt1 lt2 lt3 lt4 lt5 wr1 wr4 ha hP2 D hrr HG5
      have HW7 : Hid (Below w7.heap.size w7 w7) := Lib.hid (Below.refl _ _)
      obtain ⟨A0, c0, rfl, hr0, _, _⟩ := own_slice HT.out.ow
      have HR0 := Lib.hid hr0
      clear hr0
      cases hf : r.fine
      · have hng : goodR l r = false := by rw [goodR, hf]; rfl
        have HNG := Lib.hid hng
        have RF : Hid (∀ W, Calls Try.prog 12 #[r.agg] W fun e w' => e = .returned (.bool false) ∧ W.alloc (.cells r.cells 31) = w') := Lib.hid (fun W => by have := refFine_any r W; rwa [hf] at this)
        clear hng hf
        refine wp_region_held_drew (S := fun w' => w'.cell? ⟨w6.heap.size, 0, none⟩ = some (.int .i64 r.c) ∧ w'.cell? ⟨w6.heap.size, 1, none⟩ = some (.int .u64 r.n) ∧ w'.cell? ⟨w6.heap.size, 2, none⟩ = some (.int .u64 r.s) ∧ w'.cell? ⟨w6.heap.size, 3, none⟩ = some (.int .i64 r.k) ∧ w'.cell? ⟨w6.heap.size, 4, none⟩ = some (.int .u64 r.v)) (by kernel_rfl) ?_ (fun hHeld => ?_)
        · exact ⟨d0, d1, d2, d3, d4⟩
        refine wpAnyH_take (i := 0) (oi := _) (v := ?_) rfl (by kernel_rfl) (by kernel_rfl) (by kernel_rfl) (fun _ _ _ h => h) (Or.inl ⟨by rfl, ?_⟩) (by assumption) ?_
        rotate_left 1
        · (intro wq hSw; (try dsimp only at hSw); go_simp; (try with_reducible rfl))
        try simp only [Act.put, List.setIfInBounds_toArray, List.set_cons_zero, List.set_cons_succ, List.getElem_toArray, List.getElem_cons_zero, List.getElem_cons_succ]
        refine wpAnyH_ready (rs := [1]) (by kernel_rfl) (by simp) ?_
        refine AllReadyH.cons (o := _) rfl (fun K hK => ?_) AllReadyH.nil
        go_simp
        refine (RF.out _).mono ?_; rintro e w9 ⟨rfl, rfl⟩
        (try go_simp)
        refine hK.out _ _ ?_ (fun hHeld => ?_)
        · go_keep
        clear hK K
        try simp only [Act.put, List.setIfInBounds_toArray, List.set_cons_zero, List.set_cons_succ, List.getElem_toArray, List.getElem_cons_zero, List.getElem_cons_succ]
        refine wpAnyH_take (i := 2) (oi := _) (v := ?_) rfl (by kernel_rfl) (by kernel_rfl) (by kernel_rfl) (fun _ _ _ h => h) (Or.inl ⟨by rfl, ?_⟩) (by assumption) ?_
        rotate_left 1
        · (intro wq hSw; (try dsimp only at hSw); go_simp; (try with_reducible rfl))
        try simp only [Act.put, List.setIfInBounds_toArray, List.set_cons_zero, List.set_cons_succ, List.getElem_toArray, List.getElem_cons_zero, List.getElem_cons_succ]
        refine wpAnyH_take (i := 3) (oi := _) (v := ?_) rfl (by kernel_rfl) (by kernel_rfl) (by kernel_rfl) (fun _ _ _ h => h) (Or.inl ⟨by rfl, ?_⟩) (by assumption) ?_
        rotate_left 1
        · (intro wq hSw; (try dsimp only at hSw); go_simp; (try with_reducible rfl))
        try simp only [Act.put, List.setIfInBounds_toArray, List.set_cons_zero, List.set_cons_succ, List.getElem_toArray, List.getElem_cons_zero, List.getElem_cons_succ]
        refine wpAnyH_take (i := 4) (oi := _) (v := undef) rfl (by kernel_rfl) (by kernel_rfl) (by kernel_rfl) (fun _ _ _ h => h) (Or.inr ⟨by rfl, rfl⟩) (by assumption) ?_
        try simp only [Act.put, List.setIfInBounds_toArray, List.set_cons_zero, List.set_cons_succ, List.getElem_toArray, List.getElem_cons_zero, List.getElem_cons_succ]
        refine wpAnyH_take (i := 5) (oi := _) (v := undef) rfl (by kernel_rfl) (by kernel_rfl) (by kernel_rfl) (fun _ _ _ h => h) (Or.inr ⟨by rfl, rfl⟩) (by assumption) ?_
        try simp only [Act.put, List.setIfInBounds_toArray, List.set_cons_zero, List.set_cons_succ, List.getElem_toArray, List.getElem_cons_zero, List.getElem_cons_succ]
        refine wpAnyH_take (i := 6) (oi := _) (v := undef) rfl (by kernel_rfl) (by kernel_rfl) (by kernel_rfl) (fun _ _ _ h => h) (Or.inr ⟨by rfl, rfl⟩) (by assumption) ?_
        try simp only [Act.put, List.setIfInBounds_toArray, List.set_cons_zero, List.set_cons_succ, List.getElem_toArray, List.getElem_cons_zero, List.getElem_cons_succ]
        refine wpAnyH_take (i := 7) (oi := _) (v := undef) rfl (by kernel_rfl) (by kernel_rfl) (by kernel_rfl) (fun _ _ _ h => h) (Or.inr ⟨by rfl, rfl⟩) (by assumption) ?_
        try simp only [Act.put, List.setIfInBounds_toArray, List.set_cons_zero, List.set_cons_succ, List.getElem_toArray, List.getElem_cons_zero, List.getElem_cons_succ]
        refine wpAnyH_take (i := 8) (oi := _) (v := undef) rfl (by kernel_rfl) (by kernel_rfl) (by kernel_rfl) (fun _ _ _ h => h) (Or.inr ⟨by rfl, rfl⟩) (by assumption) ?_
        try simp only [Act.put, List.setIfInBounds_toArray, List.set_cons_zero, List.set_cons_succ, List.getElem_toArray, List.getElem_cons_zero, List.getElem_cons_succ]
        refine wpAnyH_take (i := 9) (oi := _) (v := undef) rfl (by kernel_rfl) (by kernel_rfl) (by kernel_rfl) (fun _ _ _ h => h) (Or.inr ⟨by rfl, rfl⟩) (by assumption) ?_
        try simp only [Act.put, List.setIfInBounds_toArray, List.set_cons_zero, List.set_cons_succ, List.getElem_toArray, List.getElem_cons_zero, List.getElem_cons_succ]
        refine wpAnyH_take (i := 10) (oi := _) (v := undef) rfl (by kernel_rfl) (by kernel_rfl) (by kernel_rfl) (fun _ _ _ h => h) (Or.inr ⟨by rfl, rfl⟩) (by assumption) ?_
        try simp only [Act.put, List.setIfInBounds_toArray, List.set_cons_zero, List.set_cons_succ, List.getElem_toArray, List.getElem_cons_zero, List.getElem_cons_succ]
        refine wpAnyH_take (i := 11) (oi := _) (v := undef) rfl (by kernel_rfl) (by kernel_rfl) (by kernel_rfl) (fun _ _ _ h => h) (Or.inr ⟨by rfl, rfl⟩) (by assumption) ?_
        try simp only [Act.put, List.setIfInBounds_toArray, List.set_cons_zero, List.set_cons_succ, List.getElem_toArray, List.getElem_cons_zero, List.getElem_cons_succ]
        refine wpAnyH_take (i := 12) (oi := _) (v := undef) rfl (by kernel_rfl) (by kernel_rfl) (by kernel_rfl) (fun _ _ _ h => h) (Or.inr ⟨by rfl, rfl⟩) (by assumption) ?_
        try simp only [Act.put, List.setIfInBounds_toArray, List.set_cons_zero, List.set_cons_succ, List.getElem_toArray, List.getElem_cons_zero, List.getElem_cons_succ]
        refine wpAnyH_take (i := 13) (oi := _) (v := undef) rfl (by kernel_rfl) (by kernel_rfl) (by kernel_rfl) (fun _ _ _ h => h) (Or.inr ⟨by rfl, rfl⟩) (by assumption) ?_
        try simp only [Act.put, List.setIfInBounds_toArray, List.set_cons_zero, List.set_cons_succ, List.getElem_toArray, List.getElem_cons_zero, List.getElem_cons_succ]
        refine wpAnyH_take (i := 14) (oi := _) (v := undef) rfl (by kernel_rfl) (by kernel_rfl) (by kernel_rfl) (fun _ _ _ h => h) (Or.inr ⟨by rfl, rfl⟩) (by assumption) ?_
        try simp only [Act.put, List.setIfInBounds_toArray, List.set_cons_zero, List.set_cons_succ, List.getElem_toArray, List.getElem_cons_zero, List.getElem_cons_succ]
        refine wpAnyH_take (i := 15) (oi := _) (v := undef) rfl (by kernel_rfl) (by kernel_rfl) (by kernel_rfl) (fun _ _ _ h => h) (Or.inr ⟨by rfl, rfl⟩) (by assumption) ?_
        try simp only [Act.put, List.setIfInBounds_toArray, List.set_cons_zero, List.set_cons_succ, List.getElem_toArray, List.getElem_cons_zero, List.getElem_cons_succ]
        refine wpAnyH_take (i := 16) (oi := _) (v := undef) rfl (by kernel_rfl) (by kernel_rfl) (by kernel_rfl) (fun _ _ _ h => h) (Or.inr ⟨by rfl, rfl⟩) (by assumption) ?_
        try simp only [Act.put, List.setIfInBounds_toArray, List.set_cons_zero, List.set_cons_succ, List.getElem_toArray, List.getElem_cons_zero, List.getElem_cons_succ]
        refine wpAnyH_take (i := 17) (oi := _) (v := undef) rfl (by kernel_rfl) (by kernel_rfl) (by kernel_rfl) (fun _ _ _ h => h) (Or.inr ⟨by rfl, rfl⟩) (by assumption) ?_
        try simp only [Act.put, List.setIfInBounds_toArray, List.set_cons_zero, List.set_cons_succ, List.getElem_toArray, List.getElem_cons_zero, List.getElem_cons_succ]
        refine wpAnyH_take (i := 18) (oi := _) (v := undef) rfl (by kernel_rfl) (by kernel_rfl) (by kernel_rfl) (fun _ _ _ h => h) (Or.inr ⟨by rfl, rfl⟩) (by assumption) ?_
        try simp only [Act.put, List.setIfInBounds_toArray, List.set_cons_zero, List.set_cons_succ, List.getElem_toArray, List.getElem_cons_zero, List.getElem_cons_succ]
        refine wpAnyH_take (i := 19) (oi := _) (v := ?_) rfl (by kernel_rfl) (by kernel_rfl) (by kernel_rfl) (fun _ _ _ h => h) (Or.inl ⟨by rfl, ?_⟩) (by assumption) ?_
        rotate_left 1
        · (intro wq hSw; (try dsimp only at hSw); go_simp; (try with_reducible rfl))
        try simp only [Act.put, List.setIfInBounds_toArray, List.set_cons_zero, List.set_cons_succ, List.getElem_toArray, List.getElem_cons_zero, List.getElem_cons_succ]
        refine wpAnyH_done (by kernel_rfl) ?_ _
        go_wp2_with (at_builtin; go_must (refine wpList_append_any _ rfl (.tmp 80) (.tmp 82) _ rfl (w.heap.size + 2) 31 i0 _ 5 40 Try.underlying22 hi hz0 hz1 hz2 rfl (by omega) _ k (l.flatMap Rw.vals) rfl ?c0 _ _ 1 1 r.vals rfl (reads_new_row _ r 31 _ ?c5) ?c1 ?c2 ?c3 ?c4 ?_))
        case c0 => exact (HT.out.below (by repeat (first | with_reducible exact Below.refl _ _ | with_reducible refine Below.setCell ?_ (by first | omega | (simp <;> omega)) _ | with_reducible refine Below.alloc ?_ (by first | omega | (simp <;> omega)) _ | with_reducible refine below_drewN ?_ _ | with_reducible refine Below.drew ?_))).ow
        case c1 => exact vals_one r
        case c2 => unfold maxLen; omega
        case c3 => omega
        case c4 => (try simp); omega
        try (case c5 => first | simp [hs8] | omega)
        intro v3 y3 hown hg _
        obtain ⟨N1, N2, N3, N4, N5, N6⟩ := HT.out.app (by repeat (first | with_reducible exact Below.refl _ _ | with_reducible refine Below.setCell ?_ (by first | omega | (simp <;> omega)) _ | with_reducible refine Below.alloc ?_ (by first | omega | (simp <;> omega)) _ | with_reducible refine below_drewN ?_ _ | with_reducible refine Below.drew ?_)) hg hB HX7.out hown
        go_wp2_with (fail)
        go_roundw
        case rel => exact ⟨k + 1, y5, by omega, by go_num, by rw [HQ.out]; show Value.bool false = Value.bool (gd && goodR l r); rw [HNG.out, Bool.and_false], Lib.hid (by rw [HQ.out]; exact HY9.out), Lib.hid N3, Lib.hid N1, Lib.hid N2, Lib.hid (by rw [HQ.out]; exact N4), Lib.hid N5, N6⟩
        case measure => simp [intOf]; omega
      · have RF : Hid (∀ W, Calls Try.prog 12 #[r.agg] W fun e w' => e = .returned (.bool true) ∧ W.alloc (.cells r.cells 31) = w') := Lib.hid (fun W => by have := refFine_any r W; rwa [hf] at this)
        have hll := rows_len HR0.out
        have hfc := fine_client r hf
        rcases Nat.eq_zero_or_pos k with hk0 | hk0
        · have hl0 : l = [] := List.eq_nil_of_length_eq_zero (by omega)
          have hng : goodR l r = true := by rw [goodR, hf, hl0, decide_eq_true (show lastC [] < r.c from by show (0 : Int) < r.c; omega)]; rfl
          have HNG := Lib.hid hng
          have hlen0 : decide (0 < k) = false := decide_eq_false (by omega)
          clear hng hf hk0 hl0 hll hfc
          refine wp_region_held_drew (S := fun w' => w'.cell? ⟨w6.heap.size, 0, none⟩ = some (.int .i64 r.c) ∧ w'.cell? ⟨w6.heap.size, 1, none⟩ = some (.int .u64 r.n) ∧ w'.cell? ⟨w6.heap.size, 2, none⟩ = some (.int .u64 r.s) ∧ w'.cell? ⟨w6.heap.size, 3, none⟩ = some (.int .i64 r.k) ∧ w'.cell? ⟨w6.heap.size, 4, none⟩ = some (.int .u64 r.v)) (by kernel_rfl) ?_ (fun hHeld => ?_)
          · exact ⟨d0, d1, d2, d3, d4⟩
          refine wpAnyH_take (i := 0) (oi := _) (v := ?_) rfl (by kernel_rfl) (by kernel_rfl) (by kernel_rfl) (fun _ _ _ h => h) (Or.inl ⟨by rfl, ?_⟩) (by assumption) ?_
          rotate_left 1
          · (intro wq hSw; (try dsimp only at hSw); go_simp; (try with_reducible rfl))
          try simp only [Act.put, List.setIfInBounds_toArray, List.set_cons_zero, List.set_cons_succ, List.getElem_toArray, List.getElem_cons_zero, List.getElem_cons_succ]
          refine wpAnyH_ready (rs := [1]) (by kernel_rfl) (by simp) ?_
          refine AllReadyH.cons (o := _) rfl (fun K hK => ?_) AllReadyH.nil
          go_simp
          refine (RF.out _).mono ?_; rintro e w9 ⟨rfl, rfl⟩
          (try go_simp)
          refine hK.out _ _ ?_ (fun hHeld => ?_)
          · go_keep
          clear hK K
          try simp only [Act.put, List.setIfInBounds_toArray, List.set_cons_zero, List.set_cons_succ, List.getElem_toArray, List.getElem_cons_zero, List.getElem_cons_succ]
          refine wpAnyH_take (i := 2) (oi := _) (v := ?_) rfl (by kernel_rfl) (by kernel_rfl) (by kernel_rfl) (fun _ _ _ h => h) (Or.inl ⟨by rfl, ?_⟩) (by assumption) ?_
          rotate_left 1
          · (intro wq hSw; (try dsimp only at hSw); go_simp; (try with_reducible rfl))
          try simp only [Act.put, List.setIfInBounds_toArray, List.set_cons_zero, List.set_cons_succ, List.getElem_toArray, List.getElem_cons_zero, List.getElem_cons_succ]
          refine wpAnyH_take (i := 3) (oi := _) (v := ?_) rfl (by kernel_rfl) (by kernel_rfl) (by kernel_rfl) (fun _ _ _ h => h) (Or.inl ⟨by rfl, ?_⟩) (by assumption) ?_
          rotate_left 1
          · (intro wq hSw; (try dsimp only at hSw); go_simp; (try with_reducible rfl))
          try simp only [Act.put, List.setIfInBounds_toArray, List.set_cons_zero, List.set_cons_succ, List.getElem_toArray, List.getElem_cons_zero, List.getElem_cons_succ]
          refine wpAnyH_take (i := 4) (oi := _) (v := ?_) rfl (by kernel_rfl) (by kernel_rfl) (by kernel_rfl) (fun _ _ _ h => h) (Or.inl ⟨by rfl, ?_⟩) (by assumption) ?_
          rotate_left 1
          · (intro wq hSw; (try dsimp only at hSw); go_simp; (try with_reducible rfl))
          try simp only [Act.put, List.setIfInBounds_toArray, List.set_cons_zero, List.set_cons_succ, List.getElem_toArray, List.getElem_cons_zero, List.getElem_cons_succ]
          refine wpAnyH_take (i := 5) (oi := _) (v := ?_) rfl (by kernel_rfl) (by kernel_rfl) (by kernel_rfl) (fun _ _ _ h => h) (Or.inl ⟨by rfl, ?_⟩) (by assumption) ?_
          rotate_left 1
          · (intro wq hSw; (try dsimp only at hSw); go_simp; (try with_reducible rfl))
          try simp only [Act.put, List.setIfInBounds_toArray, List.set_cons_zero, List.set_cons_succ, List.getElem_toArray, List.getElem_cons_zero, List.getElem_cons_succ]
          refine wpAnyH_take (i := 6) (oi := _) (v := ?_) rfl (by kernel_rfl) (by kernel_rfl) (by kernel_rfl) (fun _ _ _ h => h) (Or.inl ⟨by rfl, ?_⟩) (by assumption) ?_
          rotate_left 1
          · (intro wq hSw; (try dsimp only at hSw); go_simp; (try with_reducible rfl))
          try simp only [Act.put, List.setIfInBounds_toArray, List.set_cons_zero, List.set_cons_succ, List.getElem_toArray, List.getElem_cons_zero, List.getElem_cons_succ]
          refine wpAnyH_take (i := 7) (oi := _) (v := ?_) rfl (by kernel_rfl) (by kernel_rfl) (by kernel_rfl) (fun _ _ _ h => h) (Or.inl ⟨by rfl, ?_⟩) (by assumption) ?_
          rotate_left 1
          · (intro wq hSw; (try dsimp only at hSw); go_simp; (try with_reducible rfl))
          try simp only [Act.put, List.setIfInBounds_toArray, List.set_cons_zero, List.set_cons_succ, List.getElem_toArray, List.getElem_cons_zero, List.getElem_cons_succ]
          refine wpAnyH_take (i := 8) (oi := _) (v := undef) rfl (by kernel_rfl) (by kernel_rfl) (by kernel_rfl) (fun _ _ _ h => h) (Or.inr ⟨by rfl, rfl⟩) (by assumption) ?_
          try simp only [Act.put, List.setIfInBounds_toArray, List.set_cons_zero, List.set_cons_succ, List.getElem_toArray, List.getElem_cons_zero, List.getElem_cons_succ]
          refine wpAnyH_take (i := 9) (oi := _) (v := undef) rfl (by kernel_rfl) (by kernel_rfl) (by kernel_rfl) (fun _ _ _ h => h) (Or.inr ⟨by rfl, rfl⟩) (by assumption) ?_
          try simp only [Act.put, List.setIfInBounds_toArray, List.set_cons_zero, List.set_cons_succ, List.getElem_toArray, List.getElem_cons_zero, List.getElem_cons_succ]
          refine wpAnyH_take (i := 10) (oi := _) (v := undef) rfl (by kernel_rfl) (by kernel_rfl) (by kernel_rfl) (fun _ _ _ h => h) (Or.inr ⟨by rfl, rfl⟩) (by assumption) ?_
          try simp only [Act.put, List.setIfInBounds_toArray, List.set_cons_zero, List.set_cons_succ, List.getElem_toArray, List.getElem_cons_zero, List.getElem_cons_succ]
          refine wpAnyH_take (i := 11) (oi := _) (v := undef) rfl (by kernel_rfl) (by kernel_rfl) (by kernel_rfl) (fun _ _ _ h => h) (Or.inr ⟨by rfl, rfl⟩) (by assumption) ?_
          try simp only [Act.put, List.setIfInBounds_toArray, List.set_cons_zero, List.set_cons_succ, List.getElem_toArray, List.getElem_cons_zero, List.getElem_cons_succ]
          refine wpAnyH_take (i := 12) (oi := _) (v := undef) rfl (by kernel_rfl) (by kernel_rfl) (by kernel_rfl) (fun _ _ _ h => h) (Or.inr ⟨by rfl, rfl⟩) (by assumption) ?_
          try simp only [Act.put, List.setIfInBounds_toArray, List.set_cons_zero, List.set_cons_succ, List.getElem_toArray, List.getElem_cons_zero, List.getElem_cons_succ]
          refine wpAnyH_take (i := 13) (oi := _) (v := undef) rfl (by kernel_rfl) (by kernel_rfl) (by kernel_rfl) (fun _ _ _ h => h) (Or.inr ⟨by rfl, rfl⟩) (by assumption) ?_
          try simp only [Act.put, List.setIfInBounds_toArray, List.set_cons_zero, List.set_cons_succ, List.getElem_toArray, List.getElem_cons_zero, List.getElem_cons_succ]
          refine wpAnyH_take (i := 14) (oi := _) (v := undef) rfl (by kernel_rfl) (by kernel_rfl) (by kernel_rfl) (fun _ _ _ h => h) (Or.inr ⟨by rfl, rfl⟩) (by assumption) ?_
          try simp only [Act.put, List.setIfInBounds_toArray, List.set_cons_zero, List.set_cons_succ, List.getElem_toArray, List.getElem_cons_zero, List.getElem_cons_succ]
          refine wpAnyH_take (i := 15) (oi := _) (v := undef) rfl (by kernel_rfl) (by kernel_rfl) (by kernel_rfl) (fun _ _ _ h => h) (Or.inr ⟨by rfl, rfl⟩) (by assumption) ?_
          try simp only [Act.put, List.setIfInBounds_toArray, List.set_cons_zero, List.set_cons_succ, List.getElem_toArray, List.getElem_cons_zero, List.getElem_cons_succ]
          refine wpAnyH_take (i := 16) (oi := _) (v := undef) rfl (by kernel_rfl) (by kernel_rfl) (by kernel_rfl) (fun _ _ _ h => h) (Or.inr ⟨by rfl, rfl⟩) (by assumption) ?_
          try simp only [Act.put, List.setIfInBounds_toArray, List.set_cons_zero, List.set_cons_succ, List.getElem_toArray, List.getElem_cons_zero, List.getElem_cons_succ]
          refine wpAnyH_take (i := 17) (oi := _) (v := undef) rfl (by kernel_rfl) (by kernel_rfl) (by kernel_rfl) (fun _ _ _ h => h) (Or.inr ⟨by rfl, rfl⟩) (by assumption) ?_
          try simp only [Act.put, List.setIfInBounds_toArray, List.set_cons_zero, List.set_cons_succ, List.getElem_toArray, List.getElem_cons_zero, List.getElem_cons_succ]
          refine wpAnyH_take (i := 18) (oi := _) (v := ?_) rfl (by kernel_rfl) (by kernel_rfl) (by kernel_rfl) (fun _ _ _ h => h) (Or.inl ⟨by rfl, ?_⟩) (by assumption) ?_
          rotate_left 1
          · (intro wq hSw; (try dsimp only at hSw); go_simp; (try with_reducible rfl))
          try simp only [Act.put, List.setIfInBounds_toArray, List.set_cons_zero, List.set_cons_succ, List.getElem_toArray, List.getElem_cons_zero, List.getElem_cons_succ]
          refine wpAnyH_take (i := 19) (oi := _) (v := ?_) rfl (by kernel_rfl) (by kernel_rfl) (by kernel_rfl) (fun _ _ _ h => h) (Or.inl ⟨by rfl, ?_⟩) (by assumption) ?_
          rotate_left 1
          · (intro wq hSw; (try dsimp only at hSw); go_simp; (try with_reducible rfl))
          try simp only [Act.put, List.setIfInBounds_toArray, List.set_cons_zero, List.set_cons_succ, List.getElem_toArray, List.getElem_cons_zero, List.getElem_cons_succ]
          refine wpAnyH_done (by kernel_rfl) ?_ _
          go_wp2_with (at_builtin; go_must (refine wpList_append_any _ rfl (.tmp 80) (.tmp 82) _ rfl (w.heap.size + 2) 31 i0 _ 5 40 Try.underlying22 hi hz0 hz1 hz2 rfl (by omega) _ k (l.flatMap Rw.vals) rfl ?c0 _ _ 1 1 r.vals rfl (reads_new_row _ r 31 _ ?c5) ?c1 ?c2 ?c3 ?c4 ?_))
          case c0 => exact (HT.out.below (by repeat (first | with_reducible exact Below.refl _ _ | with_reducible refine Below.setCell ?_ (by first | omega | (simp <;> omega)) _ | with_reducible refine Below.alloc ?_ (by first | omega | (simp <;> omega)) _ | with_reducible refine below_drewN ?_ _ | with_reducible refine Below.drew ?_))).ow
          case c1 => exact vals_one r
          case c2 => unfold maxLen; omega
          case c3 => omega
          case c4 => (try simp); omega
          try (case c5 => first | simp [hs8] | omega)
          intro v3 y3 hown hg _
          obtain ⟨N1, N2, N3, N4, N5, N6⟩ := HT.out.app (by repeat (first | with_reducible exact Below.refl _ _ | with_reducible refine Below.setCell ?_ (by first | omega | (simp <;> omega)) _ | with_reducible refine Below.alloc ?_ (by first | omega | (simp <;> omega)) _ | with_reducible refine below_drewN ?_ _ | with_reducible refine Below.drew ?_)) hg hB HX7.out hown
          go_wp2_with (fail)
          go_roundw
          case rel => exact ⟨k + 1, y5, by omega, by go_num, by rw [HQ.out]; show Value.bool gd = Value.bool (gd && goodR l r); rw [HNG.out, Bool.and_true], Lib.hid (by rw [HQ.out]; exact HY9.out), Lib.hid N3, Lib.hid N1, Lib.hid N2, Lib.hid (by rw [HQ.out]; exact N4), Lib.hid N5, N6⟩
          case measure => simp [intOf]; omega
        · obtain ⟨m, hm⟩ : ∃ m, k = m + 1 := ⟨k - 1, by omega⟩
          obtain ⟨ba, oa, x, hA, hba, hx, hc⟩ := rows_at HR0.out (show m < k by omega)
          cases hA
          obtain ⟨c0, _, _, _, _⟩ := hc
          have hlc : lastC l = x.c := by
            have : l.getLast? = some x := by rw [List.getLast?_eq_getElem?, hll, hm]; simpa using hx
            rw [lastC, this]; rfl
          have hpos : (0 : Int) < k := by omega
          have hposd : decide (0 < k) = true := decide_eq_true (by omega)
          have hmk : (m : Int) < k := by omega
          have hw1 : IntKind.i64.wrap ((k : Int) - 1) = m := by rw [i64_keep (by omega)]; omega
          have hm0 : (0 : Int) ≤ m := by omega
          by_cases hge : r.c ≤ x.c
          · have hged : decide (r.c ≤ x.c) = true := decide_eq_true hge
            have hng : goodR l r = false := by rw [goodR, hlc, decide_eq_false (by omega), Bool.and_false]
            have HNG := Lib.hid hng
            clear hng hf hk0 hll hfc hm hx hlc
            refine wp_region_held_drew (S := fun w' => w'.cell? ⟨w6.heap.size, 0, none⟩ = some (.int .i64 r.c) ∧ w'.cell? ⟨w6.heap.size, 1, none⟩ = some (.int .u64 r.n) ∧ w'.cell? ⟨w6.heap.size, 2, none⟩ = some (.int .u64 r.s) ∧ w'.cell? ⟨w6.heap.size, 3, none⟩ = some (.int .i64 r.k) ∧ w'.cell? ⟨w6.heap.size, 4, none⟩ = some (.int .u64 r.v) ∧ w'.cell? ⟨ba, oa + m * 5, none⟩ = some (.int .i64 x.c)) (by kernel_rfl) ?_ (fun hHeld => ?_)
            · exact ⟨d0, d1, d2, d3, d4, c0⟩
            refine wpAnyH_take (i := 0) (oi := _) (v := ?_) rfl (by kernel_rfl) (by kernel_rfl) (by kernel_rfl) (fun _ _ _ h => h) (Or.inl ⟨by rfl, ?_⟩) (by assumption) ?_
            rotate_left 1
            · (intro wq hSw; (try dsimp only at hSw); go_simp; (try with_reducible rfl))
            try simp only [Act.put, List.setIfInBounds_toArray, List.set_cons_zero, List.set_cons_succ, List.getElem_toArray, List.getElem_cons_zero, List.getElem_cons_succ]
            refine wpAnyH_ready (rs := [1]) (by kernel_rfl) (by simp) ?_
            refine AllReadyH.cons (o := _) rfl (fun K hK => ?_) AllReadyH.nil
            go_simp
            refine (RF.out _).mono ?_; rintro e w9 ⟨rfl, rfl⟩
            (try go_simp)
            refine hK.out _ _ ?_ (fun hHeld => ?_)
            · go_keep
            clear hK K
            try simp only [Act.put, List.setIfInBounds_toArray, List.set_cons_zero, List.set_cons_succ, List.getElem_toArray, List.getElem_cons_zero, List.getElem_cons_succ]
            refine wpAnyH_take (i := 2) (oi := _) (v := ?_) rfl (by kernel_rfl) (by kernel_rfl) (by kernel_rfl) (fun _ _ _ h => h) (Or.inl ⟨by rfl, ?_⟩) (by assumption) ?_
            rotate_left 1
            · (intro wq hSw; (try dsimp only at hSw); go_simp; (try with_reducible rfl))
            try simp only [Act.put, List.setIfInBounds_toArray, List.set_cons_zero, List.set_cons_succ, List.getElem_toArray, List.getElem_cons_zero, List.getElem_cons_succ]
            refine wpAnyH_take (i := 3) (oi := _) (v := ?_) rfl (by kernel_rfl) (by kernel_rfl) (by kernel_rfl) (fun _ _ _ h => h) (Or.inl ⟨by rfl, ?_⟩) (by assumption) ?_
            rotate_left 1
            · (intro wq hSw; (try dsimp only at hSw); go_simp; (try with_reducible rfl))
            try simp only [Act.put, List.setIfInBounds_toArray, List.set_cons_zero, List.set_cons_succ, List.getElem_toArray, List.getElem_cons_zero, List.getElem_cons_succ]
            refine wpAnyH_take (i := 4) (oi := _) (v := ?_) rfl (by kernel_rfl) (by kernel_rfl) (by kernel_rfl) (fun _ _ _ h => h) (Or.inl ⟨by rfl, ?_⟩) (by assumption) ?_
            rotate_left 1
            · (intro wq hSw; (try dsimp only at hSw); go_simp; (try with_reducible rfl))
            try simp only [Act.put, List.setIfInBounds_toArray, List.set_cons_zero, List.set_cons_succ, List.getElem_toArray, List.getElem_cons_zero, List.getElem_cons_succ]
            refine wpAnyH_take (i := 5) (oi := _) (v := ?_) rfl (by kernel_rfl) (by kernel_rfl) (by kernel_rfl) (fun _ _ _ h => h) (Or.inl ⟨by rfl, ?_⟩) (by assumption) ?_
            rotate_left 1
            · (intro wq hSw; (try dsimp only at hSw); go_simp; (try with_reducible rfl))
            try simp only [Act.put, List.setIfInBounds_toArray, List.set_cons_zero, List.set_cons_succ, List.getElem_toArray, List.getElem_cons_zero, List.getElem_cons_succ]
            refine wpAnyH_take (i := 6) (oi := _) (v := ?_) rfl (by kernel_rfl) (by kernel_rfl) (by kernel_rfl) (fun _ _ _ h => h) (Or.inl ⟨by rfl, ?_⟩) (by assumption) ?_
            rotate_left 1
            · (intro wq hSw; (try dsimp only at hSw); go_simp; (try with_reducible rfl))
            try simp only [Act.put, List.setIfInBounds_toArray, List.set_cons_zero, List.set_cons_succ, List.getElem_toArray, List.getElem_cons_zero, List.getElem_cons_succ]
            refine wpAnyH_take (i := 7) (oi := _) (v := ?_) rfl (by kernel_rfl) (by kernel_rfl) (by kernel_rfl) (fun _ _ _ h => h) (Or.inl ⟨by rfl, ?_⟩) (by assumption) ?_
            rotate_left 1
            · (intro wq hSw; (try dsimp only at hSw); go_simp; (try with_reducible rfl))
            try simp only [Act.put, List.setIfInBounds_toArray, List.set_cons_zero, List.set_cons_succ, List.getElem_toArray, List.getElem_cons_zero, List.getElem_cons_succ]
            refine wpAnyH_take (i := 8) (oi := _) (v := ?_) rfl (by kernel_rfl) (by kernel_rfl) (by kernel_rfl) (fun _ _ _ h => h) (Or.inl ⟨by rfl, ?_⟩) (by assumption) ?_
            rotate_left 1
            · (intro wq hSw; (try dsimp only at hSw); go_simp; (try with_reducible rfl))
            try simp only [Act.put, List.setIfInBounds_toArray, List.set_cons_zero, List.set_cons_succ, List.getElem_toArray, List.getElem_cons_zero, List.getElem_cons_succ]
            refine wpAnyH_take (i := 9) (oi := _) (v := ?_) rfl (by kernel_rfl) (by kernel_rfl) (by kernel_rfl) (fun _ _ _ h => h) (Or.inl ⟨by rfl, ?_⟩) (by assumption) ?_
            rotate_left 1
            · (intro wq hSw; (try dsimp only at hSw); go_simp; (try with_reducible rfl))
            try simp only [Act.put, List.setIfInBounds_toArray, List.set_cons_zero, List.set_cons_succ, List.getElem_toArray, List.getElem_cons_zero, List.getElem_cons_succ]
            refine wpAnyH_take (i := 10) (oi := _) (v := ?_) rfl (by kernel_rfl) (by kernel_rfl) (by kernel_rfl) (fun _ _ _ h => h) (Or.inl ⟨by rfl, ?_⟩) (by assumption) ?_
            rotate_left 1
            · (intro wq hSw; (try dsimp only at hSw); go_simp; (try with_reducible rfl))
            try simp only [Act.put, List.setIfInBounds_toArray, List.set_cons_zero, List.set_cons_succ, List.getElem_toArray, List.getElem_cons_zero, List.getElem_cons_succ]
            refine wpAnyH_take (i := 11) (oi := _) (v := ?_) rfl (by kernel_rfl) (by kernel_rfl) (by kernel_rfl) (fun _ _ _ h => h) (Or.inl ⟨by rfl, ?_⟩) (by assumption) ?_
            rotate_left 1
            · (intro wq hSw; (try dsimp only at hSw); go_simp; (try with_reducible rfl))
            try simp only [Act.put, List.setIfInBounds_toArray, List.set_cons_zero, List.set_cons_succ, List.getElem_toArray, List.getElem_cons_zero, List.getElem_cons_succ]
            refine wpAnyH_take (i := 12) (oi := _) (v := ?_) rfl (by kernel_rfl) (by kernel_rfl) (by kernel_rfl) (fun _ _ _ h => h) (Or.inl ⟨by rfl, ?_⟩) (by assumption) ?_
            rotate_left 1
            · (intro wq hSw; (try dsimp only at hSw); go_simp; (try with_reducible rfl))
            try simp only [Act.put, List.setIfInBounds_toArray, List.set_cons_zero, List.set_cons_succ, List.getElem_toArray, List.getElem_cons_zero, List.getElem_cons_succ]
            refine wpAnyH_take (i := 13) (oi := _) (v := ?_) rfl (by kernel_rfl) (by kernel_rfl) (by kernel_rfl) (fun _ _ _ h => h) (Or.inl ⟨by rfl, ?_⟩) (by assumption) ?_
            rotate_left 1
            · (intro wq hSw; (try dsimp only at hSw); go_simp; (try with_reducible rfl))
            try simp only [Act.put, List.setIfInBounds_toArray, List.set_cons_zero, List.set_cons_succ, List.getElem_toArray, List.getElem_cons_zero, List.getElem_cons_succ]
            refine wpAnyH_take (i := 14) (oi := _) (v := ?_) rfl (by kernel_rfl) (by kernel_rfl) (by kernel_rfl) (fun _ _ _ h => h) (Or.inl ⟨by rfl, ?_⟩) (by assumption) ?_
            rotate_left 1
            · (intro wq hSw; (try dsimp only at hSw); go_simp; (try with_reducible rfl))
            try simp only [Act.put, List.setIfInBounds_toArray, List.set_cons_zero, List.set_cons_succ, List.getElem_toArray, List.getElem_cons_zero, List.getElem_cons_succ]
            refine wpAnyH_take (i := 15) (oi := _) (v := ?_) rfl (by kernel_rfl) (by kernel_rfl) (by kernel_rfl) (fun _ _ _ h => h) (Or.inl ⟨by rfl, ?_⟩) (by assumption) ?_
            rotate_left 1
            · (intro wq hSw; (try dsimp only at hSw); go_simp; (try with_reducible rfl))
            try simp only [Act.put, List.setIfInBounds_toArray, List.set_cons_zero, List.set_cons_succ, List.getElem_toArray, List.getElem_cons_zero, List.getElem_cons_succ]
            refine wpAnyH_take (i := 16) (oi := _) (v := ?_) rfl (by kernel_rfl) (by kernel_rfl) (by kernel_rfl) (fun _ _ _ h => h) (Or.inl ⟨by rfl, ?_⟩) (by assumption) ?_
            rotate_left 1
            · (intro wq hSw; (try dsimp only at hSw); go_simp; (try with_reducible rfl))
            try simp only [Act.put, List.setIfInBounds_toArray, List.set_cons_zero, List.set_cons_succ, List.getElem_toArray, List.getElem_cons_zero, List.getElem_cons_succ]
            refine wpAnyH_take (i := 17) (oi := _) (v := ?_) rfl (by kernel_rfl) (by kernel_rfl) (by kernel_rfl) (fun _ _ _ h => h) (Or.inl ⟨by rfl, ?_⟩) (by assumption) ?_
            rotate_left 1
            · (intro wq hSw; (try dsimp only at hSw); go_simp; (try with_reducible rfl))
            try simp only [Act.put, List.setIfInBounds_toArray, List.set_cons_zero, List.set_cons_succ, List.getElem_toArray, List.getElem_cons_zero, List.getElem_cons_succ]
            refine wpAnyH_take (i := 18) (oi := _) (v := ?_) rfl (by kernel_rfl) (by kernel_rfl) (by kernel_rfl) (fun _ _ _ h => h) (Or.inl ⟨by rfl, ?_⟩) (by assumption) ?_
            rotate_left 1
            · (intro wq hSw; (try dsimp only at hSw); go_simp; (try with_reducible rfl))
            try simp only [Act.put, List.setIfInBounds_toArray, List.set_cons_zero, List.set_cons_succ, List.getElem_toArray, List.getElem_cons_zero, List.getElem_cons_succ]
            refine wpAnyH_take (i := 19) (oi := _) (v := ?_) rfl (by kernel_rfl) (by kernel_rfl) (by kernel_rfl) (fun _ _ _ h => h) (Or.inl ⟨by rfl, ?_⟩) (by assumption) ?_
            rotate_left 1
            · (intro wq hSw; (try dsimp only at hSw); go_simp; (try with_reducible rfl))
            try simp only [Act.put, List.setIfInBounds_toArray, List.set_cons_zero, List.set_cons_succ, List.getElem_toArray, List.getElem_cons_zero, List.getElem_cons_succ]
            refine wpAnyH_done (by kernel_rfl) ?_ _
            go_wp2_with (at_builtin; go_must (refine wpList_append_any _ rfl (.tmp 80) (.tmp 82) _ rfl (w.heap.size + 2) 31 i0 _ 5 40 Try.underlying22 hi hz0 hz1 hz2 rfl (by omega) _ k (l.flatMap Rw.vals) rfl ?c0 _ _ 1 1 r.vals rfl (reads_new_row _ r 31 _ ?c5) ?c1 ?c2 ?c3 ?c4 ?_))
            case c0 => exact (HT.out.below (by repeat (first | with_reducible exact Below.refl _ _ | with_reducible refine Below.setCell ?_ (by first | omega | (simp <;> omega)) _ | with_reducible refine Below.alloc ?_ (by first | omega | (simp <;> omega)) _ | with_reducible refine below_drewN ?_ _ | with_reducible refine Below.drew ?_))).ow
            case c1 => exact vals_one r
            case c2 => unfold maxLen; omega
            case c3 => omega
            case c4 => (try simp); omega
            try (case c5 => first | simp [hs8] | omega)
            intro v3 y3 hown hg _
            obtain ⟨N1, N2, N3, N4, N5, N6⟩ := HT.out.app (by repeat (first | with_reducible exact Below.refl _ _ | with_reducible refine Below.setCell ?_ (by first | omega | (simp <;> omega)) _ | with_reducible refine Below.alloc ?_ (by first | omega | (simp <;> omega)) _ | with_reducible refine below_drewN ?_ _ | with_reducible refine Below.drew ?_)) hg hB HX7.out hown
            go_wp2_with (fail)
            go_roundw
            case rel => exact ⟨k + 1, y5, by omega, by go_num, by rw [HQ.out]; show Value.bool false = Value.bool (gd && goodR l r); rw [HNG.out, Bool.and_false], Lib.hid (by rw [HQ.out]; exact HY9.out), Lib.hid N3, Lib.hid N1, Lib.hid N2, Lib.hid (by rw [HQ.out]; exact N4), Lib.hid N5, N6⟩
            case measure => simp [intOf]; omega
          · have hged : decide (r.c ≤ x.c) = false := decide_eq_false hge
            have hng : goodR l r = true := by rw [goodR, hlc, hf, decide_eq_true (by omega)]; rfl
            have HNG := Lib.hid hng
            clear hng hf hk0 hll hfc hm hx hlc
            refine wp_region_held_drew (S := fun w' => w'.cell? ⟨w6.heap.size, 0, none⟩ = some (.int .i64 r.c) ∧ w'.cell? ⟨w6.heap.size, 1, none⟩ = some (.int .u64 r.n) ∧ w'.cell? ⟨w6.heap.size, 2, none⟩ = some (.int .u64 r.s) ∧ w'.cell? ⟨w6.heap.size, 3, none⟩ = some (.int .i64 r.k) ∧ w'.cell? ⟨w6.heap.size, 4, none⟩ = some (.int .u64 r.v) ∧ w'.cell? ⟨ba, oa + m * 5, none⟩ = some (.int .i64 x.c)) (by kernel_rfl) ?_ (fun hHeld => ?_)
            · exact ⟨d0, d1, d2, d3, d4, c0⟩
            refine wpAnyH_take (i := 0) (oi := _) (v := ?_) rfl (by kernel_rfl) (by kernel_rfl) (by kernel_rfl) (fun _ _ _ h => h) (Or.inl ⟨by rfl, ?_⟩) (by assumption) ?_
            rotate_left 1
            · (intro wq hSw; (try dsimp only at hSw); go_simp; (try with_reducible rfl))
            try simp only [Act.put, List.setIfInBounds_toArray, List.set_cons_zero, List.set_cons_succ, List.getElem_toArray, List.getElem_cons_zero, List.getElem_cons_succ]
            refine wpAnyH_ready (rs := [1]) (by kernel_rfl) (by simp) ?_
            refine AllReadyH.cons (o := _) rfl (fun K hK => ?_) AllReadyH.nil
            go_simp
            refine (RF.out _).mono ?_; rintro e w9 ⟨rfl, rfl⟩
            (try go_simp)
            refine hK.out _ _ ?_ (fun hHeld => ?_)
            · go_keep
            clear hK K
            try simp only [Act.put, List.setIfInBounds_toArray, List.set_cons_zero, List.set_cons_succ, List.getElem_toArray, List.getElem_cons_zero, List.getElem_cons_succ]
            refine wpAnyH_take (i := 2) (oi := _) (v := ?_) rfl (by kernel_rfl) (by kernel_rfl) (by kernel_rfl) (fun _ _ _ h => h) (Or.inl ⟨by rfl, ?_⟩) (by assumption) ?_
            rotate_left 1
            · (intro wq hSw; (try dsimp only at hSw); go_simp; (try with_reducible rfl))
            try simp only [Act.put, List.setIfInBounds_toArray, List.set_cons_zero, List.set_cons_succ, List.getElem_toArray, List.getElem_cons_zero, List.getElem_cons_succ]
            refine wpAnyH_take (i := 3) (oi := _) (v := ?_) rfl (by kernel_rfl) (by kernel_rfl) (by kernel_rfl) (fun _ _ _ h => h) (Or.inl ⟨by rfl, ?_⟩) (by assumption) ?_
            rotate_left 1
            · (intro wq hSw; (try dsimp only at hSw); go_simp; (try with_reducible rfl))
            try simp only [Act.put, List.setIfInBounds_toArray, List.set_cons_zero, List.set_cons_succ, List.getElem_toArray, List.getElem_cons_zero, List.getElem_cons_succ]
            refine wpAnyH_take (i := 4) (oi := _) (v := ?_) rfl (by kernel_rfl) (by kernel_rfl) (by kernel_rfl) (fun _ _ _ h => h) (Or.inl ⟨by rfl, ?_⟩) (by assumption) ?_
            rotate_left 1
            · (intro wq hSw; (try dsimp only at hSw); go_simp; (try with_reducible rfl))
            try simp only [Act.put, List.setIfInBounds_toArray, List.set_cons_zero, List.set_cons_succ, List.getElem_toArray, List.getElem_cons_zero, List.getElem_cons_succ]
            refine wpAnyH_take (i := 5) (oi := _) (v := ?_) rfl (by kernel_rfl) (by kernel_rfl) (by kernel_rfl) (fun _ _ _ h => h) (Or.inl ⟨by rfl, ?_⟩) (by assumption) ?_
            rotate_left 1
            · (intro wq hSw; (try dsimp only at hSw); go_simp; (try with_reducible rfl))
            try simp only [Act.put, List.setIfInBounds_toArray, List.set_cons_zero, List.set_cons_succ, List.getElem_toArray, List.getElem_cons_zero, List.getElem_cons_succ]
            refine wpAnyH_take (i := 6) (oi := _) (v := ?_) rfl (by kernel_rfl) (by kernel_rfl) (by kernel_rfl) (fun _ _ _ h => h) (Or.inl ⟨by rfl, ?_⟩) (by assumption) ?_
            rotate_left 1
            · (intro wq hSw; (try dsimp only at hSw); go_simp; (try with_reducible rfl))
            try simp only [Act.put, List.setIfInBounds_toArray, List.set_cons_zero, List.set_cons_succ, List.getElem_toArray, List.getElem_cons_zero, List.getElem_cons_succ]
            refine wpAnyH_take (i := 7) (oi := _) (v := ?_) rfl (by kernel_rfl) (by kernel_rfl) (by kernel_rfl) (fun _ _ _ h => h) (Or.inl ⟨by rfl, ?_⟩) (by assumption) ?_
            rotate_left 1
            · (intro wq hSw; (try dsimp only at hSw); go_simp; (try with_reducible rfl))
            try simp only [Act.put, List.setIfInBounds_toArray, List.set_cons_zero, List.set_cons_succ, List.getElem_toArray, List.getElem_cons_zero, List.getElem_cons_succ]
            refine wpAnyH_take (i := 8) (oi := _) (v := ?_) rfl (by kernel_rfl) (by kernel_rfl) (by kernel_rfl) (fun _ _ _ h => h) (Or.inl ⟨by rfl, ?_⟩) (by assumption) ?_
            rotate_left 1
            · (intro wq hSw; (try dsimp only at hSw); go_simp; (try with_reducible rfl))
            try simp only [Act.put, List.setIfInBounds_toArray, List.set_cons_zero, List.set_cons_succ, List.getElem_toArray, List.getElem_cons_zero, List.getElem_cons_succ]
            refine wpAnyH_take (i := 9) (oi := _) (v := ?_) rfl (by kernel_rfl) (by kernel_rfl) (by kernel_rfl) (fun _ _ _ h => h) (Or.inl ⟨by rfl, ?_⟩) (by assumption) ?_
            rotate_left 1
            · (intro wq hSw; (try dsimp only at hSw); go_simp; (try with_reducible rfl))
            try simp only [Act.put, List.setIfInBounds_toArray, List.set_cons_zero, List.set_cons_succ, List.getElem_toArray, List.getElem_cons_zero, List.getElem_cons_succ]
            refine wpAnyH_take (i := 10) (oi := _) (v := ?_) rfl (by kernel_rfl) (by kernel_rfl) (by kernel_rfl) (fun _ _ _ h => h) (Or.inl ⟨by rfl, ?_⟩) (by assumption) ?_
            rotate_left 1
            · (intro wq hSw; (try dsimp only at hSw); go_simp; (try with_reducible rfl))
            try simp only [Act.put, List.setIfInBounds_toArray, List.set_cons_zero, List.set_cons_succ, List.getElem_toArray, List.getElem_cons_zero, List.getElem_cons_succ]
            refine wpAnyH_take (i := 11) (oi := _) (v := ?_) rfl (by kernel_rfl) (by kernel_rfl) (by kernel_rfl) (fun _ _ _ h => h) (Or.inl ⟨by rfl, ?_⟩) (by assumption) ?_
            rotate_left 1
            · (intro wq hSw; (try dsimp only at hSw); go_simp; (try with_reducible rfl))
            try simp only [Act.put, List.setIfInBounds_toArray, List.set_cons_zero, List.set_cons_succ, List.getElem_toArray, List.getElem_cons_zero, List.getElem_cons_succ]
            refine wpAnyH_take (i := 12) (oi := _) (v := ?_) rfl (by kernel_rfl) (by kernel_rfl) (by kernel_rfl) (fun _ _ _ h => h) (Or.inl ⟨by rfl, ?_⟩) (by assumption) ?_
            rotate_left 1
            · (intro wq hSw; (try dsimp only at hSw); go_simp; (try with_reducible rfl))
            try simp only [Act.put, List.setIfInBounds_toArray, List.set_cons_zero, List.set_cons_succ, List.getElem_toArray, List.getElem_cons_zero, List.getElem_cons_succ]
            refine wpAnyH_take (i := 13) (oi := _) (v := ?_) rfl (by kernel_rfl) (by kernel_rfl) (by kernel_rfl) (fun _ _ _ h => h) (Or.inl ⟨by rfl, ?_⟩) (by assumption) ?_
            rotate_left 1
            · (intro wq hSw; (try dsimp only at hSw); go_simp; (try with_reducible rfl))
            try simp only [Act.put, List.setIfInBounds_toArray, List.set_cons_zero, List.set_cons_succ, List.getElem_toArray, List.getElem_cons_zero, List.getElem_cons_succ]
            refine wpAnyH_take (i := 14) (oi := _) (v := ?_) rfl (by kernel_rfl) (by kernel_rfl) (by kernel_rfl) (fun _ _ _ h => h) (Or.inl ⟨by rfl, ?_⟩) (by assumption) ?_
            rotate_left 1
            · (intro wq hSw; (try dsimp only at hSw); go_simp; (try with_reducible rfl))
            try simp only [Act.put, List.setIfInBounds_toArray, List.set_cons_zero, List.set_cons_succ, List.getElem_toArray, List.getElem_cons_zero, List.getElem_cons_succ]
            refine wpAnyH_take (i := 15) (oi := _) (v := ?_) rfl (by kernel_rfl) (by kernel_rfl) (by kernel_rfl) (fun _ _ _ h => h) (Or.inl ⟨by rfl, ?_⟩) (by assumption) ?_
            rotate_left 1
            · (intro wq hSw; (try dsimp only at hSw); go_simp; (try with_reducible rfl))
            try simp only [Act.put, List.setIfInBounds_toArray, List.set_cons_zero, List.set_cons_succ, List.getElem_toArray, List.getElem_cons_zero, List.getElem_cons_succ]
            refine wpAnyH_take (i := 16) (oi := _) (v := ?_) rfl (by kernel_rfl) (by kernel_rfl) (by kernel_rfl) (fun _ _ _ h => h) (Or.inl ⟨by rfl, ?_⟩) (by assumption) ?_
            rotate_left 1
            · (intro wq hSw; (try dsimp only at hSw); go_simp; (try with_reducible rfl))
            try simp only [Act.put, List.setIfInBounds_toArray, List.set_cons_zero, List.set_cons_succ, List.getElem_toArray, List.getElem_cons_zero, List.getElem_cons_succ]
            refine wpAnyH_take (i := 17) (oi := _) (v := ?_) rfl (by kernel_rfl) (by kernel_rfl) (by kernel_rfl) (fun _ _ _ h => h) (Or.inl ⟨by rfl, ?_⟩) (by assumption) ?_
            rotate_left 1
            · (intro wq hSw; (try dsimp only at hSw); go_simp; (try with_reducible rfl))
            try simp only [Act.put, List.setIfInBounds_toArray, List.set_cons_zero, List.set_cons_succ, List.getElem_toArray, List.getElem_cons_zero, List.getElem_cons_succ]
            refine wpAnyH_take (i := 18) (oi := _) (v := ?_) rfl (by kernel_rfl) (by kernel_rfl) (by kernel_rfl) (fun _ _ _ h => h) (Or.inl ⟨by rfl, ?_⟩) (by assumption) ?_
            rotate_left 1
            · (intro wq hSw; (try dsimp only at hSw); go_simp; (try with_reducible rfl))
            try simp only [Act.put, List.setIfInBounds_toArray, List.set_cons_zero, List.set_cons_succ, List.getElem_toArray, List.getElem_cons_zero, List.getElem_cons_succ]
            refine wpAnyH_take (i := 19) (oi := _) (v := ?_) rfl (by kernel_rfl) (by kernel_rfl) (by kernel_rfl) (fun _ _ _ h => h) (Or.inl ⟨by rfl, ?_⟩) (by assumption) ?_
            rotate_left 1
            · (intro wq hSw; (try dsimp only at hSw); go_simp; (try with_reducible rfl))
            try simp only [Act.put, List.setIfInBounds_toArray, List.set_cons_zero, List.set_cons_succ, List.getElem_toArray, List.getElem_cons_zero, List.getElem_cons_succ]
            refine wpAnyH_done (by kernel_rfl) ?_ _
            go_wp2_with (at_builtin; go_must (refine wpList_append_any _ rfl (.tmp 80) (.tmp 82) _ rfl (w.heap.size + 2) 31 i0 _ 5 40 Try.underlying22 hi hz0 hz1 hz2 rfl (by omega) _ k (l.flatMap Rw.vals) rfl ?c0 _ _ 1 1 r.vals rfl (reads_new_row _ r 31 _ ?c5) ?c1 ?c2 ?c3 ?c4 ?_))
            case c0 => exact (HT.out.below (by repeat (first | with_reducible exact Below.refl _ _ | with_reducible refine Below.setCell ?_ (by first | omega | (simp <;> omega)) _ | with_reducible refine Below.alloc ?_ (by first | omega | (simp <;> omega)) _ | with_reducible refine below_drewN ?_ _ | with_reducible refine Below.drew ?_))).ow
            case c1 => exact vals_one r
            case c2 => unfold maxLen; omega
            case c3 => omega
            case c4 => (try simp); omega
            try (case c5 => first | simp [hs8] | omega)
            intro v3 y3 hown hg _
            obtain ⟨N1, N2, N3, N4, N5, N6⟩ := HT.out.app (by repeat (first | with_reducible exact Below.refl _ _ | with_reducible refine Below.setCell ?_ (by first | omega | (simp <;> omega)) _ | with_reducible refine Below.alloc ?_ (by first | omega | (simp <;> omega)) _ | with_reducible refine below_drewN ?_ _ | with_reducible refine Below.drew ?_)) hg hB HX7.out hown
            go_wp2_with (fail)
            go_roundw
            case rel => exact ⟨k + 1, y5, by omega, by go_num, by rw [HQ.out]; show Value.bool gd = Value.bool (gd && goodR l r); rw [HNG.out, Bool.and_true], Lib.hid (by rw [HQ.out]; exact HY9.out), Lib.hid N3, Lib.hid N1, Lib.hid N2, Lib.hid (by rw [HQ.out]; exact N4), Lib.hid N5, N6⟩
            case measure => simp [intOf]; omega
    · obtain rfl : k = n := by omega
      obtain ⟨P, hP⟩ : ∃ P, P = getRows k s1 := ⟨_, rfl⟩
      rw [← hP] at HY0 HO HE HL HI ⊢
      clear hP
      obtain ⟨a, l, gd⟩ := P
      simp only at HY0 HO HE HL HI ⊢
      obtain ⟨r0, r1⟩ := ri_cells HP1.out
      obtain ⟨r2, r3⟩ := ri_cells HP2.out
      have f2 := HP2.out.frozen 0
      have f3 := HP2.out.frozen 1
      dsimp only [RI.nil] at r2 r3
      have q2 := HP2.out.lt
      obtain ⟨A0, c0, rfl, hr0, _, _⟩ := own_slice HO.out
      have HR0 := Lib.hid hr0
      have hll := Lib.hid (rows_len HR0.out)
      clear hr0
      by_cases he : a.e = 0
      · have he' : (y.s.e != 0) = false := by rw [HY0.out]; simp [he]
        cases gd
        · have hE : Hid (readE s = 4) := Lib.hid (by rw [HE.out, if_neg (fun h => h he)]; rfl)
          have hL : Hid (readL s = []) := Lib.hid (by rw [HL.out, hE.out]; rfl)
          clear he
          go_wp2_with (fail)
          refine bodyPost_ret (v := .tuple #[y.agg, .slice none 0 0, .int .i64 4]) (by simp [results, Try.results28, go_sem, r0, r1, r2, r3, q2]) rfl ⟨y, none, 0, by rw [hE.out, hL.out]; rfl, by rw [HI.out]; exact HY0.out, (by repeat (first | with_reducible exact HX0.out | with_reducible refine RIn.alloc ?_ (by first | omega | (simp; omega)) _ | with_reducible refine RIn.setC ?_ (by first | omega | (simp <;> omega)) _ | with_reducible refine RIn.drewN ?_ _ | with_reducible refine RIn.drew ?_)), by rw [hL.out]; exact Reads.none_, ?_⟩
          exact (HB1.out.trans ((show Below w.heap.size wr _ from (by repeat (first | with_reducible exact Below.refl _ _ | with_reducible refine Below.setCell ?_ (by first | omega | (simp <;> omega)) _ | with_reducible refine Below.alloc ?_ (by first | omega | (simp <;> omega)) _ | with_reducible refine below_drewN ?_ _ | with_reducible refine Below.drew ?_))))) 
        · have hE : Hid (readE s = 0) := Lib.hid (by rw [HE.out, if_neg (fun h => h he)]; rfl)
          have hL : Hid (readL s = l) := Lib.hid (by rw [HL.out, hE.out]; rfl)
          clear he
          go_wp2_with (fail)
          refine bodyPost_ret (v := .tuple #[y.agg, .slice A0 k c0, .int .i64 0]) (by simp [results, Try.results28, go_sem, r0, r1, r2, r3, q2]) rfl ⟨y, A0, c0, by rw [hE.out, hL.out, hll.out], by rw [HI.out]; exact HY0.out, (by repeat (first | with_reducible exact HX0.out | with_reducible refine RIn.alloc ?_ (by first | omega | (simp; omega)) _ | with_reducible refine RIn.setC ?_ (by first | omega | (simp <;> omega)) _ | with_reducible refine RIn.drewN ?_ _ | with_reducible refine RIn.drew ?_)), by rw [hL.out, hll.out]; exact own_reads (((chg_setAt wr (w.heap.size + 1) 0 _).trans (chg_setAt _ (w.heap.size + 1) 1 _) (fun _ _ x => x)).own HO.out (fun g hg e => by have := (HO.out.lt g hg).1; unfold isG at e; omega)), ?_⟩
          exact (HB1.out.trans ((show Below w.heap.size wr _ from (by repeat (first | with_reducible exact Below.refl _ _ | with_reducible refine Below.setCell ?_ (by first | omega | (simp <;> omega)) _ | with_reducible refine Below.alloc ?_ (by first | omega | (simp <;> omega)) _ | with_reducible refine below_drewN ?_ _ | with_reducible refine Below.drew ?_))))) 
      · have he' : (y.s.e != 0) = true := by rw [HY0.out]; simp [he]
        have hE : Hid (readE s = y.s.e) := Lib.hid (by rw [HE.out, if_pos he, HY0.out])
        have hL : Hid (readL s = []) := Lib.hid (by rw [HL.out, hE.out, HY0.out, if_neg he])
        clear he
        go_wp2_with (fail)
        go_region_held3 (fun w' => w'.cell? ⟨w.heap.size, 0, none⟩ = some (.slice y.A y.s.l.length y.cap) ∧ w'.cell? ⟨w.heap.size, 1, none⟩ = some (.int .i64 y.s.e)) (go_keep) (fail)
        go_wp2_with (fail)
        refine bodyPost_ret (v := .tuple #[y.agg, .slice none 0 0, .int .i64 y.s.e]) (by simp [results, Try.results28, go_sem, r0, r1, r2, r3, q2]) rfl ⟨y, none, 0, by rw [hE.out, hL.out]; rfl, by rw [HI.out]; exact HY0.out, (by repeat (first | with_reducible exact HX0.out | with_reducible refine RIn.alloc ?_ (by first | omega | (simp; omega)) _ | with_reducible refine RIn.setC ?_ (by first | omega | (simp <;> omega)) _ | with_reducible refine RIn.drewN ?_ _ | with_reducible refine RIn.drew ?_)), by rw [hL.out]; exact Reads.none_, ?_⟩
        exact (HB1.out.trans ((show Below w.heap.size wr _ from (by repeat (first | with_reducible exact Below.refl _ _ | with_reducible refine Below.setCell ?_ (by first | omega | (simp <;> omega)) _ | with_reducible refine Below.alloc ?_ (by first | omega | (simp <;> omega)) _ | with_reducible refine below_drewN ?_ _ | with_reducible refine Below.drew ?_))))) 
end Go.Proofs.Ytcmaekkfeilclaa
