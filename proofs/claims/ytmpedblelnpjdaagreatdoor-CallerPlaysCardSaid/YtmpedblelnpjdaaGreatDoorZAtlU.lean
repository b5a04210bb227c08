import Derived.Test.YtmpedblelnpjdaaGreatDoorZAtlP
import Derived.Test.YtmpedblelnpjdaaGreatDoorZTk
section
/- (*Atlas).Learn in range, not newer. -/
namespace Go.Proofs.YtmpedblelnpjdaaGreatDoor
open Go.RowKit
set_option linter.unusedSimpArgs false
set_option linter.unusedVariables false
set_option maxHeartbeats 4000000
set_option maxRecDepth 100000
attribute [local go_sem] Cf.agg Cf.cells
theorem atLearn_same (b0 G C : Nat) (q h cB k : Nat) (o : List Cf) (x : Cf) (w : World) (a : AtX w b0 G q h cB o) (hx : CfIn w C x) (hC : C ≤ w.heap.size) (hk : x.ch = k) (hkn : k < o.length) (hno : learnB (o.map Cf.val) x = false) :
  Calls Tryz.prog 79 #[.pointer (some ⟨G, 0, none⟩), x.agg] w fun e w' => ALPost b0 G q h cB (o.map Cf.val) x w e w' := by
 have hb0 : b0 ≤ w.heap.size := by have h1 := a.b0; have h2 := a.num.lt; omega
 have hbox : Below w.heap.size w (w.alloc (.cells x.cells 33)) := (Below.refl _ _).alloc (Nat.le_refl _) _
 have a1 := a.below hbox
 have A1 := Lib.hid a1
 have HB := Lib.hid hbox
 obtain ⟨b, off, y, hA, _, hyo, _, q0, q1, q2, q3, q4⟩ := a1.cfs.at_ hkn
 cases hA
 have HNV : Hid (newerV y x = false) := Lib.hid ((learn_at hk hyo).symm.trans hno)
 have hT := Lib.hid hno
 obtain ⟨k0, k1, k2, k3, k4⟩ := cf_cells (x := x) (Blk.new w 33 x.cells)
 rw [hk] at k0
 have g0 : (w.alloc (.cells x.cells 33)).cell? ⟨G, 0, none⟩ = some (.slice (some ⟨q, 0, none⟩) o.length o.length) := a1.blk.cell 0
 have hqw : q < (w.alloc (.cells x.cells 33)).heap.size := a1.conf.lt
 have hGw : G < (w.alloc (.cells x.cells 33)).heap.size := a1.blk.lt
 have hgw : w.heap.size < (w.alloc (.cells x.cells 33)).heap.size := by simp
 have hCw : C ≤ (w.alloc (.cells x.cells 33)).heap.size := by simp; omega
 have HXa := Lib.hid (hx.alloc hC (.cells x.cells 33))
 have h0' : decide ((k : Int) < 0) = false := by simp
 have h1' : decide (o.length ≤ k) = false := by simp; omega
 have hlt' : (k : Int) < o.length := by omega
 have hk0 : (0 : Int) ≤ k := by omega
 have HK := Lib.hid hk
 simp only [Nat.zero_add] at q0 q1 q2 q3 q4
 obtain ⟨w0, hw0⟩ : ∃ w0, w0 = w.alloc (.cells x.cells 33) := ⟨_, rfl⟩
 rw [← hw0] at A1 HB q0 q1 q2 q3 q4 k0 k1 k2 k3 k4 g0 hqw hGw hgw hCw HXa
 have P := Lib.hid (show _ ∧ _ ∧ _ ∧ _ ∧ _ from ⟨k0, k1, k2, k3, k4⟩)
 have R := Lib.hid (show _ ∧ _ ∧ _ ∧ _ ∧ _ ∧ _ from ⟨g0, q0, q1, q2, q3, q4⟩)
 have hb : Below w0.heap.size w0 w0.drew := (Below.refl _ _).drew
 have HW0 := Lib.hid hw0
 clear a a1 hx hbox hyo hno hk k0 k1 k2 k3 k4 q0 q1 q2 q3 q4 g0 hw0
 obtain ⟨xch, xep, xA, xlen, xcap, xfr, xjn, xzs⟩ := x
 obtain rfl : xch = k := HK.out
 go_enter Tryz.func79, Tryz.ntmps79
 go_wp2_with (fail)
 rw [show w.alloc (.cells #[.int .i64 k, .int .u64 xep, .slice xA xlen xcap, .bool xfr, .int .i64 xjn] 33) = w0 from HW0.out.symm]
 have k0 : w0.drew.cell? ⟨w.heap.size, 0, none⟩ = some (.int .i64 k) := P.out.1
 have k1 : w0.drew.cell? ⟨w.heap.size, 1, none⟩ = some (.int .u64 xep) := P.out.2.1
 have k2 : w0.drew.cell? ⟨w.heap.size, 2, none⟩ = some (.slice xA xlen xcap) := P.out.2.2.1
 have k3 : w0.drew.cell? ⟨w.heap.size, 3, none⟩ = some (.bool xfr) := P.out.2.2.2.1
 have k4 : w0.drew.cell? ⟨w.heap.size, 4, none⟩ = some (.int .i64 xjn) := P.out.2.2.2.2
 have g0 : w0.drew.cell? ⟨G, 0, none⟩ = some (.slice (some ⟨q, 0, none⟩) o.length o.length) := R.out.1
 have q0 : w0.drew.cell? ⟨q, k * 5, none⟩ = some (.int .i64 y.ch) := R.out.2.1
 have q1 : w0.drew.cell? ⟨q, k * 5 + 1, none⟩ = some (.int .u64 y.ep) := R.out.2.2.1
 have q2 : w0.drew.cell? ⟨q, k * 5 + 2, none⟩ = some (.slice y.A y.len y.cap) := R.out.2.2.2.1
 have q3 : w0.drew.cell? ⟨q, k * 5 + 3, none⟩ = some (.bool y.fr) := R.out.2.2.2.2.1
 have q4 : w0.drew.cell? ⟨q, k * 5 + 4, none⟩ = some (.int .i64 y.jn) := R.out.2.2.2.2.2
 go_region_held3 (fun w' => w'.cell? ⟨w.heap.size, 0, none⟩ = some (.int .i64 k) ∧ w'.cell? ⟨w.heap.size, 1, none⟩ = some (.int .u64 xep) ∧ w'.cell? ⟨w.heap.size, 2, none⟩ = some (.slice xA xlen xcap) ∧ w'.cell? ⟨w.heap.size, 3, none⟩ = some (.bool xfr) ∧ w'.cell? ⟨w.heap.size, 4, none⟩ = some (.int .i64 xjn) ∧ w'.cell? ⟨G, 0, none⟩ = some (.slice (some ⟨q, 0, none⟩) o.length o.length) ∧ w'.cell? ⟨q, k * 5, none⟩ = some (.int .i64 y.ch) ∧ w'.cell? ⟨q, k * 5 + 1, none⟩ = some (.int .u64 y.ep) ∧ w'.cell? ⟨q, k * 5 + 2, none⟩ = some (.slice y.A y.len y.cap) ∧ w'.cell? ⟨q, k * 5 + 3, none⟩ = some (.bool y.fr) ∧ w'.cell? ⟨q, k * 5 + 4, none⟩ = some (.int .i64 y.jn)) (go_keep) (first
  | (go_at_call 151; refine (chains_any b0 G q h cB o _ (A1.out.below hb)).mono ?_; rintro e w9 ⟨rfl, rfl⟩)
  | (go_at_call 159; refine (newer_any y ⟨k, xep, xA, xlen, xcap, xfr, xjn, xzs⟩ C _ (HXa.out.below (hb.mono hCw)) (Nat.le_trans hCw hb.size)).mono ?_; rintro e w9 ⟨rfl, hb9⟩; rw [HNV.out]; replace hb := hb.trans (hb9.mono hb.size); replace k0 := (hb.cell (p := ⟨w.heap.size, 0, none⟩) hgw).trans P.out.1; replace k1 := (hb.cell (p := ⟨w.heap.size, 1, none⟩) hgw).trans P.out.2.1; replace k2 := (hb.cell (p := ⟨w.heap.size, 2, none⟩) hgw).trans P.out.2.2.1; replace k3 := (hb.cell (p := ⟨w.heap.size, 3, none⟩) hgw).trans P.out.2.2.2.1; replace k4 := (hb.cell (p := ⟨w.heap.size, 4, none⟩) hgw).trans P.out.2.2.2.2; replace g0 := (hb.cell (p := ⟨G, 0, none⟩) hGw).trans R.out.1; replace q0 := (hb.cell (p := ⟨q, k * 5, none⟩) hqw).trans R.out.2.1; replace q1 := (hb.cell (p := ⟨q, k * 5 + 1, none⟩) hqw).trans R.out.2.2.1; replace q2 := (hb.cell (p := ⟨q, k * 5 + 2, none⟩) hqw).trans R.out.2.2.2.1; replace q3 := (hb.cell (p := ⟨q, k * 5 + 3, none⟩) hqw).trans R.out.2.2.2.2.1; replace q4 := (hb.cell (p := ⟨q, k * 5 + 4, none⟩) hqw).trans R.out.2.2.2.2.2; clear hb9)
  | fail)
 all_goals
  go_wp2_with (fail)
  go_ret
  refine ⟨by rw [hT.out]; rfl, ?_, Chg.of_below (HB.out.trans (hb.mono (Nat.le_of_lt hgw))) _⟩
  rw [learn_no hT.out]
  exact ⟨o, A1.out.below hb, rfl⟩
end Go.Proofs.YtmpedblelnpjdaaGreatDoor

end
section
/- An atlas behind the store of one row. -/
namespace Go.Proofs.YtmpedblelnpjdaaGreatDoor
open Go.RowKit
set_option maxHeartbeats 2000000
theorem CfOwn.put {w : World} {q : Nat} {x : Cf} (h : CfOwn w (q + 1) x) (i : Nat) (u : Value) : CfOwn (w.setCell ⟨q, i, none⟩ u) (q + 1) x := by
 obtain ⟨hl, h0 | ⟨g, cap, cur, hv, hg, hb, r⟩⟩ := h
 ·exact ⟨hl, Or.inl h0⟩
 ·exact ⟨hl, Or.inr ⟨g, cap, cur, hv, hg, (Below.heap_setCell w ⟨q, i, none⟩ u g (by show g ≠ q; omega)).trans hb, r⟩⟩
theorem CfOwn.puts {w : World} {q k : Nat} {x : Cf} (h : CfOwn w (q + 1) x) (u0 u1 u2 u3 u4 : Value) :
  CfOwn (((((w.setCell ⟨q, k * 5, none⟩ u0).setCell ⟨q, k * 5 + 1, none⟩ u1).setCell ⟨q, k * 5 + 2, none⟩ u2).setCell ⟨q, k * 5 + 3, none⟩ u3).setCell ⟨q, k * 5 + 4, none⟩ u4) (q + 1) x :=
 ((((h.put _ u0).put _ u1).put _ u2).put _ u3).put _ u4
theorem Blk.fars {w : World} {g q k : Nat} {t : TypeId} {cs : Array Value} (h : Blk w g t cs) (hp : g ≠ q) (u0 u1 u2 u3 u4 : Value) :
  Blk (((((w.setCell ⟨q, k * 5, none⟩ u0).setCell ⟨q, k * 5 + 1, none⟩ u1).setCell ⟨q, k * 5 + 2, none⟩ u2).setCell ⟨q, k * 5 + 3, none⟩ u3).setCell ⟨q, k * 5 + 4, none⟩ u4) g t cs :=
 ((((Blk.far h (p := ⟨q, k * 5, none⟩) hp u0).far (p := ⟨q, k * 5 + 1, none⟩) hp u1).far (p := ⟨q, k * 5 + 2, none⟩) hp u2).far (p := ⟨q, k * 5 + 3, none⟩) hp u3).far (p := ⟨q, k * 5 + 4, none⟩) hp u4
theorem cell_fars {w : World} {b j q k : Nat} (hp : b ≠ q) (u0 u1 u2 u3 u4 : Value) :
  (((((w.setCell ⟨q, k * 5, none⟩ u0).setCell ⟨q, k * 5 + 1, none⟩ u1).setCell ⟨q, k * 5 + 2, none⟩ u2).setCell ⟨q, k * 5 + 3, none⟩ u3).setCell ⟨q, k * 5 + 4, none⟩ u4).cell? ⟨b, j, none⟩ = w.cell? ⟨b, j, none⟩ := by
 have hne : ∀ i, (⟨b, j, none⟩ : Addr) ≠ ⟨q, i, none⟩ := fun i e => by cases e; exact hp rfl
 rw [World.cell?_setCell_other _ _ _ _ (by first | exact hne _ | exact (hne _).symm), World.cell?_setCell_other _ _ _ _ (by first | exact hne _ | exact (hne _).symm), World.cell?_setCell_other _ _ _ _ (by first | exact hne _ | exact (hne _).symm), World.cell?_setCell_other _ _ _ _ (by first | exact hne _ | exact (hne _).symm), World.cell?_setCell_other _ _ _ _ (by first | exact hne _ | exact (hne _).symm)]
theorem AtX.put {w : World} {b0 G q h cB k : Nat} {o : List Cf} (a : AtX w b0 G q h cB o) (hk : k < o.length) (z : Cf) (hz : CfOwn w (q + 1) z) (hm : z.len ≤ 1000000) :
  AtX (((((w.setCell ⟨q, k * 5, none⟩ (.int .i64 z.ch)).setCell ⟨q, k * 5 + 1, none⟩ (.int .u64 z.ep)).setCell ⟨q, k * 5 + 2, none⟩ (.slice z.A z.len z.cap)).setCell ⟨q, k * 5 + 3, none⟩ (.bool z.fr)).setCell ⟨q, k * 5 + 4, none⟩ (.int .i64 z.jn)) b0 G q h cB (o.set k z) := by
 have hlt := a.lt
 have hl : (o.set k z).length = o.length := List.length_set
 have c := ((((a.conf.set_ (k * 5) (.int .i64 z.ch)).set_ (k * 5 + 1) (.int .u64 z.ep)).set_ (k * 5 + 2) (.slice z.A z.len z.cap)).set_ (k * 5 + 3) (.bool z.fr)).set_ (k * 5 + 4) (.int .i64 z.jn)
 simp only [List.setIfInBounds_toArray] at c
 rw [flat_set5 o k z hk] at c
 have b1 := a.blk.fars (k := k) (q := q) (by omega) (.int .i64 z.ch) (.int .u64 z.ep) (.slice z.A z.len z.cap) (.bool z.fr) (.int .i64 z.jn)
 have b2 := Blk.fars (k := k) (q := q) a.keys (by omega) (.int .i64 z.ch) (.int .u64 z.ep) (.slice z.A z.len z.cap) (.bool z.fr) (.int .i64 z.jn)
 have b3 := a.num.fars (k := k) (q := q) (by omega) (.int .i64 z.ch) (.int .u64 z.ep) (.slice z.A z.len z.cap) (.bool z.fr) (.int .i64 z.jn)
 refine ⟨by rw [hl]; exact b1, c, fun x hx => ?_, b2, by rw [hl]; exact b3, ⟨by rw [hl]; exact a.few.1, fun x hx => ?_⟩, a.b0, hlt⟩
 ·rcases List.mem_or_eq_of_mem_set hx with hx | hx
  ·exact (a.own x hx).puts _ _ _ _ _
  ·subst hx
   exact hz.puts _ _ _ _ _
 ·rcases List.mem_or_eq_of_mem_set hx with hx | hx
  ·exact a.few.2 x hx
  ·subst hx
   exact hm
end Go.Proofs.YtmpedblelnpjdaaGreatDoor

end
section
/- (*Atlas).Learn in range, newer: region 3 by hand (go_region_held3 warns at the load behind Copy). -/
namespace Go.Proofs.YtmpedblelnpjdaaGreatDoor
open Go.RowKit
set_option linter.unusedSimpArgs false
set_option linter.unusedVariables false
set_option maxHeartbeats 4000000
set_option maxRecDepth 100000
attribute [local go_sem] Cf.agg Cf.cells
structure Cp1 (x : Cf) (w9 w10 : World) (z : Cf) : Prop where
 val : z.val = x.val
 blk : Blk w10 (w9.heap.size + 1) 33 ⟨z.row⟩
 own : CfOwn w10 (w9.heap.size + 2) z
 bel : Below w9.heap.size w9 w10
theorem copy_one (x : Cf) (C : Nat) (w9 : World) (hx : CfIn w9 C x) (hC : C ≤ w9.heap.size) (hl : x.len ≤ 1000000) :
  Calls Tryz.prog 147 #[.slice (some ⟨w9.heap.size, 0, none⟩) 1 1] (w9.alloc (.cells x.cells 33)) fun e w10 => ∃ z : Cf, e = .returned (.slice (some ⟨w9.heap.size + 1, 0, none⟩) 1 1) ∧ Cp1 x w9 w10 z := by
 have hx2 := hx.alloc hC (.cells x.cells 33)
 have hin : CfsIn (w9.alloc (.cells x.cells 33)) (w9.heap.size + 1) (some ⟨w9.heap.size, 0, none⟩) 1 [x] :=
  ⟨⟨rfl, fun _ => ⟨_, rfl, by simp, fun j u hu => cells_new _ _ _ j u hu⟩⟩, fun z hz => by
   simp only [List.mem_singleton] at hz
   subst hz
   exact ⟨hx2.rd.more (Nat.le_trans hC (Nat.le_succ _)), hx2.hc, hx2.hm⟩⟩
 have hs : (w9.alloc (.cells x.cells 33)).heap.size = w9.heap.size + 1 := by simp
 refine (copy_any (some ⟨w9.heap.size, 0, none⟩) 1 1 (w9.heap.size + 1) [x] _ hin (by rw [hs]; exact Nat.le_refl _) (by omega) (fun y hy => by simp at hy; subst hy; exact hl)).mono ?_
 rintro e w10 ⟨o2, rfl, hcp⟩
 obtain ⟨z, rfl⟩ := List.length_eq_one_iff.1 hcp.len
 have hb := hcp.blk
 have ho := hcp.own z (by simp)
 have hbl := hcp.bel
 rw [hs] at hb ho hbl ⊢
 refine ⟨z, rfl, ⟨?_, by simpa using hb, ho, ((Below.refl w9.heap.size w9).alloc (Nat.le_refl _) _).trans (hbl.mono (Nat.le_succ _))⟩⟩
 have := hcp.val
 simpa using this
def bv (w : World) (b j : Nat) : Value := (w.cell? ⟨b, j, none⟩).getD undef
theorem atLearn_new (b0 G C : Nat) (q h cB k : Nat) (o : List Cf) (x : Cf) (w : World) (a : AtX w b0 G q h cB o) (hx : CfIn w C x) (hC : C ≤ w.heap.size) (hk : x.ch = k) (hkn : k < o.length) (hno : learnB (o.map Cf.val) x = true) (hxl : x.len ≤ 1000000) :
  Calls Tryz.prog 79 #[.pointer (some ⟨G, 0, none⟩), x.agg] w fun e w' => ALPost b0 G q h cB (o.map Cf.val) x w e w' := by
 have hb0 : b0 ≤ w.heap.size := by have h1 := a.b0; have h2 := a.num.lt; omega
 have hbox : Below w.heap.size w (w.alloc (.cells x.cells 33)) := (Below.refl _ _).alloc (Nat.le_refl _) _
 have hqq : q < w.heap.size := a.conf.lt
 have hGq : G ≠ q := by have := a.lt; omega
 have a1 := a.below hbox
 have A1 := Lib.hid a1
 have HB := Lib.hid hbox
 obtain ⟨b, off, y, hA, _, hyo, _, q0, q1, q2, q3, q4⟩ := a1.cfs.at_ hkn
 cases hA
 have HNV : Hid (newerV y x = true) := Lib.hid ((learn_at hk hyo).symm.trans hno)
 have hT := Lib.hid hno
 obtain ⟨k0, k1, k2, k3, k4⟩ := cf_cells (x := x) (Blk.new w 33 x.cells)
 rw [hk] at k0
 have g0 : (w.alloc (.cells x.cells 33)).cell? ⟨G, 0, none⟩ = some (.slice (some ⟨q, 0, none⟩) o.length o.length) := a1.blk.cell 0
 have hqw : q < (w.alloc (.cells x.cells 33)).heap.size := a1.conf.lt
 have hGw : G < (w.alloc (.cells x.cells 33)).heap.size := a1.blk.lt
 have hgw : w.heap.size < (w.alloc (.cells x.cells 33)).heap.size := by simp
 have hCw : C ≤ (w.alloc (.cells x.cells 33)).heap.size := by simp; omega
 have HXa := Lib.hid (hx.alloc hC (.cells x.cells 33))
 have h0' : decide ((k : Int) < 0) = false := by simp
 have h1' : decide (o.length ≤ k) = false := by simp; omega
 have hlt' : (k : Int) < o.length := by omega
 have hk0 : (0 : Int) ≤ k := by omega
 have HK := Lib.hid hk
 simp only [Nat.zero_add] at q0 q1 q2 q3 q4
 obtain ⟨w0, hw0⟩ : ∃ w0, w0 = w.alloc (.cells x.cells 33) := ⟨_, rfl⟩
 rw [← hw0] at A1 HB q0 q1 q2 q3 q4 k0 k1 k2 k3 k4 g0 hqw hGw hgw hCw HXa
 have P := Lib.hid (show _ ∧ _ ∧ _ ∧ _ ∧ _ from ⟨k0, k1, k2, k3, k4⟩)
 have R := Lib.hid (show _ ∧ _ ∧ _ ∧ _ ∧ _ ∧ _ from ⟨g0, q0, q1, q2, q3, q4⟩)
 have hb : Below w0.heap.size w0 w0.drew := (Below.refl _ _).drew
 have HW0 := Lib.hid hw0
 clear a a1 hx hbox hyo hno hk k0 k1 k2 k3 k4 q0 q1 q2 q3 q4 g0 hw0
 obtain ⟨xch, xep, xA, xlen, xcap, xfr, xjn, xzs⟩ := x
 obtain rfl : xch = k := HK.out
 go_enter Tryz.func79, Tryz.ntmps79
 go_wp2_with (fail)
 rw [show w.alloc (.cells #[.int .i64 k, .int .u64 xep, .slice xA xlen xcap, .bool xfr, .int .i64 xjn] 33) = w0 from HW0.out.symm]
 have k0 : w0.drew.cell? ⟨w.heap.size, 0, none⟩ = some (.int .i64 k) := P.out.1
 have k1 : w0.drew.cell? ⟨w.heap.size, 1, none⟩ = some (.int .u64 xep) := P.out.2.1
 have k2 : w0.drew.cell? ⟨w.heap.size, 2, none⟩ = some (.slice xA xlen xcap) := P.out.2.2.1
 have k3 : w0.drew.cell? ⟨w.heap.size, 3, none⟩ = some (.bool xfr) := P.out.2.2.2.1
 have k4 : w0.drew.cell? ⟨w.heap.size, 4, none⟩ = some (.int .i64 xjn) := P.out.2.2.2.2
 have g0 : w0.drew.cell? ⟨G, 0, none⟩ = some (.slice (some ⟨q, 0, none⟩) o.length o.length) := R.out.1
 have q0 : w0.drew.cell? ⟨q, k * 5, none⟩ = some (.int .i64 y.ch) := R.out.2.1
 have q1 : w0.drew.cell? ⟨q, k * 5 + 1, none⟩ = some (.int .u64 y.ep) := R.out.2.2.1
 have q2 : w0.drew.cell? ⟨q, k * 5 + 2, none⟩ = some (.slice y.A y.len y.cap) := R.out.2.2.2.1
 have q3 : w0.drew.cell? ⟨q, k * 5 + 3, none⟩ = some (.bool y.fr) := R.out.2.2.2.2.1
 have q4 : w0.drew.cell? ⟨q, k * 5 + 4, none⟩ = some (.int .i64 y.jn) := R.out.2.2.2.2.2
 go_region_held3 (fun w' => w'.cell? ⟨w.heap.size, 0, none⟩ = some (.int .i64 k) ∧ w'.cell? ⟨w.heap.size, 1, none⟩ = some (.int .u64 xep) ∧ w'.cell? ⟨w.heap.size, 2, none⟩ = some (.slice xA xlen xcap) ∧ w'.cell? ⟨w.heap.size, 3, none⟩ = some (.bool xfr) ∧ w'.cell? ⟨w.heap.size, 4, none⟩ = some (.int .i64 xjn) ∧ w'.cell? ⟨G, 0, none⟩ = some (.slice (some ⟨q, 0, none⟩) o.length o.length) ∧ w'.cell? ⟨q, k * 5, none⟩ = some (.int .i64 y.ch) ∧ w'.cell? ⟨q, k * 5 + 1, none⟩ = some (.int .u64 y.ep) ∧ w'.cell? ⟨q, k * 5 + 2, none⟩ = some (.slice y.A y.len y.cap) ∧ w'.cell? ⟨q, k * 5 + 3, none⟩ = some (.bool y.fr) ∧ w'.cell? ⟨q, k * 5 + 4, none⟩ = some (.int .i64 y.jn)) (go_keep) (first
  | (go_at_call 151; refine (chains_any b0 G q h cB o _ (A1.out.below hb)).mono ?_; rintro e w9 ⟨rfl, rfl⟩)
  | (go_at_call 159; refine (newer_any y ⟨k, xep, xA, xlen, xcap, xfr, xjn, xzs⟩ C _ (HXa.out.below (hb.mono hCw)) (Nat.le_trans hCw hb.size)).mono ?_; rintro e w9 ⟨rfl, hb9⟩; rw [HNV.out]; replace hb := hb.trans (hb9.mono hb.size); replace k0 := (hb.cell (p := ⟨w.heap.size, 0, none⟩) hgw).trans P.out.1; replace k1 := (hb.cell (p := ⟨w.heap.size, 1, none⟩) hgw).trans P.out.2.1; replace k2 := (hb.cell (p := ⟨w.heap.size, 2, none⟩) hgw).trans P.out.2.2.1; replace k3 := (hb.cell (p := ⟨w.heap.size, 3, none⟩) hgw).trans P.out.2.2.2.1; replace k4 := (hb.cell (p := ⟨w.heap.size, 4, none⟩) hgw).trans P.out.2.2.2.2; replace g0 := (hb.cell (p := ⟨G, 0, none⟩) hGw).trans R.out.1; replace q0 := (hb.cell (p := ⟨q, k * 5, none⟩) hqw).trans R.out.2.1; replace q1 := (hb.cell (p := ⟨q, k * 5 + 1, none⟩) hqw).trans R.out.2.2.1; replace q2 := (hb.cell (p := ⟨q, k * 5 + 2, none⟩) hqw).trans R.out.2.2.2.1; replace q3 := (hb.cell (p := ⟨q, k * 5 + 3, none⟩) hqw).trans R.out.2.2.2.2.1; replace q4 := (hb.cell (p := ⟨q, k * 5 + 4, none⟩) hqw).trans R.out.2.2.2.2.2; clear hb9)
  | fail)
 all_goals
  go_wp2_with (fail)
  clear q0 q1 q2 q3 q4
  have HX9 := HXa.out.below (hb.mono hCw)
  have CP := Lib.hid (copy_one ⟨(k : Int), xep, xA, xlen, xcap, xfr, xjn, xzs⟩ C w9.drew (HX9.below ((Below.refl C w9).drew)) (Nat.le_trans hCw hb.size) hxl)
  have LT := Lib.hid (show w.heap.size < w9.heap.size ∧ G < w9.heap.size ∧ q < w9.heap.size from ⟨Nat.lt_of_lt_of_le hgw hb.size, Nat.lt_of_lt_of_le hGw hb.size, Nat.lt_of_lt_of_le hqw hb.size⟩)
  have HB9 := Lib.hid hb
  have hqne : q ≠ w9.heap.size + 1 := by have := LT.out.2.2; omega
  have hqne2 : w9.heap.size + 1 ≠ q := by have := LT.out.2.2; omega
  have AQ := Lib.hid (A1.out.below hb)
  clear HX9
  refine wp_region_held_drew (S := fun w' => w'.cell? ⟨w.heap.size, 0, none⟩ = some (.int .i64 k) ∧ w'.cell? ⟨w.heap.size, 1, none⟩ = some (.int .u64 xep) ∧ w'.cell? ⟨w.heap.size, 2, none⟩ = some (.slice xA xlen xcap) ∧ w'.cell? ⟨w.heap.size, 3, none⟩ = some (.bool xfr) ∧ w'.cell? ⟨w.heap.size, 4, none⟩ = some (.int .i64 xjn) ∧ w'.cell? ⟨G, 0, none⟩ = some (.slice (some ⟨q, 0, none⟩) o.length o.length)) (by kernel_rfl) ?_ (fun hHeld => ?_)
  ·exact ⟨k0, k1, k2, k3, k4, g0⟩
  refine tkV 0 rfl ?_
  try simp only [Act.put, pS]
  refine tkV 1 rfl ?_
  try simp only [Act.put, pS]
  refine tkV 2 rfl ?_
  try simp only [Act.put, pS]
  refine tkV 3 rfl ?_
  try simp only [Act.put, pS]
  refine tkV 4 rfl ?_
  try simp only [Act.put, pS]
  refine tkV 5 rfl ?_
  try simp only [Act.put, pS]
  refine tkV 6 rfl ?_
  try simp only [Act.put, pS]
  refine wpAnyH_ready (rs := [7]) (by kernel_rfl) (by simp) ?_
  refine AllReadyH.cons (o := _) rfl (fun K hK => ?_) AllReadyH.nil
  go_simp
  refine hK.out _ _ ?_ (fun hHeld2 => ?_)
  ·go_keep
  clear hK K hHeld
  try simp only [Act.put, pS]
  refine wpAnyH_ready (rs := [8]) (by kernel_rfl) (by simp) ?_
  refine AllReadyH.cons (o := _) rfl (fun K hK => ?_) AllReadyH.nil
  go_simp
  refine CP.out.mono ?_
  rintro e w10 ⟨z, rfl, h10⟩
  have m0 := (h10.bel.cell (p := ⟨w.heap.size, 0, none⟩) LT.out.1).trans k0
  have m1 := (h10.bel.cell (p := ⟨w.heap.size, 1, none⟩) LT.out.1).trans k1
  have m2 := (h10.bel.cell (p := ⟨w.heap.size, 2, none⟩) LT.out.1).trans k2
  have m3 := (h10.bel.cell (p := ⟨w.heap.size, 3, none⟩) LT.out.1).trans k3
  have m4 := (h10.bel.cell (p := ⟨w.heap.size, 4, none⟩) LT.out.1).trans k4
  have mG := (h10.bel.cell (p := ⟨G, 0, none⟩) LT.out.2.1).trans g0
  have z0 : w10.cell? ⟨w9.heap.size + 1, 0, none⟩ = some (.int .i64 z.ch) := h10.blk.cell 0
  have z1 : w10.cell? ⟨w9.heap.size + 1, 1, none⟩ = some (.int .u64 z.ep) := h10.blk.cell 1
  have z2 : w10.cell? ⟨w9.heap.size + 1, 2, none⟩ = some (.slice z.A z.len z.cap) := h10.blk.cell 2
  have z3 : w10.cell? ⟨w9.heap.size + 1, 3, none⟩ = some (.bool z.fr) := h10.blk.cell 3
  have z4 : w10.cell? ⟨w9.heap.size + 1, 4, none⟩ = some (.int .i64 z.jn) := h10.blk.cell 4
  have AQ9 : AtX w9.drew b0 G q h cB o := AQ.out.below ((Below.refl _ _).drew)
  have AQ10 := Lib.hid (AQ9.below h10.bel)
  have H10 := Lib.hid h10
  have c10 := AQ10.out.conf
  have hfl : (o.flatMap Cf.row).length = o.length * 5 := flat_length Cf.row 5 Cf.row_len o
  obtain ⟨y0, e0⟩ : ∃ y, (o.flatMap Cf.row)[k * 5]? = some y := ⟨_, List.getElem?_eq_getElem (by omega)⟩
  obtain ⟨y1, e1⟩ : ∃ y, (o.flatMap Cf.row)[k * 5 + 1]? = some y := ⟨_, List.getElem?_eq_getElem (by omega)⟩
  obtain ⟨y2, e2⟩ : ∃ y, (o.flatMap Cf.row)[k * 5 + 2]? = some y := ⟨_, List.getElem?_eq_getElem (by omega)⟩
  obtain ⟨y3, e3⟩ : ∃ y, (o.flatMap Cf.row)[k * 5 + 3]? = some y := ⟨_, List.getElem?_eq_getElem (by omega)⟩
  obtain ⟨y4, e4⟩ : ∃ y, (o.flatMap Cf.row)[k * 5 + 4]? = some y := ⟨_, List.getElem?_eq_getElem (by omega)⟩
  have s0 := (c10.cell (k * 5)).trans (by simpa using e0)
  have s1 := (c10.cell (k * 5 + 1)).trans (by simpa using e1)
  have s2 := (c10.cell (k * 5 + 2)).trans (by simpa using e2)
  have s3 := (c10.cell (k * 5 + 3)).trans (by simpa using e3)
  have s4 := (c10.cell (k * 5 + 4)).trans (by simpa using e4)
  have u0 := c10.frozen (k * 5)
  have u1 := c10.frozen (k * 5 + 1)
  have u2 := c10.frozen (k * 5 + 2)
  have u3 := c10.frozen (k * 5 + 3)
  have u4 := c10.frozen (k * 5 + 4)
  clear h10 c10 e0 e1 e2 e3 e4 hfl AQ9 hHeld2
  go_wp2_with (fail)
  refine hK.out _ _ ⟨m0, m1, m2, m3, m4, mG⟩ (fun hHeld => ?_)
  clear hK K
  try simp only [Act.put, pS]
  refine tkV 9 rfl ?_
  try simp only [Act.put, pS]
  refine wpAnyH_ready (rs := [10]) (by kernel_rfl) (by simp) ?_
  refine AllReadyH.cons (o := _) rfl (fun K hK => ?_) AllReadyH.nil
  go_simp
  refine hK.out _ _ hHeld (fun hHeld2 => ?_)
  clear hK K hHeld
  try simp only [Act.put, pS]
  refine tkV 11 rfl ?_
  try simp only [Act.put, pS]
  refine wpAnyH_ready (rs := [12]) (by kernel_rfl) (by simp) ?_
  refine AllReadyH.cons (o := _) rfl (fun K hK => ?_) AllReadyH.nil
  go_simp
  refine hK.out _ _ ⟨(cell_fars (by omega) _ _ _ _ _).trans m0, (cell_fars (by omega) _ _ _ _ _).trans m1, (cell_fars (by omega) _ _ _ _ _).trans m2, (cell_fars (by omega) _ _ _ _ _).trans m3, (cell_fars (by omega) _ _ _ _ _).trans m4, (cell_fars hGq _ _ _ _ _).trans mG⟩ (fun hHeld => ?_)
  clear hK K
  try simp only [Act.put, pS]
  refine wpAnyH_done (by kernel_rfl) ?_ _
  go_wp2_with (fail)
  go_ret
  refine ⟨by rw [hT.out]; rfl, ?_, ?_⟩
  ·have hz := own_mono (base' := q + 1) H10.out.own (by have := LT.out.2.2; show q + 1 ≤ w9.heap.size + 2; omega)
   have hzm : z.len ≤ 1000000 := by
    rw [← H10.out.own.len_, show z.zs = xzs from congrArg (fun v => v.2.2.1) H10.out.val, HXa.out.len_eq]
    exact hxl
   have AP := AQ10.out.put hkn z hz hzm
   refine ⟨o.set k z, ?_, ?_⟩
   ·exact AP
   ·rw [learn_yes hT.out, List.map_set, H10.out.val]
    simp
  ·have b1 := HB.out.trans (HB9.out.mono (Nat.le_of_lt hgw))
   have b2 := (b1.drew).trans (H10.out.bel.mono (Nat.le_trans (Nat.le_of_lt hgw) HB9.out.size))
   exact (((((Chg.of_below b2 (fun x => x = q)).set_ (p := ⟨q, k * 5, none⟩) rfl _).set_ (p := ⟨q, k * 5 + 1, none⟩) rfl _).set_ (p := ⟨q, k * 5 + 2, none⟩) rfl _).set_ (p := ⟨q, k * 5 + 3, none⟩) rfl _).set_ (p := ⟨q, k * 5 + 4, none⟩) rfl _
end Go.Proofs.YtmpedblelnpjdaaGreatDoor

end
section
/- (*Atlas).Learn of any. -/
namespace Go.Proofs.YtmpedblelnpjdaaGreatDoor
open Go.RowKit
theorem atLearn_any (b0 G C : Nat) (q h cB : Nat) (o : List Cf) (x : Cf) (w : World) (a : AtX w b0 G q h cB o) (hx : CfIn w C x) (hC : C ≤ w.heap.size) (hxl : x.len ≤ 1000000) :
  Calls Tryz.prog 79 #[.pointer (some ⟨G, 0, none⟩), x.agg] w fun e w' => ALPost b0 G q h cB (o.map Cf.val) x w e w' := by
 by_cases h0 : x.ch < 0
 ·exact atLearn_no b0 G C q h cB o x w a hx hC (Or.inl h0)
 by_cases h1 : (o.length : Int) ≤ x.ch
 ·exact atLearn_no b0 G C q h cB o x w a hx hC (Or.inr h1)
 obtain ⟨k, hk⟩ : ∃ k : Nat, x.ch = k := ⟨x.ch.toNat, by omega⟩
 have hkn : k < o.length := by omega
 cases hb : learnB (o.map Cf.val) x
 ·exact atLearn_same b0 G C q h cB k o x w a hx hC hk hkn hb
 ·exact atLearn_new b0 G C q h cB k o x w a hx hC hk hkn hb hxl
end Go.Proofs.YtmpedblelnpjdaaGreatDoor

end
section
/- The reference's Learn of any. -/
namespace Go.Proofs.YtmpedblelnpjdaaGreatDoor
open Go.RowKit
theorem refLearn_any (A : Option Addr) (n c B C : Nat) (l : List Cf) (x : Cf) (w : World) (hl : CfsIn w B A n l) (hB : B ≤ w.heap.size) (hx : CfIn w C x) (hC : C ≤ w.heap.size) (hn : n ≤ 1000) (hc : n ≤ c) (hm : c ≤ maxLen) :
  Calls Tryz.prog 81 #[.slice A n c, x.agg] w fun e w' => RLPost A n l x w e w' := by
 by_cases h0 : x.ch < 0
 ·exact refLearn_no A n c B C l x w hl hB hx hC hn hc hm (Or.inl h0)
 by_cases h1 : (n : Int) ≤ x.ch
 ·exact refLearn_no A n c B C l x w hl hB hx hC hn hc hm (Or.inr h1)
 obtain ⟨k, hk⟩ : ∃ k : Nat, x.ch = k := ⟨x.ch.toNat, by omega⟩
 have hkn : k < n := by omega
 cases hb : learnB (l.map Cf.val) x
 ·exact refLearn_same A n c B C k l x w hl hB hx hC hn hc hm hk hkn hb
 ·exact refLearn_new A n c B C k l x w hl hB hx hC hn hc hm hk hkn hb
end Go.Proofs.YtmpedblelnpjdaaGreatDoor

end
