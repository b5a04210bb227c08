/- (*Atlas).Learn in range, not newer. -/
import Derived.Test.YtidfnajbanjnaaaAtlP

namespace Go.Proofs.Ytidfnajbanjnaaa
open Go.RowKit
set_option linter.unusedSimpArgs false
set_option linter.unusedVariables false
set_option maxHeartbeats 4000000
set_option maxRecDepth 100000
attribute [local go_sem] Cf.agg Cf.cells

theorem atLearn_same (b0 G C : Nat) (q h cB k : Nat) (o : List Cf) (x : Cf) (w : World) (a : AtX w b0 G q h cB o) (hx : CfIn w C x) (hC : C ≤ w.heap.size) (hk : x.ch = k) (hkn : k < o.length) (hno : learnB (o.map Cf.val) x = false) :
    Calls Try.prog 13 #[.pointer (some ⟨G, 0, none⟩), x.agg] w fun e w' => ALPost b0 G q h cB (o.map Cf.val) x w e w' := by
  have hb0 : b0 ≤ w.heap.size := by have h1 := a.b0; have h2 := a.num.lt; omega
  have hbox : Below w.heap.size w (w.alloc (.cells x.cells 35)) := (Below.refl _ _).alloc (Nat.le_refl _) _
  have a1 := a.below hbox
  have A1 := Lib.hid a1
  have HB := Lib.hid hbox
  obtain ⟨b, off, y, hA, _, hyo, _, q0, q1, q2, q3, q4⟩ := a1.cfs.at_ hkn
  cases hA
  have HNV : Hid (newerV y x = false) := Lib.hid ((learn_at hk hyo).symm.trans hno)
  have hT := Lib.hid hno
  obtain ⟨k0, k1, k2, k3, k4⟩ := cf_cells (x := x) (Blk.new w 35 x.cells)
  rw [hk] at k0
  have g0 : (w.alloc (.cells x.cells 35)).cell? ⟨G, 0, none⟩ = some (.slice (some ⟨q, 0, none⟩) o.length o.length) := a1.blk.cell 0
  have hqw : q < (w.alloc (.cells x.cells 35)).heap.size := a1.conf.lt
  have hGw : G < (w.alloc (.cells x.cells 35)).heap.size := a1.blk.lt
  have hgw : w.heap.size < (w.alloc (.cells x.cells 35)).heap.size := by simp
  have hCw : C ≤ (w.alloc (.cells x.cells 35)).heap.size := by simp; omega
  have HXa := Lib.hid (hx.alloc hC (.cells x.cells 35))
  have h0' : decide ((k : Int) < 0) = false := by simp
  have h1' : decide (o.length ≤ k) = false := by simp; omega
  have hlt' : (k : Int) < o.length := by omega
  have hk0 : (0 : Int) ≤ k := by omega
  have HK := Lib.hid hk
  simp only [Nat.zero_add] at q0 q1 q2 q3 q4
  obtain ⟨w0, hw0⟩ : ∃ w0, w0 = w.alloc (.cells x.cells 35) := ⟨_, rfl⟩
  rw [← hw0] at A1 HB q0 q1 q2 q3 q4 k0 k1 k2 k3 k4 g0 hqw hGw hgw hCw HXa
  have P := Lib.hid (show _ ∧ _ ∧ _ ∧ _ ∧ _ from ⟨k0, k1, k2, k3, k4⟩)
  have R := Lib.hid (show _ ∧ _ ∧ _ ∧ _ ∧ _ ∧ _ from ⟨g0, q0, q1, q2, q3, q4⟩)
  have hb : Below w0.heap.size w0 w0.drew := (Below.refl _ _).drew
  have HW0 := Lib.hid hw0
  clear a a1 hx hbox hyo hno hk k0 k1 k2 k3 k4 q0 q1 q2 q3 q4 g0 hw0
  obtain ⟨xch, xep, xA, xlen, xcap, xfr, xjn, xzs⟩ := x
  obtain rfl : xch = k := HK.out
  go_enter Try.func13, Try.ntmps13
  go_wp2_with (fail)
  rw [show w.alloc (.cells #[.int .i64 k, .int .u64 xep, .slice xA xlen xcap, .bool xfr, .int .i64 xjn] 35) = w0 from HW0.out.symm]
  have k0 : w0.drew.cell? ⟨w.heap.size, 0, none⟩ = some (.int .i64 k) := P.out.1
  have k1 : w0.drew.cell? ⟨w.heap.size, 1, none⟩ = some (.int .u64 xep) := P.out.2.1
  have k2 : w0.drew.cell? ⟨w.heap.size, 2, none⟩ = some (.slice xA xlen xcap) := P.out.2.2.1
  have k3 : w0.drew.cell? ⟨w.heap.size, 3, none⟩ = some (.bool xfr) := P.out.2.2.2.1
  have k4 : w0.drew.cell? ⟨w.heap.size, 4, none⟩ = some (.int .i64 xjn) := P.out.2.2.2.2
  have g0 : w0.drew.cell? ⟨G, 0, none⟩ = some (.slice (some ⟨q, 0, none⟩) o.length o.length) := R.out.1
  have q0 : w0.drew.cell? ⟨q, k * 5, none⟩ = some (.int .i64 y.ch) := R.out.2.1
  have q1 : w0.drew.cell? ⟨q, k * 5 + 1, none⟩ = some (.int .u64 y.ep) := R.out.2.2.1
  have q2 : w0.drew.cell? ⟨q, k * 5 + 2, none⟩ = some (.slice y.A y.len y.cap) := R.out.2.2.2.1
  have q3 : w0.drew.cell? ⟨q, k * 5 + 3, none⟩ = some (.bool y.fr) := R.out.2.2.2.2.1
  have q4 : w0.drew.cell? ⟨q, k * 5 + 4, none⟩ = some (.int .i64 y.jn) := R.out.2.2.2.2.2
  go_region_held3 (fun w' => w'.cell? ⟨w.heap.size, 0, none⟩ = some (.int .i64 k) ∧ w'.cell? ⟨w.heap.size, 1, none⟩ = some (.int .u64 xep) ∧ w'.cell? ⟨w.heap.size, 2, none⟩ = some (.slice xA xlen xcap) ∧ w'.cell? ⟨w.heap.size, 3, none⟩ = some (.bool xfr) ∧ w'.cell? ⟨w.heap.size, 4, none⟩ = some (.int .i64 xjn) ∧ w'.cell? ⟨G, 0, none⟩ = some (.slice (some ⟨q, 0, none⟩) o.length o.length) ∧ w'.cell? ⟨q, k * 5, none⟩ = some (.int .i64 y.ch) ∧ w'.cell? ⟨q, k * 5 + 1, none⟩ = some (.int .u64 y.ep) ∧ w'.cell? ⟨q, k * 5 + 2, none⟩ = some (.slice y.A y.len y.cap) ∧ w'.cell? ⟨q, k * 5 + 3, none⟩ = some (.bool y.fr) ∧ w'.cell? ⟨q, k * 5 + 4, none⟩ = some (.int .i64 y.jn)) (go_keep) (first
    | (go_at_call 21; refine (chains_any b0 G q h cB o _ (A1.out.below hb)).mono ?_; rintro e w9 ⟨rfl, rfl⟩)
    | (go_at_call 36; refine (newer_any y ⟨k, xep, xA, xlen, xcap, xfr, xjn, xzs⟩ C _ (HXa.out.below (hb.mono hCw)) (Nat.le_trans hCw hb.size)).mono ?_; rintro e w9 ⟨rfl, hb9⟩; rw [HNV.out]; replace hb := hb.trans (hb9.mono hb.size); replace k0 := (hb.cell (p := ⟨w.heap.size, 0, none⟩) hgw).trans P.out.1; replace k1 := (hb.cell (p := ⟨w.heap.size, 1, none⟩) hgw).trans P.out.2.1; replace k2 := (hb.cell (p := ⟨w.heap.size, 2, none⟩) hgw).trans P.out.2.2.1; replace k3 := (hb.cell (p := ⟨w.heap.size, 3, none⟩) hgw).trans P.out.2.2.2.1; replace k4 := (hb.cell (p := ⟨w.heap.size, 4, none⟩) hgw).trans P.out.2.2.2.2; replace g0 := (hb.cell (p := ⟨G, 0, none⟩) hGw).trans R.out.1; replace q0 := (hb.cell (p := ⟨q, k * 5, none⟩) hqw).trans R.out.2.1; replace q1 := (hb.cell (p := ⟨q, k * 5 + 1, none⟩) hqw).trans R.out.2.2.1; replace q2 := (hb.cell (p := ⟨q, k * 5 + 2, none⟩) hqw).trans R.out.2.2.2.1; replace q3 := (hb.cell (p := ⟨q, k * 5 + 3, none⟩) hqw).trans R.out.2.2.2.2.1; replace q4 := (hb.cell (p := ⟨q, k * 5 + 4, none⟩) hqw).trans R.out.2.2.2.2.2; clear hb9)
    | fail)
  all_goals
    go_wp2_with (fail)
    go_ret
    refine ⟨by rw [hT.out]; rfl, ?_, Chg.of_below (HB.out.trans (hb.mono (Nat.le_of_lt hgw))) _⟩
    rw [learn_no hT.out]
    exact ⟨o, A1.out.below hb, rfl⟩
end Go.Proofs.Ytidfnajbanjnaaa
