/- Learn: the reference, in range. -/
import Derived.Test.YtidfnajbanjnaaaAtlM

namespace Go.Proofs.Ytidfnajbanjnaaa
open Go.RowKit
set_option linter.unusedSimpArgs false
set_option linter.unusedVariables false
set_option maxHeartbeats 2000000
set_option maxRecDepth 100000
attribute [local go_sem] Cf.agg Cf.cells

theorem refLearn_same (A : Option Addr) (n c B C k : Nat) (l : List Cf) (x : Cf) (w : World) (hl : CfsIn w B A n l) (hB : B ≤ w.heap.size) (hx : CfIn w C x) (hC : C ≤ w.heap.size) (hn : n ≤ 1000) (hc : n ≤ c) (hm : c ≤ maxLen) (hk : x.ch = k) (hkn : k < n) (hno : learnB (l.map Cf.val) x = false) :
    Calls Try.prog 12 #[.slice A n c, x.agg] w fun e w' => RLPost A n l x w e w' := by
  have HL := Lib.hid hl
  have HX := Lib.hid hx
  have HN : Hid (l.length = n) := Lib.hid hl.len
  have hbox : Below w.heap.size w (w.alloc (.cells x.cells 35)) := (Below.refl _ _).alloc (Nat.le_refl _) _
  obtain ⟨b, off, o, rfl, hb, hlo, hoin, q0, q1, q2, q3, q4⟩ := (hl.below (hbox.mono hB)).at_ hkn
  have HNV : Hid (newerV o x = false) := Lib.hid ((learn_at hk hlo).symm.trans hno)
  have hT := Lib.hid hno
  obtain ⟨k0, k1, k2, k3, k4⟩ := cf_cells (x := x) (Blk.new w 35 x.cells)
  rw [hk] at k0
  have hbw : b < w.heap.size + 1 := by omega
  have hgw : w.heap.size < w.heap.size + 1 := Nat.lt_succ_self _
  have h0' : decide ((k : Int) < 0) = false := by simp
  have h1' : decide (n ≤ k) = false := by simp; omega
  have hlt' : (k : Int) < n := by omega
  have HK := Lib.hid hk
  clear hl hx hlo hno hk
  have HB : Hid (Below w.heap.size w (w.alloc (.cells x.cells 35))) := Lib.hid hbox
  clear hbox
  obtain ⟨xch, xep, xA, xlen, xcap, xfr, xjn, xzs⟩ := x
  obtain rfl : xch = k := HK.out
  simp only [Cf.cells] at q0 q1 q2 q3 q4 k0 k1 k2 k3 k4 HB
  have hgw : w.heap.size < (w.alloc (.cells #[.int .i64 k, .int .u64 xep, .slice xA xlen xcap, .bool xfr, .int .i64 xjn] 35)).heap.size := by simp
  have hbw : b < (w.alloc (.cells #[.int .i64 k, .int .u64 xep, .slice xA xlen xcap, .bool xfr, .int .i64 xjn] 35)).heap.size := by simp; omega
  have hCw : C ≤ (w.alloc (.cells #[.int .i64 k, .int .u64 xep, .slice xA xlen xcap, .bool xfr, .int .i64 xjn] 35)).heap.size := by simp; omega
  have HXa := Lib.hid (HX.out.alloc hC (.cells #[.int .i64 k, .int .u64 xep, .slice xA xlen xcap, .bool xfr, .int .i64 xjn] 35))
  clear hoin
  go_enter Try.func12, Try.ntmps12
  go_wp2_with (fail)
  go_region_held3 (fun w' => w'.cell? ⟨w.heap.size, 0, none⟩ = some (.int .i64 k) ∧ w'.cell? ⟨w.heap.size, 1, none⟩ = some (.int .u64 xep) ∧ w'.cell? ⟨w.heap.size, 2, none⟩ = some (.slice xA xlen xcap) ∧ w'.cell? ⟨w.heap.size, 3, none⟩ = some (.bool xfr) ∧ w'.cell? ⟨w.heap.size, 4, none⟩ = some (.int .i64 xjn) ∧ w'.cell? ⟨b, off + k * 5, none⟩ = some (.int .i64 o.ch) ∧ w'.cell? ⟨b, off + k * 5 + 1, none⟩ = some (.int .u64 o.ep) ∧ w'.cell? ⟨b, off + k * 5 + 2, none⟩ = some (.slice o.A o.len o.cap) ∧ w'.cell? ⟨b, off + k * 5 + 3, none⟩ = some (.bool o.fr) ∧ w'.cell? ⟨b, off + k * 5 + 4, none⟩ = some (.int .i64 o.jn)) (go_keep) (first
    | (go_at_call 35; refine (refNewer_any o ⟨k, xep, xA, xlen, xcap, xfr, xjn, xzs⟩ C _ ?_ ?_).mono ?_; (· exact HXa.out.below (Below.mono (by repeat (first | with_reducible exact Below.refl _ _ | with_reducible refine Below.alloc ?_ (by simp <;> omega) _ | with_reducible refine below_drewN ?_ _ | with_reducible refine Below.drew ?_)) hCw)); (· exact hCw); rintro e w9 ⟨rfl, h⟩; rw [HNV.out]; replace k0 := cell_relay k0 hgw h (by repeat (first | with_reducible exact Below.refl _ _ | with_reducible refine Below.alloc ?_ (by simp <;> omega) _ | with_reducible refine below_drewN ?_ _ | with_reducible refine Below.drew ?_)); replace k1 := cell_relay k1 hgw h (by repeat (first | with_reducible exact Below.refl _ _ | with_reducible refine Below.alloc ?_ (by simp <;> omega) _ | with_reducible refine below_drewN ?_ _ | with_reducible refine Below.drew ?_)); replace k2 := cell_relay k2 hgw h (by repeat (first | with_reducible exact Below.refl _ _ | with_reducible refine Below.alloc ?_ (by simp <;> omega) _ | with_reducible refine below_drewN ?_ _ | with_reducible refine Below.drew ?_)); replace k3 := cell_relay k3 hgw h (by repeat (first | with_reducible exact Below.refl _ _ | with_reducible refine Below.alloc ?_ (by simp <;> omega) _ | with_reducible refine below_drewN ?_ _ | with_reducible refine Below.drew ?_)); replace k4 := cell_relay k4 hgw h (by repeat (first | with_reducible exact Below.refl _ _ | with_reducible refine Below.alloc ?_ (by simp <;> omega) _ | with_reducible refine below_drewN ?_ _ | with_reducible refine Below.drew ?_)); replace q0 := cell_relay q0 hbw h (by repeat (first | with_reducible exact Below.refl _ _ | with_reducible refine Below.alloc ?_ (by simp <;> omega) _ | with_reducible refine below_drewN ?_ _ | with_reducible refine Below.drew ?_)); replace q1 := cell_relay q1 hbw h (by repeat (first | with_reducible exact Below.refl _ _ | with_reducible refine Below.alloc ?_ (by simp <;> omega) _ | with_reducible refine below_drewN ?_ _ | with_reducible refine Below.drew ?_)); replace q2 := cell_relay q2 hbw h (by repeat (first | with_reducible exact Below.refl _ _ | with_reducible refine Below.alloc ?_ (by simp <;> omega) _ | with_reducible refine below_drewN ?_ _ | with_reducible refine Below.drew ?_)); replace q3 := cell_relay q3 hbw h (by repeat (first | with_reducible exact Below.refl _ _ | with_reducible refine Below.alloc ?_ (by simp <;> omega) _ | with_reducible refine below_drewN ?_ _ | with_reducible refine Below.drew ?_)); replace q4 := cell_relay q4 hbw h (by repeat (first | with_reducible exact Below.refl _ _ | with_reducible refine Below.alloc ?_ (by simp <;> omega) _ | with_reducible refine below_drewN ?_ _ | with_reducible refine Below.drew ?_)); replace HB := Lib.hid (HB.out.trans ((relay h (by repeat (first | with_reducible exact Below.refl _ _ | with_reducible refine Below.alloc ?_ (by simp <;> omega) _ | with_reducible refine below_drewN ?_ _ | with_reducible refine Below.drew ?_))).mono (Nat.le_of_lt hgw))); clear h)
    | fail)
  all_goals
    go_wp2_with (fail)
    go_ret2
    have hbl := HB
    refine ⟨?_, some ⟨b, off, none⟩, c, l, by rw [hT.out]; rfl, ?_, (learn_no hT.out).symm, hc, hm, .inl rfl, fun _ hz => .inl hz⟩
    · first | exact hbl.out | exact below_drewN hbl.out _
    · have hbl2 := hbl.out
      first | exact (HL.out.below (hbl2.mono hB)).more (Nat.le_trans hB hbl2.size) | exact (HL.out.below ((below_drewN hbl2 _).mono hB)).more (Nat.le_trans hB hbl2.size)
end Go.Proofs.Ytidfnajbanjnaaa
