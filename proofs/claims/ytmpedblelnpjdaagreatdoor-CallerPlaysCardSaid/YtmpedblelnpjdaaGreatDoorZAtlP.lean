import Derived.Test.YtmpedblelnpjdaaGreatDoorZAtlL
import Derived.Test.YtmpedblelnpjdaaGreatDoorZTq
section
/- Learn: the reference. -/
namespace Go.Proofs.YtmpedblelnpjdaaGreatDoor
open Go.RowKit
set_option linter.unusedSimpArgs false
set_option linter.unusedVariables false
set_option maxHeartbeats 600000
set_option maxRecDepth 100000
attribute [local go_sem] Cf.agg Cf.cells
abbrev CfV := Int × Int × List Int × Bool × Int
noncomputable def learnB (vs : List CfV) (x : Cf) : Bool := decide (0 ≤ x.ch) && match vs[x.ch.toNat]? with
 | some o => x.right && ((o.1 == x.ch) && decide (o.2.1 < x.ep))
 | none => false
noncomputable def learnV (vs : List CfV) (x : Cf) : List CfV := if learnB vs x then vs.set x.ch.toNat x.val else vs
theorem learn_neg {vs : List CfV} {x : Cf} (h : x.ch < 0) : learnB vs x = false := by unfold learnB; simp; intro h1; omega
theorem learn_over {vs : List CfV} {x : Cf} (h0 : 0 ≤ x.ch) (h : vs.length ≤ x.ch.toNat) : learnB vs x = false := by
 unfold learnB; rw [List.getElem?_eq_none h]; simp
theorem learn_at {l : List Cf} {x o : Cf} {k : Nat} (h0 : x.ch = k) (h : l[k]? = some o) : learnB (l.map Cf.val) x = newerV o x := by
 have e1 : x.ch.toNat = k := by omega
 have e2 : (l.map Cf.val)[k]? = some o.val := by rw [List.getElem?_map, h]; rfl
 have e3 : decide (0 ≤ x.ch) = true := by simp; omega
 unfold learnB newerV
 rw [e1, e2, e3]
 simp [Cf.val]
theorem learn_no {vs : List CfV} {x : Cf} (h : learnB vs x = false) : learnV vs x = vs := by unfold learnV; rw [h]; rfl
theorem learn_yes {vs : List CfV} {x : Cf} (h : learnB vs x = true) : learnV vs x = vs.set x.ch.toNat x.val := by unfold learnV; rw [h]; rfl
def RLPost (A : Option Addr) (n : Nat) (l : List Cf) (x : Cf) (w : World) (e : Ending) (w' : World) : Prop :=
 Below w.heap.size w w' ∧ ∃ A' c l', e = .returned (.tuple #[.slice A' n c, .bool (learnB (l.map Cf.val) x)]) ∧ CfsIn w' w'.heap.size A' n l' ∧ l'.map Cf.val = learnV (l.map Cf.val) x ∧ n ≤ c ∧ c ≤ maxLen ∧ (A' = A ∨ ∃ g, A' = some ⟨g, 0, none⟩ ∧ w.heap.size ≤ g) ∧ ∀ z ∈ l', z ∈ l ∨ z = x
theorem CfsIn.more {w : World} {B B' n : Nat} {A : Option Addr} {l : List Cf} (h : CfsIn w B A n l) (hB : B ≤ B') : CfsIn w B' A n l :=
 ⟨h.rd.more hB, fun x hx => ⟨(h.mem x hx).rd.more hB, (h.mem x hx).hc, (h.mem x hx).hm⟩⟩
theorem CfsIn.alloc' {w : World} {B n : Nat} {A : Option Addr} {l : List Cf} (h : CfsIn w B A n l) (hB : B ≤ w.heap.size) (o : Obj) : CfsIn (w.alloc o) B A n l := h.below ((Below.refl _ _).alloc hB _)
theorem refLearn_no (A : Option Addr) (n c B C : Nat) (l : List Cf) (x : Cf) (w : World) (hl : CfsIn w B A n l) (hB : B ≤ w.heap.size) (hx : CfIn w C x) (hC : C ≤ w.heap.size) (hn : n ≤ 1000) (hc : n ≤ c) (hm : c ≤ maxLen) (hno : x.ch < 0 ∨ (n : Int) ≤ x.ch) :
  Calls Tryz.prog 81 #[.slice A n c, x.agg] w fun e w' => RLPost A n l x w e w' := by
 have HL := Lib.hid hl
 have HN : Hid (l.length = n) := Lib.hid hl.len
 clear hl hx
 by_cases h0 : x.ch < 0
 ·have hT : Hid (learnB (l.map Cf.val) x = false) := Lib.hid (learn_neg h0)
  have k0 : (w.alloc (.cells x.cells 33)).cell? ⟨w.heap.size, 0, none⟩ = some (.int .i64 x.ch) := (cf_cells (Blk.new w 33 x.cells)).1
  have h0' : decide (x.ch < 0) = true := by simp [h0]
  have L := Lib.hid (HL.out.alloc' hB (.cells x.cells 33))
  exact rp58
 ·have hT : Hid (learnB (l.map Cf.val) x = false) := Lib.hid (learn_over (by omega) (by rw [List.length_map, HN.out]; omega))
  have h1 : (n : Int) ≤ x.ch := by omega
  have k0 : (w.alloc (.cells x.cells 33)).cell? ⟨w.heap.size, 0, none⟩ = some (.int .i64 x.ch) := (cf_cells (Blk.new w 33 x.cells)).1
  have h0' : decide (x.ch < 0) = false := by simp; omega
  have h1' : decide ((n : Int) ≤ x.ch) = true := by simp [h1]
  exact rp58
end Go.Proofs.YtmpedblelnpjdaaGreatDoor

end
section
/- Learn: the reference, in range. -/
namespace Go.Proofs.YtmpedblelnpjdaaGreatDoor
open Go.RowKit
set_option linter.unusedSimpArgs false
set_option linter.unusedVariables false
set_option maxHeartbeats 2000000
set_option maxRecDepth 100000
attribute [local go_sem] Cf.agg Cf.cells
theorem refLearn_same (A : Option Addr) (n c B C k : Nat) (l : List Cf) (x : Cf) (w : World) (hl : CfsIn w B A n l) (hB : B ≤ w.heap.size) (hx : CfIn w C x) (hC : C ≤ w.heap.size) (hn : n ≤ 1000) (hc : n ≤ c) (hm : c ≤ maxLen) (hk : x.ch = k) (hkn : k < n) (hno : learnB (l.map Cf.val) x = false) :
  Calls Tryz.prog 81 #[.slice A n c, x.agg] w fun e w' => RLPost A n l x w e w' := by
 have HL := Lib.hid hl
 have HX := Lib.hid hx
 have HN : Hid (l.length = n) := Lib.hid hl.len
 have hbox : Below w.heap.size w (w.alloc (.cells x.cells 33)) := (Below.refl _ _).alloc (Nat.le_refl _) _
 obtain ⟨b, off, o, rfl, hb, hlo, hoin, q0, q1, q2, q3, q4⟩ := (hl.below (hbox.mono hB)).at_ hkn
 have HNV : Hid (newerV o x = false) := Lib.hid ((learn_at hk hlo).symm.trans hno)
 have hT := Lib.hid hno
 obtain ⟨k0, k1, k2, k3, k4⟩ := cf_cells (x := x) (Blk.new w 33 x.cells)
 rw [hk] at k0
 have hbw : b < w.heap.size + 1 := by omega
 have hgw : w.heap.size < w.heap.size + 1 := Nat.lt_succ_self _
 have h0' : decide ((k : Int) < 0) = false := by simp
 have h1' : decide (n ≤ k) = false := by simp; omega
 have hlt' : (k : Int) < n := by omega
 have HK := Lib.hid hk
 clear hl hx hlo hno hk
 have HB : Hid (Below w.heap.size w (w.alloc (.cells x.cells 33))) := Lib.hid hbox
 clear hbox
 obtain ⟨xch, xep, xA, xlen, xcap, xfr, xjn, xzs⟩ := x
 obtain rfl : xch = k := HK.out
 simp only [Cf.cells] at q0 q1 q2 q3 q4 k0 k1 k2 k3 k4 HB
 have hgw : w.heap.size < (w.alloc (.cells #[.int .i64 k, .int .u64 xep, .slice xA xlen xcap, .bool xfr, .int .i64 xjn] 33)).heap.size := by simp
 have hbw : b < (w.alloc (.cells #[.int .i64 k, .int .u64 xep, .slice xA xlen xcap, .bool xfr, .int .i64 xjn] 33)).heap.size := by simp; omega
 have hCw : C ≤ (w.alloc (.cells #[.int .i64 k, .int .u64 xep, .slice xA xlen xcap, .bool xfr, .int .i64 xjn] 33)).heap.size := by simp; omega
 have HXa := Lib.hid (HX.out.alloc hC (.cells #[.int .i64 k, .int .u64 xep, .slice xA xlen xcap, .bool xfr, .int .i64 xjn] 33))
 clear hoin
 go_enter Tryz.func81, Tryz.ntmps81
 go_wp2_with (fail)
 go_region_held3 (fun w' => w'.cell? ⟨w.heap.size, 0, none⟩ = some (.int .i64 k) ∧ w'.cell? ⟨w.heap.size, 1, none⟩ = some (.int .u64 xep) ∧ w'.cell? ⟨w.heap.size, 2, none⟩ = some (.slice xA xlen xcap) ∧ w'.cell? ⟨w.heap.size, 3, none⟩ = some (.bool xfr) ∧ w'.cell? ⟨w.heap.size, 4, none⟩ = some (.int .i64 xjn) ∧ w'.cell? ⟨b, off + k * 5, none⟩ = some (.int .i64 o.ch) ∧ w'.cell? ⟨b, off + k * 5 + 1, none⟩ = some (.int .u64 o.ep) ∧ w'.cell? ⟨b, off + k * 5 + 2, none⟩ = some (.slice o.A o.len o.cap) ∧ w'.cell? ⟨b, off + k * 5 + 3, none⟩ = some (.bool o.fr) ∧ w'.cell? ⟨b, off + k * 5 + 4, none⟩ = some (.int .i64 o.jn)) (go_keep) (first
  | (go_at_call 161; refine (refNewer_any o ⟨k, xep, xA, xlen, xcap, xfr, xjn, xzs⟩ C _ ?_ ?_).mono ?_; (· exact HXa.out.below (Below.mono (by repeat (first | with_reducible exact Below.refl _ _ | with_reducible refine Below.alloc ?_ (by simp <;> omega) _ | with_reducible refine below_drewN ?_ _ | with_reducible refine Below.drew ?_)) hCw)); (· exact hCw); rintro e w9 ⟨rfl, h⟩; rw [HNV.out]; replace k0 := cell_relay k0 hgw h (by repeat (first | with_reducible exact Below.refl _ _ | with_reducible refine Below.alloc ?_ (by simp <;> omega) _ | with_reducible refine below_drewN ?_ _ | with_reducible refine Below.drew ?_)); replace k1 := cell_relay k1 hgw h (by repeat (first | with_reducible exact Below.refl _ _ | with_reducible refine Below.alloc ?_ (by simp <;> omega) _ | with_reducible refine below_drewN ?_ _ | with_reducible refine Below.drew ?_)); replace k2 := cell_relay k2 hgw h (by repeat (first | with_reducible exact Below.refl _ _ | with_reducible refine Below.alloc ?_ (by simp <;> omega) _ | with_reducible refine below_drewN ?_ _ | with_reducible refine Below.drew ?_)); replace k3 := cell_relay k3 hgw h (by repeat (first | with_reducible exact Below.refl _ _ | with_reducible refine Below.alloc ?_ (by simp <;> omega) _ | with_reducible refine below_drewN ?_ _ | with_reducible refine Below.drew ?_)); replace k4 := cell_relay k4 hgw h (by repeat (first | with_reducible exact Below.refl _ _ | with_reducible refine Below.alloc ?_ (by simp <;> omega) _ | with_reducible refine below_drewN ?_ _ | with_reducible refine Below.drew ?_)); replace q0 := cell_relay q0 hbw h (by repeat (first | with_reducible exact Below.refl _ _ | with_reducible refine Below.alloc ?_ (by simp <;> omega) _ | with_reducible refine below_drewN ?_ _ | with_reducible refine Below.drew ?_)); replace q1 := cell_relay q1 hbw h (by repeat (first | with_reducible exact Below.refl _ _ | with_reducible refine Below.alloc ?_ (by simp <;> omega) _ | with_reducible refine below_drewN ?_ _ | with_reducible refine Below.drew ?_)); replace q2 := cell_relay q2 hbw h (by repeat (first | with_reducible exact Below.refl _ _ | with_reducible refine Below.alloc ?_ (by simp <;> omega) _ | with_reducible refine below_drewN ?_ _ | with_reducible refine Below.drew ?_)); replace q3 := cell_relay q3 hbw h (by repeat (first | with_reducible exact Below.refl _ _ | with_reducible refine Below.alloc ?_ (by simp <;> omega) _ | with_reducible refine below_drewN ?_ _ | with_reducible refine Below.drew ?_)); replace q4 := cell_relay q4 hbw h (by repeat (first | with_reducible exact Below.refl _ _ | with_reducible refine Below.alloc ?_ (by simp <;> omega) _ | with_reducible refine below_drewN ?_ _ | with_reducible refine Below.drew ?_)); replace HB := Lib.hid (HB.out.trans ((relay h (by repeat (first | with_reducible exact Below.refl _ _ | with_reducible refine Below.alloc ?_ (by simp <;> omega) _ | with_reducible refine below_drewN ?_ _ | with_reducible refine Below.drew ?_))).mono (Nat.le_of_lt hgw))); clear h)
  | fail)
 all_goals
  go_wp2_with (fail)
  go_ret2
  have hbl := HB
  refine ⟨?_, some ⟨b, off, none⟩, c, l, by rw [hT.out]; rfl, ?_, (learn_no hT.out).symm, hc, hm, .inl rfl, fun _ hz => .inl hz⟩
  ·first | exact hbl.out | exact below_drewN hbl.out _
  ·have hbl2 := hbl.out
   first | exact (HL.out.below (hbl2.mono hB)).more (Nat.le_trans hB hbl2.size) | exact (HL.out.below ((below_drewN hbl2 _).mono hB)).more (Nat.le_trans hB hbl2.size)
end Go.Proofs.YtmpedblelnpjdaaGreatDoor

end
section
/- Learn: the reference, newer. -/
namespace Go.Proofs.YtmpedblelnpjdaaGreatDoor
open Go.RowKit
set_option linter.unusedSimpArgs false
set_option linter.unusedVariables false
set_option maxHeartbeats 2000000
set_option maxRecDepth 100000
attribute [local go_sem] Cf.agg Cf.cells
theorem flat_set5 (l : List Cf) (k : Nat) (x : Cf) (hk : k < l.length) :
  (((((l.flatMap Cf.row).set (k * 5) (.int .i64 x.ch)).set (k * 5 + 1) (.int .u64 x.ep)).set (k * 5 + 2) (.slice x.A x.len x.cap)).set (k * 5 + 3) (.bool x.fr)).set (k * 5 + 4) (.int .i64 x.jn) = (l.set k x).flatMap Cf.row := by
 induction l generalizing k with
 | nil => simp at hk
 | cons y l ih =>
  cases k with
  | zero => rfl
  | succ k =>
   have h := ih k (by simpa using hk)
   rw [List.set_cons_succ, List.flatMap_cons, List.flatMap_cons, ← h]
   have e : ∀ (j : Nat) (u : Value) (zs : List Value), (y.row ++ zs).set (5 + j) u = y.row ++ zs.set j u := fun j u zs => by
    rw [List.set_append_right _ _ (by rw [Cf.row_len]; omega), Cf.row_len, show 5 + j - 5 = j by omega]
   rw [show (k + 1) * 5 = 5 + k * 5 by omega, e, show 5 + k * 5 + 1 = 5 + (k * 5 + 1) by omega, e, show 5 + k * 5 + 2 = 5 + (k * 5 + 2) by omega, e, show 5 + k * 5 + 3 = 5 + (k * 5 + 3) by omega, e, show 5 + k * 5 + 4 = 5 + (k * 5 + 4) by omega, e]
theorem refLearn_new (A : Option Addr) (n c B C k : Nat) (l : List Cf) (x : Cf) (w : World) (hl : CfsIn w B A n l) (hB : B ≤ w.heap.size) (hx : CfIn w C x) (hC : C ≤ w.heap.size) (hn : n ≤ 1000) (hc : n ≤ c) (hm : c ≤ maxLen) (hk : x.ch = k) (hkn : k < n) (hno : learnB (l.map Cf.val) x = true) :
  Calls Tryz.prog 81 #[.slice A n c, x.agg] w fun e w' => RLPost A n l x w e w' := by
 obtain ⟨i0, hi, hz0, hz1, hz2⟩ := info_parts confInfo
 have HL := Lib.hid hl
 have HX := Lib.hid hx
 have HN : Hid (l.length = n) := Lib.hid hl.len
 have hbox : Below w.heap.size w (w.alloc (.cells x.cells 33)) := (Below.refl _ _).alloc (Nat.le_refl _) _
 obtain ⟨b, off, o, rfl, hb, hlo, hoin, q0, q1, q2, q3, q4⟩ := (hl.below (hbox.mono hB)).at_ hkn
 have HNV : Hid (newerV o x = true) := Lib.hid ((learn_at hk hlo).symm.trans hno)
 have hT := Lib.hid hno
 obtain ⟨k0, k1, k2, k3, k4⟩ := cf_cells (x := x) (Blk.new w 33 x.cells)
 rw [hk] at k0
 have hbw : b < w.heap.size + 1 := by omega
 have hgw : w.heap.size < w.heap.size + 1 := Nat.lt_succ_self _
 have h0' : decide ((k : Int) < 0) = false := by simp
 have h1' : decide (n ≤ k) = false := by simp; omega
 have hlt' : (k : Int) < n := by omega
 have HK := Lib.hid hk
 clear hl hx hlo hno hk
 have HB : Hid (Below w.heap.size w (w.alloc (.cells x.cells 33))) := Lib.hid hbox
 clear hbox
 obtain ⟨xch, xep, xA, xlen, xcap, xfr, xjn, xzs⟩ := x
 obtain rfl : xch = k := HK.out
 simp only [Cf.cells] at q0 q1 q2 q3 q4 k0 k1 k2 k3 k4 HB
 have hgw : w.heap.size < (w.alloc (.cells #[.int .i64 k, .int .u64 xep, .slice xA xlen xcap, .bool xfr, .int .i64 xjn] 33)).heap.size := by simp
 have hbw : b < (w.alloc (.cells #[.int .i64 k, .int .u64 xep, .slice xA xlen xcap, .bool xfr, .int .i64 xjn] 33)).heap.size := by simp; omega
 have hCw : C ≤ (w.alloc (.cells #[.int .i64 k, .int .u64 xep, .slice xA xlen xcap, .bool xfr, .int .i64 xjn] 33)).heap.size := by simp; omega
 have HXa := Lib.hid (HX.out.alloc hC (.cells #[.int .i64 k, .int .u64 xep, .slice xA xlen xcap, .bool xfr, .int .i64 xjn] 33))
 clear hoin
 go_enter Tryz.func81, Tryz.ntmps81
 go_wp2_with (fail)
 go_region_held3 (fun w' => w'.cell? ⟨w.heap.size, 0, none⟩ = some (.int .i64 k) ∧ w'.cell? ⟨w.heap.size, 1, none⟩ = some (.int .u64 xep) ∧ w'.cell? ⟨w.heap.size, 2, none⟩ = some (.slice xA xlen xcap) ∧ w'.cell? ⟨w.heap.size, 3, none⟩ = some (.bool xfr) ∧ w'.cell? ⟨w.heap.size, 4, none⟩ = some (.int .i64 xjn) ∧ w'.cell? ⟨b, off + k * 5, none⟩ = some (.int .i64 o.ch) ∧ w'.cell? ⟨b, off + k * 5 + 1, none⟩ = some (.int .u64 o.ep) ∧ w'.cell? ⟨b, off + k * 5 + 2, none⟩ = some (.slice o.A o.len o.cap) ∧ w'.cell? ⟨b, off + k * 5 + 3, none⟩ = some (.bool o.fr) ∧ w'.cell? ⟨b, off + k * 5 + 4, none⟩ = some (.int .i64 o.jn)) (go_keep) (first
  | (go_at_call 161; refine (refNewer_any o ⟨k, xep, xA, xlen, xcap, xfr, xjn, xzs⟩ C _ ?_ ?_).mono ?_; (· exact HXa.out.below (Below.mono (by repeat (first | with_reducible exact Below.refl _ _ | with_reducible refine Below.alloc ?_ (by simp <;> omega) _ | with_reducible refine below_drewN ?_ _ | with_reducible refine Below.drew ?_)) hCw)); (· exact hCw); rintro e w9 ⟨rfl, h⟩; rw [HNV.out]; replace k0 := cell_relay k0 hgw h (by repeat (first | with_reducible exact Below.refl _ _ | with_reducible refine Below.alloc ?_ (by simp <;> omega) _ | with_reducible refine below_drewN ?_ _ | with_reducible refine Below.drew ?_)); replace k1 := cell_relay k1 hgw h (by repeat (first | with_reducible exact Below.refl _ _ | with_reducible refine Below.alloc ?_ (by simp <;> omega) _ | with_reducible refine below_drewN ?_ _ | with_reducible refine Below.drew ?_)); replace k2 := cell_relay k2 hgw h (by repeat (first | with_reducible exact Below.refl _ _ | with_reducible refine Below.alloc ?_ (by simp <;> omega) _ | with_reducible refine below_drewN ?_ _ | with_reducible refine Below.drew ?_)); replace k3 := cell_relay k3 hgw h (by repeat (first | with_reducible exact Below.refl _ _ | with_reducible refine Below.alloc ?_ (by simp <;> omega) _ | with_reducible refine below_drewN ?_ _ | with_reducible refine Below.drew ?_)); replace k4 := cell_relay k4 hgw h (by repeat (first | with_reducible exact Below.refl _ _ | with_reducible refine Below.alloc ?_ (by simp <;> omega) _ | with_reducible refine below_drewN ?_ _ | with_reducible refine Below.drew ?_)); replace q0 := cell_relay q0 hbw h (by repeat (first | with_reducible exact Below.refl _ _ | with_reducible refine Below.alloc ?_ (by simp <;> omega) _ | with_reducible refine below_drewN ?_ _ | with_reducible refine Below.drew ?_)); replace q1 := cell_relay q1 hbw h (by repeat (first | with_reducible exact Below.refl _ _ | with_reducible refine Below.alloc ?_ (by simp <;> omega) _ | with_reducible refine below_drewN ?_ _ | with_reducible refine Below.drew ?_)); replace q2 := cell_relay q2 hbw h (by repeat (first | with_reducible exact Below.refl _ _ | with_reducible refine Below.alloc ?_ (by simp <;> omega) _ | with_reducible refine below_drewN ?_ _ | with_reducible refine Below.drew ?_)); replace q3 := cell_relay q3 hbw h (by repeat (first | with_reducible exact Below.refl _ _ | with_reducible refine Below.alloc ?_ (by simp <;> omega) _ | with_reducible refine below_drewN ?_ _ | with_reducible refine Below.drew ?_)); replace q4 := cell_relay q4 hbw h (by repeat (first | with_reducible exact Below.refl _ _ | with_reducible refine Below.alloc ?_ (by simp <;> omega) _ | with_reducible refine below_drewN ?_ _ | with_reducible refine Below.drew ?_)); replace HB := Lib.hid (HB.out.trans ((relay h (by repeat (first | with_reducible exact Below.refl _ _ | with_reducible refine Below.alloc ?_ (by simp <;> omega) _ | with_reducible refine below_drewN ?_ _ | with_reducible refine Below.drew ?_))).mono (Nat.le_of_lt hgw))); clear h)
  | fail)
 all_goals
  have HRD := Lib.hid ((HL.out.below (HB.out.mono hB)).rd)
  have hs9 := HB.out.size
  go_wp2_with (at_builtin; go_must (refine wpList_append_any _ rfl (.const (.slice none 0 0)) (.tmp 28) _ rfl w.heap.size 33 i0 _ 5 56 Tryz.underlying52 hi hz0 hz1 hz2 rfl (by omega) (.slice none 0 0) 0 [] rfl (World.ownsRow_nil _ _ _ _) B (some ⟨b, off, none⟩) n c (l.flatMap Cf.row) rfl (by first | exact HRD.out | exact Reads.drew HRD.out | exact Reads.drewN HRD.out _) ?c1 ?c2 ?c3 ?c4 ?_))
  case c1 => intro u hu; obtain ⟨z, _, hz⟩ := List.mem_flatMap.1 hu; simp [Cf.row] at hz; rcases hz with rfl | rfl | rfl | rfl | rfl <;> rfl
  case c2 => unfold maxLen; omega
  case c3 => omega
  case c4 => first | exact hs9 | (simp; omega)
  intro v3 w3 hown hg hat
  obtain ⟨g3, c3, rfl, hg3, hg3l⟩ := hown.form (by omega)
  have HO := Lib.hid hown
  have hlt9 := World.block_lt_of_cell? _ _ k0
  simp only at hlt9
  have hgw3 : w.heap.size ≠ g3 := by
   rcases hat with e | e
   ·simp [Value.ownBlock] at e
   ·simp [Value.ownBlock] at e
    (try simp at hlt9)
    omega
  have r0 := (World.cell?_of_block (a := ⟨w.heap.size, 0, none⟩) (hg.block w.heap.size hlt9 (by simp [Value.ownBlock]))).trans k0
  have r1 := (World.cell?_of_block (a := ⟨w.heap.size, 1, none⟩) (hg.block w.heap.size hlt9 (by simp [Value.ownBlock]))).trans k1
  have r2 := (World.cell?_of_block (a := ⟨w.heap.size, 2, none⟩) (hg.block w.heap.size hlt9 (by simp [Value.ownBlock]))).trans k2
  have r3 := (World.cell?_of_block (a := ⟨w.heap.size, 3, none⟩) (hg.block w.heap.size hlt9 (by simp [Value.ownBlock]))).trans k3
  have r4 := (World.cell?_of_block (a := ⟨w.heap.size, 4, none⟩) (hg.block w.heap.size hlt9 (by simp [Value.ownBlock]))).trans k4
  have HB3 := Lib.hid ((below_drewN HB.out 0).grown hg (by first | exact hs9 | (simp; omega)) (fun q hq => by simp [Value.ownBlock] at hq))
  have hln := HN.out
  have hlk : ∀ j, j < 5 → k * 5 + j < (l.flatMap Cf.row).length := fun j hj => by rw [flat_length Cf.row 5 Cf.row_len]; omega
  obtain ⟨y0, hy0⟩ : ∃ y, (l.flatMap Cf.row)[k * 5]? = some y := ⟨_, List.getElem?_eq_getElem (hlk 0 (by omega))⟩
  have s0 := (HO.out.cellAt (k * 5) (by omega)).trans hy0
  clear hy0
  obtain ⟨y1, hy1⟩ : ∃ y, (l.flatMap Cf.row)[k * 5 + 1]? = some y := ⟨_, List.getElem?_eq_getElem (hlk 1 (by omega))⟩
  have s1 := (HO.out.cellAt (k * 5 + 1) (by omega)).trans hy1
  clear hy1
  obtain ⟨y2, hy2⟩ : ∃ y, (l.flatMap Cf.row)[k * 5 + 2]? = some y := ⟨_, List.getElem?_eq_getElem (hlk 2 (by omega))⟩
  have s2 := (HO.out.cellAt (k * 5 + 2) (by omega)).trans hy2
  clear hy2
  obtain ⟨y3, hy3⟩ : ∃ y, (l.flatMap Cf.row)[k * 5 + 3]? = some y := ⟨_, List.getElem?_eq_getElem (hlk 3 (by omega))⟩
  have s3 := (HO.out.cellAt (k * 5 + 3) (by omega)).trans hy3
  clear hy3
  obtain ⟨y4, hy4⟩ : ∃ y, (l.flatMap Cf.row)[k * 5 + 4]? = some y := ⟨_, List.getElem?_eq_getElem (hlk 4 (by omega))⟩
  have s4 := (HO.out.cellAt (k * 5 + 4) (by omega)).trans hy4
  clear hy4
  have u0 := HO.out.frozenAt (k * 5)
  have u1 := HO.out.frozenAt (k * 5 + 1)
  have u2 := HO.out.frozenAt (k * 5 + 2)
  have u3 := HO.out.frozenAt (k * 5 + 3)
  have u4 := HO.out.frozenAt (k * 5 + 4)
  have LK := Lib.hid hlk
  clear hown hg hat k0 k1 k2 k3 k4 q0 q1 q2 q3 q4 hlk hln
  go_wp2_with (fail)
  go_ret2
  have p0 := HO.out.stored (k * 5) (.int .i64 k)
  have p1 := p0.1.stored (k * 5 + 1) (.int .u64 xep)
  have p2 := p1.1.stored (k * 5 + 2) (.slice xA xlen xcap)
  have p3 := p2.1.stored (k * 5 + 3) (.bool xfr)
  have p4 := p3.1.stored (k * 5 + 4) (.int .i64 xjn)
  have hfs := flat_set5 l k ⟨(k : Int), xep, xA, xlen, xcap, xfr, xjn, xzs⟩ (by rw [HN.out]; exact hkn)
  have bel := ((((HB3.out.setCell (p := ⟨g3, k * 5, none⟩) hg3 (.int .i64 k)).setCell (p := ⟨g3, k * 5 + 1, none⟩) hg3 (.int .u64 xep)).setCell (p := ⟨g3, k * 5 + 2, none⟩) hg3 (.slice xA xlen xcap)).setCell (p := ⟨g3, k * 5 + 3, none⟩) hg3 (.bool xfr)).setCell (p := ⟨g3, k * 5 + 4, none⟩) hg3 (.int .i64 xjn)
  have own := p4.1
  rw [hfs] at own
  obtain ⟨_, c9, hv9, _, hl9, hm9⟩ := own_slice own
  cases hv9
  refine ⟨bel, some ⟨g3, 0, none⟩, c3, l.set k ⟨(k : Int), xep, xA, xlen, xcap, xfr, xjn, xzs⟩, ?_, ⟨Reads.of_own own, fun z hz => ?_⟩, ?_, hl9, hm9, .inr ⟨g3, rfl, hg3⟩, fun z hz => List.mem_or_eq_of_mem_set hz⟩
  ·rw [hT.out]; rfl
  ·rcases List.mem_or_eq_of_mem_set hz with hz | hz
   ·have q := (HL.out.mem z hz).below (bel.mono hB)
    exact ⟨q.rd.more (Nat.le_trans hB bel.size), q.hc, q.hm⟩
   ·subst hz
    have q := HX.out.below (bel.mono hC)
    exact ⟨q.rd.more (Nat.le_trans hC bel.size), q.hc, q.hm⟩
  ·rw [learn_yes hT.out, List.map_set]
   simp
end Go.Proofs.YtmpedblelnpjdaaGreatDoor

end
section
/- (*Atlas).Learn where nothing is learned: out of range, or not newer. -/
namespace Go.Proofs.YtmpedblelnpjdaaGreatDoor
open Go.RowKit
set_option linter.unusedSimpArgs false
set_option linter.unusedVariables false
set_option maxHeartbeats 2000000
set_option maxRecDepth 100000
attribute [local go_sem] Cf.agg Cf.cells
theorem Chg.set_ {w w' : World} {S : Nat → Prop} (h : Chg w w' S) {p : Addr} (hp : S p.block) (u : Value) : Chg w (w'.setCell p u) S :=
 have hb := (Below.refl p.block w').setCell (p := p) (Nat.le_refl _) u
 ⟨hb.os.trans h.os, hb.tape.trans h.tape, hb.output.trans h.output, Nat.le_trans h.size hb.size, fun k hk hn => (Below.heap_setCell w' p u k (fun e => hn (e ▸ hp))).trans (h.block k hk hn)⟩
def ALPost (b0 G q h cB : Nat) (vs : List (Int × Int × List Int × Bool × Int)) (x : Cf) (w : World) (e : Ending) (w' : World) : Prop :=
 e = .returned (.bool (learnB vs x)) ∧ (∃ o, AtX w' b0 G q h cB o ∧ o.map Cf.val = learnV vs x) ∧ Chg w w' (· = q)
theorem At.drewN {w : World} {b0 G : Nat} {vs : List (Int × Int × List Int × Bool × Int)} (a : At w b0 G vs) (q : Nat) : At (w.drewN q) b0 G vs := a.below (below_drewN (Below.refl _ _) q)
theorem atLearn_no (b0 G C : Nat) (q h cB : Nat) (o : List Cf) (x : Cf) (w : World) (a : AtX w b0 G q h cB o) (hx : CfIn w C x) (hC : C ≤ w.heap.size) (hno : x.ch < 0 ∨ (o.length : Int) ≤ x.ch) :
  Calls Tryz.prog 79 #[.pointer (some ⟨G, 0, none⟩), x.agg] w fun e w' => ALPost b0 G q h cB (o.map Cf.val) x w e w' := by
 have hb0 : b0 ≤ w.heap.size := by have h1 := a.b0; have h2 := a.num.lt; omega
 have k0 : (w.alloc (.cells x.cells 33)).cell? ⟨w.heap.size, 0, none⟩ = some (.int .i64 x.ch) := (cf_cells (Blk.new w 33 x.cells)).1
 have hbox : Below w.heap.size w (w.alloc (.cells x.cells 33)) := (Below.refl _ _).alloc (Nat.le_refl _) _
 have A1 := Lib.hid (a.below hbox)
 have HB := Lib.hid hbox
 have CH := Lib.hid (fun s => chains_any b0 G q h cB o ((w.alloc (.cells x.cells 33)).drewN s) (A1.out.below (below_drewN (Below.refl _ _) s)))
 clear a hx hbox
 rcases hno with h0 | h0
 ·have hT : Hid (learnB (o.map Cf.val) x = false) := Lib.hid (learn_neg h0)
  have h0' : decide (x.ch < 0) = true := by simp [h0]
  go_enter Tryz.func79, Tryz.ntmps79
  go_wp2_with (fail)
  go_quiet (fail)
  go_wp2_with (fail)
  go_ret
  refine ⟨by rw [hT.out]; rfl, ?_, Chg.of_below (below_drewN HB.out _) _⟩
  rw [learn_no hT.out]
  exact ⟨o, A1.out.below (below_drewN (Below.refl _ _) _), rfl⟩
 ·have hT : Hid (learnB (o.map Cf.val) x = false) := Lib.hid (learn_over (by omega) (by rw [List.length_map]; omega))
  have h0' : decide (x.ch < 0) = false := by simp; omega
  have h1' : decide ((o.length : Int) ≤ x.ch) = true := by simpa using h0
  go_enter Tryz.func79, Tryz.ntmps79
  go_wp2_with (fail)
  go_quiet ((first | (go_at_call 151; exact quiet_left (CH.out _)) | (go_at_call 151; exact quiet_add_left (CH.out _)) | fail))
  go_wp2_with (fail)
  go_ret
  refine ⟨by rw [hT.out]; rfl, ?_, Chg.of_below (below_drewN HB.out _) _⟩
  rw [learn_no hT.out]
  exact ⟨o, A1.out.below (below_drewN (Below.refl _ _) _), rfl⟩
end Go.Proofs.YtmpedblelnpjdaaGreatDoor

end
