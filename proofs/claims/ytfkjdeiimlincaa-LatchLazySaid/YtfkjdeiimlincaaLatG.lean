/- The walk of LatchLazy. -/
import Derived.Test.YtfkjdeiimlincaaLatF

namespace Go.Proofs.Ytfkjdeiimlincaa
open Go.RowKit
set_option linter.unusedSimpArgs false
set_option linter.unusedVariables false
set_option maxRecDepth 100000
set_option maxHeartbeats 16000000

structure LL (w : World) (vB g1 g2 : Nat) (v : Int) (d e : Bool) (W : World) : Prop where
  box : Blk W vB 25 #[.int .u64 v]
  x : LzAt W g1 (.func (.func 13) #[] #[.pointer (some ⟨vB, 0, none⟩)]) d (if d then 1 else 0) (if d then v else 0)
  y : LzAt W g2 .nilFunc e 0 0
  bel : Below w.heap.size w W
  ord : w.heap.size ≤ g1 ∧ w.heap.size ≤ g2 ∧ g1 ≠ g2
theorem LL.below {w W W' : World} {vB g1 g2 : Nat} {v : Int} {d e : Bool} (h : LL w vB g1 g2 v d e W) (hb : Below W.heap.size W W') : LL w vB g1 g2 v d e W' :=
  ⟨h.box.below hb h.box.lt, Blk.below h.x hb (Blk.lt h.x), Blk.below h.y hb (Blk.lt h.y), h.bel.trans (hb.mono h.bel.size), h.ord⟩
theorem LL.get1 {w W W' : World} {vB g1 g2 : Nat} {v : Int} {d e : Bool} (h : LL w vB g1 g2 v d e W) (hx : LzAt W' g1 (.func (.func 13) #[] #[.pointer (some ⟨vB, 0, none⟩)]) true 1 v) (hc : Chg W W' (fun k => k = g1)) : LL w vB g1 g2 v true e W' :=
  ⟨hc.blk h.box (Blk.ne_ h.box h.x (by decide)), hx, hc.blk h.y (fun e => h.ord.2.2 e.symm), h.bel.trans (hc.below h.bel.size (fun k hk e => by have := h.ord.1; omega)), h.ord⟩
theorem LL.get2 {w W W' : World} {vB g1 g2 : Nat} {v : Int} {d e : Bool} (h : LL w vB g1 g2 v d e W) (hy : LzAt W' g2 .nilFunc true 0 0) (hc : Chg W W' (fun k => k = g2)) : LL w vB g1 g2 v d true W' :=
  ⟨hc.blk h.box (Blk.ne_ h.box h.y (by decide)), hc.blk h.x h.ord.2.2, hy, h.bel.trans (hc.below h.bel.size (fun k hk e => by have := h.ord.2.1; omega)), h.ord⟩

theorem latchLazy_law (v n : Int) (w : World) (h0 : 0 ≤ n) (h1 : n ≤ 255) :
    Calls Try.prog 4 #[.int .u64 v, .int .u8 n] w fun e w' => e = .returned (.bool true) ∧ Below w.heap.size w w' := by
  have hmf : ∀ (fn : Fn) (first cap : Array Value) (w : World), (Instr.makeFunc fn first cap).run Try.prog w = .ok (.func fn first cap) w := fun _ _ _ _ => rfl
  obtain ⟨m, hm, hm8⟩ : ∃ m : Nat, Int.tmod n 9 = (m : Int) ∧ m ≤ 8 := ⟨(n.toNat % 9), by rw [Int.tmod_eq_emod_of_nonneg h0]; omega, by omega⟩
  have hnw : IntKind.i64.wrap n = n := by rw [IntKind.wrap_i64]; omega
  have hmw : IntKind.i64.wrap (m : Int) = m := by rw [IntKind.wrap_i64]; omega
  go_enter Try.func4, Try.ntmps4
  go_wp2_with (fail)
  refine (ofF_any _ _ _).mono ?_
  rintro e w1 ⟨rfl, hA, hb⟩
  have HA := Lib.hid hA
  have HB := Lib.hid hb
  have hs1 := hb.size
  simp only [World.size_alloc] at hs1
  clear hA hb
  go_wp2_with (fail)
  refine (ofN_any _).mono ?_
  rintro e w2 ⟨rfl, hA, hb⟩
  have HX : Hid (LL w w.heap.size (w.heap.size + 1) w1.heap.size v false false w2) := Lib.hid (by
    have ha := HA.out
    have hbb := HB.out
    simp only [World.size_alloc] at ha hbb
    have hg1 : w.heap.size + 1 < w1.heap.size := Blk.lt ha
    have hB1 : Below w.heap.size w w1 := ((Below.refl _ _).alloc (Nat.le_refl _) _).trans (hbb.mono (by omega))
    exact ⟨((Blk.new w 25 #[.int .u64 v]).below hbb (by omega)).below hb (by omega), Blk.below ha hb hg1, hA, hB1.trans (hb.mono hB1.size), by omega, by omega, by omega⟩)
  clear hA hb HA HB
  generalize w1.heap.size = g2 at *
  generalize w.heap.size + 1 = g1 at *
  obtain ⟨vB, hvB⟩ : ∃ vB, vB = w.heap.size := ⟨_, rfl⟩
  have HX1 : Hid (LL w vB g1 g2 v false false w2) := Lib.hid (by rw [hvB]; exact HX.out)
  rw [← hvB]
  clear HX hvB hs1
  go_wp2_with (fail)
  refine (runs_any g1 _ false 0 0 _ HX1.out.x (by omega) (by omega)).mono ?_
  rintro e w3 ⟨rfl, rfl⟩
  go_wp2_with (fail)
  go_loopw [8] (fun ia wr => ∃ (i : Nat) (d e : Bool), i ≤ m + 1 ∧ ia = .int .i64 i ∧ Hid (LL w vB g1 g2 v d e wr)) (fun ia _ => m + 1 - (intOf ia).toNat)
  case atStart => exact ⟨0, false, false, by omega, rfl, HX1⟩
  case round =>
    clear HX1
    obtain ⟨i, d, e, hi, rfl, H⟩ := hrel
    by_cases hl : i ≤ m
    · have hl' : (i : Int) ≤ m := by omega
      have d0 : wr.cell? ⟨vB, 0, none⟩ = some (.int .u64 v) := H.out.box.cell 0
      have q0 := H.out.box.lt
      have G1 := fun w a b => getF_any g1 vB d v w a b
      have G2 := fun w a => getN_any g2 e w a
      have R1 := fun w a => runs_any g1 (.func (.func 13) #[] #[.pointer (some ⟨vB, 0, none⟩)]) true 1 v w a (by omega) (by omega)
      have R2 := fun w a => runs_any g2 .nilFunc true 0 0 w a (by omega) (by omega)
      go_wp2_with (fail)
      go_region_held3 (fun w' => w'.cell? ⟨vB, 0, none⟩ = some (.int .u64 v)) (go_keep) (first
        | (go_at_call 15; refine (G1 _ ?_ ?_).mono ?_; (· exact (H.out.below (by repeat (first | with_reducible exact Below.refl _ _ | with_reducible refine Below.alloc ?_ (by simp <;> omega) _ | with_reducible refine below_drewN ?_ _ | with_reducible refine Below.drew ?_))).box); (· exact (H.out.below (by repeat (first | with_reducible exact Below.refl _ _ | with_reducible refine Below.alloc ?_ (by simp <;> omega) _ | with_reducible refine below_drewN ?_ _ | with_reducible refine Below.drew ?_))).x); rintro e' w9 ⟨rfl, hx, hc⟩; clear G1; replace H := Lib.hid ((H.out.below (by repeat (first | with_reducible exact Below.refl _ _ | with_reducible refine Below.alloc ?_ (by simp <;> omega) _ | with_reducible refine below_drewN ?_ _ | with_reducible refine Below.drew ?_))).get1 hx hc); replace d0 : w9.cell? ⟨vB, 0, none⟩ = some (.int .u64 v) := H.out.box.cell 0; clear hx hc)
        | (go_at_call 15; refine (G2 _ ?_).mono ?_; (· exact (H.out.below (by repeat (first | with_reducible exact Below.refl _ _ | with_reducible refine Below.alloc ?_ (by simp <;> omega) _ | with_reducible refine below_drewN ?_ _ | with_reducible refine Below.drew ?_))).y); rintro e' w9 ⟨rfl, hx, hc⟩; clear G2; replace H := Lib.hid ((H.out.below (by repeat (first | with_reducible exact Below.refl _ _ | with_reducible refine Below.alloc ?_ (by simp <;> omega) _ | with_reducible refine below_drewN ?_ _ | with_reducible refine Below.drew ?_))).get2 hx hc); replace d0 : w9.cell? ⟨vB, 0, none⟩ = some (.int .u64 v) := H.out.box.cell 0; clear hx hc)
        | (go_at_call 14; refine (R1 _ ?_).mono ?_; (· exact (H.out.below (by repeat (first | with_reducible exact Below.refl _ _ | with_reducible refine Below.alloc ?_ (by simp <;> omega) _ | with_reducible refine below_drewN ?_ _ | with_reducible refine Below.drew ?_))).x); rintro e' w9 ⟨rfl, rfl⟩; clear R1)
        | (go_at_call 14; refine (R2 _ ?_).mono ?_; (· exact (H.out.below (by repeat (first | with_reducible exact Below.refl _ _ | with_reducible refine Below.alloc ?_ (by simp <;> omega) _ | with_reducible refine below_drewN ?_ _ | with_reducible refine Below.drew ?_))).y); rintro e' w9 ⟨rfl, rfl⟩; clear R2)
        | fail)
      all_goals
        go_wp2_with (fail)
        go_roundw
        case rel => first | exact ⟨i + 1, true, true, by omega, by go_num, Lib.hid (H.out.below (by repeat (first | with_reducible exact Below.refl _ _ | with_reducible refine Below.alloc ?_ (by simp <;> omega) _ | with_reducible refine below_drewN ?_ _ | with_reducible refine Below.drew ?_)))⟩ | ((repeat apply Exists.intro); exact ⟨⟨i + 1, true, true, by omega, by go_num, Lib.hid (H.out.below (by repeat (first | with_reducible exact Below.refl _ _ | with_reducible refine Below.alloc ?_ (by simp <;> omega) _ | with_reducible refine below_drewN ?_ _ | with_reducible refine Below.drew ?_)))⟩, rfl⟩)
        case measure => simp [intOf]; omega
    · have hl' : ¬ (i : Int) ≤ m := by omega
      clear hl
      go_wp2_with (fail)
      refine (awake_any _).mono ?_
      rintro e w6 ⟨rfl, h1⟩
      have H6 := Lib.hid (H.out.bel.trans (h1.mono H.out.bel.size))
      clear h1
      go_wp2
      go_ret
      exact ⟨rfl, H6.out⟩
end Go.Proofs.Ytfkjdeiimlincaa
