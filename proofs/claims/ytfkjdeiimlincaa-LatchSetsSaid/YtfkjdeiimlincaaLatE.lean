/- The walk of LatchSets. -/
import Derived.Test.YtfkjdeiimlincaaLatD

namespace Go.Proofs.Ytfkjdeiimlincaa
open Go.RowKit
set_option linter.unusedSimpArgs false
set_option linter.unusedVariables false
set_option maxRecDepth 100000
set_option maxHeartbeats 16000000

/-- the memory of LatchSets: the latch, the reference's -/
structure LS (w : World) (g rB : Nat) (b : Bool) (v : Int) (W : World) : Prop where
  lat : LatU W g b v
  ref : Blk W rB 27 #[.int .u64 v, .bool b]
  bel : Below w.heap.size w W
  gw : w.heap.size ≤ g
  rw' : w.heap.size ≤ rB
  nul : b = false → v = 0
theorem LS.below {w W W' : World} {g rB : Nat} {b : Bool} {v : Int} (h : LS w g rB b v W) (hb : Below W.heap.size W W') : LS w g rB b v W' :=
  ⟨h.lat.below hb h.lat.lt, h.ref.below hb h.ref.lt, h.bel.trans (hb.mono h.bel.size), h.gw, h.rw', h.nul⟩

theorem latchSets_law (A : Option Addr) (n c : Nat) (l : List (Int × Int)) (w : World) (hr : Reads w w.heap.size 2 A n (l.flatMap acc)) (hn : n ≤ c) (hc : c ≤ maxLen) :
    Calls Try.prog 3 #[.slice A n c] w fun e w' => e = .returned (.bool true) ∧ Below w.heap.size w w' := by
  unfold maxLen at hc
  have HR := Lib.hid hr
  clear hr
  go_enter Try.func3, Try.ntmps3
  go_wp2_with (fail)
  refine (newU_any _).mono ?_
  rintro e w1 ⟨rfl, hA, hb⟩
  have HX : Hid (LS w w.heap.size w1.heap.size false 0 (w1.alloc (.cells #[.int .u64 0, .bool false] 27))) := Lib.hid ⟨Blk.alloc hA _, Blk.new _ _ _, hb.alloc hb.size _, Nat.le_refl _, hb.size, fun _ => rfl⟩
  have hlt : w.heap.size < w1.heap.size := hA.lt
  clear hA hb
  go_wp2_with (fail)
  generalize w1.alloc (.cells #[.int .u64 0, .bool false] 27) = w2 at *
  generalize w1.heap.size = rB at *
  obtain ⟨g, hg⟩ : ∃ g, g = w.heap.size := ⟨_, rfl⟩
  have HX' : Hid (LS w g rB false 0 w2) := Lib.hid (by rw [hg]; exact HX.out)
  rw [← hg] at hlt ⊢
  clear hg HX
  go_loopw [5, 6, 7, 8, 9, 10] (fun ia _ _ _ _ _ wr => ∃ (i : Nat) (b : Bool) (v : Int), i ≤ n ∧ i ≤ 40 ∧ ia = .int .i64 i ∧ Hid (LS w g rB b v wr)) (fun ia _ _ _ _ _ _ => 40 - (intOf ia).toNat)
  case atStart => exact ⟨0, false, 0, by omega, by omega, rfl, HX'⟩
  case round =>
    clear HX'
    obtain ⟨i, b, v, hin, hi40, rfl, H⟩ := hrel
    by_cases hl : i < n ∧ i < 40
    · obtain ⟨hl1, hl2⟩ := hl
      have hl1' : (i : Int) < n := by omega
      have hl2' : (i : Int) < 40 := by omega
      obtain ⟨bb, off, o, rfl, hbb, ho, hcs⟩ := reads_at acc acc_len (by omega) (HR.out.below H.out.bel) hl1
      have d0 := hcs 0 _ rfl
      have d1 := hcs 1 _ rfl
      rw [Nat.add_zero] at d0
      have e0 : wr.cell? ⟨rB, 0, none⟩ = some (.int .u64 v) := H.out.ref.cell 0
      have e1 : wr.cell? ⟨rB, 1, none⟩ = some (.bool b) := H.out.ref.cell 1
      have hrl := H.out.ref.lt
      have HT : Hid (LS w g rB b v (wr.alloc (.cells #[.int .i64 o.1, .int .u64 o.2] 29))) := Lib.hid (H.out.below ((Below.refl _ _).alloc (Nat.le_refl _) _))
      have hAB : Hid (Blk (wr.alloc (.cells #[.int .i64 o.1, .int .u64 o.2] 29)) wr.heap.size 29 #[.int .i64 o.1, .int .u64 o.2]) := Lib.hid (Blk.new _ _ _)
      clear hcs ho
      by_cases hk0 : o.1 = 0
      · have ek0 : (o.1 == 0) = true := by simp [hk0]
        clear hk0
        go_wp2_with (fail)
        refine (refSet_any b v o.2 _).mono ?_
        rintro e w9 ⟨rfl, h⟩
        have HT9 := Lib.hid (HT.out.below h)
        have hA9 := Lib.hid (hAB.out.below h hAB.out.lt)
        clear h HT hAB d0 d1 e0 e1 hrl
        generalize wr.heap.size = aB at *
        have e0 : w9.cell? ⟨rB, 0, none⟩ = some (.int .u64 v) := HT9.out.ref.cell 0
        have e1 : w9.cell? ⟨rB, 1, none⟩ = some (.bool b) := HT9.out.ref.cell 1
        have f0 := HT9.out.ref.frozen 0
        have f1 := HT9.out.ref.frozen 1
        have d1 : w9.cell? ⟨aB, 1, none⟩ = some (.int .u64 o.2) := hA9.out.cell 1
        have hrl := HT9.out.ref.lt
        have hal := hA9.out.lt
        have n1 : aB ≠ rB := Blk.ne_ hA9.out HT9.out.ref (by decide)
        have n2 : rB ≠ aB := n1.symm
        have n3 : g ≠ rB := by omega
        obtain ⟨v', hv'⟩ : ∃ v', v' = (if b then v else o.2) := ⟨_, rfl⟩
        have HV := Lib.hid hv'
        rw [← hv']
        clear hv'
        have hL2 : Hid (LatU (((w9.setCell ⟨rB, 0, none⟩ (.int .u64 v')).setCell ⟨rB, 1, none⟩ (.bool true)).alloc (.cells #[.int .u64 v', .bool true] 27)) g b v) := Lib.hid (((HT9.out.lat.far (p := ⟨rB, 0, none⟩) n3 _).far (p := ⟨rB, 1, none⟩) n3 _).alloc _)
        have hR2 : Hid (Blk (((w9.setCell ⟨rB, 0, none⟩ (.int .u64 v')).setCell ⟨rB, 1, none⟩ (.bool true)).alloc (.cells #[.int .u64 v', .bool true] 27)) rB 27 #[.int .u64 v', .bool true]) := Lib.hid (((HT9.out.ref.set_ 0 _).set_ 1 _).alloc _)
        have hB2 : Hid (Below w.heap.size w (((w9.setCell ⟨rB, 0, none⟩ (.int .u64 v')).setCell ⟨rB, 1, none⟩ (.bool true)).alloc (.cells #[.int .u64 v', .bool true] 27))) := Lib.hid (by
          have h1 := (HT9.out.bel.setCell (p := ⟨rB, 0, none⟩) HT9.out.rw' (.int .u64 v')).setCell (p := ⟨rB, 1, none⟩) HT9.out.rw' (.bool true)
          exact h1.alloc h1.size _)
        have hgw := HT9.out.gw
        have hrw := HT9.out.rw'
        go_wp2_with (fail)
        refine (setU_any g b v o.2 _ hL2.out).mono ?_
        rintro e w10 ⟨rfl, hL, hC⟩
        have hX2 : Hid (LS w g rB true v' w10) := Lib.hid ⟨by rw [HV.out]; exact hL, hC.blk hR2.out (fun e => n3 e.symm), hB2.out.trans (hC.below hB2.out.size (fun k hk e => by omega)), hgw, hrw, fun h => by cases h⟩
        clear hL hC hL2 hR2 hB2 HT9 hA9 e0 e1 f0 f1 d1 H
        go_wp2_with (fail)
        go_roundw
        case rel => exact ⟨i + 1, true, v', by omega, by omega, by go_num, hX2⟩
        case measure => simp [intOf]; omega
      have ek0 : (o.1 == 0) = false := by simp [hk0]
      clear hk0
      by_cases hk1 : o.1 = 1
      · have ek1 : (o.1 == 1) = true := by simp [hk1]
        clear hk1
        go_wp2_with (fail)
        have hvv : (if b then v else 0) = v := by
          cases hb : b
          · simp [H.out.nul hb]
          · rfl
        have hG := getU_any g b v _ HT.out.lat
        rw [hvv] at hG
        clear hvv
        refine hG.mono ?_
        rintro e w9 ⟨rfl, rfl⟩
        have e0 : (wr.alloc (.cells #[.int .i64 o.1, .int .u64 o.2] 29)).cell? ⟨rB, 0, none⟩ = some (.int .u64 v) := HT.out.ref.cell 0
        have e1 : (wr.alloc (.cells #[.int .i64 o.1, .int .u64 o.2] 29)).cell? ⟨rB, 1, none⟩ = some (.bool b) := HT.out.ref.cell 1
        generalize wr.alloc (.cells #[.int .i64 o.1, .int .u64 o.2] 29) = w9 at *
        clear hG
        go_wp2_with (fail)
        go_roundw
        case rel => exact ⟨i + 1, b, v, by omega, by omega, by go_num, HT⟩
        case measure => simp [intOf]; omega
      have ek1 : (o.1 == 1) = false := by simp [hk1]
      clear hk1
      go_wp2_with (fail)
      clear d0 d1
      have d1 : (wr.alloc (.cells #[.int .i64 o.1, .int .u64 o.2] 29)).cell? ⟨wr.heap.size, 1, none⟩ = some (.int .u64 o.2) := hAB.out.cell 1
      replace e0 : (wr.alloc (.cells #[.int .i64 o.1, .int .u64 o.2] 29)).cell? ⟨rB, 0, none⟩ = some (.int .u64 v) := HT.out.ref.cell 0
      replace e1 : (wr.alloc (.cells #[.int .i64 o.1, .int .u64 o.2] 29)).cell? ⟨rB, 1, none⟩ = some (.bool b) := HT.out.ref.cell 1
      have q1 := hAB.out.lt
      have q2 := HT.out.ref.lt
      generalize wr.alloc (.cells #[.int .i64 o.1, .int .u64 o.2] 29) = w5 at *
      generalize wr.heap.size = aB at *
      have O1 := fun w h => orU_any g b v o.2 w h
      have O2 := fun w => refOr_any b v o.2 w
      generalize (if b = true then v else o.2) = y at O1 O2
      go_region_held3 (fun w' => w'.cell? ⟨aB, 1, none⟩ = some (.int .u64 o.2) ∧ w'.cell? ⟨rB, 0, none⟩ = some (.int .u64 v) ∧ w'.cell? ⟨rB, 1, none⟩ = some (.bool b)) (go_keep) (first
        | (go_at_call 9; refine (O1 _ ?_).mono ?_; (· exact (HT.out.below (by repeat (first | with_reducible exact Below.refl _ _ | with_reducible refine Below.alloc ?_ (by simp <;> omega) _ | with_reducible refine below_drewN ?_ _ | with_reducible refine Below.drew ?_))).lat); rintro e w9 ⟨rfl, rfl⟩)
        | (go_at_call 10; refine (O2 _).mono ?_; rintro e w9 ⟨rfl, h⟩; replace HT := Lib.hid (HT.out.below (relay h (by repeat (first | with_reducible exact Below.refl _ _ | with_reducible refine Below.alloc ?_ (by simp <;> omega) _ | with_reducible refine below_drewN ?_ _ | with_reducible refine Below.drew ?_)))); replace hAB := Lib.hid (hAB.out.below (relay h (by repeat (first | with_reducible exact Below.refl _ _ | with_reducible refine Below.alloc ?_ (by simp <;> omega) _ | with_reducible refine below_drewN ?_ _ | with_reducible refine Below.drew ?_))) q1); replace d1 : w9.cell? ⟨aB, 1, none⟩ = some (.int .u64 o.2) := hAB.out.cell 1; replace e0 : w9.cell? ⟨rB, 0, none⟩ = some (.int .u64 v) := HT.out.ref.cell 0; replace e1 : w9.cell? ⟨rB, 1, none⟩ = some (.bool b) := HT.out.ref.cell 1; clear h)
        | fail)
      all_goals
        go_wp2_with (fail)
        go_roundw
        case rel => first | exact ⟨i + 1, b, v, by omega, by omega, by go_num, Lib.hid (HT.out.below (by repeat (first | with_reducible exact Below.refl _ _ | with_reducible refine Below.alloc ?_ (by simp <;> omega) _ | with_reducible refine below_drewN ?_ _ | with_reducible refine Below.drew ?_)))⟩ | ((repeat apply Exists.intro); exact ⟨⟨i + 1, b, v, by omega, by omega, by go_num, Lib.hid (HT.out.below (by repeat (first | with_reducible exact Below.refl _ _ | with_reducible refine Below.alloc ?_ (by simp <;> omega) _ | with_reducible refine below_drewN ?_ _ | with_reducible refine Below.drew ?_)))⟩, rfl⟩)
        case measure => simp [intOf]; omega
    · have hx : ¬ (i : Int) < n ∨ ((i : Int) < n ∧ ¬ (i : Int) < 40) := by omega
      clear hl
      rcases hx with hx | ⟨hx0, hx⟩
      all_goals
        go_wp2_with (fail)
        refine (awake_any _).mono ?_
        rintro e w6 ⟨rfl, h1⟩
        have H6 := Lib.hid (H.out.bel.trans (h1.mono H.out.bel.size))
        clear h1
        go_wp2
        go_ret
        exact ⟨rfl, H6.out⟩
end Go.Proofs.Ytfkjdeiimlincaa
