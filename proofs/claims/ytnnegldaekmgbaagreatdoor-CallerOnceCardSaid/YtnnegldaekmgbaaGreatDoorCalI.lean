/- The caller's example. -/
import Derived.Test.YtnnegldaekmgbaaGreatDoorCalE
import Derived.Test.YtnnegldaekmgbaaGreatDoorCalT
namespace Go.Proofs.YtnnegldaekmgbaaGreatDoor
open Go.RowKit
set_option linter.unusedSimpArgs false
set_option linter.unusedVariables false
set_option maxHeartbeats 8000000
set_option maxRecDepth 100000

theorem awake26_val {y : Cf} (h : OneOf ((List.range 1).map (begV 2)) 5 y) : y.headV = 1 := by
  have h1 := one_beg h
  rw [show (chainV 5 ((1 : Nat) : Int)).toNat = 0 by decide] at h1
  have h2 : (((0 : Nat) : Int), ((1 : Nat) : Int), [(1 : Int), 2], false, (0 : Int)) = y.val := h1
  obtain ⟨_, _, hz, _, _, hl⟩ := val_cf h2 h.2
  obtain ⟨hr, _⟩ := right_of h2 h.2 (by omega) (by simp) (unl_nodesI 0 2 (by omega))
  unfold Cf.headV; rw [hr, if_pos rfl, hz]; rfl
def op25 : Opn := ⟨2, 5, 0, none, 0, 0, 0, []⟩
theorem op25_in (w : World) : OpIn w w.heap.size op25 := ⟨Reads.none_, Nat.le_refl _, by decide, by constructor <;> simp [op25]⟩
theorem req25 : beginE (Cl.new 3 1) op25 = 0 := by
  have h : upOkP (reqU op25 ((3 : Nat) : Int) (((0 : Nat) + 1 : Nat) : Int) none 0) true := by
    unfold upOkP reqU op25
    simp
  have h2 : upOkB (reqU op25 ((3 : Nat) : Int) (((0 : Nat) + 1 : Nat) : Int) none 0) true = true := (upOk_yes h).symm
  unfold beginE chkE
  rw [if_neg (by simp [Cl.new]), if_neg (by simp [op25]), if_pos (by simp [op25])]
  show reqE op25 ((3 : Nat) : Int) (((0 : Nat) + 1 : Nat) : Int) = 0
  unfold reqE updE
  rw [if_neg (by simp [writesB, reqU, op25]), if_neg (by simp [reqU, op25]), h2]
  rfl
theorem kinds_chg {w W W' : World} {g : Nat} (hK : KindsAt w) (hb : Below w.heap.size w W) (hg : w.heap.size ≤ g) (hc : Chg W W' (fun i => i = g)) : KindsAt W' :=
  hK.below (hb.trans (hc.below hb.size (fun k hk e => by omega)))
theorem awake26_any (w : World) (hK : KindsAt w) : Calls Tryz.prog 11 #[] w fun e w' => e = .returned (.bool true) ∧ Below w.heap.size w w' := by
  have HK := Lib.hid hK
  clear hK
  go_enter Tryz.func11, Tryz.ntmps11
  go_wp2_with (fail)
  refine (begin_any 1 2 _ (by omega) (by omega) (by omega) (by omega)).mono ?_
  rintro e w1 ⟨v, l, rfl, hb⟩
  obtain ⟨A, c, rfl, hr, _, _⟩ := own_slice hb.own
  have HC := Lib.hid hb.cfs
  have HL : Hid (allB l = true) := Lib.hid (beg_all hb.val (fun x hx => (hb.mem x hx).len_) (by omega) (by omega) (by omega) (by omega))
  have HV := Lib.hid hb.val
  have B1 := Lib.hid hb.bel
  have hs1 := hb.bel.size
  clear hb hr
  go_wp2_with (fail)
  refine (calNew_any 3 1 A l.length c w1.heap.size l w1 HC.out (Nat.le_refl _)).mono ?_
  rintro e w2 ⟨hb2, ⟨hno, _⟩ | ⟨_, _, g, G, rfl, hcal⟩⟩
  · exact absurd ⟨by omega, HL.out⟩ hno
  rw [HV.out] at hcal
  have HA : Hid (CalAt w2 w1.heap.size g G 0 ((List.range 1).map (begV 2)) (Cl.new 3 1)) := Lib.hid hcal
  have hgl : w1.heap.size ≤ g := hcal.low
  have B2 := Lib.hid (B1.out.trans (hb2.mono hs1))
  have hs2 := hb2.size
  clear hb2 hcal HC HL HV
  have BG := Lib.hid (calBegin_any w1.heap.size g G 0 ((List.range 1).map (begV 2)) (Cl.new 3 1) op25 5 w2.heap.size w2 (HK.out.below B2.out) (fun W hW => kinds_chg HK.out B2.out (by omega) hW) HA.out (op25_in w2) (Nat.le_refl _) hs2 rfl (by decide) (by decide) (by decide))
  clear HA
  go_wp2_with (fail)
  refine BG.out.mono ?_
  rintro e w3 (⟨hno, _⟩ | ⟨_, h', A7n, q, A7, y, y2, AU, rfl, hcal, hq, ho1, ho2, hbk, hch⟩)
  · exact absurd req25 hno
  have HA := Lib.hid hcal
  have HBK := Lib.hid hbk
  have HC3 := Lib.hid hch
  have HO2 := Lib.hid (awake26_val ho2)
  have lg := hcal.box.lt
  have hs3 := hch.size
  have B3 := Lib.hid (B2.out.trans (hch.below B2.out.size (fun k hk e => by omega)))
  clear hcal hbk hch ho1 ho2 BG
  have hqg : q ≠ g := fun e => Blk.ne_ HBK.out HA.out.box (by decide) e
  have TK := Lib.hid (calTick_any w1.heap.size g G h' ((List.range 1).map (begV 2)) ((Cl.new 3 1).begun op25 A7 A7n) 5 w3 (HK.out.below B3.out) HA.out (by omega) (fun W hW => kinds_chg HK.out B3.out (by omega) hW) rfl (show (0 : Nat) ≤ 1000000 by decide) (show (3 : Nat) ≤ 6 by decide) (show (1 : Nat) ≤ 1 ∧ (1 : Nat) ≤ 5 by decide) (show (1 : Nat) ≤ 1000000 by decide))
  clear HA
  go_wp2_with (fail)
  refine TK.out.mono ?_
  rintro e w4 ⟨⟨A4, n4, c4, rfl, _, h1⟩, hcal, hch⟩
  obtain rfl := h1 rfl
  have HA := Lib.hid hcal
  have HBK4 := Lib.hid (hch.blk HBK.out hqg)
  have B4 := Lib.hid (B3.out.trans (hch.below B3.out.size (fun k hk e => by omega)))
  clear hcal hch TK HBK
  have q1 : w4.cell? ⟨q, 1, none⟩ = some (.int .i64 203) := HBK4.out.cell 1
  have q2 : w4.cell? ⟨q, 2, none⟩ = some (.int .i64 1) := (HBK4.out.cell 2).trans (by
    have h5 := HO2.out
    show some (Value.int .i64 y2.headV) = _
    rw [h5])
  have BU : Hid (Calls Tryz.prog 13 #[.pointer (some ⟨g, 0, none⟩)] w4 fun e w' => e = .returned (.bool true) ∧ Below w4.heap.size w4 w') := Lib.hid (calBusy_any _ g G h' _ _ w4 HA.out)
  have lq := HBK4.out.lt
  have hs4 := B4.out.size
  go_wp2_with (fail)
  refine BU.out.mono ?_
  rintro e w5 ⟨rfl, hb5⟩
  have NU : Hid (Calls Tryz.prog 14 #[.pointer (some ⟨g, 0, none⟩)] w5 fun e w' => e = .returned (.int .u64 1) ∧ w5 = w') := Lib.hid (calNum_any _ g G h' _ _ w5 (HA.out.below hb5))
  have B5 := Lib.hid (B4.out.trans (hb5.mono hs4))
  clear hb5 BU
  go_wp2_with (fail)
  refine NU.out.mono ?_
  rintro e w6 ⟨rfl, rfl⟩
  go_wp2_with (fail)
  go_ret
  exact ⟨rfl, B5.out⟩
end Go.Proofs.YtnnegldaekmgbaaGreatDoor
