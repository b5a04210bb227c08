import Derived.Test.YtmpedblelnpjdaaGreatDoorZCalT
import Derived.Test.YtmpedblelnpjdaaGreatDoorZAsC
section
/- The caller's example. -/
namespace Go.Proofs.YtmpedblelnpjdaaGreatDoor
open Go.RowKit
set_option linter.unusedSimpArgs false
set_option linter.unusedVariables false
set_option maxHeartbeats 8000000
set_option maxRecDepth 100000
theorem awake26_val {y : Cf} (h : OneOf ((List.range 1).map (begV 2)) 5 y) : y.headV = 1 := by
 have h1 := one_beg h
 rw [show (chainV 5 ((1 : Nat) : Int)).toNat = 0 by decide] at h1
 have h2 : (((0 : Nat) : Int), ((1 : Nat) : Int), [(1 : Int), 2], false, (0 : Int)) = y.val := h1
 obtain ⟨_, _, hz, _, _, hl⟩ := val_cf h2 h.2
 obtain ⟨hr, _⟩ := right_of h2 h.2 (by omega) (by simp) (unl_nodesI 0 2 (by omega))
 unfold Cf.headV; rw [hr, if_pos rfl, hz]; rfl
def op25 : Opn := ⟨2, 5, 0, none, 0, 0, 0, []⟩
theorem op25_in (w : World) : OpIn w w.heap.size op25 := ⟨Reads.none_, Nat.le_refl _, by decide, by constructor <;> simp [op25]⟩
theorem req25 : beginE (Cl.new 3 1) op25 = 0 := by
 have h : upOkP (reqU op25 ((3 : Nat) : Int) (((0 : Nat) + 1 : Nat) : Int) none 0) true := by
  unfold upOkP reqU op25
  simp
 have h2 : upOkB (reqU op25 ((3 : Nat) : Int) (((0 : Nat) + 1 : Nat) : Int) none 0) true = true := (upOk_yes h).symm
 unfold beginE chkE
 rw [if_neg (by simp [Cl.new]), if_neg (by simp [op25]), if_pos (by simp [op25])]
 show reqE op25 ((3 : Nat) : Int) (((0 : Nat) + 1 : Nat) : Int) = 0
 unfold reqE updE
 rw [if_neg (by simp [writesB, reqU, op25]), if_neg (by simp [reqU, op25]), h2]
 rfl
theorem kinds_chg {w W W' : World} {g : Nat} (hK : KindsAt w) (hb : Below w.heap.size w W) (hg : w.heap.size ≤ g) (hc : Chg W W' (fun i => i = g)) : KindsAt W' :=
 hK.below (hb.trans (hc.below hb.size (fun k hk e => by omega)))
end Go.Proofs.YtmpedblelnpjdaaGreatDoor

end
section
/- The caller's example, by what is asked. -/
namespace Go.Proofs.YtmpedblelnpjdaaGreatDoor
open Go.RowKit
set_option linter.unusedSimpArgs false
set_option linter.unusedVariables false
set_option maxHeartbeats 8000000
set_option maxRecDepth 100000
theorem awake26_one {v : CV} (hv : ((List.range 1).map (begV 2))[(chainV 5 (((List.range 1).map (begV 2)).length : Int)).toNat]? = some v) : v = begV 2 0 := by
 rw [show (chainV 5 (((List.range 1).map (begV 2)).length : Int)).toNat = 0 by decide] at hv
 simpa using hv.symm
theorem awake26_oneOf : OneOf ((List.range 1).map (begV 2)) 5 (cfOf (begV 2 0)) := by
 refine ⟨?_, rfl⟩
 rw [show (chainV 5 (((List.range 1).map (begV 2)).length : Int)).toNat = 0 by decide]
 rfl
theorem awake26_ok : VsOk ((List.range 1).map (begV 2)) := by
 intro v hv
 have hv : v = begV 2 0 := by simpa using hv
 subst hv
 refine ⟨?_, by decide⟩
 have h2 : (((0 : Nat) : Int), ((1 : Nat) : Int), [(1 : Int), 2], false, (0 : Int)) = (cfOf (begV 2 0)).val := rfl
 exact (right_of h2 rfl (by omega) (by simp) (unl_nodesI 0 2 (by omega))).1
theorem awake26_tw {c : Cl} {x : LVal} (hk : c.op.kd = 2) (hc : c.cl = 3) (h : AskOf ((List.range 1).map (begV 2)) 5 c x) : x.tw = 1 ∧ x.fr = 203 := by
 obtain ⟨v, hv, rfl⟩ := h
 obtain rfl := awake26_one hv
 have h2 := awake26_val awake26_oneOf
 have e : askTo c (cfOf (begV 2 0)) = 1 := by
  unfold askTo
  rw [if_neg (by omega)]
  exact h2
 unfold askVal
 rw [e]
 unfold askLt
 rw [if_neg (by omega)]
 exact ⟨rfl, by show ((200 + c.cl : Nat) : Int) = 203; omega⟩
theorem awake26b_any (w : World) (hK : KindsAt w) : Calls Tryz.prog 17 #[] w fun e w' => e = .returned (.bool true) ∧ Below w.heap.size w w' := by
 have HK := Lib.hid hK
 clear hK
 go_enter Tryz.func17, Tryz.ntmps17
 go_wp2_with (fail)
 refine (begin_any 1 2 _ (by omega) (by omega) (by omega) (by omega)).mono ?_
 rintro e w1 ⟨v, l, rfl, hb⟩
 obtain ⟨A, c, rfl, hr, _, _⟩ := own_slice hb.own
 have HC := Lib.hid hb.cfs
 have HL : Hid (allB l = true) := Lib.hid (beg_all hb.val (fun x hx => (hb.mem x hx).len_) (by omega) (by omega) (by omega) (by omega))
 have HV := Lib.hid hb.val
 have HVS : Hid (VsOk ((List.range 1).map (begV 2))) := Lib.hid awake26_ok
 have B1 := Lib.hid hb.bel
 have hs1 := hb.bel.size
 clear hb hr
 go_wp2_with (fail)
 refine (calNew_any 3 1 A l.length c w1.heap.size l w1 HC.out (Nat.le_refl _)).mono ?_
 rintro e w2 ⟨hb2, ⟨hno, _⟩ | ⟨_, _, g, G, rfl, hcal⟩⟩
 ·exact absurd ⟨by omega, HL.out⟩ hno
 rw [HV.out] at hcal
 have HA : Hid (CalAt w2 w1.heap.size g G 0 ((List.range 1).map (begV 2)) (Cl.new 3 1)) := Lib.hid hcal
 have hgl : w1.heap.size ≤ g := hcal.low
 have B2 := Lib.hid (B1.out.trans (hb2.mono hs1))
 have hs2 := hb2.size
 clear hb2 hcal HC HL HV
 have BG := Lib.hid (calBegin2_any w1.heap.size g G 0 ((List.range 1).map (begV 2)) (Cl.new 3 1) op25 5 w2.heap.size w2 (HK.out.below B2.out) (fun W hW => kinds_chg HK.out B2.out (by omega) hW) HA.out (op25_in w2) (Nat.le_refl _) hs2 rfl (by decide) (by decide) (by decide) HVS.out)
 clear HA
 go_wp2_with (fail)
 refine BG.out.mono ?_
 rintro e w3 (⟨hno, _⟩ | ⟨_, h', A7n, q, A7, x, rfl, hcal, hq, hbk, hlin, hnr, hof, hch⟩)
 ·exact absurd req25 hno
 have HA := Lib.hid hcal
 have HBK := Lib.hid hbk
 have HC3 := Lib.hid hch
 have HO2 := Lib.hid (awake26_tw (c := (Cl.new 3 1).begun op25 A7 A7n) rfl rfl hof)
 have lg := hcal.box.lt
 have hs3 := hch.size
 have B3 := Lib.hid (B2.out.trans (hch.below B2.out.size (fun k hk e => by omega)))
 clear hcal hbk hch hlin hnr hof BG
 have hqg : q ≠ g := fun e => Blk.ne_ HBK.out HA.out.box (by decide) e
 have TK := Lib.hid (calTick2_any w1.heap.size g G h' ((List.range 1).map (begV 2)) ((Cl.new 3 1).begun op25 A7 A7n) 5 w3 (HK.out.below B3.out) HA.out (by omega) (fun W hW => kinds_chg HK.out B3.out (by omega) hW) rfl (show (0 : Nat) ≤ 1000000 by decide) (show (3 : Nat) ≤ 6 by decide) (show (1 : Nat) ≤ 1 ∧ (1 : Nat) ≤ 5 by decide) (show (1 : Nat) ≤ 1000000 by decide) HVS.out)
 clear HA
 go_wp2_with (fail)
 refine TK.out.mono ?_
 rintro e w4 ⟨hcal, hch, ⟨h1, _⟩ | ⟨_, A4, c4, x1, x2, rfl, hls, _, _⟩⟩
 ·exact absurd rfl h1
 clear hls
 have HA := Lib.hid hcal
 have HBK4 := Lib.hid (hch.blk HBK.out hqg)
 have B4 := Lib.hid (B3.out.trans (hch.below B3.out.size (fun k hk e => by omega)))
 clear hcal hch TK HBK
 have q1 : w4.cell? ⟨q, 1, none⟩ = some (.int .i64 203) := (HBK4.out.cell 1).trans (by
  show some (Value.int .i64 x.l.fr) = _
  rw [show x.l.fr = 203 from HO2.out.2])
 have q2 : w4.cell? ⟨q, 2, none⟩ = some (.int .i64 1) := (HBK4.out.cell 2).trans (by
  show some (Value.int .i64 x.l.tw) = _
  rw [show x.l.tw = 1 from HO2.out.1])
 have BU : Hid (Calls Tryz.prog 66 #[.pointer (some ⟨g, 0, none⟩)] w4 fun e w' => e = .returned (.bool true) ∧ Below w4.heap.size w4 w') := Lib.hid (calBusy_any _ g G h' _ _ w4 HA.out)
 have lq := HBK4.out.lt
 have hs4 := B4.out.size
 go_wp2_with (fail)
 refine BU.out.mono ?_
 rintro e w5 ⟨rfl, hb5⟩
 have NU : Hid (Calls Tryz.prog 67 #[.pointer (some ⟨g, 0, none⟩)] w5 fun e w' => e = .returned (.int .u64 1) ∧ w5 = w') := Lib.hid (calNum_any _ g G h' _ _ w5 (HA.out.below hb5))
 have B5 := Lib.hid (B4.out.trans (hb5.mono hs4))
 clear hb5 BU
 go_wp2_with (fail)
 refine NU.out.mono ?_
 rintro e w6 ⟨rfl, rfl⟩
 go_wp2_with (fail)
 go_ret
 exact ⟨rfl, B5.out⟩
end Go.Proofs.YtmpedblelnpjdaaGreatDoor

end
section
/- Which letters are looked at: catenarylaw14.Far (as in NtV). -/
namespace Go.Proofs.YtmpedblelnpjdaaGreatDoor
open Go.RowKit
set_option linter.unusedSimpArgs false
set_option linter.unusedVariables false
set_option maxHeartbeats 8000000
set_option maxRecDepth 100000
def FarP (x : LV) (w : World) (e : Ending) (w' : World) : Prop := ∃ b : Bool, e = .returned (.bool b) ∧ (b = false → x.near) ∧ Below w.heap.size w w'
theorem far14_any (x : LV) (B : Nat) (w : World) (h : LIn w B x) (hB : B ≤ w.heap.size) : Calls Tryz.prog 20 #[x.l.agg] w (FarP x w) := by
 obtain ⟨W1, hW1, hb1, hbk⟩ := box_all x w
 have c14 := (hbk.cell 19).trans (show _ = some (.slice x.l.fA x.l.fn x.l.fp) from rfl)
 have c22 := (hbk.cell 22).trans (show _ = some (.slice x.l.vA x.l.vn x.l.vp) from rfl)
 have c23 := (hbk.cell 23).trans (show _ = some (.slice x.l.uA x.l.un x.l.up) from rfl)
 have c24 := (hbk.cell 24).trans (show _ = some (.slice x.l.dA x.l.dn x.l.dp) from rfl)
 have hl := hbk.lt
 have HUP := Lib.hid (h.up.below (hb1.mono hB))
 have HLEN := Lib.hid h.ul
 have HC := Lib.hid (And.intro h.cf (And.intro h.cv (And.intro h.cu h.cd)))
 have HB := Lib.hid hb1
 have HW := Lib.hid hW1
 obtain ⟨l, ns, vs, us, ds⟩ := x
 simp only at *
 have HNEAR : Hid (∀ (b : Bool), (b = false → (LV.mk l ns vs us ds).near) → FarP (LV.mk l ns vs us ds) w (.returned (.bool b)) W1) := Lib.hid (fun b hb => ⟨b, rfl, hb, HB.out⟩)
 clear hW1 hb1 hbk h
 generalize FarP (LV.mk l ns vs us ds) w = post at *
 show Calls Tryz.prog 20 #[.agg #[.int .i64 l.kd, .int .i64 l.fr, .int .i64 l.tw, .int .i64 l.ch, .int .u64 l.ep, .int .u64 l.bl, .int .u64 l.nu, .int .u64 l.sq, .int .u64 l.dz, .int .u64 l.vr, .int .i64 l.sl, .int .u32 l.ky, .int .i64 l.cd, .int .i64 l.qk, .int .i64 l.qc, .int .u64 l.qe, .int .i64 l.qn, .int .i64 l.fc, .int .u64 l.fe, .slice l.fA l.fn l.fp, .bool l.ff, .int .i64 l.fj, .slice l.vA l.vn l.vp, .slice l.uA l.un l.up, .slice l.dA l.dn l.dp]] w _
 go_enter Tryz.func20, Tryz.ntmps20
 go_upto_region 1 with (fail)
 have e0 := HW.out
 simp only [Lt.cells] at e0
 rw [← e0]
 clear e0
 go_wp2_with (fail)
 go_loopw [3] (fun iv wr => ∃ j : Nat, j ≤ l.un ∧ j ≤ 9 ∧ iv = .int .i64 j ∧ wr = W1 ∧ Hid (∀ (i : Nat) (u : Up), i < j → us[i]? = some u → u.n ≤ 2100)) (fun iv _ => l.un - (intOf iv).toNat)
 case atStart => exact ⟨0, Nat.zero_le _, Nat.zero_le _, rfl, rfl, Lib.hid (fun i u hi => absurd hi (Nat.not_lt_zero _))⟩
 case round =>
  obtain ⟨j, hj, hj9, rfl, rfl, HE⟩ := hrel
  by_cases hlt : j < l.un
  ·have hltZ : (j : Int) < l.un := by omega
   by_cases h9 : j < 9
   ·have h9Z : (j : Int) < 9 := by omega
    obtain ⟨b, o, u, e1, hb, huj, hui, p0, p1, p2, p3, p4, p5, p6⟩ := HUP.out.at_ (k := j) hlt
    have HUJ := Lib.hid huj
    clear huj hui p0 p1 p2 p3 p4 p5
    by_cases hn : (2100 : Int) < u.n
    ·rw [e1] at c23
     rw [e1]
     go_wp2_with (fail)
     (try go_ret)
     exact HNEAR.out true (fun e => by cases e)
    ·rw [e1] at c23
     have HN := Lib.hid hn
     rw [e1]
     go_wp2_with (fail)
     go_roundw
     case rel => exact ⟨j + 1, hlt, h9, by go_num, by trivial, Lib.hid (fun i v hi hv => by
      by_cases hij : i < j
      ·exact HE.out i v hij hv
      ·obtain rfl : i = j := by omega
       have e : some v = some u := hv.symm.trans HUJ.out
       injection e with e
       subst e
       have := HN.out; omega)⟩
     case measure => simp [intOf]; omega
   ·have h8 : (8 : Int) < l.un := by omega
    obtain rfl : j = 9 := by omega
    go_wp2_with (fail)
    (try go_ret)
    exact HNEAR.out true (fun e => by cases e)
  ·obtain rfl : j = l.un := by omega
   by_cases a1 : (8 : Int) < l.un
   ·go_wp2_with (fail)
    (try go_ret)
    exact HNEAR.out true (fun e => by cases e)
   by_cases a2 : (600 : Int) < l.vn
   ·go_wp2_with (fail)
    (try go_ret)
    exact HNEAR.out true (fun e => by cases e)
   by_cases a3 : (2100 : Int) < l.dn
   ·go_wp2_with (fail)
    (try go_ret)
    exact HNEAR.out true (fun e => by cases e)
   by_cases a4 : (30 : Int) < l.fn
   ·go_wp2_with (fail)
    (try go_ret)
    exact HNEAR.out true (fun e => by cases e)
   have HA := Lib.hid (And.intro a1 (And.intro a2 (And.intro a3 a4)))
   go_wp2_with (fail)
   (try go_ret)
   refine HNEAR.out false (fun _ => ?_)
   obtain ⟨b1, b2, b3, b4⟩ := HA.out
   refine ⟨fun u hu => ?_, by simp only; omega, by simp only; omega, by simp only; omega, by simp only; omega⟩
   obtain ⟨i, hi⟩ := List.getElem?_of_mem hu
   have hi : us[i]? = some u := hi
   have hlen : us.length = l.un := HLEN.out
   have := HE.out i u (by have := (List.getElem?_eq_some_iff.1 hi).1; omega) hi
   omega
end Go.Proofs.YtmpedblelnpjdaaGreatDoor

end
