/- LetterTurned: which letters are looked at (catenarylaw10.far). -/
import Derived.Test.YtmpedblelnpjdaaGreatDoorZLtvA
import Derived.Test.YtmpedblelnpjdaaGreatDoorZLtuI
import Derived.Test.YtmpedblelnpjdaaGreatDoorZRckH
namespace Go.Proofs.YtmpedblelnpjdaaGreatDoor
open Go.RowKit
set_option linter.unusedSimpArgs false
set_option linter.unusedVariables false
set_option maxHeartbeats 8000000
set_option maxRecDepth 100000

def FarX (x : LV) (w : World) (e : Ending) (w' : World) : Prop := ∃ b : Bool, e = .returned (.bool b) ∧ (b = false → x.near) ∧ Below w.heap.size w w'
theorem far10_any (x : LV) (B : Nat) (w : World) (h : LIn w B x) (hB : B ≤ w.heap.size) : Calls Tryz.prog 14 #[x.l.agg] w (FarX x w) := by
  obtain ⟨W1, hW1, hb1, hbk⟩ := box_all x w
  have c14 := (hbk.cell 19).trans (show _ = some (.slice x.l.fA x.l.fn x.l.fp) from rfl)
  have c22 := (hbk.cell 22).trans (show _ = some (.slice x.l.vA x.l.vn x.l.vp) from rfl)
  have c23 := (hbk.cell 23).trans (show _ = some (.slice x.l.uA x.l.un x.l.up) from rfl)
  have c24 := (hbk.cell 24).trans (show _ = some (.slice x.l.dA x.l.dn x.l.dp) from rfl)
  have hl := hbk.lt
  have HUP := Lib.hid (h.up.below (hb1.mono hB))
  have HLEN := Lib.hid h.ul
  have HC := Lib.hid (And.intro h.cf (And.intro h.cv (And.intro h.cu h.cd)))
  have HB := Lib.hid hb1
  have HW := Lib.hid hW1
  obtain ⟨l, ns, vs, us, ds⟩ := x
  simp only at *
  have HNEAR : Hid (∀ (b : Bool), (b = false → (LV.mk l ns vs us ds).near) → FarX (LV.mk l ns vs us ds) w (.returned (.bool b)) W1) := Lib.hid (fun b hb => ⟨b, rfl, hb, HB.out⟩)
  clear hW1 hb1 hbk h
  generalize FarX (LV.mk l ns vs us ds) w = post at *
  show Calls Tryz.prog 14 #[.agg #[.int .i64 l.kd, .int .i64 l.fr, .int .i64 l.tw, .int .i64 l.ch, .int .u64 l.ep, .int .u64 l.bl, .int .u64 l.nu, .int .u64 l.sq, .int .u64 l.dz, .int .u64 l.vr, .int .i64 l.sl, .int .u32 l.ky, .int .i64 l.cd, .int .i64 l.qk, .int .i64 l.qc, .int .u64 l.qe, .int .i64 l.qn, .int .i64 l.fc, .int .u64 l.fe, .slice l.fA l.fn l.fp, .bool l.ff, .int .i64 l.fj, .slice l.vA l.vn l.vp, .slice l.uA l.un l.up, .slice l.dA l.dn l.dp]] w _
  go_enter Tryz.func14, Tryz.ntmps14
  go_upto_region 1 with (fail)
  have e0 := HW.out
  simp only [Lt.cells] at e0
  rw [← e0]
  clear e0
  go_wp2_with (fail)
  go_loopw [3] (fun iv wr => ∃ j : Nat, j ≤ l.un ∧ j ≤ 9 ∧ iv = .int .i64 j ∧ wr = W1 ∧ Hid (∀ (i : Nat) (u : Up), i < j → us[i]? = some u → u.n ≤ 2100)) (fun iv _ => l.un - (intOf iv).toNat)
  case atStart => exact ⟨0, Nat.zero_le _, Nat.zero_le _, rfl, rfl, Lib.hid (fun i u hi => absurd hi (Nat.not_lt_zero _))⟩
  case round =>
    obtain ⟨j, hj, hj9, rfl, rfl, HE⟩ := hrel
    by_cases hlt : j < l.un
    · have hltZ : (j : Int) < l.un := by omega
      by_cases h9 : j < 9
      · have h9Z : (j : Int) < 9 := by omega
        obtain ⟨b, o, u, e1, hb, huj, hui, p0, p1, p2, p3, p4, p5, p6⟩ := HUP.out.at_ (k := j) hlt
        have HUJ := Lib.hid huj
        clear huj hui p0 p1 p2 p3 p4 p5
        by_cases hn : (2100 : Int) < u.n
        · rw [e1] at c23
          rw [e1]
          go_wp2_with (fail)
          (try go_ret)
          exact HNEAR.out true (fun e => by cases e)
        · rw [e1] at c23
          have HN := Lib.hid hn
          rw [e1]
          go_wp2_with (fail)
          go_roundw
          case rel => exact ⟨j + 1, hlt, h9, by go_num, by trivial, Lib.hid (fun i v hi hv => by
            by_cases hij : i < j
            · exact HE.out i v hij hv
            · obtain rfl : i = j := by omega
              have e : some v = some u := hv.symm.trans HUJ.out
              injection e with e
              subst e
              have := HN.out; omega)⟩
          case measure => simp [intOf]; omega
      · have h8 : (8 : Int) < l.un := by omega
        obtain rfl : j = 9 := by omega
        go_wp2_with (fail)
        (try go_ret)
        exact HNEAR.out true (fun e => by cases e)
    · obtain rfl : j = l.un := by omega
      by_cases a1 : (8 : Int) < l.un
      · go_wp2_with (fail)
        (try go_ret)
        exact HNEAR.out true (fun e => by cases e)
      by_cases a2 : (600 : Int) < l.vn
      · go_wp2_with (fail)
        (try go_ret)
        exact HNEAR.out true (fun e => by cases e)
      by_cases a3 : (2100 : Int) < l.dn
      · go_wp2_with (fail)
        (try go_ret)
        exact HNEAR.out true (fun e => by cases e)
      by_cases a4 : (30 : Int) < l.fn
      · go_wp2_with (fail)
        (try go_ret)
        exact HNEAR.out true (fun e => by cases e)
      have HA := Lib.hid (And.intro a1 (And.intro a2 (And.intro a3 a4)))
      go_wp2_with (fail)
      (try go_ret)
      refine HNEAR.out false (fun _ => ?_)
      obtain ⟨b1, b2, b3, b4⟩ := HA.out
      refine ⟨fun u hu => ?_, by simp only; omega, by simp only; omega, by simp only; omega, by simp only; omega⟩
      obtain ⟨i, hi⟩ := List.getElem?_of_mem hu
      have hi : us[i]? = some u := hi
      have hlen : us.length = l.un := HLEN.out
      have := HE.out i u (by have := (List.getElem?_eq_some_iff.1 hi).1; omega) hi
      omega
end Go.Proofs.YtmpedblelnpjdaaGreatDoor
