/- Which letters are looked at: catenarylaw14.Far, catenarylaw34.far. -/
import Derived.Test.YtnnegldaekmgbaaGreatDoorZNtT
namespace Go.Proofs.YtnnegldaekmgbaaGreatDoor
open Go.RowKit
set_option linter.unusedSimpArgs false
set_option linter.unusedVariables false
set_option maxHeartbeats 8000000
set_option maxRecDepth 100000

def FarP (x : LV) (w : World) (e : Ending) (w' : World) : Prop := ∃ b : Bool, e = .returned (.bool b) ∧ (b = false → x.near) ∧ Below w.heap.size w w'
theorem far14_any (x : LV) (B : Nat) (w : World) (h : LIn w B x) (hB : B ≤ w.heap.size) : Calls Tryz.prog 20 #[x.l.agg] w (FarP x w) := by
  obtain ⟨W1, hW1, hb1, hbk⟩ := box_all x w
  have c14 := (hbk.cell 19).trans (show _ = some (.slice x.l.fA x.l.fn x.l.fp) from rfl)
  have c22 := (hbk.cell 22).trans (show _ = some (.slice x.l.vA x.l.vn x.l.vp) from rfl)
  have c23 := (hbk.cell 23).trans (show _ = some (.slice x.l.uA x.l.un x.l.up) from rfl)
  have c24 := (hbk.cell 24).trans (show _ = some (.slice x.l.dA x.l.dn x.l.dp) from rfl)
  have hl := hbk.lt
  have HUP := Lib.hid (h.up.below (hb1.mono hB))
  have HLEN := Lib.hid h.ul
  have HC := Lib.hid (And.intro h.cf (And.intro h.cv (And.intro h.cu h.cd)))
  have HB := Lib.hid hb1
  have HW := Lib.hid hW1
  obtain ⟨l, ns, vs, us, ds⟩ := x
  simp only at *
  have HNEAR : Hid (∀ (b : Bool), (b = false → (LV.mk l ns vs us ds).near) → FarP (LV.mk l ns vs us ds) w (.returned (.bool b)) W1) := Lib.hid (fun b hb => ⟨b, rfl, hb, HB.out⟩)
  clear hW1 hb1 hbk h
  generalize FarP (LV.mk l ns vs us ds) w = post at *
  show Calls Tryz.prog 20 #[.agg #[.int .i64 l.kd, .int .i64 l.fr, .int .i64 l.tw, .int .i64 l.ch, .int .u64 l.ep, .int .u64 l.bl, .int .u64 l.nu, .int .u64 l.sq, .int .u64 l.dz, .int .u64 l.vr, .int .i64 l.sl, .int .u32 l.ky, .int .i64 l.cd, .int .i64 l.qk, .int .i64 l.qc, .int .u64 l.qe, .int .i64 l.qn, .int .i64 l.fc, .int .u64 l.fe, .slice l.fA l.fn l.fp, .bool l.ff, .int .i64 l.fj, .slice l.vA l.vn l.vp, .slice l.uA l.un l.up, .slice l.dA l.dn l.dp]] w _
  go_enter Tryz.func20, Tryz.ntmps20
  go_upto_region 1 with (fail)
  have e0 := HW.out
  simp only [Lt.cells] at e0
  rw [← e0]
  clear e0
  go_wp2_with (fail)
  go_loopw [3] (fun iv wr => ∃ j : Nat, j ≤ l.un ∧ j ≤ 9 ∧ iv = .int .i64 j ∧ wr = W1 ∧ Hid (∀ (i : Nat) (u : Up), i < j → us[i]? = some u → u.n ≤ 2100)) (fun iv _ => l.un - (intOf iv).toNat)
  case atStart => exact ⟨0, Nat.zero_le _, Nat.zero_le _, rfl, rfl, Lib.hid (fun i u hi => absurd hi (Nat.not_lt_zero _))⟩
  case round =>
    obtain ⟨j, hj, hj9, rfl, rfl, HE⟩ := hrel
    by_cases hlt : j < l.un
    · have hltZ : (j : Int) < l.un := by omega
      by_cases h9 : j < 9
      · have h9Z : (j : Int) < 9 := by omega
        obtain ⟨b, o, u, e1, hb, huj, hui, p0, p1, p2, p3, p4, p5, p6⟩ := HUP.out.at_ (k := j) hlt
        have HUJ := Lib.hid huj
        clear huj hui p0 p1 p2 p3 p4 p5
        by_cases hn : (2100 : Int) < u.n
        · rw [e1] at c23
          rw [e1]
          go_wp2_with (fail)
          (try go_ret)
          exact HNEAR.out true (fun e => by cases e)
        · rw [e1] at c23
          have HN := Lib.hid hn
          rw [e1]
          go_wp2_with (fail)
          go_roundw
          case rel => exact ⟨j + 1, hlt, h9, by go_num, by trivial, Lib.hid (fun i v hi hv => by
            by_cases hij : i < j
            · exact HE.out i v hij hv
            · obtain rfl : i = j := by omega
              have e : some v = some u := hv.symm.trans HUJ.out
              injection e with e
              subst e
              have := HN.out; omega)⟩
          case measure => simp [intOf]; omega
      · have h8 : (8 : Int) < l.un := by omega
        obtain rfl : j = 9 := by omega
        go_wp2_with (fail)
        (try go_ret)
        exact HNEAR.out true (fun e => by cases e)
    · obtain rfl : j = l.un := by omega
      by_cases a1 : (8 : Int) < l.un
      · go_wp2_with (fail)
        (try go_ret)
        exact HNEAR.out true (fun e => by cases e)
      by_cases a2 : (600 : Int) < l.vn
      · go_wp2_with (fail)
        (try go_ret)
        exact HNEAR.out true (fun e => by cases e)
      by_cases a3 : (2100 : Int) < l.dn
      · go_wp2_with (fail)
        (try go_ret)
        exact HNEAR.out true (fun e => by cases e)
      by_cases a4 : (30 : Int) < l.fn
      · go_wp2_with (fail)
        (try go_ret)
        exact HNEAR.out true (fun e => by cases e)
      have HA := Lib.hid (And.intro a1 (And.intro a2 (And.intro a3 a4)))
      go_wp2_with (fail)
      (try go_ret)
      refine HNEAR.out false (fun _ => ?_)
      obtain ⟨b1, b2, b3, b4⟩ := HA.out
      refine ⟨fun u hu => ?_, by simp only; omega, by simp only; omega, by simp only; omega, by simp only; omega⟩
      obtain ⟨i, hi⟩ := List.getElem?_of_mem hu
      have hi : us[i]? = some u := hi
      have hlen : us.length = l.un := HLEN.out
      have := HE.out i u (by have := (List.getElem?_eq_some_iff.1 hi).1; omega) hi
      omega
/-- letters in memory, however great -/
structure LsI0 (w : World) (B : Nat) (A : Option Addr) (n : Nat) (xs : List LV) : Prop where
  rd : Reads w B 25 A n (xs.flatMap Lt.row)
  mem : ∀ x ∈ xs, LIn w B x
theorem LsI0.below {w w' : World} {B n : Nat} {A : Option Addr} {xs : List LV} (h : LsI0 w B A n xs) (hb : Below B w w') : LsI0 w' B A n xs := ⟨h.rd.below hb, fun x hx => (h.mem x hx).below hb⟩
theorem LsI0.len {w : World} {B n : Nat} {A : Option Addr} {xs : List LV} (h : LsI0 w B A n xs) : xs.length = n := flat_len Lt.row Lt.row_len (by omega) h.rd
theorem LsI0.at_ {w : World} {B n k : Nat} {A : Option Addr} {xs : List LV} (h : LsI0 w B A n xs) (hk : k < n) :
    ∃ b o x, A = some ⟨b, o, none⟩ ∧ b < B ∧ xs[k]? = some x ∧ LIn w B x ∧ w.rangeAt b (o + k * 25) (Lt.row x) := by
  obtain ⟨b, o, x, hA, hb, hx, hc⟩ := reads_at Lt.row Lt.row_len (by omega) h.rd hk
  exact ⟨b, o, x, hA, hb, hx, h.mem x (List.mem_of_getElem? hx), hc⟩
/-- a call on a net -/
structure NOp where
  kd : Int
  A : Option Addr
  nn : Nat
  c : Nat
  i : Int
  bit : Int
  pat : Nat
  dst : Int
def NOp.cells (o : NOp) : Array Value := #[.int .i64 o.kd, .slice o.A o.nn o.c, .int .i64 o.i, .int .i64 o.bit, .int .u32 (o.pat : Int), .int .i64 o.dst]
def NOp.agg (o : NOp) : Value := .agg #[.int .i64 o.kd, .slice o.A o.nn o.c, .int .i64 o.i, .int .i64 o.bit, .int .u32 (o.pat : Int), .int .i64 o.dst]
def FarNP (nn : Nat) (xs : List LV) (w : World) (e : Ending) (w' : World) : Prop := ∃ b : Bool, e = .returned (.bool b) ∧ (b = false → nn ≤ 10 ∧ ∀ x ∈ xs, x.near) ∧ Below w.heap.size w w'
theorem far34_any (o : NOp) (xs : List LV) (B : Nat) (w : World) (h : LsI0 w B o.A o.nn xs) (hB : B ≤ w.heap.size) : Calls Tryz.prog 30 #[o.agg] w (FarNP o.nn xs w) := by
  obtain ⟨kd, A, nn, c, oi, bit, pat, dst⟩ := o
  simp only at *
  obtain ⟨W1, hW1⟩ : ∃ W1, W1 = w.alloc (.cells #[.int .i64 kd, .slice A nn c, .int .i64 oi, .int .i64 bit, .int .u32 (pat : Int), .int .i64 dst] 83) := ⟨_, rfl⟩
  have hb1 : Below w.heap.size w W1 := by rw [hW1]; exact (Below.refl _ _).alloc (Nat.le_refl _) _
  have hbk : Blk W1 w.heap.size 83 #[.int .i64 kd, .slice A nn c, .int .i64 oi, .int .i64 bit, .int .u32 (pat : Int), .int .i64 dst] := by rw [hW1]; exact Blk.new _ _ _
  have HX := Lib.hid (h.below (hb1.mono hB))
  have HL := Lib.hid h.len
  have HB := Lib.hid hb1
  have HW := Lib.hid hW1
  have HBK := Lib.hid hbk
  have hs1 := hb1.size
  clear hW1 hb1 hbk h
  show Calls Tryz.prog 30 #[.agg #[.int .i64 kd, .slice A nn c, .int .i64 oi, .int .i64 bit, .int .u32 (pat : Int), .int .i64 dst]] w _
  go_enter Tryz.func30, Tryz.ntmps30
  go_upto_region 1 with (fail)
  rw [← HW.out]
  go_wp2_with (fail)
  have hl1 := HBK.out.lt
  go_loopw [3] (fun iv wr => ∃ j : Nat, j ≤ nn ∧ j ≤ 12 ∧ iv = .int .i64 j ∧ Hid (Below W1.heap.size W1 wr ∧ ∀ (i : Nat) (x : LV), i < j → xs[i]? = some x → x.near)) (fun iv _ => nn - (intOf iv).toNat)
  case atStart => exact ⟨0, Nat.zero_le _, Nat.zero_le _, rfl, Lib.hid ⟨Below.refl _ _, fun i u hi => absurd hi (Nat.not_lt_zero _)⟩⟩
  case round =>
    obtain ⟨j, hj, hj9, rfl, HE⟩ := hrel
    have hbk2 := HBK.out.below HE.out.1 hl1
    have c1 : wr.cell? ⟨w.heap.size, 1, none⟩ = some (.slice A nn c) := hbk2.cell 1
    have lw := hbk2.lt
    have hsz := HE.out.1.size
    clear hbk2
    by_cases hlt : j < nn
    · have hltZ : (j : Int) < nn := by omega
      by_cases h9 : j < 12
      · have h9Z : (j : Int) < 12 := by omega
        obtain ⟨b, off, x, e1, hb, hxj, hxin, hrg⟩ := (HX.out.below (HE.out.1.mono (by omega))).at_ (k := j) hlt
        have FX := Lib.hid (far14_any x B wr hxin (by omega))
        have HXJ := Lib.hid hxj
        clear hxj hxin
        rw [e1] at c1
        rw [e1]
        go_upto_region 4 with (fail)
        iterate 13 go_step
        refine wpList_load_mid rfl 48 (.tmp 18) rfl b (off + j * 25) rfl (Lt.row x) _ hrg Tryz.underlying48 rfl ltInfo ?_
        rw [show (Lt.row x).toArray = x.l.cells from rfl]
        go_wp2_with (fail)
        refine FX.out.mono ?_
        rintro e wf ⟨b, rfl, hbn, hbf⟩
        have HBF := Lib.hid (HE.out.1.trans (hbf.mono hsz))
        have HBN := Lib.hid hbn
        clear hbn hbf FX c1 hrg
        cases b
        · go_wp2_with (fail)
          go_roundw
          case rel => exact ⟨j + 1, hlt, h9, by go_num, Lib.hid ⟨HBF.out, fun i y hi hy => by
            by_cases hij : i < j
            · exact HE.out.2 i y hij hy
            · obtain rfl : i = j := by omega
              have e : some y = some x := hy.symm.trans HXJ.out
              injection e with e
              subst e
              exact HBN.out (by trivial)⟩⟩
          case measure => simp [intOf]; omega
        · go_wp2_with (fail)
          (try go_ret)
          exact ⟨true, rfl, fun e => (by cases e), HB.out.trans (HBF.out.mono hs1)⟩
      · have h8 : (10 : Int) < nn := by omega
        obtain rfl : j = 12 := by omega
        go_wp2_with (fail)
        (try go_ret)
        exact ⟨true, rfl, fun e => (by cases e), HB.out.trans (HE.out.1.mono hs1)⟩
    · obtain rfl : j = nn := by omega
      by_cases a1 : (10 : Int) < j
      · go_wp2_with (fail)
        (try go_ret)
        exact ⟨true, rfl, fun e => (by cases e), HB.out.trans (HE.out.1.mono hs1)⟩
      · have HA := Lib.hid a1
        go_wp2_with (fail)
        (try go_ret)
        refine ⟨false, rfl, fun _ => ⟨by have := HA.out; omega, fun x hx => ?_⟩, HB.out.trans (HE.out.1.mono hs1)⟩
        obtain ⟨i, hi⟩ := List.getElem?_of_mem hx
        exact HE.out.2 i x (by have := (List.getElem?_eq_some_iff.1 hi).1; have := HL.out; omega) hi
end Go.Proofs.YtnnegldaekmgbaaGreatDoor
