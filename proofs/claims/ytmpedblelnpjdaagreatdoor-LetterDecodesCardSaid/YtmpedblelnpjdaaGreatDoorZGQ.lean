/- GQ: CdY CdZ CdZA -/
import Derived.Test.YtmpedblelnpjdaaGreatDoorZGO
import Derived.Test.YtmpedblelnpjdaaGreatDoorZTq
/- conf.Put; a letter's configuration: put. -/
namespace Go.Proofs.YtmpedblelnpjdaaGreatDoor
open Go.RowKit
set_option linter.unusedSimpArgs false
set_option linter.unusedVariables false
set_option maxHeartbeats 8000000
set_option maxRecDepth 100000
def oneB (b : Bool) : Nat := if b then 1 else 0
def nodesB (l : List Int) : List Int := l.flatMap (fun n => big n.toNat 1)
def confB (x : Cf) : List Int := big x.ch.toNat 1 ++ big x.ep 8 ++ big (oneB x.fr) 1 ++ big x.jn.toNat 1 ++ big x.len 1 ++ nodesB x.zs
theorem nodesB_len (l : List Int) : (nodesB l).length = l.length := by
 unfold nodesB
 induction l with
 | nil => rfl
 | cons a l ih => rw [List.flatMap_cons, List.length_append, big_len, ih, List.length_cons]; omega
theorem confB_len (x : Cf) : (confB x).length = 12 + x.zs.length := by simp [confB, big_len, nodesB_len]; omega
theorem Cf.bounds {x : Cf} (h : x.right = true) : (0 ≤ x.ch ∧ x.ch < 4) ∧ (0 ≤ x.jn ∧ x.jn ≤ 24) ∧ (1 ≤ x.len ∧ x.len ≤ 5) ∧ ∀ z ∈ x.zs, 1 ≤ z ∧ z ≤ 24 := by
 unfold Cf.right at h
 rw [Bool.and_eq_true, decide_eq_true_eq, unlikeB_iff] at h
 obtain ⟨⟨h1, h2, h3, h4⟩, hu⟩ := h
 have all : ∀ z ∈ x.stands, 1 ≤ z ∧ z ≤ 24 := fun z hz => by
  obtain ⟨k, hk⟩ := List.getElem?_of_mem hz
  exact (nodeB_iff z).1 (hu k z hk).1
 refine ⟨h1, ?_, h3, fun z hz => all z (by unfold Cf.stands; exact List.mem_append_left _ hz)⟩
 by_cases hj : x.jn = 0
 ·omega
 ·have := all x.jn (by unfold Cf.stands; rw [if_neg hj]; simp)
  omega
theorem boolOut_ok (g : Nat) (v : Value) (l : List Int) (b : Bool) (w : World) (h : OutAt w g v ⟨l, 16384, 0⟩) (hm : l.length + 1 ≤ 16384) :
  Calls Tryz.prog 308 #[.pointer (some ⟨g, 0, none⟩), .bool b] w fun e w' => e = .returned (.tuple #[]) ∧ ∃ v', OutAt w' g v' ⟨l ++ big (oneB b) 1, 16384, 0⟩ ∧ OutStep w w' g v v' := by
 refine (putBool_any g v ⟨l, 16384, 0⟩ b w h (by simp only; omega)).mono ?_
 rintro e w' ⟨he, v', h1, h2⟩
 refine ⟨he, v', ?_, h2⟩
 have : (⟨l, 16384, 0⟩ : FO).bool b = ⟨l ++ big (oneB b) 1, 16384, 0⟩ := by
  cases b
  ·show (⟨l, 16384, 0⟩ : FO).num 0 1 = _
   rw [FO.num, (knownB_iff (1 : Int)).2 (by omega), if_pos rfl, show fitsB 0 (1 : Int).toNat = true from rfl, if_pos rfl, FO.put, if_pos rfl, if_neg (by simp only [big_len]; simp; omega)]
   rfl
  ·show (⟨l, 16384, 0⟩ : FO).num 1 1 = _
   rw [FO.num, (knownB_iff (1 : Int)).2 (by omega), if_pos rfl, show fitsB 1 (1 : Int).toNat = true from rfl, if_pos rfl, FO.put, if_pos rfl, if_neg (by simp only [big_len]; simp; omega)]
   rfl
 rwa [this] at h1
structure PnI (x : Cf) (bs : List Int) (W : World) (B g gB : Nat) (v : Value) (j : Nat) (v' : Value) (wr : World) : Prop where
 out : OutAt wr g v' ⟨bs ++ nodesB (x.zs.take j), 16384, 0⟩
 st : OutStep W wr g v v'
 bel : Below B W wr
theorem confPut_ok (x : Cf) (B g : Nat) (v : Value) (bs : List Int) (w : World) (h : CfIn w B x) (hB : B ≤ w.heap.size) (hBg : B ≤ g) (hr : x.right = true) (he : x.ep < 18446744073709551616) (ho : OutAt w g v ⟨bs, 16384, 0⟩) (hl : bs.length + (confB x).length ≤ 16384) :
  Calls Tryz.prog 270 #[.pointer (some ⟨g, 0, none⟩), x.agg] w fun r w' => r = .returned (.int .i64 0) ∧ ∃ v', OutAt w' g v' ⟨bs ++ confB x, 16384, 0⟩ ∧ OutStep w w' g v v' := by
 obtain ⟨hch, hjn, hlen, hzs⟩ := Cf.bounds hr
 rw [confB_len, h.len_eq] at hl
 have HZL := Lib.hid h.len_eq
 obtain ⟨W0, hW0⟩ : ∃ W0, W0 = w.alloc (.cells #[.int .i64 x.ch, .int .u64 x.ep, .slice x.A x.len x.cap, .bool x.fr, .int .i64 x.jn] 33) := ⟨_, rfl⟩
 have hb0 : Below w.heap.size w W0 := by rw [hW0]; exact (Below.refl _ _).alloc (Nat.le_refl _) _
 have BK : Hid (Blk W0 w.heap.size 33 #[.int .i64 x.ch, .int .u64 x.ep, .slice x.A x.len x.cap, .bool x.fr, .int .i64 x.jn]) := Lib.hid (by rw [hW0]; exact Blk.new _ _ _)
 have RR := right_any x B W0 (h.below (hb0.mono hB)) (Nat.le_trans hB hb0.size)
 rw [hr] at RR
 have RR := Lib.hid RR
 have HRD := Lib.hid h.rd
 have ST : Hid (OutStep w W0 g v v) := Lib.hid (OutStep.pre hb0 (OutStep.refl _ _ _))
 have BL : Hid (Below B w W0) := Lib.hid (hb0.mono hB)
 have O := Lib.hid (ho.below hb0)
 have HW := Lib.hid hW0
 have HZ := Lib.hid hzs
 have f0 : IntKind.u64.wrap x.ch = x.ch := u64_keep (by omega)
 have f4 : IntKind.u64.wrap x.jn = x.jn := u64_keep (by omega)
 have f2 : IntKind.u64.wrap (x.len : Int) = (x.len : Int) := u64_keep (by omega)
 clear hb0 hW0 ho h hr hzs
 have x0 : W0.cell? ⟨w.heap.size, 0, none⟩ = some (.int .i64 x.ch) := BK.out.cell 0
 have x1 : W0.cell? ⟨w.heap.size, 1, none⟩ = some (.int .u64 x.ep) := BK.out.cell 1
 have x2 : W0.cell? ⟨w.heap.size, 2, none⟩ = some (.slice x.A x.len x.cap) := BK.out.cell 2
 have x3 : W0.cell? ⟨w.heap.size, 3, none⟩ = some (.bool x.fr) := BK.out.cell 3
 have x4 : W0.cell? ⟨w.heap.size, 4, none⟩ = some (.int .i64 x.jn) := BK.out.cell 4
 have hl0 := BK.out.lt
 show Calls Tryz.prog 270 #[.pointer (some ⟨g, 0, none⟩), .agg #[.int .i64 x.ch, .int .u64 x.ep, .slice x.A x.len x.cap, .bool x.fr, .int .i64 x.jn]] w _
 go_enter Tryz.func270, Tryz.ntmps270
 go_upto_region 1 with (fail)
 rw [← HW.out]
 go_wp2_with (fail)
 refine RR.out.mono ?_
 rintro r w1 ⟨rfl, h1⟩
 replace BK := Lib.hid (BK.out.below h1 hl0)
 replace ST := Lib.hid (ST.out.trans (OutStep.pre h1 (OutStep.refl _ _ _)))
 replace BL := Lib.hid (BL.out.trans (h1.mono (Nat.le_trans hB (Nat.le_of_lt hl0))))
 replace O := Lib.hid (O.out.below h1)
 clear h1 x0 x1 x2 x3 x4 hl0 RR HW
 obtain ⟨x0, x1, x2, x3, x4⟩ := cf_cells (x := x) BK.out; have hl0 := BK.out.lt
 go_wp2_with (fail)
 refine (putNum_ok g _ (bs) 16384 x.ch x.ch.toNat 1 (by omega) _ (by omega) (by omega) (by omega) O.out (by first | omega | (simp only [List.length_append, big_len]; omega)) (by first | omega | (simp only [List.length_append, big_len]; omega))).mono ?_
 rintro e _ ⟨rfl, v1, p1, s1⟩
 replace BK := Lib.hid (s1.typ O.out BK.out (by decide) (by decide)); replace ST := Lib.hid (ST.out.trans s1); replace BL := Lib.hid (BL.out.trans (s1.bel O.out hBg)); replace O := Lib.hid p1; clear p1 s1 x0 x1 x2 x3 x4 hl0
 obtain ⟨x0, x1, x2, x3, x4⟩ := cf_cells (x := x) BK.out; have hl0 := BK.out.lt
 go_wp2_with (fail)
 refine (putNum_ok g _ (bs ++ big x.ch.toNat 1) 16384 (x.ep : Int) x.ep 8 rfl _ (by omega) (by omega) (by omega) O.out (by first | omega | (simp only [List.length_append, big_len]; omega)) (by first | omega | (simp only [List.length_append, big_len]; omega))).mono ?_
 rintro e _ ⟨rfl, v2, p1, s1⟩
 replace BK := Lib.hid (s1.typ O.out BK.out (by decide) (by decide)); replace ST := Lib.hid (ST.out.trans s1); replace BL := Lib.hid (BL.out.trans (s1.bel O.out hBg)); replace O := Lib.hid p1; clear p1 s1 x0 x1 x2 x3 x4 hl0
 obtain ⟨x0, x1, x2, x3, x4⟩ := cf_cells (x := x) BK.out; have hl0 := BK.out.lt
 go_wp2_with (fail)
 refine (boolOut_ok g _ (bs ++ big x.ch.toNat 1 ++ big x.ep 8) x.fr _ O.out (by first | omega | (simp only [List.length_append, big_len]; omega))).mono ?_
 rintro e _ ⟨rfl, v3, p1, s1⟩
 replace BK := Lib.hid (s1.typ O.out BK.out (by decide) (by decide)); replace ST := Lib.hid (ST.out.trans s1); replace BL := Lib.hid (BL.out.trans (s1.bel O.out hBg)); replace O := Lib.hid p1; clear p1 s1 x0 x1 x2 x3 x4 hl0
 obtain ⟨x0, x1, x2, x3, x4⟩ := cf_cells (x := x) BK.out; have hl0 := BK.out.lt
 go_wp2_with (fail)
 refine (putNum_ok g _ (bs ++ big x.ch.toNat 1 ++ big x.ep 8 ++ big (oneB x.fr) 1) 16384 x.jn x.jn.toNat 1 (by omega) _ (by omega) (by omega) (by omega) O.out (by first | omega | (simp only [List.length_append, big_len]; omega)) (by first | omega | (simp only [List.length_append, big_len]; omega))).mono ?_
 rintro e _ ⟨rfl, v4, p1, s1⟩
 replace BK := Lib.hid (s1.typ O.out BK.out (by decide) (by decide)); replace ST := Lib.hid (ST.out.trans s1); replace BL := Lib.hid (BL.out.trans (s1.bel O.out hBg)); replace O := Lib.hid p1; clear p1 s1 x0 x1 x2 x3 x4 hl0
 obtain ⟨x0, x1, x2, x3, x4⟩ := cf_cells (x := x) BK.out; have hl0 := BK.out.lt
 go_wp2_with (fail)
 refine (putNum_ok g _ (bs ++ big x.ch.toNat 1 ++ big x.ep 8 ++ big (oneB x.fr) 1 ++ big x.jn.toNat 1) 16384 (x.len : Int) x.len 1 rfl _ (by omega) (by omega) (by omega) O.out (by first | omega | (simp only [List.length_append, big_len]; omega)) (by first | omega | (simp only [List.length_append, big_len]; omega))).mono ?_
 rintro e _ ⟨rfl, v5, p1, s1⟩
 replace BK := Lib.hid (s1.typ O.out BK.out (by decide) (by decide)); replace ST := Lib.hid (ST.out.trans s1); replace BL := Lib.hid (BL.out.trans (s1.bel O.out hBg)); replace O := Lib.hid p1; clear p1 s1 x0 x1 x2 x3 x4 hl0
 obtain ⟨x0, x1, x2, x3, x4⟩ := cf_cells (x := x) BK.out; have hl0 := BK.out.lt
 obtain ⟨cs, hcs⟩ : ∃ cs, cs = bs ++ big x.ch.toNat 1 ++ big x.ep 8 ++ big (oneB x.fr) 1 ++ big x.jn.toNat 1 ++ big x.len 1 := ⟨_, rfl⟩
 have HCL : Hid (cs.length + x.len ≤ 16384) := Lib.hid (by rw [hcs]; simp only [List.length_append, big_len]; omega)
 rw [← hcs] at O
 have HCS := Lib.hid hcs
 clear hcs
 have E0 := Lib.hid (PnI.mk (x := x) (bs := cs) (gB := w.heap.size) (j := 0) (by simpa [nodesB] using O.out) ST.out BL.out)
 clear O ST BL BK
 go_wp2_with (fail)
 go_loopw [37] (fun iv wr => ∃ (j : Nat) (v' : Value), j ≤ x.len ∧ iv = .int .i64 j ∧ Hid (PnI x cs w B g w.heap.size v j v' wr)) (fun iv _ => x.len - (intOf iv).toNat)
 case atStart => exact ⟨0, _, Nat.zero_le _, rfl, E0⟩
 case round =>
  clear E0
  obtain ⟨j, v', hj, rfl, HE⟩ := hrel
  by_cases hlt : j < x.len
  ·have hltZ : (j : Int) < x.len := by omega
   obtain ⟨ad, z, e1, hb, hz, hcell⟩ := reads_int (HRD.out.below HE.out.bel) hlt
   have hzr := HZ.out z (List.mem_of_getElem? hz)
   have fz : IntKind.u64.wrap z = z := u64_keep (by omega)
   have HZJ := Lib.hid hz
   have hbw : ad.block < wr.heap.size := Nat.lt_of_lt_of_le hb (Nat.le_trans hB HE.out.st.2.size)
   have hlj : (cs ++ nodesB (x.zs.take j)).length + 1 ≤ 16384 := by
    have h1 := HCL.out
    simp only [List.length_append, nodesB_len, List.length_take]; omega
   have HP := Lib.hid (putNum_ok g v' (cs ++ nodesB (x.zs.take j)) 16384 z z.toNat 1 (by omega) wr (by omega) (by omega) (by omega) HE.out.out (by omega) (by omega))
   clear hz hb hlj
   rw [e1]
   go_wp2_with (fail)
   refine HP.out.mono ?_
   rintro e w4 ⟨rfl, v4, q1, q2⟩
   have HE4 : Hid (PnI x cs w B g w.heap.size v (j + 1) v4 w4) := Lib.hid ⟨by
    rw [List.take_add_one, HZJ.out]
    simpa [nodesB, List.flatMap_append, List.append_assoc] using q1, HE.out.st.trans q2, HE.out.bel.trans (q2.bel HE.out.out hBg)⟩
   clear q1 q2 HP HE
   go_wp2_with (fail)
   go_roundw
   case rel => exact ⟨j + 1, v4, hlt, by go_num, HE4⟩
   case measure => simp [intOf]; omega
  ·obtain rfl : j = x.len := by omega
   have ho := HE.out.out
   rw [List.take_of_length_le (by have := HZL.out; omega), HCS.out] at ho
   have HO := Lib.hid ho
   have HS := Lib.hid HE.out.st
   clear ho HE
   go_wp2_with (fail)
   go_ret
   exact ⟨rfl, v', by simpa [confB, List.append_assoc] using HO.out, HS.out⟩
theorem put11_any (x : LV) (B g : Nat) (v : Value) (bs : List Int) (W : World) (h : LIn W B x) (hB : B ≤ W.heap.size) (hBg : B ≤ g) (hr : x.conf.right = true) (he : 0 ≤ x.l.fe ∧ x.l.fe < 18446744073709551616) (ho : OutAt W g v ⟨bs, 16384, 0⟩) (hl : bs.length + (confB x.conf).length ≤ 16384) :
  Calls Tryz.prog 269 #[.pointer (some ⟨g, 0, none⟩), x.l.agg] W (PutP g v bs (confB x.conf) W) := by
 obtain ⟨W0, hW0, hb0, hbk⟩ := box_all x W
 have l1 := hbk.lt
 have x0 := (hbk.cell 17).trans (show _ = some (.int .i64 x.l.fc) from rfl)
 have x1 := (hbk.cell 18).trans (show _ = some (.int .u64 x.l.fe) from rfl)
 have x2 := (hbk.cell 19).trans (show _ = some (.slice x.l.fA x.l.fn x.l.fp) from rfl)
 have x3 := (hbk.cell 20).trans (show _ = some (.bool x.l.ff) from rfl)
 have x4 := (hbk.cell 21).trans (show _ = some (.int .i64 x.l.fj) from rfl)
 have C := confPut_ok x.conf B g v bs W0 (h.below (hb0.mono hB)).conf (Nat.le_trans hB hb0.size) hBg hr (by show x.l.fe.toNat < _; omega) (ho.below hb0) hl
 have ea : x.conf.agg = .agg #[.int .i64 x.l.fc, .int .u64 x.l.fe, .slice x.l.fA x.l.fn x.l.fp, .bool x.l.ff, .int .i64 x.l.fj] := by
  have : ((x.l.fe.toNat : Nat) : Int) = x.l.fe := by omega
  unfold Cf.agg LV.conf
  simp only [this]
 rw [ea] at C
 have C := Lib.hid C
 have HB := Lib.hid hb0
 have HW := Lib.hid hW0
 clear hb0 hW0 hbk ho hr he h ea hl
 generalize confB x.conf = pb at *
 show Calls Tryz.prog 269 #[.pointer (some ⟨g, 0, none⟩), .agg #[.int .i64 x.l.kd, .int .i64 x.l.fr, .int .i64 x.l.tw, .int .i64 x.l.ch, .int .u64 x.l.ep, .int .u64 x.l.bl, .int .u64 x.l.nu, .int .u64 x.l.sq, .int .u64 x.l.dz, .int .u64 x.l.vr, .int .i64 x.l.sl, .int .u32 x.l.ky, .int .i64 x.l.cd, .int .i64 x.l.qk, .int .i64 x.l.qc, .int .u64 x.l.qe, .int .i64 x.l.qn, .int .i64 x.l.fc, .int .u64 x.l.fe, .slice x.l.fA x.l.fn x.l.fp, .bool x.l.ff, .int .i64 x.l.fj, .slice x.l.vA x.l.vn x.l.vp, .slice x.l.uA x.l.un x.l.up, .slice x.l.dA x.l.dn x.l.dp]] W _
 go_enter Tryz.func269, Tryz.ntmps269
 exact rp79
end Go.Proofs.YtmpedblelnpjdaaGreatDoor
/- A letter's configuration as a part of the table. -/
namespace Go.Proofs.YtmpedblelnpjdaaGreatDoor
open Go.RowKit
set_option linter.unusedSimpArgs false
set_option linter.unusedVariables false
set_option maxHeartbeats 4000000
set_option maxRecDepth 100000
theorem putC11 (x : LV) (B : Nat) (hr : x.conf.right = true) (he : 0 ≤ x.l.fe ∧ x.l.fe < 18446744073709551616) : PutC B (fun W => LIn W B x ∧ B ≤ W.heap.size) x.l.agg 11 (confB x.conf) := by
 intro p W0 hp
 obtain rfl := hp
 exact ⟨269, rfl, enters_of Tryz.func269 (by kernel_rfl) rfl, fun g v bs W hpm hg hB ho hl => put11_any x B g v bs W hg.1 hg.2 hB hr he ho hl⟩
def partB (x : LV) (i : Nat) : List Int := match i with
 | 0 => big x.l.ch.toNat 1
 | 1 => big x.l.ep.toNat 8
 | 2 => big x.l.bl.toNat 8
 | 3 => big x.l.sq.toNat 8
 | 4 => big x.l.dz.toNat 8
 | 5 => big x.l.sl.toNat 2
 | 6 => big x.l.nu.toNat 8
 | 7 => big x.l.cd.toNat 1
 | 8 => big x.l.ky.toNat 4
 | 9 => big x.l.vr.toNat 8
 | 10 => cmdB x.l.qk x.l.qc x.l.qe x.l.qn
 | 11 => confB x.conf
 | 12 => votesPB x.vs
 | 13 => updsPB x.us
 | 14 => big x.ds.length 2 ++ x.ds
 | _ => []
def LV.putP (x : LV) (i : Nat) : Prop := match i with
 | 0 => 0 ≤ x.l.ch ∧ x.l.ch < 256
 | 1 => 0 ≤ x.l.ep ∧ x.l.ep < 18446744073709551616
 | 2 => 0 ≤ x.l.bl ∧ x.l.bl < 18446744073709551616
 | 3 => 0 ≤ x.l.sq ∧ x.l.sq < 18446744073709551616
 | 4 => 0 ≤ x.l.dz ∧ x.l.dz < 18446744073709551616
 | 5 => 0 ≤ x.l.sl ∧ x.l.sl < 65536
 | 6 => 0 ≤ x.l.nu ∧ x.l.nu < 18446744073709551616
 | 7 => 0 ≤ x.l.cd ∧ x.l.cd < 256
 | 8 => 0 ≤ x.l.ky ∧ x.l.ky < 4294967296
 | 9 => 0 ≤ x.l.vr ∧ x.l.vr < 18446744073709551616
 | 10 => cmdE x.l.qk x.l.qc x.l.qe x.l.qn = 0 ∧ 0 ≤ x.l.qe ∧ x.l.qe < 18446744073709551616
 | 11 => x.conf.right = true ∧ 0 ≤ x.l.fe ∧ x.l.fe < 18446744073709551616
 | 12 => (∀ u ∈ x.vs, u.put) ∧ x.l.vn ≤ 65535
 | 13 => (∀ u ∈ x.us, u.put) ∧ x.l.un ≤ 255
 | 14 => x.l.dn ≤ 2048
 | _ => False
theorem putC_any (x : LV) (B i : Nat) (h : x.putP i) : PutC B (fun W => LIn W B x ∧ B ≤ W.heap.size) x.l.agg i (partB x i) := by
 match i, h with
 | 0, h => exact putC0 x h B _
 | 1, h => exact putC1 x h B _
 | 2, h => exact putC2 x h B _
 | 3, h => exact putC3 x h B _
 | 4, h => exact putC4 x h B _
 | 5, h => exact putC5 x h B _
 | 6, h => exact putC6 x h B _
 | 7, h => exact putC7 x h B _
 | 8, h => exact putC8 x h B _
 | 9, h => exact putC9 x h B _
 | 10, h => exact putC10 x h.1 h.2 B _
 | 11, h => exact putC11 x B h.1 h.2
 | 12, h => exact putC12 x B h.1 h.2
 | 13, h => exact putC13 x B h.1 h.2
 | 14, h => exact putC14 x B h
 | (_ + 15), h => exact h.elim
open Classical in
theorem putP12 (x : LV) (w : World) (B : Nat) (h : LIn w B x) (hf : fineB x 12 = true) : x.putP 12 := by
 have e : votesB x.vs = true := hf
 unfold votesB at e
 rw [decide_eq_true_eq] at e
 refine ⟨fun u hu => ?_, by have := h.vl; omega⟩
 obtain ⟨j, hj⟩ := List.getElem?_of_mem hu
 obtain ⟨h1, _, _, h4⟩ := e.1 j u hj
 have W := h.vw u hu
 have w2 := W.bl
 have w5 := W.qe
 exact ⟨by omega, by omega, by omega, h4⟩
open Classical in
theorem putP13 (x : LV) (w : World) (B : Nat) (h : LIn w B x) (hf : fineB x 13 = true) : x.putP 13 := by
 have e : updsB x.l.kd x.us = true := hf
 unfold updsB upsOk at e
 rw [Bool.and_eq_true, decide_eq_true_eq, List.all_eq_true] at e
 refine ⟨fun u hu => ?_, by have := h.ul; have := e.1.2; omega⟩
 have q := e.2 u hu
 unfold upOkB at q
 rw [decide_eq_true_eq] at q
 obtain ⟨_, h1, h2, _, h4, h5⟩ := q
 have := (h.up.mem u hu).len
 exact ⟨by omega, by omega, by omega⟩
theorem putP_of (x : LV) (w : World) (B i : Nat) (h : LIn w B x) (hi : i < 15) (hf : fineB x i = true) : x.putP i := by
 have W := h.wf
 match i, hf with
 | 0, hf => simp only [fineB, decide_eq_true_eq] at hf; simp only [LV.putP]; omega
 | 1, hf => have := W.ep; simp only [LV.putP]; omega
 | 2, hf => have := W.bl; simp only [LV.putP]; omega
 | 3, hf => have := W.sq; simp only [LV.putP]; omega
 | 4, hf => have := W.dz; simp only [LV.putP]; omega
 | 5, hf => simp only [fineB, decide_eq_true_eq] at hf; simp only [LV.putP]; omega
 | 6, hf => have := W.nu; simp only [LV.putP]; omega
 | 7, hf => simp only [fineB, decide_eq_true_eq] at hf; simp only [LV.putP]; omega
 | 8, hf => have := W.ky; simp only [LV.putP]; omega
 | 9, hf => have := W.vr; simp only [LV.putP]; omega
 | 10, hf => have := W.qe; simp only [fineB, decide_eq_true_eq] at hf; simp only [LV.putP]; exact ⟨hf, by omega, by omega⟩
 | 11, hf => have := W.fe; exact ⟨hf, by omega, by omega⟩
 | 12, hf => exact putP12 x w B h hf
 | 13, hf => exact putP13 x w B h hf
 | 14, hf => simp only [fineB, decide_eq_true_eq] at hf; simp only [LV.putP]; split at hf <;> omega
 | (n + 15), _ => omega
theorem bytes_flat {α : Type} (f : α → List Int) (l : List α) (h : ∀ a ∈ l, bytesB (f a)) : bytesB (l.flatMap f) := fun z hz => by
 obtain ⟨a, ha, hz⟩ := List.mem_flatMap.1 hz
 exact h a ha z hz
theorem cmdB_bytes (k c e n : Int) : bytesB (cmdB k c e n) := bytesB_app (bytesB_app (bytesB_app (big_bytes _ _) (big_bytes _ _)) (big_bytes _ _)) (big_bytes _ _)
theorem partB_bytes (x : LV) (w : World) (B i : Nat) (h : LIn w B x) : bytesB (partB x i) := by
 match i with
 | 0 => exact big_bytes _ _
 | 1 => exact big_bytes _ _
 | 2 => exact big_bytes _ _
 | 3 => exact big_bytes _ _
 | 4 => exact big_bytes _ _
 | 5 => exact big_bytes _ _
 | 6 => exact big_bytes _ _
 | 7 => exact big_bytes _ _
 | 8 => exact big_bytes _ _
 | 9 => exact big_bytes _ _
 | 10 => exact cmdB_bytes _ _ _ _
 | 11 => exact bytesB_app (bytesB_app (bytesB_app (bytesB_app (bytesB_app (big_bytes _ _) (big_bytes _ _)) (big_bytes _ _)) (big_bytes _ _)) (big_bytes _ _)) (bytes_flat _ _ (fun n _ => big_bytes _ _))
 | 12 => exact bytesB_app (big_bytes _ _) (bytes_flat _ _ (fun u _ => bytesB_app (bytesB_app (big_bytes _ _) (big_bytes _ _)) (cmdB_bytes _ _ _ _)))
 | 13 => exact bytesB_app (big_bytes _ _) (bytes_flat _ _ (fun u hu => upB_bytes u (fun z hz => by have := (h.up.mem u hu).wf.bs z hz; omega)))
 | 14 => exact bytesB_app (big_bytes _ _) h.by_
 | (_ + 15) => exact bytesB_nil
theorem encode_any (x : LV) (w : World) (hKW : ∀ W, Below w.heap.size w W → KindsAt W) (h : LIn w w.heap.size x) (hn : x.near) (h0 : chkX x = 0) (c gt : Nat) (d : Bool) (cx cy : Int) (hcd : Cd w c gt d cx cy)
  (hlen : 4 + ((partsI x.l.kd.toNat).flatMap (partB x)).length ≤ 16384) :
  Calls Tryz.prog 12 #[.pointer (some ⟨c, 0, none⟩), x.l.agg] w fun e w' => ∃ v, e = .returned (.tuple #[v, .int .i64 0]) ∧ w'.ownsRow w.heap.size 5 1 v (encB x.l.kd.toNat (bodyB x.l (partsI x.l.kd.toNat) (partB x))).length ((bI (encB x.l.kd.toNat (bodyB x.l (partsI x.l.kd.toNat) (partB x)))).map (Value.int .u8)) ∧ (∃ d', Cd w' c gt d' cx cy) ∧ Chg w w' (fun q => q = gt) := by
 have h1 := h0
 unfold chkX at h1
 split at h1
 ·omega
 ·rename_i hk
  split at h1
  ·rename_i hh
   obtain ⟨ha, hb, _, hf⟩ := hh
   have hf := List.all_eq_true.1 hf
   refine encode_of x.l x.l.kd.toNat (by omega) (by omega) (by omega) (addrB_lt ha) (addrB_lt hb) (fun W => LIn W w.heap.size x ∧ w.heap.size ≤ W.heap.size) (partB x) w hKW (fun W hW => ⟨h.below hW, hW.size⟩) c gt d cx cy hcd
    (fun W hW => ?_) (fun i hi => putC_any x _ i (putP_of x w _ i h (partsI_lt _ (by omega) i hi) (hf i hi))) hlen (bytes_flat _ _ (fun i _ => partB_bytes x w _ i h)) (partsI_len _ (by omega))
   have := check_any x w.heap.size W (hKW W hW) (h.below hW) hW.size hn
   rwa [h0] at this
  ·omega
end Go.Proofs.YtmpedblelnpjdaaGreatDoor
/- The room of a right letter's bytes. -/
namespace Go.Proofs.YtmpedblelnpjdaaGreatDoor
open Go.RowKit
set_option linter.unusedSimpArgs false
set_option linter.unusedVariables false
set_option maxRecDepth 100000
def bndL (i : Nat) : Nat := if i = 10 then 11 else if i = 11 then 17 else if i = 12 then 10754 else if i = 13 then 8361 else if i = 14 then 2050 else 8
theorem bndL_ok : ∀ k, k < 21 → 4 + ((partsI k).map bndL).sum ≤ 16384 := by decide +kernel
theorem flat_le {α : Type} (f : α → List Int) (b : α → Nat) (l : List α) (h : ∀ a ∈ l, (f a).length ≤ b a) : (l.flatMap f).length ≤ (l.map b).sum := by
 induction l with
 | nil => simp
 | cons a l ih =>
  rw [List.flatMap_cons, List.length_append, List.map_cons, List.sum_cons]
  have := h a List.mem_cons_self
  have := ih (fun c hc => h c (List.mem_cons_of_mem _ hc))
  omega
theorem sum_const {α : Type} (l : List α) (c : Nat) : (l.map (fun _ => c)).sum = l.length * c := by
 induction l with
 | nil => simp
 | cons a l ih => rw [List.map_cons, List.sum_cons, ih, List.length_cons, Nat.succ_mul]; omega
open Classical in
theorem partB_le (x : LV) (w : World) (B i : Nat) (h : LIn w B x) (hi : i < 15) (hf : fineB x i = true) : (partB x i).length ≤ bndL i := by
 match i, hf with
 | 0, _ => simp only [partB, big_len]; decide
 | 1, _ => simp only [partB, big_len]; decide
 | 2, _ => simp only [partB, big_len]; decide
 | 3, _ => simp only [partB, big_len]; decide
 | 4, _ => simp only [partB, big_len]; decide
 | 5, _ => simp only [partB, big_len]; decide
 | 6, _ => simp only [partB, big_len]; decide
 | 7, _ => simp only [partB, big_len]; decide
 | 8, _ => simp only [partB, big_len]; decide
 | 9, _ => simp only [partB, big_len]; decide
 | 10, _ => simp only [partB, cmdB_len]; decide
 | 11, hf =>
  have q := (Cf.bounds (x := x.conf) hf).2.2.1
  have n1 : x.ns.length = x.l.fn := h.nl
  have e : x.conf.len = x.l.fn := rfl
  have e2 : x.conf.zs = x.ns := rfl
  simp only [partB, confB_len, e2]
  show _ ≤ 17
  omega
 | 12, hf =>
  have e : votesB x.vs = true := hf
  unfold votesB at e
  rw [decide_eq_true_eq] at e
  have := e.2
  simp only [partB, votesPB, List.length_append, big_len, flatVt_len]
  show _ ≤ 10754
  omega
 | 13, hf =>
  have e : updsB x.l.kd x.us = true := hf
  unfold updsB upsOk at e
  rw [Bool.and_eq_true, decide_eq_true_eq, List.all_eq_true] at e
  have q : (x.us.flatMap upB).length ≤ (x.us.map (fun _ => 2080)).sum := flat_le upB (fun _ => 2080) _ (fun u hu => by
   have q := e.2 u hu
   unfold upOkB at q
   rw [decide_eq_true_eq] at q
   obtain ⟨_, _, _, _, _, h5⟩ := q
   have := (h.up.mem u hu).len
   rw [upB_len]; omega)
  rw [sum_const] at q
  have := e.1.2
  simp only [partB, updsPB, List.length_append, big_len]
  show _ ≤ 8361
  omega
 | 14, hf =>
  simp only [fineB, decide_eq_true_eq] at hf
  have := h.dl
  simp only [partB, List.length_append, big_len]
  show _ ≤ 2050
  split at hf <;> omega
 | (n + 15), _ => omega
theorem room_ok (x : LV) (w : World) (B : Nat) (h : LIn w B x) (h0 : chkX x = 0) : 4 + ((partsI x.l.kd.toNat).flatMap (partB x)).length ≤ 16384 := by
 have h1 := h0
 unfold chkX at h1
 split at h1
 ·omega
 ·split at h1
  ·rename_i hk hh
   have hf := List.all_eq_true.1 hh.2.2.2
   have hk20 : x.l.kd.toNat < 21 := by omega
   have := bndL_ok _ hk20
   have := flat_le (partB x) bndL (partsI x.l.kd.toNat) (fun i hi => partB_le x w B i h (partsI_lt _ hk20 i hi) (hf i hi))
   omega
  ·omega
end Go.Proofs.YtmpedblelnpjdaaGreatDoor
