/- GM: CdI CdJ CdL CdM -/
import Derived.Test.YtmpedblelnpjdaaGreatDoorZGK
import Derived.Test.YtmpedblelnpjdaaGreatDoorZTq
/- Commands: which may be, of both (printed by cdgen6.py). -/
namespace Go.Proofs.YtmpedblelnpjdaaGreatDoor
open Go.RowKit
set_option linter.unusedSimpArgs false
set_option linter.unusedVariables false
set_option maxHeartbeats 4000000
set_option maxRecDepth 100000
def cmdE (k c e n : Int) : Int := if k < 0 ∨ 5 ≤ k then 1 else if k = 0 then (if c = 0 ∧ e = 0 ∧ n = 0 then 0 else 4) else if c < 0 ∨ 4 ≤ c ∨ e < 1 ∨ n < 1 ∨ 24 < n then 4 else 0
theorem cmdCheck_any (k c e n : Int) (he : 0 ≤ e) (w : World) :
  Calls Tryz.prog 264 #[.agg #[.int .i64 k, .int .i64 c, .int .u64 e, .int .i64 n]] w fun r w' => r = .returned (.int .i64 (cmdE k c e n)) ∧ Below w.heap.size w w' := by
 obtain ⟨W0, hW0⟩ : ∃ W0, W0 = w.alloc (.cells #[.int .i64 k, .int .i64 c, .int .u64 e, .int .i64 n] 30) := ⟨_, rfl⟩
 have hb0 : Below w.heap.size w W0 := by rw [hW0]; exact (Below.refl _ _).alloc (Nat.le_refl _) _
 have hbk : Blk W0 w.heap.size 30 #[.int .i64 k, .int .i64 c, .int .u64 e, .int .i64 n] := by rw [hW0]; exact Blk.new _ _ _
 have x0 : W0.cell? ⟨w.heap.size, 0, none⟩ = some (.int .i64 k) := hbk.cell 0
 have x1 : W0.cell? ⟨w.heap.size, 1, none⟩ = some (.int .i64 c) := hbk.cell 1
 have x2 : W0.cell? ⟨w.heap.size, 2, none⟩ = some (.int .u64 e) := hbk.cell 2
 have x3 : W0.cell? ⟨w.heap.size, 3, none⟩ = some (.int .i64 n) := hbk.cell 3
 have hl := hbk.lt
 have hz : ∀ w : World, (Instr.build 30 #[]).run Tryz.prog w = .ok (.agg #[.int .i64 0, .int .i64 0, .int .u64 0, .int .i64 0]) w := fun w => by kernel_rfl
 have HB := Lib.hid hb0
 have HW := Lib.hid hW0
 clear hb0 hW0 hbk
 by_cases a0 : k < 0
 ·have HV : Hid (cmdE k c e n = 1) := Lib.hid (by unfold cmdE; rw [if_pos (by omega)])
  exact rp20
 by_cases a1 : 5 ≤ k
 ·have g : 5 ≤ k := by omega
  have HV : Hid (cmdE k c e n = 1) := Lib.hid (by unfold cmdE; rw [if_pos (by omega)])
  clear g
  exact rp20
 have g : ¬ 5 ≤ k := by omega
 have HA1 := Lib.hid a1
 clear a1
 by_cases a2 : k = 0
 ·rw [a2] at x0
  have HA2 := Lib.hid a2
  clear a2
  by_cases b0 : c = 0
  rotate_left
  ·have e1 : (c == 0) = false := by simpa using b0
   have e2 : (c != 0) = true := by simpa using b0
   have HV : Hid (cmdE k c e n = 4) := Lib.hid (by unfold cmdE; rw [if_neg (by have := HA2.out; omega), if_pos HA2.out, if_neg (by omega)])
   clear b0
   exact rp20
  rw [b0] at x1
  have HC0 := Lib.hid b0
  clear b0
  by_cases b1 : e = 0
  rotate_left
  ·have e1 : (e == 0) = false := by simpa using b1
   have e2 : (e != 0) = true := by simpa using b1
   have HV : Hid (cmdE k c e n = 4) := Lib.hid (by unfold cmdE; rw [if_neg (by have := HA2.out; omega), if_pos HA2.out, if_neg (by omega)])
   clear b1
   exact rp20
  rw [b1] at x2
  have HC1 := Lib.hid b1
  clear b1
  by_cases b2 : n = 0
  rotate_left
  ·have e1 : (n == 0) = false := by simpa using b2
   have e2 : (n != 0) = true := by simpa using b2
   have HV : Hid (cmdE k c e n = 4) := Lib.hid (by unfold cmdE; rw [if_neg (by have := HA2.out; omega), if_pos HA2.out, if_neg (by omega)])
   clear b2
   exact rp20
  rw [b2] at x3
  have HC2 := Lib.hid b2
  clear b2
  have HV : Hid (cmdE k c e n = 0) := Lib.hid (by unfold cmdE; rw [if_neg (by have := HA2.out; omega), if_pos HA2.out, if_pos ⟨HC0.out, HC1.out, HC2.out⟩])
  exact rp20
 have e0 : (k == 0) = false := by simpa using a2
 have e0n : (k != 0) = true := by simpa using a2
 have HA2 := Lib.hid a2
 clear a2
 by_cases d0 : c < 0
 ·exact rp76
 by_cases d1 : 4 ≤ c
 ·have g1 : 4 ≤ c := by omega
  have HV : Hid (cmdE k c e n = 4) := Lib.hid (by unfold cmdE; rw [if_neg (by have := HA1.out; omega), if_neg (by have := HA2.out; omega), if_pos (by omega)])
  clear g1
  exact rp20
 have g1 : ¬ 4 ≤ c := by omega
 have HD1 := Lib.hid d1
 clear d1
 by_cases d2 : e < 1
 ·exact rp76
 have HD2 := Lib.hid d2
 by_cases d3 : n < 1
 ·exact rp76
 by_cases d4 : 24 < n
 ·exact rp76
 have HV : Hid (cmdE k c e n = 0) := Lib.hid (by unfold cmdE; rw [if_neg (by have := HA1.out; omega), if_neg (by have := HA2.out; omega), if_neg (by have := HD1.out; have := HD2.out; omega)])
 exact rp20
end Go.Proofs.YtmpedblelnpjdaaGreatDoor
/- What letter demands of updates: of one, and of a letter's. -/
namespace Go.Proofs.YtmpedblelnpjdaaGreatDoor
open Go.RowKit
set_option linter.unusedSimpArgs false
set_option linter.unusedVariables false
set_option maxHeartbeats 8000000
set_option maxRecDepth 100000
attribute [local go_sem] Up.agg Up.cells
def upOkP (u : Up) (r : Bool) : Prop := (u.seq = 0 ↔ r = true) ∧ 1 ≤ u.cl ∧ u.cl ≤ 6 ∧ 1 ≤ u.num ∧ ((u.kd = 2 ∧ u.ver = 0) ∨ u.kd = 3) ∧ u.n ≤ 2048
open Classical in
noncomputable def upOkB (u : Up) (r : Bool) : Bool := decide (upOkP u r)
theorem upOk_no {u : Up} {r : Bool} (h : ¬ upOkP u r) : false = upOkB u r := by unfold upOkB; simp [h]
theorem upOk_yes {u : Up} {r : Bool} (h : upOkP u r) : true = upOkB u r := by unfold upOkB; simp [h]
theorem update_any (u : Up) (r : Bool) (w : World) (hw : u.wf) (hn : u.n ≤ 1000000) :
  Calls Tryz.prog 312 #[u.agg, .bool r] w fun e w' => e = .returned (.bool (upOkB u r)) ∧ Below w.heap.size w w' := by
 have HB : Hid (Below w.heap.size w (w.alloc (.cells u.cells 145))) := Lib.hid (by repeat (first | with_reducible exact Below.refl _ _ | with_reducible refine Below.setCell ?_ (by first | omega | (simp <;> omega)) _ | with_reducible refine Below.alloc ?_ (by first | omega | (simp <;> omega)) _ | with_reducible refine below_drewN ?_ _ | with_reducible refine Below.drew ?_))
 have hn1 : (u.n : Int) ≤ 1000000 := by omega
 have HW := Lib.hid hw
 clear hw
 cases r with
 | true =>
  by_cases h1 : u.seq = 0
  rotate_left
  ·exact rp8
  by_cases h2 : u.cl < 1
  ·exact rp8
  by_cases h3 : 6 < u.cl
  ·exact rp8
  by_cases h4 : u.num < 1
  ·exact rp8
  by_cases h7 : (u.n : Int) ≤ 2048
  ·by_cases h5 : u.kd = 2
   ·by_cases h6 : u.ver = 0
    ·exact rp45
    ·exact rp8
   ·by_cases h6 : u.kd = 3
    ·exact rp45
    ·exact rp38
  ·by_cases h5 : u.kd = 2
   ·by_cases h6 : u.ver = 0
    ·exact rp8
    ·exact rp8
   ·by_cases h6 : u.kd = 3
    ·exact rp8
    ·exact rp38
 | false =>
  by_cases h1 : u.seq = 0
  ·exact rp7
  by_cases h2 : u.cl < 1
  ·exact rp7
  by_cases h3 : 6 < u.cl
  ·exact rp7
  by_cases h4 : u.num < 1
  ·exact rp7
  by_cases h7 : (u.n : Int) ≤ 2048
  ·by_cases h5 : u.kd = 2
   ·by_cases h6 : u.ver = 0
    ·exact rp44
    ·exact rp7
   ·by_cases h6 : u.kd = 3
    ·exact rp44
    ·exact rp37
  ·by_cases h5 : u.kd = 2
   ·by_cases h6 : u.ver = 0
    ·exact rp7
    ·exact rp7
   ·by_cases h6 : u.kd = 3
    ·exact rp7
    ·exact rp37
theorem updatesF_enter : ∀ (args : Array Value) (w : World), (callFunc 311 args).run Tryz.prog w = .ok (.enter 311 args) w :=
 enters_of Tryz.func311 (by kernel_rfl) rfl
theorem updatesF_any (u : Up) (r : Bool) (g : Nat) (w : World) (hw : u.wf) (hn : u.n ≤ 1000000) (hg : Blk w g 4 #[.bool r]) :
  Calls Tryz.prog 311 #[u.agg, .pointer (some ⟨g, 0, none⟩)] w fun e w' => e = .returned (.bool (!upOkB u r)) ∧ Below w.heap.size w w' := by
 have p0 := (hg.alloc (.cells u.cells 145)).cell 0
 have hlt := hg.lt
 have HB : Hid (Below w.heap.size w (w.alloc (.cells u.cells 145))) := Lib.hid (by repeat (first | with_reducible exact Below.refl _ _ | with_reducible refine Below.setCell ?_ (by first | omega | (simp <;> omega)) _ | with_reducible refine Below.alloc ?_ (by first | omega | (simp <;> omega)) _ | with_reducible refine below_drewN ?_ _ | with_reducible refine Below.drew ?_))
 have C := fun W => Lib.hid (update_any u r W hw hn)
 simp at p0
 have q0 := hg.cell 0
 simp at q0
 clear hw hg
 have HP0 := Lib.hid p0
 clear p0
 go_enter Tryz.func311, Tryz.ntmps311
 go_wp2_with (fail)
 refine (C _).out.mono ?_
 exact rp31
noncomputable def upsOk (l : List Up) (r : Bool) : Bool := l.all (fun u => upOkB u r)
theorem idxUpsG_any (A : Option Addr) (n c B : Nat) (l : List Up) (r : Bool) (g : Nat) (w : World) (h : UpsIn w B A n l) (hB : B ≤ w.heap.size) (hn : n ≤ 1000000) (hu : ∀ u ∈ l, u.n ≤ 1000000) (hg : Blk w g 4 #[.bool r]) :
  Calls Tryz.prog 326 #[.slice A n c, .func (.func 311) #[] #[.pointer (some ⟨g, 0, none⟩)]] w fun e w' => ∃ z : Int, e = .returned (.int .i64 z) ∧ Hid (upsOk l r = decide (z < 0)) ∧ Below w.heap.size w w' := by
 have hent := updatesF_enter
 have H := Lib.hid h
 have HG := Lib.hid hg
 have HLN := Lib.hid h.len
 have HNU := Lib.hid hu
 have HB0 : Hid (Below w.heap.size w w) := Lib.hid (Below.refl _ _)
 have hglt := hg.lt
 clear h hg hu
 go_enter Tryz.func326, Tryz.ntmps326
 go_wp2
 go_loopw [8] (fun iv wr => ∃ k : Nat, k ≤ n ∧ iv = .int .i64 k ∧ Hid (upsOk (l.take k) r = true) ∧ Hid (Below w.heap.size w wr)) (fun iv _ => n - (intOf iv).toNat)
 case atStart => exact ⟨0, by omega, rfl, Lib.hid rfl, HB0⟩
 case round =>
  clear HB0
  obtain ⟨k, hk, rfl, hok, HB⟩ := hrel
  by_cases hlt : k < n
  ·obtain ⟨b, o, u, rfl, hb, hu, hin, p0, p1, p2, p3, p4, p5, p6⟩ := (H.out.below (HB.out.mono hB)).at_ (k := k) hlt
   have HI := Lib.hid hin
   have HU := Lib.hid hu
   have hbw : b < wr.heap.size := Nat.lt_of_lt_of_le hb (Nat.le_trans hB HB.out.size)
   have C := Lib.hid (updatesF_any u r g wr hin.wf (HNU.out u (List.mem_of_getElem? hu)) (HG.out.below HB.out hglt))
   clear hin hu hb
   cases hv : upOkB u r with
   | true =>
    have HV := Lib.hid hv
    rw [hv] at C
    clear hv
    go_wp2_with (fail)
    refine C.out.mono ?_
    rintro e w1 ⟨rfl, h⟩
    have H1 := Lib.hid (HB.out.trans (h.mono HB.out.size))
    clear h p0 p1 p2 p3 p4 p5 p6
    go_wp2_with (fail)
    go_roundw
    case rel =>
     refine ⟨k + 1, by omega, by go_num, Lib.hid ?_, H1⟩
     rw [List.take_add_one, HU.out]
     have h5 := hok.out
     unfold upsOk at h5 ⊢
     simp only [Option.toList_some, List.all_append, List.all_cons, List.all_nil, h5, HV.out, Bool.and_true]
    case measure => simp [intOf]; omega
   | false =>
    have HV := Lib.hid hv
    rw [hv] at C
    clear hv
    go_wp2_with (fail)
    refine C.out.mono ?_
    rintro e w1 ⟨rfl, h⟩
    have H1 := Lib.hid (HB.out.trans (h.mono HB.out.size))
    clear h p0 p1 p2 p3 p4 p5 p6
    go_wp2_with (fail)
    go_ret
    refine ⟨k, rfl, Lib.hid ?_, H1.out⟩
    rw [decide_eq_false (by omega)]
    unfold upsOk
    rw [List.all_eq_false]
    exact ⟨u, List.mem_of_getElem? HU.out, by rw [HV.out]; simp⟩
  ·obtain rfl : k = n := by omega
   go_wp2
   go_ret
   refine ⟨-1, rfl, Lib.hid ?_, HB.out⟩
   have h5 := hok.out
   rw [List.take_of_length_le (by have := HLN.out; omega)] at h5
   rw [h5]; rfl
theorem containsUpsG_any (A : Option Addr) (n c B : Nat) (l : List Up) (r : Bool) (g : Nat) (w : World) (h : UpsIn w B A n l) (hB : B ≤ w.heap.size) (hn : n ≤ 1000000) (hu : ∀ u ∈ l, u.n ≤ 1000000) (hg : Blk w g 4 #[.bool r]) :
  Calls Tryz.prog 310 #[.slice A n c, .func (.func 311) #[] #[.pointer (some ⟨g, 0, none⟩)]] w fun e w' => e = .returned (.bool (!upsOk l r)) ∧ Below w.heap.size w w' := by
 have C := Lib.hid (idxUpsG_any A n c B l r g w h hB hn hu hg)
 clear h hg
 go_enter Tryz.func310, Tryz.ntmps310
 go_wp2_with (fail)
 refine C.out.mono ?_
 rintro e w1 ⟨z, rfl, HZ, h⟩
 have H1 := Lib.hid h
 clear h C
 by_cases hz : 0 ≤ z
 ·have HN : Hid (upsOk l r = false) := Lib.hid (by rw [HZ.out]; exact decide_eq_false (by omega))
  go_wp2_with (fail)
  go_ret
  exact ⟨by rw [HN.out]; rfl, H1.out⟩
 ·have HN : Hid (upsOk l r = true) := Lib.hid (by rw [HZ.out]; exact decide_eq_true (by omega))
  go_wp2_with (fail)
  go_ret
  exact ⟨ret_bool (by rw [HN.out]; simp [hz]), H1.out⟩
noncomputable def updsB (kd : Int) (l : List Up) : Bool := decide ((kd = 17 → l.length = 1) ∧ l.length ≤ 4) && upsOk l (decide (kd = 17))
theorem letUpdatesG_any (x : LV) (B : Nat) (w : World) (h : LIn w B x) (hB : B ≤ w.heap.size) (hn : x.near) :
  Calls Tryz.prog 276 #[.agg x.l.cells] w fun e w' => e = .returned (.bool (updsB x.l.kd x.us)) ∧ Below w.heap.size w w' := by
 obtain ⟨W0, hW0⟩ : ∃ W0, W0 = w.alloc (.cells x.l.cells 37) := ⟨_, rfl⟩
 have hb1 : Blk W0 w.heap.size 37 x.l.cells := by rw [hW0]; exact Blk.new w _ _
 have x0 := (hb1.cell 0).trans (show _ = some (.int .i64 x.l.kd) from rfl)
 have x23 := (hb1.cell 23).trans (show _ = some (.slice x.l.uA x.l.un x.l.up) from rfl)
 have l1 := hb1.lt
 have HBW : Hid (Below w.heap.size w W0) := Lib.hid (by rw [hW0]; repeat (first | with_reducible exact Below.refl _ _ | with_reducible refine Below.setCell ?_ (by first | omega | (simp <;> omega)) _ | with_reducible refine Below.alloc ?_ (by first | omega | (simp <;> omega)) _ | with_reducible refine below_drewN ?_ _ | with_reducible refine Below.drew ?_))
 have HW := Lib.hid hW0
 have ul := Lib.hid h.ul
 have H := Lib.hid h
 have HN := Lib.hid hn
 obtain ⟨r, hr⟩ : ∃ r : Bool, r = decide (x.l.kd = 17) := ⟨_, rfl⟩
 have HR := Lib.hid hr
 have HX : Hid (Blk (W0.alloc (.cells #[.bool r] 4)) W0.heap.size 4 #[.bool r]) := Lib.hid (Blk.new _ _ _)
 have HB2 : Hid (Below w.heap.size w (W0.alloc (.cells #[.bool r] 4))) := Lib.hid (HBW.out.alloc HBW.out.size _)
 have CC := Lib.hid (containsUpsG_any x.l.uA x.l.un x.l.up B x.us r W0.heap.size _ (h.up.below (HB2.out.mono hB)) (Nat.le_trans hB HB2.out.size) hn.ul hn.us HX.out)
 have UV : Hid (updsB x.l.kd x.us = (decide ((x.l.kd = 17 → x.l.un = 1) ∧ x.l.un ≤ 4) && upsOk x.us r)) := Lib.hid (by unfold updsB; rw [ul.out, HR.out])
 clear hW0 hb1 h hn hr
 generalize updsB x.l.kd x.us = res at *
 generalize upsOk x.us r = ok at *
 by_cases hk : x.l.kd = 17
 ·obtain rfl : r = true := by rw [HR.out]; exact decide_eq_true hk
  have hk' : (x.l.kd == 17) = true := by simpa using hk
  have HK := Lib.hid hk
  rw [hk] at x0
  clear hk hk'
  by_cases h1 : x.l.un = 1
  ·have e1 : ((x.l.un : Int) != 1) = false := by simp [h1]
   have e2 : ¬ (4 : Int) < x.l.un := by omega
   have HV : Hid (res = ok) := Lib.hid (by rw [UV.out, decide_eq_true ⟨fun _ => h1, by omega⟩]; simp)
   exact rp54
  ·have e1 : ((x.l.un : Int) != 1) = true := by simp; omega
   have HV : Hid (res = false) := Lib.hid (by rw [UV.out, decide_eq_false (fun h => h1 (h.1 HK.out))]; simp)
   exact rp67
 ·obtain rfl : r = false := by rw [HR.out]; exact decide_eq_false hk
  have hk' : (x.l.kd == 17) = false := by simpa using hk
  have HK := Lib.hid hk
  clear hk
  by_cases h1 : 4 < x.l.un
  ·have e1 : (4 : Int) < x.l.un := by omega
   have HV : Hid (res = false) := Lib.hid (by rw [UV.out, decide_eq_false (fun h => by omega)]; simp)
   exact rp67
  ·have e1 : ¬ (4 : Int) < x.l.un := by omega
   have HV : Hid (res = ok) := Lib.hid (by rw [UV.out, decide_eq_true ⟨fun h => absurd h HK.out, by omega⟩]; simp)
   exact rp54
end Go.Proofs.YtmpedblelnpjdaaGreatDoor
/- cmds.Put, cmds.Get; a reader made wrong. -/
namespace Go.Proofs.YtmpedblelnpjdaaGreatDoor
open Go.RowKit
set_option linter.unusedSimpArgs false
set_option linter.unusedVariables false
set_option maxHeartbeats 8000000
set_option maxRecDepth 100000
theorem cmdE_ok {k c e n : Int} (h : cmdE k c e n = 0) : (0 ≤ k ∧ k < 5) ∧ (0 ≤ c ∧ c < 4) ∧ (0 ≤ n ∧ n ≤ 24) := by
 unfold cmdE at h
 split at h
 ·omega
 ·split at h
  ·split at h
   ·omega
   ·omega
  ·split at h
   ·omega
   ·omega
def cmdB (k c e n : Int) : List Int := big k.toNat 1 ++ big c.toNat 1 ++ big e.toNat 8 ++ big n.toNat 1
theorem cmdB_len (k c e n : Int) : (cmdB k c e n).length = 11 := by simp [cmdB, big_len]
theorem cmdsPut_ok (k c e n : Int) (hok : cmdE k c e n = 0) (he : 0 ≤ e ∧ e < 18446744073709551616) (g : Nat) (v : Value) (bs : List Int) (w : World) (ho : OutAt w g v ⟨bs, 16384, 0⟩) (hl : bs.length + 11 ≤ 16384) :
  Calls Tryz.prog 266 #[.pointer (some ⟨g, 0, none⟩), .agg #[.int .i64 k, .int .i64 c, .int .u64 e, .int .i64 n]] w fun r w' => r = .returned (.int .i64 0) ∧ ∃ v', OutAt w' g v' ⟨bs ++ cmdB k c e n, 16384, 0⟩ ∧ OutStep w w' g v v' := by
 obtain ⟨hk, hc, hn⟩ := cmdE_ok hok
 obtain ⟨W0, hW0⟩ : ∃ W0, W0 = w.alloc (.cells #[.int .i64 k, .int .i64 c, .int .u64 e, .int .i64 n] 30) := ⟨_, rfl⟩
 have hb0 : Below w.heap.size w W0 := by rw [hW0]; exact (Below.refl _ _).alloc (Nat.le_refl _) _
 have hbk : Blk W0 w.heap.size 30 #[.int .i64 k, .int .i64 c, .int .u64 e, .int .i64 n] := by rw [hW0]; exact Blk.new _ _ _
 have CC := Lib.hid (cmdCheck_any k c e n he.1 W0)
 rw [hok] at CC
 have fk : IntKind.u64.wrap k = k := u64_keep (by omega)
 have fc : IntKind.u64.wrap c = c := u64_keep (by omega)
 have fn : IntKind.u64.wrap n = n := u64_keep (by omega)
 have BK0 := Lib.hid hbk
 have HB := Lib.hid hb0
 have HW := Lib.hid hW0
 have O0 := Lib.hid (ho.below hb0)
 have HE := Lib.hid he
 have HK := Lib.hid hk
 have HC := Lib.hid hc
 have HN := Lib.hid hn
 have x0 : W0.cell? ⟨w.heap.size, 0, none⟩ = some (.int .i64 k) := hbk.cell 0
 have x1 : W0.cell? ⟨w.heap.size, 1, none⟩ = some (.int .i64 c) := hbk.cell 1
 have x2 : W0.cell? ⟨w.heap.size, 2, none⟩ = some (.int .u64 e) := hbk.cell 2
 have x3 : W0.cell? ⟨w.heap.size, 3, none⟩ = some (.int .i64 n) := hbk.cell 3
 have hl0 := hbk.lt
 clear hbk hb0 hW0 ho hok he hk hc hn
 go_enter Tryz.func266, Tryz.ntmps266
 go_upto_region 1 with (fail)
 rw [← HW.out]
 go_wp2_with (fail)
 refine CC.out.mono ?_
 rintro r w1 ⟨rfl, h⟩
 have BK := Lib.hid (BK0.out.below h hl0)
 have O := Lib.hid (O0.out.below h)
 have ST : Hid (OutStep w w1 g v v) := Lib.hid (OutStep.pre (HB.out.trans (h.mono HB.out.size)) (OutStep.refl _ _ _))
 clear h CC BK0 O0 x0 x1 x2 x3 hl0
 have x0 : w1.cell? ⟨w.heap.size, 0, none⟩ = some (.int .i64 k) := BK.out.cell 0; have x1 : w1.cell? ⟨w.heap.size, 1, none⟩ = some (.int .i64 c) := BK.out.cell 1; have x2 : w1.cell? ⟨w.heap.size, 2, none⟩ = some (.int .u64 e) := BK.out.cell 2; have x3 : w1.cell? ⟨w.heap.size, 3, none⟩ = some (.int .i64 n) := BK.out.cell 3; have hl := BK.out.lt
 go_wp2_with (fail)
 refine (putNum_ok g v bs 16384 k k.toNat 1 (by have := HK.out; omega) w1 (by omega) (by omega) (by have := HK.out; omega) O.out (by omega) (by omega)).mono ?_
 rintro r w2 ⟨rfl, v2, p1, s1⟩
 have s5 := s1; replace BK := Lib.hid (s1.typ O.out BK.out (by decide) (by decide)); replace ST := Lib.hid (ST.out.trans s1); replace O := Lib.hid p1; clear p1 s1 s5 x0 x1 x2 x3 hl
 have x0 : w2.cell? ⟨w.heap.size, 0, none⟩ = some (.int .i64 k) := BK.out.cell 0; have x1 : w2.cell? ⟨w.heap.size, 1, none⟩ = some (.int .i64 c) := BK.out.cell 1; have x2 : w2.cell? ⟨w.heap.size, 2, none⟩ = some (.int .u64 e) := BK.out.cell 2; have x3 : w2.cell? ⟨w.heap.size, 3, none⟩ = some (.int .i64 n) := BK.out.cell 3; have hl := BK.out.lt
 go_wp2_with (fail)
 refine (putNum_ok g v2 (bs ++ big k.toNat 1) 16384 c c.toNat 1 (by have := HC.out; omega) w2 (by omega) (by omega) (by have := HC.out; omega) O.out (by simp only [List.length_append, big_len]; omega) (by simp only [List.length_append, big_len]; omega)).mono ?_
 rintro r w3 ⟨rfl, v3, p1, s1⟩
 have s5 := s1; replace BK := Lib.hid (s1.typ O.out BK.out (by decide) (by decide)); replace ST := Lib.hid (ST.out.trans s1); replace O := Lib.hid p1; clear p1 s1 s5 x0 x1 x2 x3 hl
 have x0 : w3.cell? ⟨w.heap.size, 0, none⟩ = some (.int .i64 k) := BK.out.cell 0; have x1 : w3.cell? ⟨w.heap.size, 1, none⟩ = some (.int .i64 c) := BK.out.cell 1; have x2 : w3.cell? ⟨w.heap.size, 2, none⟩ = some (.int .u64 e) := BK.out.cell 2; have x3 : w3.cell? ⟨w.heap.size, 3, none⟩ = some (.int .i64 n) := BK.out.cell 3; have hl := BK.out.lt
 go_wp2_with (fail)
 refine (putNum_ok g v3 (bs ++ big k.toNat 1 ++ big c.toNat 1) 16384 e e.toNat 8 (by have := HE.out; omega) w3 (by omega) (by omega) (by have := HE.out; omega) O.out (by simp only [List.length_append, big_len]; omega) (by simp only [List.length_append, big_len]; omega)).mono ?_
 rintro r w4 ⟨rfl, v4, p1, s1⟩
 have s5 := s1; replace BK := Lib.hid (s1.typ O.out BK.out (by decide) (by decide)); replace ST := Lib.hid (ST.out.trans s1); replace O := Lib.hid p1; clear p1 s1 s5 x0 x1 x2 x3 hl
 have x0 : w4.cell? ⟨w.heap.size, 0, none⟩ = some (.int .i64 k) := BK.out.cell 0; have x1 : w4.cell? ⟨w.heap.size, 1, none⟩ = some (.int .i64 c) := BK.out.cell 1; have x2 : w4.cell? ⟨w.heap.size, 2, none⟩ = some (.int .u64 e) := BK.out.cell 2; have x3 : w4.cell? ⟨w.heap.size, 3, none⟩ = some (.int .i64 n) := BK.out.cell 3; have hl := BK.out.lt
 go_wp2_with (fail)
 refine (putNum_ok g v4 (bs ++ big k.toNat 1 ++ big c.toNat 1 ++ big e.toNat 8) 16384 n n.toNat 1 (by have := HN.out; omega) w4 (by omega) (by omega) (by have := HN.out; omega) O.out (by simp only [List.length_append, big_len]; omega) (by simp only [List.length_append, big_len]; omega)).mono ?_
 rintro r w5 ⟨rfl, v5, p1, s1⟩
 have s5 := s1; replace BK := Lib.hid (s1.typ O.out BK.out (by decide) (by decide)); replace ST := Lib.hid (ST.out.trans s1); replace O := Lib.hid p1; clear p1 s1 s5 x0 x1 x2 x3 hl
 go_wp2_with (fail)
 go_ret
 refine ⟨rfl, v5, ?_, ST.out⟩
 have := O.out
 simpa only [cmdB, List.append_assoc] using this
def wrongF (s : FI) : FI := ((s.upto 1 0).1.raw (-1)).1
theorem wrongF_e (s : FI) : (wrongF s).e ≠ 0 := by
 unfold wrongF FI.raw
 rw [if_pos (by omega)]
 exact FI.fail_e _ _ (by omega)
theorem wrong_any (g : Nat) (s : FI) (B : Nat) (w : World) (h : InAt w g B s) (hl : s.l.length ≤ 1000000) :
  Calls Tryz.prog 307 #[.pointer (some ⟨g, 0, none⟩)] w fun e w' => e = .returned (.tuple #[]) ∧ InAt w' g B (wrongF s) ∧ Chg w w' (isG g) := by
 have U := Lib.hid (upto_any g s 1 0 B w h)
 have HS : Hid ((s.upto 1 0).1.l.length ≤ 1000000) := Lib.hid (Nat.le_trans (FI.upto_short _ _ _) hl)
 have HF : Hid (wrongF s = ((s.upto 1 0).1.raw (-1)).1) := Lib.hid rfl
 clear h
 generalize s.upto 1 0 = r at *
 go_enter Tryz.func307, Tryz.ntmps307
 go_wp2_with (fail)
 refine U.out.mono ?_
 rintro e w1 ⟨rfl, h1, h2⟩
 have R := Lib.hid (rawInO_any g r.1 (-1) B w1 h1 (by omega) (Nat.le_trans HS.out (by omega)))
 have C1 := Lib.hid h2
 clear h1 h2 U
 go_wp2_with (fail)
 refine R.out.mono ?_
 rintro e w2 ⟨A, c, rfl, h1, h2, _⟩
 have I2 := Lib.hid h1
 have C2 := Lib.hid (C1.out.trans h2 (fun _ _ h => h))
 clear h1 h2 R
 go_wp2_with (fail)
 go_end0
 exact ⟨rfl, by rw [HF.out]; exact I2.out, C2.out⟩
end Go.Proofs.YtmpedblelnpjdaaGreatDoor
/- cmds.Get. -/
namespace Go.Proofs.YtmpedblelnpjdaaGreatDoor
open Go.RowKit
set_option linter.unusedSimpArgs false
set_option linter.unusedVariables false
set_option maxHeartbeats 8000000
set_option maxRecDepth 100000
structure Cm where
 k : Int
 c : Int
 e : Int
 n : Int
def Cm.cells (q : Cm) : Array Value := #[.int .i64 q.k, .int .i64 q.c, .int .u64 q.e, .int .i64 q.n]
def Cm.agg (q : Cm) : Value := .agg #[.int .i64 q.k, .int .i64 q.c, .int .u64 q.e, .int .i64 q.n]
def Cm.zero : Cm := ⟨0, 0, 0, 0⟩
def Cm.err (q : Cm) : Int := cmdE q.k q.c q.e q.n
structure Cm.wf (q : Cm) : Prop where
 k : -9223372036854775808 ≤ q.k ∧ q.k ≤ 9223372036854775807
 c : -9223372036854775808 ≤ q.c ∧ q.c ≤ 9223372036854775807
 e : 0 ≤ q.e ∧ q.e ≤ 18446744073709551615
 n : -9223372036854775808 ≤ q.n ∧ q.n ≤ 9223372036854775807
def cp1 (bs : List Int) : FI × Nat := (⟨bs, 0⟩ : FI).upto 1 18446744073709551615
def cp2 (bs : List Int) : FI × Nat := (cp1 bs).1.upto 1 18446744073709551615
def cp3 (bs : List Int) : FI × Nat := (cp2 bs).1.upto 8 18446744073709551615
def cp4 (bs : List Int) : FI × Nat := (cp3 bs).1.upto 1 18446744073709551615
def cmdP (bs : List Int) : Cm := ⟨(cp1 bs).2, (cp2 bs).2, (cp3 bs).2, (cp4 bs).2⟩
def cmdGv (s : FI) : Cm := if (s.raw 11).1.e ≠ 0 then Cm.zero else if (cmdP (s.raw 11).2).err ≠ 0 then Cm.zero else cmdP (s.raw 11).2
def cmdGe (s : FI) : Int := if (s.raw 11).1.e ≠ 0 then (s.raw 11).1.e else if (cmdP (s.raw 11).2).err ≠ 0 then 4 else 0
theorem raw_bytes2 (s : FI) (k : Int) (h : bytesB s.l) : bytesB (s.raw k).2 := by
 unfold FI.raw
 split
 ·exact bytesB_nil
 ·exact FI.next_bytes _ _ h
theorem cp_facts (bs : List Int) (h : bytesB bs) : (cp1 bs).2 < 256 ∧ (cp2 bs).2 < 256 ∧ (cp3 bs).2 < 18446744073709551616 ∧ (cp4 bs).2 < 256 := by
 have h1 : bytesB (cp1 bs).1.l := FI.upto_bytes _ _ _ h
 have h2 : bytesB (cp2 bs).1.l := FI.upto_bytes _ _ _ h1
 have h3 : bytesB (cp3 bs).1.l := FI.upto_bytes _ _ _ h2
 exact ⟨FI.upto_lt ⟨bs, 0⟩ 1 _ h, FI.upto_lt _ 1 _ h1, FI.upto_lt _ 8 _ h2, FI.upto_lt _ 1 _ h3⟩
theorem cmdP_wf (bs : List Int) (h : bytesB bs) : (cmdP bs).wf := by
 obtain ⟨h1, h2, h3, h4⟩ := cp_facts bs h
 constructor <;> simp only [cmdP] <;> omega
theorem cmdGv_wf (s : FI) (h : bytesB s.l) : (cmdGv s).wf := by
 unfold cmdGv
 split
 ·constructor <;> simp [Cm.zero]
 ·split
  ·constructor <;> simp [Cm.zero]
  ·exact cmdP_wf _ (raw_bytes2 _ _ h)
theorem cells4 {w : World} {g : Nat} {t : TypeId} {a0 a1 a2 a3 : Value} (h : Blk w g t #[a0, a1, a2, a3]) : w.cell? ⟨g, 0, none⟩ = some a0 ∧ w.cell? ⟨g, 1, none⟩ = some a1 ∧ w.cell? ⟨g, 2, none⟩ = some a2 ∧ w.cell? ⟨g, 3, none⟩ = some a3 := ⟨h.cell 0, h.cell 1, h.cell 2, h.cell 3⟩
theorem frozen4 {w : World} {g : Nat} {t : TypeId} {cs : Array Value} (h : Blk w g t cs) : w.frozen? ⟨g, 0, none⟩ = false ∧ w.frozen? ⟨g, 1, none⟩ = false ∧ w.frozen? ⟨g, 2, none⟩ = false ∧ w.frozen? ⟨g, 3, none⟩ = false := ⟨h.frozen 0, h.frozen 1, h.frozen 2, h.frozen 3⟩
theorem set4_chg (W : World) (g : Nat) (a0 a1 a2 a3 : Value) : Chg W ((((W.setCell ⟨g, 0, none⟩ a0).setCell ⟨g, 1, none⟩ a1).setCell ⟨g, 2, none⟩ a2).setCell ⟨g, 3, none⟩ a3) (isG g) :=
 (((chg_set0 W g a0 0).trans (chg_set0 _ g a1 1) (fun _ _ x => x)).trans (chg_set0 _ g a2 2) (fun _ _ x => x)).trans (chg_set0 _ g a3 3) (fun _ _ x => x)
theorem set4_blk {W : World} {g : Nat} {t : TypeId} {b0 b1 b2 b3 : Value} (h : Blk W g t #[b0, b1, b2, b3]) (a0 a1 a2 a3 : Value) : Blk ((((W.setCell ⟨g, 0, none⟩ a0).setCell ⟨g, 1, none⟩ a1).setCell ⟨g, 2, none⟩ a2).setCell ⟨g, 3, none⟩ a3) g t #[a0, a1, a2, a3] := (((h.set_ 0 a0).set_ 1 a1).set_ 2 a2).set_ 3 a3
def CmG (g B : Nat) (s : FI) (w : World) (r : Ending) (w' : World) : Prop :=
 r = .returned (.tuple #[(cmdGv s).agg, .int .i64 (cmdGe s)]) ∧ InAt w' g B (s.raw 11).1 ∧ Chg w w' (isG g)
theorem cmdsGet_any (g B : Nat) (s : FI) (w : World) (h : InAt w g B s) (hl : s.l.length ≤ 1000000) :
  Calls Tryz.prog 306 #[.pointer (some ⟨g, 0, none⟩)] w (CmG g B s w) := by
 have hBw := h.le
 have hgB := h.lt
 have hby := raw_bytes2 s 11 h.bytes
 have hb0 : Below w.heap.size w (w.alloc (.cells #[.int .i64 0, .int .i64 0, .int .u64 0, .int .i64 0] 30)) := (Below.refl _ _).alloc (Nat.le_refl _) _
 have hr0 : Blk (w.alloc (.cells #[.int .i64 0, .int .i64 0, .int .u64 0, .int .i64 0] 30)) w.heap.size 30 #[.int .i64 0, .int .i64 0, .int .u64 0, .int .i64 0] := Blk.new _ _ _
 have R := Lib.hid (rawInO_any g s 11 B _ (h.below (hb0.mono hBw)) (by omega) (by omega))
 have VV : Hid (cmdGv s = if (s.raw 11).1.e ≠ 0 then Cm.zero else if (cmdP (s.raw 11).2).err ≠ 0 then Cm.zero else cmdP (s.raw 11).2) := Lib.hid rfl
 have VE : Hid (cmdGe s = if (s.raw 11).1.e ≠ 0 then (s.raw 11).1.e else if (cmdP (s.raw 11).2).err ≠ 0 then 4 else 0) := Lib.hid rfl
 have HBY := Lib.hid hby
 have HL2 : Hid ((s.raw 11).2.length ≤ 11) := Lib.hid (raw_len s 11)
 have HB0 := Lib.hid hb0
 have HR0 := Lib.hid hr0
 have hz : ∀ w : World, (Instr.build 30 #[]).run Tryz.prog w = .ok (.agg #[.int .i64 0, .int .i64 0, .int .u64 0, .int .i64 0]) w := fun w => by kernel_rfl
 have HCG : Hid (∀ (v : Cm) (er : Int) (w' : World), cmdGv s = v → cmdGe s = er → InAt w' g B (s.raw 11).1 → Chg w w' (isG g) → CmG g B s w (.returned (.tuple #[v.agg, .int .i64 er])) w') := Lib.hid (fun v er w' h1 h2 h3 h4 => ⟨by rw [h1, h2], h3, h4⟩)
 clear hb0 hr0 h hby
 generalize CmG g B s w = post at *
 generalize cmdGv s = gv at *
 generalize cmdGe s = ge at *
 generalize s.raw 11 = rr at *
 obtain ⟨s1, bs⟩ := rr
 go_enter Tryz.func306, Tryz.ntmps306
 go_wp2_with (fail)
 refine R.out.mono ?_
 rintro e w1 ⟨A, c, rfl, i1, q1, o1⟩
 obtain ⟨A', c', e1, hrd, hnc, hcm⟩ := own_slice o1
 have hne : ¬ isG g w.heap.size := by unfold isG; omega
 have OF := Lib.hid (of_any A bs.length c w1.heap.size bs w1 (Nat.le_refl _) (own_reads o1) HBY.out (by have := HL2.out; omega))
 have I1 := Lib.hid i1
 have C1 := Lib.hid ((Chg.of_below HB0.out (isG g)).trans q1 (fun _ _ h => h))
 have RB1 := Lib.hid (q1.blk HR0.out hne)
 clear i1 q1 o1 e1 hrd R HB0 HR0
 go_wp2_with (fail)
 refine OF.out.mono ?_
 rintro e w2 ⟨gj, rfl, hgj, j2, h12⟩
 have I2 := Lib.hid (I1.out.below (h12.mono I1.out.le))
 have C2 := Lib.hid (C1.out.trans (Chg.of_below h12 _) (fun _ _ h => h))
 have RB2 := Lib.hid (RB1.out.below h12 RB1.out.lt)
 have J2 := Lib.hid j2
 have hgw := Nat.le_trans C1.out.size hgj
 clear j2 h12 I1 C1 RB1 OF
 have ER := Lib.hid (err_any g s1 B w2 I2.out)
 go_wp2_with (fail)
 refine ER.out.mono ?_
 rintro e w3 ⟨rfl, rfl⟩
 by_cases he : s1.e = 0
 rotate_left
 ·have heb : (s1.e != 0) = true := by simpa using he
  have G1 : Hid (gv = Cm.zero) := Lib.hid (by rw [VV.out, if_pos he])
  have G2 : Hid (ge = s1.e) := Lib.hid (by rw [VE.out, if_pos he])
  obtain ⟨r0, r1, r2, r3⟩ := cells4 RB2.out
  obtain ⟨f0, f1, f2, f3⟩ := frozen4 RB2.out
  have lr := RB2.out.lt
  clear he VV VE ER J2
  go_wp2_with (fail)
  obtain ⟨wz, hwz⟩ : ∃ wz, wz = ((((w2.setCell ⟨w.heap.size, 0, none⟩ (.int .i64 0)).setCell ⟨w.heap.size, 1, none⟩ (.int .i64 0)).setCell ⟨w.heap.size, 2, none⟩ (.int .u64 0)).setCell ⟨w.heap.size, 3, none⟩ (.int .i64 0)) := ⟨_, rfl⟩
  have HC := Lib.hid (set4_chg w2 w.heap.size (.int .i64 0) (.int .i64 0) (.int .u64 0) (.int .i64 0))
  have HKB := Lib.hid (set4_blk RB2.out (.int .i64 0) (.int .i64 0) (.int .u64 0) (.int .i64 0))
  rw [← hwz] at HC HKB ⊢
  clear hwz r0 r1 r2 r3 f0 f1 f2 f3
  obtain ⟨k0, k1, k2, k3⟩ := cells4 HKB.out
  go_wp2_with (fail)
  refine bodyPost_ret (v := .tuple #[.agg #[.int .i64 0, .int .i64 0, .int .u64 0, .int .i64 0], .int .i64 s1.e]) (by simp [results, Tryz.results306, go_sem, k0, k1, k2, k3]) rfl ?_
  exact HCG.out Cm.zero _ _ G1.out G2.out (I2.out.below (HC.out.below I2.out.le (fun k hk e => by simp only [isG] at e; omega))) (C2.out.trans HC.out (fun k hk e => by simp only [isG] at e; omega))
 ·have heb : (s1.e != 0) = false := by simp [he]
  have VV2 : Hid (gv = if (cmdP bs).err ≠ 0 then Cm.zero else cmdP bs) := Lib.hid (by rw [VV.out, if_neg (fun h => h he)])
  have VE2 : Hid (ge = if (cmdP bs).err ≠ 0 then 4 else 0) := Lib.hid (by rw [VE.out, if_neg (fun h => h he)])
  obtain ⟨l1, l2, l3, l4⟩ := cp_facts bs HBY.out
  have G1 := Lib.hid (fun W (i : InAt W gj w2.heap.size ⟨bs, 0⟩) => (show Calls Tryz.prog 46 #[.pointer (some ⟨gj, 0, none⟩), .int .i64 1] W fun e W' => e = .returned (.int .u64 (cp1 bs).2) ∧ InAt W' gj w2.heap.size (cp1 bs).1 ∧ Chg W W' (isG gj) from get_any gj ⟨bs, 0⟩ 1 w2.heap.size W i))
  have G2 := Lib.hid (fun W (i : InAt W gj w2.heap.size (cp1 bs).1) => (show Calls Tryz.prog 46 #[.pointer (some ⟨gj, 0, none⟩), .int .i64 1] W fun e W' => e = .returned (.int .u64 (cp2 bs).2) ∧ InAt W' gj w2.heap.size (cp2 bs).1 ∧ Chg W W' (isG gj) from get_any gj _ 1 w2.heap.size W i))
  have G3 := Lib.hid (fun W (i : InAt W gj w2.heap.size (cp2 bs).1) => (show Calls Tryz.prog 46 #[.pointer (some ⟨gj, 0, none⟩), .int .i64 8] W fun e W' => e = .returned (.int .u64 (cp3 bs).2) ∧ InAt W' gj w2.heap.size (cp3 bs).1 ∧ Chg W W' (isG gj) from get_any gj _ 8 w2.heap.size W i))
  have G4 := Lib.hid (fun W (i : InAt W gj w2.heap.size (cp3 bs).1) => (show Calls Tryz.prog 46 #[.pointer (some ⟨gj, 0, none⟩), .int .i64 1] W fun e W' => e = .returned (.int .u64 (cp4 bs).2) ∧ InAt W' gj w2.heap.size (cp4 bs).1 ∧ Chg W W' (isG gj) from get_any gj _ 1 w2.heap.size W i))
  have QP : Hid (cmdP bs = ⟨((cp1 bs).2 : Int), ((cp2 bs).2 : Int), ((cp3 bs).2 : Int), ((cp4 bs).2 : Int)⟩) := Lib.hid rfl
  generalize cmdP bs = qq at *
  generalize cp1 bs = r1 at *
  generalize cp2 bs = r2 at *
  generalize cp3 bs = r3 at *
  generalize cp4 bs = r4 at *
  obtain ⟨t1, n1⟩ := r1
  obtain ⟨t2, n2⟩ := r2
  obtain ⟨t3, n3⟩ := r3
  obtain ⟨t4, n4⟩ := r4
  simp only at G1 G2 G3 G4 QP l1 l2 l3 l4
  have c1 : IntKind.i64.wrap (n1 : Int) = n1 := by rw [IntKind.wrap_i64]; omega
  have c2 : IntKind.i64.wrap (n2 : Int) = n2 := by rw [IntKind.wrap_i64]; omega
  have c4 : IntKind.i64.wrap (n4 : Int) = n4 := by rw [IntKind.wrap_i64]; omega
  have hgg : ¬ isG gj w.heap.size := by
   have := RB2.out
   unfold isG
   intro e
   obtain ⟨A3, c3, hbj, _⟩ := J2.out.mem
   exact Blk.ne_ RB2.out hbj (by decide) e
  have HE := Lib.hid he
  have hgjB : B ≤ gj := by omega
  clear he VV VE ER
  go_wp2_with (fail)
  refine (G1.out _ J2.out).mono ?_
  rintro e w3 ⟨rfl, i1, q1⟩
  have J3 := Lib.hid i1
  have D3 := Lib.hid q1
  clear i1 q1
  go_wp2_with (fail)
  refine (G2.out _ J3.out).mono ?_
  rintro e w4 ⟨rfl, i1, q1⟩
  have J4 := Lib.hid i1
  have D4 := Lib.hid (D3.out.trans q1 (fun _ _ h => h))
  clear i1 q1
  go_wp2_with (fail)
  refine (G3.out _ J4.out).mono ?_
  rintro e w5 ⟨rfl, i1, q1⟩
  have J5 := Lib.hid i1
  have D5 := Lib.hid (D4.out.trans q1 (fun _ _ h => h))
  clear i1 q1
  go_wp2_with (fail)
  refine (G4.out _ J5.out).mono ?_
  rintro e w6 ⟨rfl, i1, q1⟩
  have D6 := Lib.hid (D5.out.trans q1 (fun _ _ h => h))
  have RB6 := Lib.hid (D6.out.blk RB2.out hgg)
  have I6 := Lib.hid (I2.out.below (D6.out.below I2.out.le (fun k hk e => by simp only [isG] at e; omega)))
  have C6 := Lib.hid (C2.out.trans D6.out (fun k hk e => by simp only [isG] at e; omega))
  have hsz6 := D6.out.size
  clear i1 q1 J3 J4 J5 D3 D4 D5 D6 G1 G2 G3 G4 I2 C2 RB2 J2
  go_upto_region 6 with (fail)
  obtain ⟨W7, hW7⟩ : ∃ W7, W7 = w6.alloc (.cells #[.int .i64 n1, .int .i64 n2, .int .u64 n3, .int .i64 n4] 30) := ⟨_, rfl⟩
  rw [← hW7]
  have h67 : Below w6.heap.size w6 W7 := by rw [hW7]; exact (Below.refl _ _).alloc (Nat.le_refl _) _
  have hX : Blk W7 w6.heap.size 30 #[.int .i64 n1, .int .i64 n2, .int .u64 n3, .int .i64 n4] := by rw [hW7]; exact Blk.new _ _ _
  obtain ⟨x0, x1, x2, x3⟩ := cells4 hX
  have lx := hX.lt
  have RB7 := Lib.hid (RB6.out.below h67 RB6.out.lt)
  have I7 := Lib.hid (I6.out.below (h67.mono I6.out.le))
  have C7 := Lib.hid (C6.out.trans (Chg.of_below h67 _) (fun _ _ h => h))
  have CK := Lib.hid (cmdCheck_any n1 n2 n3 n4 (by omega) W7)
  have HQ : Hid (qq.err = cmdE n1 n2 n3 n4) := Lib.hid (by rw [QP.out]; rfl)
  have HX := Lib.hid hX
  clear hW7 h67 hX RB6 I6 C6
  go_wp2_with (fail)
  refine CK.out.mono ?_
  rintro e w8 ⟨rfl, h⟩
  have RB8 := Lib.hid (RB7.out.below h RB7.out.lt)
  have I8 := Lib.hid (I7.out.below (h.mono I7.out.le))
  have C8 := Lib.hid (C7.out.trans (Chg.of_below h _) (fun _ _ e => e))
  obtain ⟨x0, x1, x2, x3⟩ := cells4 (HX.out.below h lx)
  have lx8 := Nat.lt_of_lt_of_le lx h.size
  obtain ⟨r0, r1, r2, r3⟩ := cells4 RB8.out
  obtain ⟨f0, f1, f2, f3⟩ := frozen4 RB8.out
  have lr := RB8.out.lt
  clear h CK RB7 I7 C7 HX
  rw [← HQ.out]
  generalize qq.err = er at *
  clear HQ
  by_cases hq : er = 0
  ·subst hq
   have H1 : Hid (gv = qq) := Lib.hid (by rw [VV2.out]; simp)
   have H2 : Hid (ge = 0) := Lib.hid (by rw [VE2.out]; simp)
   clear VV2 VE2
   go_wp2_with (fail)
   obtain ⟨wz, hwz⟩ : ∃ wz, wz = ((((w8.setCell ⟨w.heap.size, 0, none⟩ (.int .i64 n1)).setCell ⟨w.heap.size, 1, none⟩ (.int .i64 n2)).setCell ⟨w.heap.size, 2, none⟩ (.int .u64 n3)).setCell ⟨w.heap.size, 3, none⟩ (.int .i64 n4)) := ⟨_, rfl⟩
   have HC := Lib.hid (set4_chg w8 w.heap.size (.int .i64 n1) (.int .i64 n2) (.int .u64 n3) (.int .i64 n4))
   have HKB := Lib.hid (set4_blk RB8.out (.int .i64 n1) (.int .i64 n2) (.int .u64 n3) (.int .i64 n4))
   rw [← hwz] at HC HKB ⊢
   clear hwz r0 r1 r2 r3 f0 f1 f2 f3 x0 x1 x2 x3
   obtain ⟨k0, k1, k2, k3⟩ := cells4 HKB.out
   go_wp2_with (fail)
   refine bodyPost_ret (v := .tuple #[.agg #[.int .i64 n1, .int .i64 n2, .int .u64 n3, .int .i64 n4], .int .i64 0]) (by simp [results, Tryz.results306, go_sem, k0, k1, k2, k3]) rfl ?_
   exact HCG.out ⟨n1, n2, n3, n4⟩ _ _ (by rw [H1.out, QP.out]) H2.out (I8.out.below (HC.out.below I8.out.le (fun k hk e => by simp only [isG] at e; omega))) (C8.out.trans HC.out (fun k hk e => by simp only [isG] at e; omega))
  ·have hqb : (er != 0) = true := by simpa using hq
   have H1 : Hid (gv = Cm.zero) := Lib.hid (by rw [VV2.out, if_pos hq])
   have H2 : Hid (ge = 4) := Lib.hid (by rw [VE2.out, if_pos hq])
   clear VV2 VE2 hq
   go_wp2_with (fail)
   obtain ⟨wz, hwz⟩ : ∃ wz, wz = ((((w8.setCell ⟨w.heap.size, 0, none⟩ (.int .i64 0)).setCell ⟨w.heap.size, 1, none⟩ (.int .i64 0)).setCell ⟨w.heap.size, 2, none⟩ (.int .u64 0)).setCell ⟨w.heap.size, 3, none⟩ (.int .i64 0)) := ⟨_, rfl⟩
   have HC := Lib.hid (set4_chg w8 w.heap.size (.int .i64 0) (.int .i64 0) (.int .u64 0) (.int .i64 0))
   have HKB := Lib.hid (set4_blk RB8.out (.int .i64 0) (.int .i64 0) (.int .u64 0) (.int .i64 0))
   rw [← hwz] at HC HKB ⊢
   clear hwz r0 r1 r2 r3 f0 f1 f2 f3 x0 x1 x2 x3
   obtain ⟨k0, k1, k2, k3⟩ := cells4 HKB.out
   go_wp2_with (fail)
   refine bodyPost_ret (v := .tuple #[.agg #[.int .i64 0, .int .i64 0, .int .u64 0, .int .i64 0], .int .i64 4]) (by simp [results, Tryz.results306, go_sem, k0, k1, k2, k3]) rfl ?_
   exact HCG.out Cm.zero _ _ H1.out H2.out (I8.out.below (HC.out.below I8.out.le (fun k hk e => by simp only [isG] at e; omega))) (C8.out.trans HC.out (fun k hk e => by simp only [isG] at e; omega))
end Go.Proofs.YtmpedblelnpjdaaGreatDoor
