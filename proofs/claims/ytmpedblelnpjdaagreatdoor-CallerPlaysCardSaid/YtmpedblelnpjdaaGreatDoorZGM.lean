/- GM: CdI CdJ CdL CdM -/
import Derived.Test.YtmpedblelnpjdaaGreatDoorZGK
import Derived.Test.YtmpedblelnpjdaaGreatDoorZTq
/- Commands: which may be, of both (printed by cdgen6.py). -/
namespace Go.Proofs.YtmpedblelnpjdaaGreatDoor
open Go.RowKit
set_option linter.unusedSimpArgs false
set_option linter.unusedVariables false
set_option maxHeartbeats 4000000
set_option maxRecDepth 100000
def cmdE (k c e n : Int) : Int := if k < 0 ∨ 5 ≤ k then 1 else if k = 0 then (if c = 0 ∧ e = 0 ∧ n = 0 then 0 else 4) else if c < 0 ∨ 4 ≤ c ∨ e < 1 ∨ n < 1 ∨ 24 < n then 4 else 0
theorem cmdCheck_any (k c e n : Int) (he : 0 ≤ e) (w : World) :
  Calls Tryz.prog 264 #[.agg #[.int .i64 k, .int .i64 c, .int .u64 e, .int .i64 n]] w fun r w' => r = .returned (.int .i64 (cmdE k c e n)) ∧ Below w.heap.size w w' := by
 obtain ⟨W0, hW0⟩ : ∃ W0, W0 = w.alloc (.cells #[.int .i64 k, .int .i64 c, .int .u64 e, .int .i64 n] 30) := ⟨_, rfl⟩
 have hb0 : Below w.heap.size w W0 := by rw [hW0]; exact (Below.refl _ _).alloc (Nat.le_refl _) _
 have hbk : Blk W0 w.heap.size 30 #[.int .i64 k, .int .i64 c, .int .u64 e, .int .i64 n] := by rw [hW0]; exact Blk.new _ _ _
 have x0 : W0.cell? ⟨w.heap.size, 0, none⟩ = some (.int .i64 k) := hbk.cell 0
 have x1 : W0.cell? ⟨w.heap.size, 1, none⟩ = some (.int .i64 c) := hbk.cell 1
 have x2 : W0.cell? ⟨w.heap.size, 2, none⟩ = some (.int .u64 e) := hbk.cell 2
 have x3 : W0.cell? ⟨w.heap.size, 3, none⟩ = some (.int .i64 n) := hbk.cell 3
 have hl := hbk.lt
 have hz : ∀ w : World, (Instr.build 30 #[]).run Tryz.prog w = .ok (.agg #[.int .i64 0, .int .i64 0, .int .u64 0, .int .i64 0]) w := fun w => by kernel_rfl
 have HB := Lib.hid hb0
 have HW := Lib.hid hW0
 clear hb0 hW0 hbk
 by_cases a0 : k < 0
 ·have HV : Hid (cmdE k c e n = 1) := Lib.hid (by unfold cmdE; rw [if_pos (by omega)])
  exact rp29
 by_cases a1 : 5 ≤ k
 ·have g : 5 ≤ k := by omega
  have HV : Hid (cmdE k c e n = 1) := Lib.hid (by unfold cmdE; rw [if_pos (by omega)])
  clear g
  exact rp29
 have g : ¬ 5 ≤ k := by omega
 have HA1 := Lib.hid a1
 clear a1
 by_cases a2 : k = 0
 ·rw [a2] at x0
  have HA2 := Lib.hid a2
  clear a2
  by_cases b0 : c = 0
  rotate_left
  ·have e1 : (c == 0) = false := by simpa using b0
   have e2 : (c != 0) = true := by simpa using b0
   have HV : Hid (cmdE k c e n = 4) := Lib.hid (by unfold cmdE; rw [if_neg (by have := HA2.out; omega), if_pos HA2.out, if_neg (by omega)])
   clear b0
   exact rp29
  rw [b0] at x1
  have HC0 := Lib.hid b0
  clear b0
  by_cases b1 : e = 0
  rotate_left
  ·have e1 : (e == 0) = false := by simpa using b1
   have e2 : (e != 0) = true := by simpa using b1
   have HV : Hid (cmdE k c e n = 4) := Lib.hid (by unfold cmdE; rw [if_neg (by have := HA2.out; omega), if_pos HA2.out, if_neg (by omega)])
   clear b1
   exact rp29
  rw [b1] at x2
  have HC1 := Lib.hid b1
  clear b1
  by_cases b2 : n = 0
  rotate_left
  ·have e1 : (n == 0) = false := by simpa using b2
   have e2 : (n != 0) = true := by simpa using b2
   have HV : Hid (cmdE k c e n = 4) := Lib.hid (by unfold cmdE; rw [if_neg (by have := HA2.out; omega), if_pos HA2.out, if_neg (by omega)])
   clear b2
   exact rp29
  rw [b2] at x3
  have HC2 := Lib.hid b2
  clear b2
  have HV : Hid (cmdE k c e n = 0) := Lib.hid (by unfold cmdE; rw [if_neg (by have := HA2.out; omega), if_pos HA2.out, if_pos ⟨HC0.out, HC1.out, HC2.out⟩])
  exact rp29
 have e0 : (k == 0) = false := by simpa using a2
 have e0n : (k != 0) = true := by simpa using a2
 have HA2 := Lib.hid a2
 clear a2
 by_cases d0 : c < 0
 ·exact rp86
 by_cases d1 : 4 ≤ c
 ·have g1 : 4 ≤ c := by omega
  have HV : Hid (cmdE k c e n = 4) := Lib.hid (by unfold cmdE; rw [if_neg (by have := HA1.out; omega), if_neg (by have := HA2.out; omega), if_pos (by omega)])
  clear g1
  exact rp29
 have g1 : ¬ 4 ≤ c := by omega
 have HD1 := Lib.hid d1
 clear d1
 by_cases d2 : e < 1
 ·exact rp86
 have HD2 := Lib.hid d2
 by_cases d3 : n < 1
 ·exact rp86
 by_cases d4 : 24 < n
 ·exact rp86
 have HV : Hid (cmdE k c e n = 0) := Lib.hid (by unfold cmdE; rw [if_neg (by have := HA1.out; omega), if_neg (by have := HA2.out; omega), if_neg (by have := HD1.out; have := HD2.out; omega)])
 exact rp29
end Go.Proofs.YtmpedblelnpjdaaGreatDoor
/- What letter demands of updates: of one, and of a letter's. -/
namespace Go.Proofs.YtmpedblelnpjdaaGreatDoor
open Go.RowKit
set_option linter.unusedSimpArgs false
set_option linter.unusedVariables false
set_option maxHeartbeats 8000000
set_option maxRecDepth 100000
attribute [local go_sem] Up.agg Up.cells
def upOkP (u : Up) (r : Bool) : Prop := (u.seq = 0 ↔ r = true) ∧ 1 ≤ u.cl ∧ u.cl ≤ 6 ∧ 1 ≤ u.num ∧ ((u.kd = 2 ∧ u.ver = 0) ∨ u.kd = 3) ∧ u.n ≤ 2048
open Classical in
noncomputable def upOkB (u : Up) (r : Bool) : Bool := decide (upOkP u r)
theorem upOk_no {u : Up} {r : Bool} (h : ¬ upOkP u r) : false = upOkB u r := by unfold upOkB; simp [h]
theorem upOk_yes {u : Up} {r : Bool} (h : upOkP u r) : true = upOkB u r := by unfold upOkB; simp [h]
theorem update_any (u : Up) (r : Bool) (w : World) (hw : u.wf) (hn : u.n ≤ 1000000) :
  Calls Tryz.prog 312 #[u.agg, .bool r] w fun e w' => e = .returned (.bool (upOkB u r)) ∧ Below w.heap.size w w' := by
 have HB : Hid (Below w.heap.size w (w.alloc (.cells u.cells 145))) := Lib.hid (by repeat (first | with_reducible exact Below.refl _ _ | with_reducible refine Below.setCell ?_ (by first | omega | (simp <;> omega)) _ | with_reducible refine Below.alloc ?_ (by first | omega | (simp <;> omega)) _ | with_reducible refine below_drewN ?_ _ | with_reducible refine Below.drew ?_))
 have hn1 : (u.n : Int) ≤ 1000000 := by omega
 have HW := Lib.hid hw
 clear hw
 cases r with
 | true =>
  by_cases h1 : u.seq = 0
  rotate_left
  ·exact rp11
  by_cases h2 : u.cl < 1
  ·exact rp11
  by_cases h3 : 6 < u.cl
  ·exact rp11
  by_cases h4 : u.num < 1
  ·exact rp11
  by_cases h7 : (u.n : Int) ≤ 2048
  ·by_cases h5 : u.kd = 2
   ·by_cases h6 : u.ver = 0
    ·exact rp53
    ·exact rp11
   ·by_cases h6 : u.kd = 3
    ·exact rp53
    ·exact rp46
  ·by_cases h5 : u.kd = 2
   ·by_cases h6 : u.ver = 0
    ·exact rp11
    ·exact rp11
   ·by_cases h6 : u.kd = 3
    ·exact rp11
    ·exact rp46
 | false =>
  by_cases h1 : u.seq = 0
  ·exact rp10
  by_cases h2 : u.cl < 1
  ·exact rp10
  by_cases h3 : 6 < u.cl
  ·exact rp10
  by_cases h4 : u.num < 1
  ·exact rp10
  by_cases h7 : (u.n : Int) ≤ 2048
  ·by_cases h5 : u.kd = 2
   ·by_cases h6 : u.ver = 0
    ·exact rp52
    ·exact rp10
   ·by_cases h6 : u.kd = 3
    ·exact rp52
    ·exact rp45
  ·by_cases h5 : u.kd = 2
   ·by_cases h6 : u.ver = 0
    ·exact rp10
    ·exact rp10
   ·by_cases h6 : u.kd = 3
    ·exact rp10
    ·exact rp45
theorem updatesF_enter : ∀ (args : Array Value) (w : World), (callFunc 311 args).run Tryz.prog w = .ok (.enter 311 args) w :=
 enters_of Tryz.func311 (by kernel_rfl) rfl
theorem updatesF_any (u : Up) (r : Bool) (g : Nat) (w : World) (hw : u.wf) (hn : u.n ≤ 1000000) (hg : Blk w g 4 #[.bool r]) :
  Calls Tryz.prog 311 #[u.agg, .pointer (some ⟨g, 0, none⟩)] w fun e w' => e = .returned (.bool (!upOkB u r)) ∧ Below w.heap.size w w' := by
 have p0 := (hg.alloc (.cells u.cells 145)).cell 0
 have hlt := hg.lt
 have HB : Hid (Below w.heap.size w (w.alloc (.cells u.cells 145))) := Lib.hid (by repeat (first | with_reducible exact Below.refl _ _ | with_reducible refine Below.setCell ?_ (by first | omega | (simp <;> omega)) _ | with_reducible refine Below.alloc ?_ (by first | omega | (simp <;> omega)) _ | with_reducible refine below_drewN ?_ _ | with_reducible refine Below.drew ?_))
 have C := fun W => Lib.hid (update_any u r W hw hn)
 simp at p0
 have q0 := hg.cell 0
 simp at q0
 clear hw hg
 have HP0 := Lib.hid p0
 clear p0
 go_enter Tryz.func311, Tryz.ntmps311
 go_wp2_with (fail)
 refine (C _).out.mono ?_
 exact rp39
noncomputable def upsOk (l : List Up) (r : Bool) : Bool := l.all (fun u => upOkB u r)
theorem idxUpsG_any (A : Option Addr) (n c B : Nat) (l : List Up) (r : Bool) (g : Nat) (w : World) (h : UpsIn w B A n l) (hB : B ≤ w.heap.size) (hn : n ≤ 1000000) (hu : ∀ u ∈ l, u.n ≤ 1000000) (hg : Blk w g 4 #[.bool r]) :
  Calls Tryz.prog 326 #[.slice A n c, .func (.func 311) #[] #[.pointer (some ⟨g, 0, none⟩)]] w fun e w' => ∃ z : Int, e = .returned (.int .i64 z) ∧ Hid (upsOk l r = decide (z < 0)) ∧ Below w.heap.size w w' := by
 have hent := updatesF_enter
 have H := Lib.hid h
 have HG := Lib.hid hg
 have HLN := Lib.hid h.len
 have HNU := Lib.hid hu
 have HB0 : Hid (Below w.heap.size w w) := Lib.hid (Below.refl _ _)
 have hglt := hg.lt
 clear h hg hu
 go_enter Tryz.func326, Tryz.ntmps326
 go_wp2
 go_loopw [8] (fun iv wr => ∃ k : Nat, k ≤ n ∧ iv = .int .i64 k ∧ Hid (upsOk (l.take k) r = true) ∧ Hid (Below w.heap.size w wr)) (fun iv _ => n - (intOf iv).toNat)
 case atStart => exact ⟨0, by omega, rfl, Lib.hid rfl, HB0⟩
 case round =>
  clear HB0
  obtain ⟨k, hk, rfl, hok, HB⟩ := hrel
  by_cases hlt : k < n
  ·obtain ⟨b, o, u, rfl, hb, hu, hin, p0, p1, p2, p3, p4, p5, p6⟩ := (H.out.below (HB.out.mono hB)).at_ (k := k) hlt
   have HI := Lib.hid hin
   have HU := Lib.hid hu
   have hbw : b < wr.heap.size := Nat.lt_of_lt_of_le hb (Nat.le_trans hB HB.out.size)
   have C := Lib.hid (updatesF_any u r g wr hin.wf (HNU.out u (List.mem_of_getElem? hu)) (HG.out.below HB.out hglt))
   clear hin hu hb
   cases hv : upOkB u r with
   | true =>
    have HV := Lib.hid hv
    rw [hv] at C
    clear hv
    go_wp2_with (fail)
    refine C.out.mono ?_
    rintro e w1 ⟨rfl, h⟩
    have H1 := Lib.hid (HB.out.trans (h.mono HB.out.size))
    clear h p0 p1 p2 p3 p4 p5 p6
    go_wp2_with (fail)
    go_roundw
    case rel =>
     refine ⟨k + 1, by omega, by go_num, Lib.hid ?_, H1⟩
     rw [List.take_add_one, HU.out]
     have h5 := hok.out
     unfold upsOk at h5 ⊢
     simp only [Option.toList_some, List.all_append, List.all_cons, List.all_nil, h5, HV.out, Bool.and_true]
    case measure => simp [intOf]; omega
   | false =>
    have HV := Lib.hid hv
    rw [hv] at C
    clear hv
    go_wp2_with (fail)
    refine C.out.mono ?_
    rintro e w1 ⟨rfl, h⟩
    have H1 := Lib.hid (HB.out.trans (h.mono HB.out.size))
    clear h p0 p1 p2 p3 p4 p5 p6
    go_wp2_with (fail)
    go_ret
    refine ⟨k, rfl, Lib.hid ?_, H1.out⟩
    rw [decide_eq_false (by omega)]
    unfold upsOk
    rw [List.all_eq_false]
    exact ⟨u, List.mem_of_getElem? HU.out, by rw [HV.out]; simp⟩
  ·obtain rfl : k = n := by omega
   go_wp2
   go_ret
   refine ⟨-1, rfl, Lib.hid ?_, HB.out⟩
   have h5 := hok.out
   rw [List.take_of_length_le (by have := HLN.out; omega)] at h5
   rw [h5]; rfl
theorem containsUpsG_any (A : Option Addr) (n c B : Nat) (l : List Up) (r : Bool) (g : Nat) (w : World) (h : UpsIn w B A n l) (hB : B ≤ w.heap.size) (hn : n ≤ 1000000) (hu : ∀ u ∈ l, u.n ≤ 1000000) (hg : Blk w g 4 #[.bool r]) :
  Calls Tryz.prog 310 #[.slice A n c, .func (.func 311) #[] #[.pointer (some ⟨g, 0, none⟩)]] w fun e w' => e = .returned (.bool (!upsOk l r)) ∧ Below w.heap.size w w' := by
 have C := Lib.hid (idxUpsG_any A n c B l r g w h hB hn hu hg)
 clear h hg
 go_enter Tryz.func310, Tryz.ntmps310
 go_wp2_with (fail)
 refine C.out.mono ?_
 rintro e w1 ⟨z, rfl, HZ, h⟩
 have H1 := Lib.hid h
 clear h C
 by_cases hz : 0 ≤ z
 ·have HN : Hid (upsOk l r = false) := Lib.hid (by rw [HZ.out]; exact decide_eq_false (by omega))
  go_wp2_with (fail)
  go_ret
  exact ⟨by rw [HN.out]; rfl, H1.out⟩
 ·have HN : Hid (upsOk l r = true) := Lib.hid (by rw [HZ.out]; exact decide_eq_true (by omega))
  go_wp2_with (fail)
  go_ret
  exact ⟨ret_bool (by rw [HN.out]; simp [hz]), H1.out⟩
noncomputable def updsB (kd : Int) (l : List Up) : Bool := decide ((kd = 17 → l.length = 1) ∧ l.length ≤ 4) && upsOk l (decide (kd = 17))
theorem letUpdatesG_any (x : LV) (B : Nat) (w : World) (h : LIn w B x) (hB : B ≤ w.heap.size) (hn : x.near) :
  Calls Tryz.prog 276 #[.agg x.l.cells] w fun e w' => e = .returned (.bool (updsB x.l.kd x.us)) ∧ Below w.heap.size w w' := by
 obtain ⟨W0, hW0⟩ : ∃ W0, W0 = w.alloc (.cells x.l.cells 37) := ⟨_, rfl⟩
 have hb1 : Blk W0 w.heap.size 37 x.l.cells := by rw [hW0]; exact Blk.new w _ _
 have x0 := (hb1.cell 0).trans (show _ = some (.int .i64 x.l.kd) from rfl)
 have x23 := (hb1.cell 23).trans (show _ = some (.slice x.l.uA x.l.un x.l.up) from rfl)
 have l1 := hb1.lt
 have HBW : Hid (Below w.heap.size w W0) := Lib.hid (by rw [hW0]; repeat (first | with_reducible exact Below.refl _ _ | with_reducible refine Below.setCell ?_ (by first | omega | (simp <;> omega)) _ | with_reducible refine Below.alloc ?_ (by first | omega | (simp <;> omega)) _ | with_reducible refine below_drewN ?_ _ | with_reducible refine Below.drew ?_))
 have HW := Lib.hid hW0
 have ul := Lib.hid h.ul
 have H := Lib.hid h
 have HN := Lib.hid hn
 obtain ⟨r, hr⟩ : ∃ r : Bool, r = decide (x.l.kd = 17) := ⟨_, rfl⟩
 have HR := Lib.hid hr
 have HX : Hid (Blk (W0.alloc (.cells #[.bool r] 4)) W0.heap.size 4 #[.bool r]) := Lib.hid (Blk.new _ _ _)
 have HB2 : Hid (Below w.heap.size w (W0.alloc (.cells #[.bool r] 4))) := Lib.hid (HBW.out.alloc HBW.out.size _)
 have CC := Lib.hid (containsUpsG_any x.l.uA x.l.un x.l.up B x.us r W0.heap.size _ (h.up.below (HB2.out.mono hB)) (Nat.le_trans hB HB2.out.size) hn.ul hn.us HX.out)
 have UV : Hid (updsB x.l.kd x.us = (decide ((x.l.kd = 17 → x.l.un = 1) ∧ x.l.un ≤ 4) && upsOk x.us r)) := Lib.hid (by unfold updsB; rw [ul.out, HR.out])
 clear hW0 hb1 h hn hr
 generalize updsB x.l.kd x.us = res at *
 generalize upsOk x.us r = ok at *
 by_cases hk : x.l.kd = 17
 ·obtain rfl : r = true := by rw [HR.out]; exact decide_eq_true hk
  have hk' : (x.l.kd == 17) = true := by simpa using hk
  have HK := Lib.hid hk
  rw [hk] at x0
  clear hk hk'
  by_cases h1 : x.l.un = 1
  ·have e1 : ((x.l.un : Int) != 1) = false := by simp [h1]
   have e2 : ¬ (4 : Int) < x.l.un := by omega
   have HV : Hid (res = ok) := Lib.hid (by rw [UV.out, decide_eq_true ⟨fun _ => h1, by omega⟩]; simp)
   exact rp67
  ·have e1 : ((x.l.un : Int) != 1) = true := by simp; omega
   have HV : Hid (res = false) := Lib.hid (by rw [UV.out, decide_eq_false (fun h => h1 (h.1 HK.out))]; simp)
   exact rp77
 ·obtain rfl : r = false := by rw [HR.out]; exact decide_eq_false hk
  have hk' : (x.l.kd == 17) = false := by simpa using hk
  have HK := Lib.hid hk
  clear hk
  by_cases h1 : 4 < x.l.un
  ·have e1 : (4 : Int) < x.l.un := by omega
   have HV : Hid (res = false) := Lib.hid (by rw [UV.out, decide_eq_false (fun h => by omega)]; simp)
   exact rp77
  ·have e1 : ¬ (4 : Int) < x.l.un := by omega
   have HV : Hid (res = ok) := Lib.hid (by rw [UV.out, decide_eq_true ⟨fun h => absurd h HK.out, by omega⟩]; simp)
   exact rp67
end Go.Proofs.YtmpedblelnpjdaaGreatDoor
/- cmds.Put, cmds.Get; a reader made wrong. -/
namespace Go.Proofs.YtmpedblelnpjdaaGreatDoor
open Go.RowKit
set_option linter.unusedSimpArgs false
set_option linter.unusedVariables false
set_option maxHeartbeats 8000000
set_option maxRecDepth 100000
end Go.Proofs.YtmpedblelnpjdaaGreatDoor
/- cmds.Get. -/
namespace Go.Proofs.YtmpedblelnpjdaaGreatDoor
open Go.RowKit
set_option linter.unusedSimpArgs false
set_option linter.unusedVariables false
set_option maxHeartbeats 8000000
set_option maxRecDepth 100000
structure Cm where
 k : Int
 c : Int
 e : Int
 n : Int
def Cm.cells (q : Cm) : Array Value := #[.int .i64 q.k, .int .i64 q.c, .int .u64 q.e, .int .i64 q.n]
def Cm.agg (q : Cm) : Value := .agg #[.int .i64 q.k, .int .i64 q.c, .int .u64 q.e, .int .i64 q.n]
def Cm.zero : Cm := ⟨0, 0, 0, 0⟩
structure Cm.wf (q : Cm) : Prop where
 k : -9223372036854775808 ≤ q.k ∧ q.k ≤ 9223372036854775807
 c : -9223372036854775808 ≤ q.c ∧ q.c ≤ 9223372036854775807
 e : 0 ≤ q.e ∧ q.e ≤ 18446744073709551615
 n : -9223372036854775808 ≤ q.n ∧ q.n ≤ 9223372036854775807
def cp1 (bs : List Int) : FI × Nat := (⟨bs, 0⟩ : FI).upto 1 18446744073709551615
def cp2 (bs : List Int) : FI × Nat := (cp1 bs).1.upto 1 18446744073709551615
def cp3 (bs : List Int) : FI × Nat := (cp2 bs).1.upto 8 18446744073709551615
def cp4 (bs : List Int) : FI × Nat := (cp3 bs).1.upto 1 18446744073709551615
end Go.Proofs.YtmpedblelnpjdaaGreatDoor
