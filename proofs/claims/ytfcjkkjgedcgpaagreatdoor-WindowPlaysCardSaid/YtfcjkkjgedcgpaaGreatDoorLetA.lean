/- Letters: as data, in memory; the closures of bare. -/
import Derived.Test.YtfcjkkjgedcgpaaGreatDoorRows
import Derived.Shelf.Abstract
import Derived.Test.YtfcjkkjgedcgpaaGreatDoorMemC
import Derived.Test.YtfcjkkjgedcgpaaGreatDoorMemB
import Derived.Test.YtfcjkkjgedcgpaaGreatDoorUpdC
namespace Go.Proofs.YtfcjkkjgedcgpaaGreatDoor
open Go.RowKit
set_option linter.unusedSimpArgs false
set_option linter.unusedVariables false
set_option maxHeartbeats 4000000
set_option maxRecDepth 100000

structure Lt where
  kd : Int
  fr : Int
  tw : Int
  ch : Int
  ep : Int
  bl : Int
  nu : Int
  sq : Int
  dz : Int
  vr : Int
  sl : Int
  ky : Int
  cd : Int
  qk : Int
  qc : Int
  qe : Int
  qn : Int
  fc : Int
  fe : Int
  fA : Option Addr
  fn : Nat
  fp : Nat
  ff : Bool
  fj : Int
  vA : Option Addr
  vn : Nat
  vp : Nat
  uA : Option Addr
  un : Nat
  up : Nat
  dA : Option Addr
  dn : Nat
  dp : Nat
def Lt.agg (l : Lt) : Value := .agg #[.int .i64 l.kd, .int .i64 l.fr, .int .i64 l.tw, .int .i64 l.ch, .int .u64 l.ep, .int .u64 l.bl, .int .u64 l.nu, .int .u64 l.sq, .int .u64 l.dz, .int .u64 l.vr, .int .i64 l.sl, .int .u32 l.ky, .int .i64 l.cd, .int .i64 l.qk, .int .i64 l.qc, .int .u64 l.qe, .int .i64 l.qn, .int .i64 l.fc, .int .u64 l.fe, .slice l.fA l.fn l.fp, .bool l.ff, .int .i64 l.fj, .slice l.vA l.vn l.vp, .slice l.uA l.un l.up, .slice l.dA l.dn l.dp]
def Lt.cells (l : Lt) : Array Value := #[.int .i64 l.kd, .int .i64 l.fr, .int .i64 l.tw, .int .i64 l.ch, .int .u64 l.ep, .int .u64 l.bl, .int .u64 l.nu, .int .u64 l.sq, .int .u64 l.dz, .int .u64 l.vr, .int .i64 l.sl, .int .u32 l.ky, .int .i64 l.cd, .int .i64 l.qk, .int .i64 l.qc, .int .u64 l.qe, .int .i64 l.qn, .int .i64 l.fc, .int .u64 l.fe, .slice l.fA l.fn l.fp, .bool l.ff, .int .i64 l.fj, .slice l.vA l.vn l.vp, .slice l.uA l.un l.up, .slice l.dA l.dn l.dp]
/-- a letter with those of its parts that f tells -/
def Lt.mask (l : Lt) (f : Nat → Bool) : Lt := { kd := l.kd, fr := l.fr, tw := l.tw, ch := if f 0 then l.ch else 0, ep := if f 1 then l.ep else 0, bl := if f 2 then l.bl else 0, sq := if f 3 then l.sq else 0, dz := if f 4 then l.dz else 0, sl := if f 5 then l.sl else 0, nu := if f 6 then l.nu else 0, cd := if f 7 then l.cd else 0, ky := if f 8 then l.ky else 0, vr := if f 9 then l.vr else 0, qk := if f 10 then l.qk else 0, qc := if f 10 then l.qc else 0, qe := if f 10 then l.qe else 0, qn := if f 10 then l.qn else 0, fc := if f 11 then l.fc else 0, fe := if f 11 then l.fe else 0, fA := if f 11 then l.fA else none, fn := if f 11 then l.fn else 0, fp := if f 11 then l.fp else 0, ff := if f 11 then l.ff else false, fj := if f 11 then l.fj else 0, vA := if f 12 then l.vA else none, vn := if f 12 then l.vn else 0, vp := if f 12 then l.vp else 0, uA := if f 13 then l.uA else none, un := if f 13 then l.un else 0, up := if f 13 then l.up else 0, dA := if f 14 then l.dA else none, dn := if f 14 then l.dn else 0, dp := if f 14 then l.dp else 0 }
def updF (f : Nat → Bool) (j : Nat) : Nat → Bool := fun i => if i = j then true else f i
def isB (g : Nat) : Nat → Prop := fun k => k = g
theorem chg_setB (w : World) (g : Nat) (u : Value) (o : Nat) : Chg w (w.setCell ⟨g, o, none⟩ u) (isB g) :=
  (Chg.of_grown (only_setCell (World.grownBy.refl w (some g)) (p := ⟨g, o, none⟩) (.inl rfl) u)).mono (fun i _ hi => by injection hi)
attribute [local go_sem] Lt.cells
theorem blk_at7 (w : World) (t : TypeId) (cs : Array Value) (g : Nat) (h : g = w.heap.size) : Blk (w.alloc (.cells cs t)) g t cs := by subst h; exact Blk.new w t cs
def BareP (l : Lt) (f : Nat → Bool) (j o : Nat) (W : World) (e : Ending) (W' : World) : Prop :=
  e = .returned (.tuple #[]) ∧ Blk W' o 75 (l.mask (updF f j)).cells ∧ Chg W W' (isB o)
theorem bareF0 (l : Lt) (f : Nat → Bool) (b o : Nat) (W : World) (hb : Blk W b 75 l.cells) (ho : Blk W o 75 (l.mask f).cells) (hne : b ≠ o) :
    Calls Tryz.prog 54 #[.pointer (some ⟨b, 0, none⟩), .pointer (some ⟨o, 0, none⟩)] W (BareP l f 0 o W) := by
  have HO := Lib.hid ho
  have c3 := (hb.cell 3).trans (show _ = some (.int .i64 l.ch) from rfl)
  have o3 := (ho.cell 3).trans (show _ = some (.int .i64 (l.mask f).ch) from rfl)
  have g3 := ho.frozen 3
  have hne2 : o ≠ b := fun e => hne e.symm
  have lb := hb.lt
  have lo := ho.lt
  clear hb ho
  go_enter Tryz.func54, Tryz.ntmps54
  go_wp2_with (fail)
  go_end0
  exact ⟨rfl, (HO.out.set_ 3 (.int .i64 l.ch)), (chg_setB W o (.int .i64 l.ch) 3)⟩
theorem bareF1 (l : Lt) (f : Nat → Bool) (b o : Nat) (W : World) (hb : Blk W b 75 l.cells) (ho : Blk W o 75 (l.mask f).cells) (hne : b ≠ o) :
    Calls Tryz.prog 55 #[.pointer (some ⟨b, 0, none⟩), .pointer (some ⟨o, 0, none⟩)] W (BareP l f 1 o W) := by
  have HO := Lib.hid ho
  have c4 := (hb.cell 4).trans (show _ = some (.int .u64 l.ep) from rfl)
  have o4 := (ho.cell 4).trans (show _ = some (.int .u64 (l.mask f).ep) from rfl)
  have g4 := ho.frozen 4
  have hne2 : o ≠ b := fun e => hne e.symm
  have lb := hb.lt
  have lo := ho.lt
  clear hb ho
  go_enter Tryz.func55, Tryz.ntmps55
  go_wp2_with (fail)
  go_end0
  exact ⟨rfl, (HO.out.set_ 4 (.int .u64 l.ep)), (chg_setB W o (.int .u64 l.ep) 4)⟩
theorem bareF2 (l : Lt) (f : Nat → Bool) (b o : Nat) (W : World) (hb : Blk W b 75 l.cells) (ho : Blk W o 75 (l.mask f).cells) (hne : b ≠ o) :
    Calls Tryz.prog 56 #[.pointer (some ⟨b, 0, none⟩), .pointer (some ⟨o, 0, none⟩)] W (BareP l f 2 o W) := by
  have HO := Lib.hid ho
  have c5 := (hb.cell 5).trans (show _ = some (.int .u64 l.bl) from rfl)
  have o5 := (ho.cell 5).trans (show _ = some (.int .u64 (l.mask f).bl) from rfl)
  have g5 := ho.frozen 5
  have hne2 : o ≠ b := fun e => hne e.symm
  have lb := hb.lt
  have lo := ho.lt
  clear hb ho
  go_enter Tryz.func56, Tryz.ntmps56
  go_wp2_with (fail)
  go_end0
  exact ⟨rfl, (HO.out.set_ 5 (.int .u64 l.bl)), (chg_setB W o (.int .u64 l.bl) 5)⟩
theorem bareF3 (l : Lt) (f : Nat → Bool) (b o : Nat) (W : World) (hb : Blk W b 75 l.cells) (ho : Blk W o 75 (l.mask f).cells) (hne : b ≠ o) :
    Calls Tryz.prog 57 #[.pointer (some ⟨b, 0, none⟩), .pointer (some ⟨o, 0, none⟩)] W (BareP l f 3 o W) := by
  have HO := Lib.hid ho
  have c7 := (hb.cell 7).trans (show _ = some (.int .u64 l.sq) from rfl)
  have o7 := (ho.cell 7).trans (show _ = some (.int .u64 (l.mask f).sq) from rfl)
  have g7 := ho.frozen 7
  have hne2 : o ≠ b := fun e => hne e.symm
  have lb := hb.lt
  have lo := ho.lt
  clear hb ho
  go_enter Tryz.func57, Tryz.ntmps57
  go_wp2_with (fail)
  go_end0
  exact ⟨rfl, (HO.out.set_ 7 (.int .u64 l.sq)), (chg_setB W o (.int .u64 l.sq) 7)⟩
theorem bareF4 (l : Lt) (f : Nat → Bool) (b o : Nat) (W : World) (hb : Blk W b 75 l.cells) (ho : Blk W o 75 (l.mask f).cells) (hne : b ≠ o) :
    Calls Tryz.prog 58 #[.pointer (some ⟨b, 0, none⟩), .pointer (some ⟨o, 0, none⟩)] W (BareP l f 4 o W) := by
  have HO := Lib.hid ho
  have c8 := (hb.cell 8).trans (show _ = some (.int .u64 l.dz) from rfl)
  have o8 := (ho.cell 8).trans (show _ = some (.int .u64 (l.mask f).dz) from rfl)
  have g8 := ho.frozen 8
  have hne2 : o ≠ b := fun e => hne e.symm
  have lb := hb.lt
  have lo := ho.lt
  clear hb ho
  go_enter Tryz.func58, Tryz.ntmps58
  go_wp2_with (fail)
  go_end0
  exact ⟨rfl, (HO.out.set_ 8 (.int .u64 l.dz)), (chg_setB W o (.int .u64 l.dz) 8)⟩
theorem bareF5 (l : Lt) (f : Nat → Bool) (b o : Nat) (W : World) (hb : Blk W b 75 l.cells) (ho : Blk W o 75 (l.mask f).cells) (hne : b ≠ o) :
    Calls Tryz.prog 59 #[.pointer (some ⟨b, 0, none⟩), .pointer (some ⟨o, 0, none⟩)] W (BareP l f 5 o W) := by
  have HO := Lib.hid ho
  have c10 := (hb.cell 10).trans (show _ = some (.int .i64 l.sl) from rfl)
  have o10 := (ho.cell 10).trans (show _ = some (.int .i64 (l.mask f).sl) from rfl)
  have g10 := ho.frozen 10
  have hne2 : o ≠ b := fun e => hne e.symm
  have lb := hb.lt
  have lo := ho.lt
  clear hb ho
  go_enter Tryz.func59, Tryz.ntmps59
  go_wp2_with (fail)
  go_end0
  exact ⟨rfl, (HO.out.set_ 10 (.int .i64 l.sl)), (chg_setB W o (.int .i64 l.sl) 10)⟩
theorem bareF6 (l : Lt) (f : Nat → Bool) (b o : Nat) (W : World) (hb : Blk W b 75 l.cells) (ho : Blk W o 75 (l.mask f).cells) (hne : b ≠ o) :
    Calls Tryz.prog 60 #[.pointer (some ⟨b, 0, none⟩), .pointer (some ⟨o, 0, none⟩)] W (BareP l f 6 o W) := by
  have HO := Lib.hid ho
  have c6 := (hb.cell 6).trans (show _ = some (.int .u64 l.nu) from rfl)
  have o6 := (ho.cell 6).trans (show _ = some (.int .u64 (l.mask f).nu) from rfl)
  have g6 := ho.frozen 6
  have hne2 : o ≠ b := fun e => hne e.symm
  have lb := hb.lt
  have lo := ho.lt
  clear hb ho
  go_enter Tryz.func60, Tryz.ntmps60
  go_wp2_with (fail)
  go_end0
  exact ⟨rfl, (HO.out.set_ 6 (.int .u64 l.nu)), (chg_setB W o (.int .u64 l.nu) 6)⟩
theorem bareF7 (l : Lt) (f : Nat → Bool) (b o : Nat) (W : World) (hb : Blk W b 75 l.cells) (ho : Blk W o 75 (l.mask f).cells) (hne : b ≠ o) :
    Calls Tryz.prog 61 #[.pointer (some ⟨b, 0, none⟩), .pointer (some ⟨o, 0, none⟩)] W (BareP l f 7 o W) := by
  have HO := Lib.hid ho
  have c12 := (hb.cell 12).trans (show _ = some (.int .i64 l.cd) from rfl)
  have o12 := (ho.cell 12).trans (show _ = some (.int .i64 (l.mask f).cd) from rfl)
  have g12 := ho.frozen 12
  have hne2 : o ≠ b := fun e => hne e.symm
  have lb := hb.lt
  have lo := ho.lt
  clear hb ho
  go_enter Tryz.func61, Tryz.ntmps61
  go_wp2_with (fail)
  go_end0
  exact ⟨rfl, (HO.out.set_ 12 (.int .i64 l.cd)), (chg_setB W o (.int .i64 l.cd) 12)⟩
theorem bareF8 (l : Lt) (f : Nat → Bool) (b o : Nat) (W : World) (hb : Blk W b 75 l.cells) (ho : Blk W o 75 (l.mask f).cells) (hne : b ≠ o) :
    Calls Tryz.prog 62 #[.pointer (some ⟨b, 0, none⟩), .pointer (some ⟨o, 0, none⟩)] W (BareP l f 8 o W) := by
  have HO := Lib.hid ho
  have c11 := (hb.cell 11).trans (show _ = some (.int .u32 l.ky) from rfl)
  have o11 := (ho.cell 11).trans (show _ = some (.int .u32 (l.mask f).ky) from rfl)
  have g11 := ho.frozen 11
  have hne2 : o ≠ b := fun e => hne e.symm
  have lb := hb.lt
  have lo := ho.lt
  clear hb ho
  go_enter Tryz.func62, Tryz.ntmps62
  go_wp2_with (fail)
  go_end0
  exact ⟨rfl, (HO.out.set_ 11 (.int .u32 l.ky)), (chg_setB W o (.int .u32 l.ky) 11)⟩
theorem bareF9 (l : Lt) (f : Nat → Bool) (b o : Nat) (W : World) (hb : Blk W b 75 l.cells) (ho : Blk W o 75 (l.mask f).cells) (hne : b ≠ o) :
    Calls Tryz.prog 63 #[.pointer (some ⟨b, 0, none⟩), .pointer (some ⟨o, 0, none⟩)] W (BareP l f 9 o W) := by
  have HO := Lib.hid ho
  have c9 := (hb.cell 9).trans (show _ = some (.int .u64 l.vr) from rfl)
  have o9 := (ho.cell 9).trans (show _ = some (.int .u64 (l.mask f).vr) from rfl)
  have g9 := ho.frozen 9
  have hne2 : o ≠ b := fun e => hne e.symm
  have lb := hb.lt
  have lo := ho.lt
  clear hb ho
  go_enter Tryz.func63, Tryz.ntmps63
  go_wp2_with (fail)
  go_end0
  exact ⟨rfl, (HO.out.set_ 9 (.int .u64 l.vr)), (chg_setB W o (.int .u64 l.vr) 9)⟩
theorem bareF10 (l : Lt) (f : Nat → Bool) (b o : Nat) (W : World) (hb : Blk W b 75 l.cells) (ho : Blk W o 75 (l.mask f).cells) (hne : b ≠ o) :
    Calls Tryz.prog 64 #[.pointer (some ⟨b, 0, none⟩), .pointer (some ⟨o, 0, none⟩)] W (BareP l f 10 o W) := by
  have HO := Lib.hid ho
  have c13 := (hb.cell 13).trans (show _ = some (.int .i64 l.qk) from rfl)
  have o13 := (ho.cell 13).trans (show _ = some (.int .i64 (l.mask f).qk) from rfl)
  have g13 := ho.frozen 13
  have c14 := (hb.cell 14).trans (show _ = some (.int .i64 l.qc) from rfl)
  have o14 := (ho.cell 14).trans (show _ = some (.int .i64 (l.mask f).qc) from rfl)
  have g14 := ho.frozen 14
  have c15 := (hb.cell 15).trans (show _ = some (.int .u64 l.qe) from rfl)
  have o15 := (ho.cell 15).trans (show _ = some (.int .u64 (l.mask f).qe) from rfl)
  have g15 := ho.frozen 15
  have c16 := (hb.cell 16).trans (show _ = some (.int .i64 l.qn) from rfl)
  have o16 := (ho.cell 16).trans (show _ = some (.int .i64 (l.mask f).qn) from rfl)
  have g16 := ho.frozen 16
  have hne2 : o ≠ b := fun e => hne e.symm
  have lb := hb.lt
  have lo := ho.lt
  clear hb ho
  go_enter Tryz.func64, Tryz.ntmps64
  go_wp2_with (fail)
  go_end0
  exact ⟨rfl, ((((HO.out.set_ 13 (.int .i64 l.qk)).set_ 14 (.int .i64 l.qc)).set_ 15 (.int .u64 l.qe)).set_ 16 (.int .i64 l.qn)), ((((chg_setB W o (.int .i64 l.qk) 13).trans (chg_setB _ o (.int .i64 l.qc) 14) (fun _ _ x => x)).trans (chg_setB _ o (.int .u64 l.qe) 15) (fun _ _ x => x)).trans (chg_setB _ o (.int .i64 l.qn) 16) (fun _ _ x => x))⟩
theorem bareF11 (l : Lt) (f : Nat → Bool) (b o : Nat) (W : World) (hb : Blk W b 75 l.cells) (ho : Blk W o 75 (l.mask f).cells) (hne : b ≠ o) :
    Calls Tryz.prog 65 #[.pointer (some ⟨b, 0, none⟩), .pointer (some ⟨o, 0, none⟩)] W (BareP l f 11 o W) := by
  have HO := Lib.hid ho
  have c17 := (hb.cell 17).trans (show _ = some (.int .i64 l.fc) from rfl)
  have o17 := (ho.cell 17).trans (show _ = some (.int .i64 (l.mask f).fc) from rfl)
  have g17 := ho.frozen 17
  have c18 := (hb.cell 18).trans (show _ = some (.int .u64 l.fe) from rfl)
  have o18 := (ho.cell 18).trans (show _ = some (.int .u64 (l.mask f).fe) from rfl)
  have g18 := ho.frozen 18
  have c19 := (hb.cell 19).trans (show _ = some (.slice l.fA l.fn l.fp) from rfl)
  have o19 := (ho.cell 19).trans (show _ = some (.slice (l.mask f).fA (l.mask f).fn (l.mask f).fp) from rfl)
  have g19 := ho.frozen 19
  have c20 := (hb.cell 20).trans (show _ = some (.bool l.ff) from rfl)
  have o20 := (ho.cell 20).trans (show _ = some (.bool (l.mask f).ff) from rfl)
  have g20 := ho.frozen 20
  have c21 := (hb.cell 21).trans (show _ = some (.int .i64 l.fj) from rfl)
  have o21 := (ho.cell 21).trans (show _ = some (.int .i64 (l.mask f).fj) from rfl)
  have g21 := ho.frozen 21
  have hne2 : o ≠ b := fun e => hne e.symm
  have lb := hb.lt
  have lo := ho.lt
  clear hb ho
  go_enter Tryz.func65, Tryz.ntmps65
  go_wp2_with (fail)
  go_end0
  exact ⟨rfl, (((((HO.out.set_ 17 (.int .i64 l.fc)).set_ 18 (.int .u64 l.fe)).set_ 19 (.slice l.fA l.fn l.fp)).set_ 20 (.bool l.ff)).set_ 21 (.int .i64 l.fj)), (((((chg_setB W o (.int .i64 l.fc) 17).trans (chg_setB _ o (.int .u64 l.fe) 18) (fun _ _ x => x)).trans (chg_setB _ o (.slice l.fA l.fn l.fp) 19) (fun _ _ x => x)).trans (chg_setB _ o (.bool l.ff) 20) (fun _ _ x => x)).trans (chg_setB _ o (.int .i64 l.fj) 21) (fun _ _ x => x))⟩
theorem bareF12 (l : Lt) (f : Nat → Bool) (b o : Nat) (W : World) (hb : Blk W b 75 l.cells) (ho : Blk W o 75 (l.mask f).cells) (hne : b ≠ o) :
    Calls Tryz.prog 66 #[.pointer (some ⟨b, 0, none⟩), .pointer (some ⟨o, 0, none⟩)] W (BareP l f 12 o W) := by
  have HO := Lib.hid ho
  have c22 := (hb.cell 22).trans (show _ = some (.slice l.vA l.vn l.vp) from rfl)
  have o22 := (ho.cell 22).trans (show _ = some (.slice (l.mask f).vA (l.mask f).vn (l.mask f).vp) from rfl)
  have g22 := ho.frozen 22
  have hne2 : o ≠ b := fun e => hne e.symm
  have lb := hb.lt
  have lo := ho.lt
  clear hb ho
  go_enter Tryz.func66, Tryz.ntmps66
  go_wp2_with (fail)
  go_end0
  exact ⟨rfl, (HO.out.set_ 22 (.slice l.vA l.vn l.vp)), (chg_setB W o (.slice l.vA l.vn l.vp) 22)⟩
theorem bareF13 (l : Lt) (f : Nat → Bool) (b o : Nat) (W : World) (hb : Blk W b 75 l.cells) (ho : Blk W o 75 (l.mask f).cells) (hne : b ≠ o) :
    Calls Tryz.prog 67 #[.pointer (some ⟨b, 0, none⟩), .pointer (some ⟨o, 0, none⟩)] W (BareP l f 13 o W) := by
  have HO := Lib.hid ho
  have c23 := (hb.cell 23).trans (show _ = some (.slice l.uA l.un l.up) from rfl)
  have o23 := (ho.cell 23).trans (show _ = some (.slice (l.mask f).uA (l.mask f).un (l.mask f).up) from rfl)
  have g23 := ho.frozen 23
  have hne2 : o ≠ b := fun e => hne e.symm
  have lb := hb.lt
  have lo := ho.lt
  clear hb ho
  go_enter Tryz.func67, Tryz.ntmps67
  go_wp2_with (fail)
  go_end0
  exact ⟨rfl, (HO.out.set_ 23 (.slice l.uA l.un l.up)), (chg_setB W o (.slice l.uA l.un l.up) 23)⟩
theorem bareF14 (l : Lt) (f : Nat → Bool) (b o : Nat) (W : World) (hb : Blk W b 75 l.cells) (ho : Blk W o 75 (l.mask f).cells) (hne : b ≠ o) :
    Calls Tryz.prog 68 #[.pointer (some ⟨b, 0, none⟩), .pointer (some ⟨o, 0, none⟩)] W (BareP l f 14 o W) := by
  have HO := Lib.hid ho
  have c24 := (hb.cell 24).trans (show _ = some (.slice l.dA l.dn l.dp) from rfl)
  have o24 := (ho.cell 24).trans (show _ = some (.slice (l.mask f).dA (l.mask f).dn (l.mask f).dp) from rfl)
  have g24 := ho.frozen 24
  have hne2 : o ≠ b := fun e => hne e.symm
  have lb := hb.lt
  have lo := ho.lt
  clear hb ho
  go_enter Tryz.func68, Tryz.ntmps68
  go_wp2_with (fail)
  go_end0
  exact ⟨rfl, (HO.out.set_ 24 (.slice l.dA l.dn l.dp)), (chg_setB W o (.slice l.dA l.dn l.dp) 24)⟩
theorem bareF_any (l : Lt) (f : Nat → Bool) (b o : Nat) (j : Nat) (hj : j < 15) (W : World) (hb : Blk W b 75 l.cells) (ho : Blk W o 75 (l.mask f).cells) (hne : b ≠ o) :
    Calls Tryz.prog (54 + j) #[.pointer (some ⟨b, 0, none⟩), .pointer (some ⟨o, 0, none⟩)] W (BareP l f j o W) := by
  match j, hj with
  | 0, _ => exact bareF0 l f b o W hb ho hne
  | 1, _ => exact bareF1 l f b o W hb ho hne
  | 2, _ => exact bareF2 l f b o W hb ho hne
  | 3, _ => exact bareF3 l f b o W hb ho hne
  | 4, _ => exact bareF4 l f b o W hb ho hne
  | 5, _ => exact bareF5 l f b o W hb ho hne
  | 6, _ => exact bareF6 l f b o W hb ho hne
  | 7, _ => exact bareF7 l f b o W hb ho hne
  | 8, _ => exact bareF8 l f b o W hb ho hne
  | 9, _ => exact bareF9 l f b o W hb ho hne
  | 10, _ => exact bareF10 l f b o W hb ho hne
  | 11, _ => exact bareF11 l f b o W hb ho hne
  | 12, _ => exact bareF12 l f b o W hb ho hne
  | 13, _ => exact bareF13 l f b o W hb ho hne
  | 14, _ => exact bareF14 l f b o W hb ho hne
theorem bare_enter (j : Nat) (hj : j < 15) : ∀ (args : Array Value) (w : World), (callFunc (54 + j) args).run Tryz.prog w = .ok (.enter (54 + j) args) w := by
  match j, hj with
  | 0, _ => exact enters_of Tryz.func54 (by kernel_rfl) rfl
  | 1, _ => exact enters_of Tryz.func55 (by kernel_rfl) rfl
  | 2, _ => exact enters_of Tryz.func56 (by kernel_rfl) rfl
  | 3, _ => exact enters_of Tryz.func57 (by kernel_rfl) rfl
  | 4, _ => exact enters_of Tryz.func58 (by kernel_rfl) rfl
  | 5, _ => exact enters_of Tryz.func59 (by kernel_rfl) rfl
  | 6, _ => exact enters_of Tryz.func60 (by kernel_rfl) rfl
  | 7, _ => exact enters_of Tryz.func61 (by kernel_rfl) rfl
  | 8, _ => exact enters_of Tryz.func62 (by kernel_rfl) rfl
  | 9, _ => exact enters_of Tryz.func63 (by kernel_rfl) rfl
  | 10, _ => exact enters_of Tryz.func64 (by kernel_rfl) rfl
  | 11, _ => exact enters_of Tryz.func65 (by kernel_rfl) rfl
  | 12, _ => exact enters_of Tryz.func66 (by kernel_rfl) rfl
  | 13, _ => exact enters_of Tryz.func67 (by kernel_rfl) rfl
  | 14, _ => exact enters_of Tryz.func68 (by kernel_rfl) rfl
end Go.Proofs.YtfcjkkjgedcgpaaGreatDoor
