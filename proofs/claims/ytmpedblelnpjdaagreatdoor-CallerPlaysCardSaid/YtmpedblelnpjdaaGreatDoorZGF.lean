/- GF: OwA OwB CdA CdB -/
import Derived.Test.YtmpedblelnpjdaaGreatDoorRows
import Derived.Test.YtmpedblelnpjdaaGreatDoorZTq
import Derived.Test.YtmpedblelnpjdaaGreatDoorZTk
import Derived.Shelf.Abstract
import Derived.Test.YtmpedblelnpjdaaGreatDoorZGA
import Derived.Test.YtmpedblelnpjdaaGreatDoorZGC
import Derived.Laws.EntriesVeiled
import Derived.Laws.CopyOwn
import Derived.Laws.NewBlocks
/- Letters: as data, in memory; the closures of bare. -/
namespace Go.Proofs.YtmpedblelnpjdaaGreatDoor
open Go.RowKit
set_option linter.unusedSimpArgs false
set_option linter.unusedVariables false
set_option maxHeartbeats 4000000
set_option maxRecDepth 100000
structure Lt where
 kd : Int
 fr : Int
 tw : Int
 ch : Int
 ep : Int
 bl : Int
 nu : Int
 sq : Int
 dz : Int
 vr : Int
 sl : Int
 ky : Int
 cd : Int
 qk : Int
 qc : Int
 qe : Int
 qn : Int
 fc : Int
 fe : Int
 fA : Option Addr
 fn : Nat
 fp : Nat
 ff : Bool
 fj : Int
 vA : Option Addr
 vn : Nat
 vp : Nat
 uA : Option Addr
 un : Nat
 up : Nat
 dA : Option Addr
 dn : Nat
 dp : Nat
def Lt.agg (l : Lt) : Value := .agg #[.int .i64 l.kd, .int .i64 l.fr, .int .i64 l.tw, .int .i64 l.ch, .int .u64 l.ep, .int .u64 l.bl, .int .u64 l.nu, .int .u64 l.sq, .int .u64 l.dz, .int .u64 l.vr, .int .i64 l.sl, .int .u32 l.ky, .int .i64 l.cd, .int .i64 l.qk, .int .i64 l.qc, .int .u64 l.qe, .int .i64 l.qn, .int .i64 l.fc, .int .u64 l.fe, .slice l.fA l.fn l.fp, .bool l.ff, .int .i64 l.fj, .slice l.vA l.vn l.vp, .slice l.uA l.un l.up, .slice l.dA l.dn l.dp]
def Lt.cells (l : Lt) : Array Value := #[.int .i64 l.kd, .int .i64 l.fr, .int .i64 l.tw, .int .i64 l.ch, .int .u64 l.ep, .int .u64 l.bl, .int .u64 l.nu, .int .u64 l.sq, .int .u64 l.dz, .int .u64 l.vr, .int .i64 l.sl, .int .u32 l.ky, .int .i64 l.cd, .int .i64 l.qk, .int .i64 l.qc, .int .u64 l.qe, .int .i64 l.qn, .int .i64 l.fc, .int .u64 l.fe, .slice l.fA l.fn l.fp, .bool l.ff, .int .i64 l.fj, .slice l.vA l.vn l.vp, .slice l.uA l.un l.up, .slice l.dA l.dn l.dp]
def Lt.mask (l : Lt) (f : Nat → Bool) : Lt := { kd := l.kd, fr := l.fr, tw := l.tw, ch := if f 0 then l.ch else 0, ep := if f 1 then l.ep else 0, bl := if f 2 then l.bl else 0, sq := if f 3 then l.sq else 0, dz := if f 4 then l.dz else 0, sl := if f 5 then l.sl else 0, nu := if f 6 then l.nu else 0, cd := if f 7 then l.cd else 0, ky := if f 8 then l.ky else 0, vr := if f 9 then l.vr else 0, qk := if f 10 then l.qk else 0, qc := if f 10 then l.qc else 0, qe := if f 10 then l.qe else 0, qn := if f 10 then l.qn else 0, fc := if f 11 then l.fc else 0, fe := if f 11 then l.fe else 0, fA := if f 11 then l.fA else none, fn := if f 11 then l.fn else 0, fp := if f 11 then l.fp else 0, ff := if f 11 then l.ff else false, fj := if f 11 then l.fj else 0, vA := if f 12 then l.vA else none, vn := if f 12 then l.vn else 0, vp := if f 12 then l.vp else 0, uA := if f 13 then l.uA else none, un := if f 13 then l.un else 0, up := if f 13 then l.up else 0, dA := if f 14 then l.dA else none, dn := if f 14 then l.dn else 0, dp := if f 14 then l.dp else 0 }
def updF (f : Nat → Bool) (j : Nat) : Nat → Bool := fun i => if i = j then true else f i
def isB (g : Nat) : Nat → Prop := fun k => k = g
theorem chg_setB (w : World) (g : Nat) (u : Value) (o : Nat) : Chg w (w.setCell ⟨g, o, none⟩ u) (isB g) :=
 (Chg.of_grown (only_setCell (World.grownBy.refl w (some g)) (p := ⟨g, o, none⟩) (.inl rfl) u)).mono (fun i _ hi => by injection hi)
attribute [local go_sem] Lt.cells
theorem blk_at7 (w : World) (t : TypeId) (cs : Array Value) (g : Nat) (h : g = w.heap.size) : Blk (w.alloc (.cells cs t)) g t cs := by subst h; exact Blk.new w t cs
def BareP (l : Lt) (f : Nat → Bool) (j o : Nat) (W : World) (e : Ending) (W' : World) : Prop :=
 e = .returned (.tuple #[]) ∧ Blk W' o 37 (l.mask (updF f j)).cells ∧ Chg W W' (isB o)
theorem bareF0 (l : Lt) (f : Nat → Bool) (b o : Nat) (W : World) (hb : Blk W b 37 l.cells) (ho : Blk W o 37 (l.mask f).cells) (hne : b ≠ o) :
  Calls Tryz.prog 207 #[.pointer (some ⟨b, 0, none⟩), .pointer (some ⟨o, 0, none⟩)] W (BareP l f 0 o W) := by
 have HO := Lib.hid ho
 have c3 := (hb.cell 3).trans (show _ = some (.int .i64 l.ch) from rfl)
 have o3 := (ho.cell 3).trans (show _ = some (.int .i64 (l.mask f).ch) from rfl)
 have g3 := ho.frozen 3
 have hne2 : o ≠ b := fun e => hne e.symm
 have lb := hb.lt
 have lo := ho.lt
 clear hb ho
 go_enter Tryz.func207, Tryz.ntmps207
 go_wp2_with (fail)
 go_end0
 exact ⟨rfl, (HO.out.set_ 3 (.int .i64 l.ch)), (chg_setB W o (.int .i64 l.ch) 3)⟩
theorem bareF1 (l : Lt) (f : Nat → Bool) (b o : Nat) (W : World) (hb : Blk W b 37 l.cells) (ho : Blk W o 37 (l.mask f).cells) (hne : b ≠ o) :
  Calls Tryz.prog 208 #[.pointer (some ⟨b, 0, none⟩), .pointer (some ⟨o, 0, none⟩)] W (BareP l f 1 o W) := by
 have HO := Lib.hid ho
 have c4 := (hb.cell 4).trans (show _ = some (.int .u64 l.ep) from rfl)
 have o4 := (ho.cell 4).trans (show _ = some (.int .u64 (l.mask f).ep) from rfl)
 have g4 := ho.frozen 4
 have hne2 : o ≠ b := fun e => hne e.symm
 have lb := hb.lt
 have lo := ho.lt
 clear hb ho
 go_enter Tryz.func208, Tryz.ntmps208
 go_wp2_with (fail)
 go_end0
 exact ⟨rfl, (HO.out.set_ 4 (.int .u64 l.ep)), (chg_setB W o (.int .u64 l.ep) 4)⟩
theorem bareF2 (l : Lt) (f : Nat → Bool) (b o : Nat) (W : World) (hb : Blk W b 37 l.cells) (ho : Blk W o 37 (l.mask f).cells) (hne : b ≠ o) :
  Calls Tryz.prog 209 #[.pointer (some ⟨b, 0, none⟩), .pointer (some ⟨o, 0, none⟩)] W (BareP l f 2 o W) := by
 have HO := Lib.hid ho
 have c5 := (hb.cell 5).trans (show _ = some (.int .u64 l.bl) from rfl)
 have o5 := (ho.cell 5).trans (show _ = some (.int .u64 (l.mask f).bl) from rfl)
 have g5 := ho.frozen 5
 have hne2 : o ≠ b := fun e => hne e.symm
 have lb := hb.lt
 have lo := ho.lt
 clear hb ho
 go_enter Tryz.func209, Tryz.ntmps209
 go_wp2_with (fail)
 go_end0
 exact ⟨rfl, (HO.out.set_ 5 (.int .u64 l.bl)), (chg_setB W o (.int .u64 l.bl) 5)⟩
theorem bareF3 (l : Lt) (f : Nat → Bool) (b o : Nat) (W : World) (hb : Blk W b 37 l.cells) (ho : Blk W o 37 (l.mask f).cells) (hne : b ≠ o) :
  Calls Tryz.prog 210 #[.pointer (some ⟨b, 0, none⟩), .pointer (some ⟨o, 0, none⟩)] W (BareP l f 3 o W) := by
 have HO := Lib.hid ho
 have c7 := (hb.cell 7).trans (show _ = some (.int .u64 l.sq) from rfl)
 have o7 := (ho.cell 7).trans (show _ = some (.int .u64 (l.mask f).sq) from rfl)
 have g7 := ho.frozen 7
 have hne2 : o ≠ b := fun e => hne e.symm
 have lb := hb.lt
 have lo := ho.lt
 clear hb ho
 go_enter Tryz.func210, Tryz.ntmps210
 go_wp2_with (fail)
 go_end0
 exact ⟨rfl, (HO.out.set_ 7 (.int .u64 l.sq)), (chg_setB W o (.int .u64 l.sq) 7)⟩
theorem bareF4 (l : Lt) (f : Nat → Bool) (b o : Nat) (W : World) (hb : Blk W b 37 l.cells) (ho : Blk W o 37 (l.mask f).cells) (hne : b ≠ o) :
  Calls Tryz.prog 211 #[.pointer (some ⟨b, 0, none⟩), .pointer (some ⟨o, 0, none⟩)] W (BareP l f 4 o W) := by
 have HO := Lib.hid ho
 have c8 := (hb.cell 8).trans (show _ = some (.int .u64 l.dz) from rfl)
 have o8 := (ho.cell 8).trans (show _ = some (.int .u64 (l.mask f).dz) from rfl)
 have g8 := ho.frozen 8
 have hne2 : o ≠ b := fun e => hne e.symm
 have lb := hb.lt
 have lo := ho.lt
 clear hb ho
 go_enter Tryz.func211, Tryz.ntmps211
 go_wp2_with (fail)
 go_end0
 exact ⟨rfl, (HO.out.set_ 8 (.int .u64 l.dz)), (chg_setB W o (.int .u64 l.dz) 8)⟩
theorem bareF5 (l : Lt) (f : Nat → Bool) (b o : Nat) (W : World) (hb : Blk W b 37 l.cells) (ho : Blk W o 37 (l.mask f).cells) (hne : b ≠ o) :
  Calls Tryz.prog 212 #[.pointer (some ⟨b, 0, none⟩), .pointer (some ⟨o, 0, none⟩)] W (BareP l f 5 o W) := by
 have HO := Lib.hid ho
 have c10 := (hb.cell 10).trans (show _ = some (.int .i64 l.sl) from rfl)
 have o10 := (ho.cell 10).trans (show _ = some (.int .i64 (l.mask f).sl) from rfl)
 have g10 := ho.frozen 10
 have hne2 : o ≠ b := fun e => hne e.symm
 have lb := hb.lt
 have lo := ho.lt
 clear hb ho
 go_enter Tryz.func212, Tryz.ntmps212
 go_wp2_with (fail)
 go_end0
 exact ⟨rfl, (HO.out.set_ 10 (.int .i64 l.sl)), (chg_setB W o (.int .i64 l.sl) 10)⟩
theorem bareF6 (l : Lt) (f : Nat → Bool) (b o : Nat) (W : World) (hb : Blk W b 37 l.cells) (ho : Blk W o 37 (l.mask f).cells) (hne : b ≠ o) :
  Calls Tryz.prog 213 #[.pointer (some ⟨b, 0, none⟩), .pointer (some ⟨o, 0, none⟩)] W (BareP l f 6 o W) := by
 have HO := Lib.hid ho
 have c6 := (hb.cell 6).trans (show _ = some (.int .u64 l.nu) from rfl)
 have o6 := (ho.cell 6).trans (show _ = some (.int .u64 (l.mask f).nu) from rfl)
 have g6 := ho.frozen 6
 have hne2 : o ≠ b := fun e => hne e.symm
 have lb := hb.lt
 have lo := ho.lt
 clear hb ho
 go_enter Tryz.func213, Tryz.ntmps213
 go_wp2_with (fail)
 go_end0
 exact ⟨rfl, (HO.out.set_ 6 (.int .u64 l.nu)), (chg_setB W o (.int .u64 l.nu) 6)⟩
theorem bareF7 (l : Lt) (f : Nat → Bool) (b o : Nat) (W : World) (hb : Blk W b 37 l.cells) (ho : Blk W o 37 (l.mask f).cells) (hne : b ≠ o) :
  Calls Tryz.prog 214 #[.pointer (some ⟨b, 0, none⟩), .pointer (some ⟨o, 0, none⟩)] W (BareP l f 7 o W) := by
 have HO := Lib.hid ho
 have c12 := (hb.cell 12).trans (show _ = some (.int .i64 l.cd) from rfl)
 have o12 := (ho.cell 12).trans (show _ = some (.int .i64 (l.mask f).cd) from rfl)
 have g12 := ho.frozen 12
 have hne2 : o ≠ b := fun e => hne e.symm
 have lb := hb.lt
 have lo := ho.lt
 clear hb ho
 go_enter Tryz.func214, Tryz.ntmps214
 go_wp2_with (fail)
 go_end0
 exact ⟨rfl, (HO.out.set_ 12 (.int .i64 l.cd)), (chg_setB W o (.int .i64 l.cd) 12)⟩
theorem bareF8 (l : Lt) (f : Nat → Bool) (b o : Nat) (W : World) (hb : Blk W b 37 l.cells) (ho : Blk W o 37 (l.mask f).cells) (hne : b ≠ o) :
  Calls Tryz.prog 215 #[.pointer (some ⟨b, 0, none⟩), .pointer (some ⟨o, 0, none⟩)] W (BareP l f 8 o W) := by
 have HO := Lib.hid ho
 have c11 := (hb.cell 11).trans (show _ = some (.int .u32 l.ky) from rfl)
 have o11 := (ho.cell 11).trans (show _ = some (.int .u32 (l.mask f).ky) from rfl)
 have g11 := ho.frozen 11
 have hne2 : o ≠ b := fun e => hne e.symm
 have lb := hb.lt
 have lo := ho.lt
 clear hb ho
 go_enter Tryz.func215, Tryz.ntmps215
 go_wp2_with (fail)
 go_end0
 exact ⟨rfl, (HO.out.set_ 11 (.int .u32 l.ky)), (chg_setB W o (.int .u32 l.ky) 11)⟩
theorem bareF9 (l : Lt) (f : Nat → Bool) (b o : Nat) (W : World) (hb : Blk W b 37 l.cells) (ho : Blk W o 37 (l.mask f).cells) (hne : b ≠ o) :
  Calls Tryz.prog 216 #[.pointer (some ⟨b, 0, none⟩), .pointer (some ⟨o, 0, none⟩)] W (BareP l f 9 o W) := by
 have HO := Lib.hid ho
 have c9 := (hb.cell 9).trans (show _ = some (.int .u64 l.vr) from rfl)
 have o9 := (ho.cell 9).trans (show _ = some (.int .u64 (l.mask f).vr) from rfl)
 have g9 := ho.frozen 9
 have hne2 : o ≠ b := fun e => hne e.symm
 have lb := hb.lt
 have lo := ho.lt
 clear hb ho
 go_enter Tryz.func216, Tryz.ntmps216
 go_wp2_with (fail)
 go_end0
 exact ⟨rfl, (HO.out.set_ 9 (.int .u64 l.vr)), (chg_setB W o (.int .u64 l.vr) 9)⟩
theorem bareF10 (l : Lt) (f : Nat → Bool) (b o : Nat) (W : World) (hb : Blk W b 37 l.cells) (ho : Blk W o 37 (l.mask f).cells) (hne : b ≠ o) :
  Calls Tryz.prog 217 #[.pointer (some ⟨b, 0, none⟩), .pointer (some ⟨o, 0, none⟩)] W (BareP l f 10 o W) := by
 have HO := Lib.hid ho
 have c13 := (hb.cell 13).trans (show _ = some (.int .i64 l.qk) from rfl)
 have o13 := (ho.cell 13).trans (show _ = some (.int .i64 (l.mask f).qk) from rfl)
 have g13 := ho.frozen 13
 have c14 := (hb.cell 14).trans (show _ = some (.int .i64 l.qc) from rfl)
 have o14 := (ho.cell 14).trans (show _ = some (.int .i64 (l.mask f).qc) from rfl)
 have g14 := ho.frozen 14
 have c15 := (hb.cell 15).trans (show _ = some (.int .u64 l.qe) from rfl)
 have o15 := (ho.cell 15).trans (show _ = some (.int .u64 (l.mask f).qe) from rfl)
 have g15 := ho.frozen 15
 have c16 := (hb.cell 16).trans (show _ = some (.int .i64 l.qn) from rfl)
 have o16 := (ho.cell 16).trans (show _ = some (.int .i64 (l.mask f).qn) from rfl)
 have g16 := ho.frozen 16
 have hne2 : o ≠ b := fun e => hne e.symm
 have lb := hb.lt
 have lo := ho.lt
 clear hb ho
 go_enter Tryz.func217, Tryz.ntmps217
 go_wp2_with (fail)
 go_end0
 exact ⟨rfl, ((((HO.out.set_ 13 (.int .i64 l.qk)).set_ 14 (.int .i64 l.qc)).set_ 15 (.int .u64 l.qe)).set_ 16 (.int .i64 l.qn)), ((((chg_setB W o (.int .i64 l.qk) 13).trans (chg_setB _ o (.int .i64 l.qc) 14) (fun _ _ x => x)).trans (chg_setB _ o (.int .u64 l.qe) 15) (fun _ _ x => x)).trans (chg_setB _ o (.int .i64 l.qn) 16) (fun _ _ x => x))⟩
theorem bareF11 (l : Lt) (f : Nat → Bool) (b o : Nat) (W : World) (hb : Blk W b 37 l.cells) (ho : Blk W o 37 (l.mask f).cells) (hne : b ≠ o) :
  Calls Tryz.prog 218 #[.pointer (some ⟨b, 0, none⟩), .pointer (some ⟨o, 0, none⟩)] W (BareP l f 11 o W) := by
 have HO := Lib.hid ho
 have c17 := (hb.cell 17).trans (show _ = some (.int .i64 l.fc) from rfl)
 have o17 := (ho.cell 17).trans (show _ = some (.int .i64 (l.mask f).fc) from rfl)
 have g17 := ho.frozen 17
 have c18 := (hb.cell 18).trans (show _ = some (.int .u64 l.fe) from rfl)
 have o18 := (ho.cell 18).trans (show _ = some (.int .u64 (l.mask f).fe) from rfl)
 have g18 := ho.frozen 18
 have c19 := (hb.cell 19).trans (show _ = some (.slice l.fA l.fn l.fp) from rfl)
 have o19 := (ho.cell 19).trans (show _ = some (.slice (l.mask f).fA (l.mask f).fn (l.mask f).fp) from rfl)
 have g19 := ho.frozen 19
 have c20 := (hb.cell 20).trans (show _ = some (.bool l.ff) from rfl)
 have o20 := (ho.cell 20).trans (show _ = some (.bool (l.mask f).ff) from rfl)
 have g20 := ho.frozen 20
 have c21 := (hb.cell 21).trans (show _ = some (.int .i64 l.fj) from rfl)
 have o21 := (ho.cell 21).trans (show _ = some (.int .i64 (l.mask f).fj) from rfl)
 have g21 := ho.frozen 21
 have hne2 : o ≠ b := fun e => hne e.symm
 have lb := hb.lt
 have lo := ho.lt
 clear hb ho
 go_enter Tryz.func218, Tryz.ntmps218
 go_wp2_with (fail)
 go_end0
 exact ⟨rfl, (((((HO.out.set_ 17 (.int .i64 l.fc)).set_ 18 (.int .u64 l.fe)).set_ 19 (.slice l.fA l.fn l.fp)).set_ 20 (.bool l.ff)).set_ 21 (.int .i64 l.fj)), (((((chg_setB W o (.int .i64 l.fc) 17).trans (chg_setB _ o (.int .u64 l.fe) 18) (fun _ _ x => x)).trans (chg_setB _ o (.slice l.fA l.fn l.fp) 19) (fun _ _ x => x)).trans (chg_setB _ o (.bool l.ff) 20) (fun _ _ x => x)).trans (chg_setB _ o (.int .i64 l.fj) 21) (fun _ _ x => x))⟩
theorem bareF12 (l : Lt) (f : Nat → Bool) (b o : Nat) (W : World) (hb : Blk W b 37 l.cells) (ho : Blk W o 37 (l.mask f).cells) (hne : b ≠ o) :
  Calls Tryz.prog 219 #[.pointer (some ⟨b, 0, none⟩), .pointer (some ⟨o, 0, none⟩)] W (BareP l f 12 o W) := by
 have HO := Lib.hid ho
 have c22 := (hb.cell 22).trans (show _ = some (.slice l.vA l.vn l.vp) from rfl)
 have o22 := (ho.cell 22).trans (show _ = some (.slice (l.mask f).vA (l.mask f).vn (l.mask f).vp) from rfl)
 have g22 := ho.frozen 22
 have hne2 : o ≠ b := fun e => hne e.symm
 have lb := hb.lt
 have lo := ho.lt
 clear hb ho
 go_enter Tryz.func219, Tryz.ntmps219
 go_wp2_with (fail)
 go_end0
 exact ⟨rfl, (HO.out.set_ 22 (.slice l.vA l.vn l.vp)), (chg_setB W o (.slice l.vA l.vn l.vp) 22)⟩
theorem bareF13 (l : Lt) (f : Nat → Bool) (b o : Nat) (W : World) (hb : Blk W b 37 l.cells) (ho : Blk W o 37 (l.mask f).cells) (hne : b ≠ o) :
  Calls Tryz.prog 220 #[.pointer (some ⟨b, 0, none⟩), .pointer (some ⟨o, 0, none⟩)] W (BareP l f 13 o W) := by
 have HO := Lib.hid ho
 have c23 := (hb.cell 23).trans (show _ = some (.slice l.uA l.un l.up) from rfl)
 have o23 := (ho.cell 23).trans (show _ = some (.slice (l.mask f).uA (l.mask f).un (l.mask f).up) from rfl)
 have g23 := ho.frozen 23
 have hne2 : o ≠ b := fun e => hne e.symm
 have lb := hb.lt
 have lo := ho.lt
 clear hb ho
 go_enter Tryz.func220, Tryz.ntmps220
 go_wp2_with (fail)
 go_end0
 exact ⟨rfl, (HO.out.set_ 23 (.slice l.uA l.un l.up)), (chg_setB W o (.slice l.uA l.un l.up) 23)⟩
theorem bareF14 (l : Lt) (f : Nat → Bool) (b o : Nat) (W : World) (hb : Blk W b 37 l.cells) (ho : Blk W o 37 (l.mask f).cells) (hne : b ≠ o) :
  Calls Tryz.prog 221 #[.pointer (some ⟨b, 0, none⟩), .pointer (some ⟨o, 0, none⟩)] W (BareP l f 14 o W) := by
 have HO := Lib.hid ho
 have c24 := (hb.cell 24).trans (show _ = some (.slice l.dA l.dn l.dp) from rfl)
 have o24 := (ho.cell 24).trans (show _ = some (.slice (l.mask f).dA (l.mask f).dn (l.mask f).dp) from rfl)
 have g24 := ho.frozen 24
 have hne2 : o ≠ b := fun e => hne e.symm
 have lb := hb.lt
 have lo := ho.lt
 clear hb ho
 go_enter Tryz.func221, Tryz.ntmps221
 go_wp2_with (fail)
 go_end0
 exact ⟨rfl, (HO.out.set_ 24 (.slice l.dA l.dn l.dp)), (chg_setB W o (.slice l.dA l.dn l.dp) 24)⟩
theorem bareF_any (l : Lt) (f : Nat → Bool) (b o : Nat) (j : Nat) (hj : j < 15) (W : World) (hb : Blk W b 37 l.cells) (ho : Blk W o 37 (l.mask f).cells) (hne : b ≠ o) :
  Calls Tryz.prog (207 + j) #[.pointer (some ⟨b, 0, none⟩), .pointer (some ⟨o, 0, none⟩)] W (BareP l f j o W) := by
 match j, hj with
 | 0, _ => exact bareF0 l f b o W hb ho hne
 | 1, _ => exact bareF1 l f b o W hb ho hne
 | 2, _ => exact bareF2 l f b o W hb ho hne
 | 3, _ => exact bareF3 l f b o W hb ho hne
 | 4, _ => exact bareF4 l f b o W hb ho hne
 | 5, _ => exact bareF5 l f b o W hb ho hne
 | 6, _ => exact bareF6 l f b o W hb ho hne
 | 7, _ => exact bareF7 l f b o W hb ho hne
 | 8, _ => exact bareF8 l f b o W hb ho hne
 | 9, _ => exact bareF9 l f b o W hb ho hne
 | 10, _ => exact bareF10 l f b o W hb ho hne
 | 11, _ => exact bareF11 l f b o W hb ho hne
 | 12, _ => exact bareF12 l f b o W hb ho hne
 | 13, _ => exact bareF13 l f b o W hb ho hne
 | 14, _ => exact bareF14 l f b o W hb ho hne
theorem bare_enter (j : Nat) (hj : j < 15) : ∀ (args : Array Value) (w : World), (callFunc (207 + j) args).run Tryz.prog w = .ok (.enter (207 + j) args) w := by
 match j, hj with
 | 0, _ => exact enters_of Tryz.func207 (by kernel_rfl) rfl
 | 1, _ => exact enters_of Tryz.func208 (by kernel_rfl) rfl
 | 2, _ => exact enters_of Tryz.func209 (by kernel_rfl) rfl
 | 3, _ => exact enters_of Tryz.func210 (by kernel_rfl) rfl
 | 4, _ => exact enters_of Tryz.func211 (by kernel_rfl) rfl
 | 5, _ => exact enters_of Tryz.func212 (by kernel_rfl) rfl
 | 6, _ => exact enters_of Tryz.func213 (by kernel_rfl) rfl
 | 7, _ => exact enters_of Tryz.func214 (by kernel_rfl) rfl
 | 8, _ => exact enters_of Tryz.func215 (by kernel_rfl) rfl
 | 9, _ => exact enters_of Tryz.func216 (by kernel_rfl) rfl
 | 10, _ => exact enters_of Tryz.func217 (by kernel_rfl) rfl
 | 11, _ => exact enters_of Tryz.func218 (by kernel_rfl) rfl
 | 12, _ => exact enters_of Tryz.func219 (by kernel_rfl) rfl
 | 13, _ => exact enters_of Tryz.func220 (by kernel_rfl) rfl
 | 14, _ => exact enters_of Tryz.func221 (by kernel_rfl) rfl
end Go.Proofs.YtmpedblelnpjdaaGreatDoor
/- bare: the letter with the parts of its kind alone. -/
namespace Go.Proofs.YtmpedblelnpjdaaGreatDoor
open Go.RowKit
set_option linter.unusedSimpArgs false
set_option linter.unusedVariables false
set_option maxHeartbeats 8000000
set_option maxRecDepth 100000
def kindT : List (List Int) := [[0, 0, 0, 0, 0, 0], [4, 32, 0, 0, 0, 0], [4, 32, 4096, 0, 0, 0], [4, 32, 1024, 0, 0, 0], [4, 32, 0, 0, 0, 0], [32, 1024, 0, 0, 0, 0], [4, 32, 0, 0, 0, 0], [32, 0, 0, 0, 0, 0], [4, 0, 0, 0, 0, 0], [1024, 0, 0, 0, 0, 0], [1, 0, 0, 0, 0, 0], [2048, 0, 0, 0, 0, 0], [1, 2, 8, 16, 8192, 0], [1, 2, 8, 16, 64, 32], [1, 2, 8, 32, 64, 16384], [1, 2, 64, 256, 0, 0], [1, 2, 64, 256, 512, 0], [1, 2, 8192, 0, 0, 0], [64, 128, 512, 0, 0, 0], [1, 2, 64, 256, 0, 0], [64, 256, 512, 16384, 0, 0]]
def kindP (k j : Nat) : Int := (kindT.getD k []).getD j 0
structure KindsAt (w : World) : Prop where
 cell : ∀ k j, k < 21 → j < 6 → w.cell? ⟨0, k * 7 + 1 + j, none⟩ = some (.int .i64 (kindP k j))
theorem KindsAt.lt {w : World} (h : KindsAt w) : 0 < w.heap.size := World.block_lt_of_cell? w _ (h.cell 0 0 (by omega) (by omega))
theorem KindsAt.below {w w' : World} (h : KindsAt w) (hb : Below w.heap.size w w') : KindsAt w' := ⟨fun k j hk hj => (hb.cell (p := ⟨0, k * 7 + 1 + j, none⟩) h.lt).trans (h.cell k j hk hj)⟩
def orK (k : Nat) : Nat → Int
 | 0 => 0
 | j + 1 => bits .or .i64 (orK k j) (kindP k j)
def hasB (k i : Nat) : Bool := bits .and .i64 (orK k 6) (2 ^ i) != 0
def partF (k j : Nat) : Nat → Bool := fun i => decide (i < j) && hasB k i
theorem partF_yes (k j : Nat) (h : hasB k j = true) : partF k (j + 1) = updF (partF k j) j := by
 funext i
 unfold partF updF
 by_cases e : i = j
 ·subst e; simp [h]
 ·by_cases e2 : i < j
  ·simp [e, e2, show i < j + 1 by omega]
  ·simp [e, e2, show ¬ i < j + 1 by omega]
theorem partF_no (k j : Nat) (h : hasB k j = false) : partF k (j + 1) = partF k j := by
 funext i
 unfold partF
 by_cases e : i = j
 ·subst e; simp [h]
 ·by_cases e2 : i < j
  ·simp [e2, show i < j + 1 by omega]
  ·simp [e2, show ¬ i < j + 1 by omega]
theorem lt_cells {w : World} {g : Nat} {l : Lt} (h : Blk w g 37 l.cells) : w.cell? ⟨g, 0, none⟩ = some (.int .i64 l.kd) ∧ w.cell? ⟨g, 1, none⟩ = some (.int .i64 l.fr) ∧ w.cell? ⟨g, 2, none⟩ = some (.int .i64 l.tw) ∧ w.cell? ⟨g, 3, none⟩ = some (.int .i64 l.ch) ∧ w.cell? ⟨g, 4, none⟩ = some (.int .u64 l.ep) ∧ w.cell? ⟨g, 5, none⟩ = some (.int .u64 l.bl) ∧ w.cell? ⟨g, 6, none⟩ = some (.int .u64 l.nu) ∧ w.cell? ⟨g, 7, none⟩ = some (.int .u64 l.sq) ∧ w.cell? ⟨g, 8, none⟩ = some (.int .u64 l.dz) ∧ w.cell? ⟨g, 9, none⟩ = some (.int .u64 l.vr) ∧ w.cell? ⟨g, 10, none⟩ = some (.int .i64 l.sl) ∧ w.cell? ⟨g, 11, none⟩ = some (.int .u32 l.ky) ∧ w.cell? ⟨g, 12, none⟩ = some (.int .i64 l.cd) ∧ w.cell? ⟨g, 13, none⟩ = some (.int .i64 l.qk) ∧ w.cell? ⟨g, 14, none⟩ = some (.int .i64 l.qc) ∧ w.cell? ⟨g, 15, none⟩ = some (.int .u64 l.qe) ∧ w.cell? ⟨g, 16, none⟩ = some (.int .i64 l.qn) ∧ w.cell? ⟨g, 17, none⟩ = some (.int .i64 l.fc) ∧ w.cell? ⟨g, 18, none⟩ = some (.int .u64 l.fe) ∧ w.cell? ⟨g, 19, none⟩ = some (.slice l.fA l.fn l.fp) ∧ w.cell? ⟨g, 20, none⟩ = some (.bool l.ff) ∧ w.cell? ⟨g, 21, none⟩ = some (.int .i64 l.fj) ∧ w.cell? ⟨g, 22, none⟩ = some (.slice l.vA l.vn l.vp) ∧ w.cell? ⟨g, 23, none⟩ = some (.slice l.uA l.un l.up) ∧ w.cell? ⟨g, 24, none⟩ = some (.slice l.dA l.dn l.dp) := by
 refine ⟨?_, ?_, ?_, ?_, ?_, ?_, ?_, ?_, ?_, ?_, ?_, ?_, ?_, ?_, ?_, ?_, ?_, ?_, ?_, ?_, ?_, ?_, ?_, ?_, ?_⟩ <;> (rw [h.cell]; rfl)
def Lt.zero : Lt := ⟨0, 0, 0, 0, 0, 0, 0, 0, 0, 0, 0, 0, 0, 0, 0, 0, 0, 0, 0, none, 0, 0, false, 0, none, 0, 0, none, 0, 0, none, 0, 0⟩
def bareRow (cap : Array Value) : Array Value := #[.int .i64 1, .func (.func 207) #[] cap, .int .i64 2, .func (.func 208) #[] cap, .int .i64 4, .func (.func 209) #[] cap, .int .i64 8, .func (.func 210) #[] cap, .int .i64 16, .func (.func 211) #[] cap, .int .i64 32, .func (.func 212) #[] cap, .int .i64 64, .func (.func 213) #[] cap, .int .i64 128, .func (.func 214) #[] cap, .int .i64 256, .func (.func 215) #[] cap, .int .i64 512, .func (.func 216) #[] cap, .int .i64 1024, .func (.func 217) #[] cap, .int .i64 2048, .func (.func 218) #[] cap, .int .i64 4096, .func (.func 219) #[] cap, .int .i64 8192, .func (.func 220) #[] cap, .int .i64 16384, .func (.func 221) #[] cap]
theorem bareRow_at (cap : Array Value) (j : Nat) (hj : j < 15) : (bareRow cap)[j * 2]? = some (.int .i64 (2 ^ j)) ∧ (bareRow cap)[j * 2 + 1]? = some (.func (.func (207 + j)) #[] cap) := by
 match j, hj with
 | 0, _ => exact ⟨rfl, rfl⟩
 | 1, _ => exact ⟨rfl, rfl⟩
 | 2, _ => exact ⟨rfl, rfl⟩
 | 3, _ => exact ⟨rfl, rfl⟩
 | 4, _ => exact ⟨rfl, rfl⟩
 | 5, _ => exact ⟨rfl, rfl⟩
 | 6, _ => exact ⟨rfl, rfl⟩
 | 7, _ => exact ⟨rfl, rfl⟩
 | 8, _ => exact ⟨rfl, rfl⟩
 | 9, _ => exact ⟨rfl, rfl⟩
 | 10, _ => exact ⟨rfl, rfl⟩
 | 11, _ => exact ⟨rfl, rfl⟩
 | 12, _ => exact ⟨rfl, rfl⟩
 | 13, _ => exact ⟨rfl, rfl⟩
 | 14, _ => exact ⟨rfl, rfl⟩
attribute [local go_sem] Lt.cells Lt.agg
theorem bare_lit (cap : Array Value) (w : World) : (Instr.buildSlice 301 15 #[(0, .agg #[.int .i64 1, .func (.func 207) #[] cap]), (1, .agg #[.int .i64 2, .func (.func 208) #[] cap]), (2, .agg #[.int .i64 4, .func (.func 209) #[] cap]), (3, .agg #[.int .i64 8, .func (.func 210) #[] cap]), (4, .agg #[.int .i64 16, .func (.func 211) #[] cap]), (5, .agg #[.int .i64 32, .func (.func 212) #[] cap]), (6, .agg #[.int .i64 64, .func (.func 213) #[] cap]), (7, .agg #[.int .i64 128, .func (.func 214) #[] cap]), (8, .agg #[.int .i64 256, .func (.func 215) #[] cap]), (9, .agg #[.int .i64 512, .func (.func 216) #[] cap]), (10, .agg #[.int .i64 1024, .func (.func 217) #[] cap]), (11, .agg #[.int .i64 2048, .func (.func 218) #[] cap]), (12, .agg #[.int .i64 4096, .func (.func 219) #[] cap]), (13, .agg #[.int .i64 8192, .func (.func 220) #[] cap]), (14, .agg #[.int .i64 16384, .func (.func 221) #[] cap])]).run Tryz.prog w = .ok (.slice (some ⟨w.heap.size, 0, none⟩) 15 15) (w.alloc (.cells #[.int .i64 1, .func (.func 207) #[] cap, .int .i64 2, .func (.func 208) #[] cap, .int .i64 4, .func (.func 209) #[] cap, .int .i64 8, .func (.func 210) #[] cap, .int .i64 16, .func (.func 211) #[] cap, .int .i64 32, .func (.func 212) #[] cap, .int .i64 64, .func (.func 213) #[] cap, .int .i64 128, .func (.func 214) #[] cap, .int .i64 256, .func (.func 215) #[] cap, .int .i64 512, .func (.func 216) #[] cap, .int .i64 1024, .func (.func 217) #[] cap, .int .i64 2048, .func (.func 218) #[] cap, .int .i64 4096, .func (.func 219) #[] cap, .int .i64 8192, .func (.func 220) #[] cap, .int .i64 16384, .func (.func 221) #[] cap] 300)) := by kernel_rfl
theorem bare_one (n : Int) (fn : Fn) (cap : Array Value) (w : World) : (Instr.build 300 #[(0, .int .i64 n), (1, .func fn #[] cap)]).run Tryz.prog w = .ok (.agg #[.int .i64 n, .func fn #[] cap]) w := by kernel_rfl
theorem push_modify (h : Array Obj) (x : Obj) (f : Obj → Obj) : (h.push x).modify h.size f = h.push (f x) := by
 apply Array.ext
 ·simp
 ·intro i h1 h2
  rw [Array.getElem_modify]
  by_cases e : h.size = i
  ·subst e; simp
  ·rw [if_neg e]
   have : i < h.size := by simp at h2; omega
   rw [Array.getElem_push_lt this, Array.getElem_push_lt this]
theorem setRow_new (w : World) (old cells : Array Value) (t : TypeId) : (w.alloc (.cells old t)).setRow w.heap.size cells = w.alloc (.cells cells t) := by
 unfold World.setRow World.alloc
 simp only [push_modify]
theorem wpList_store_fresh {P : Program} {ops : Array Oper} {rest : List Oper} {o : Oper} {a : Act} {w : World} {Q : Exit → Act → World → Prop} (hgd : o.guard = none) (ty : TypeId) (x y : Operand) (ho : o.op = .store ty x y)
  (cells : Array Value) (t : TypeId) (old : Array Value) (hx : a.eval x = .pointer (some ⟨w.heap.size, 0, none⟩)) (hy : a.eval y = .agg cells) (hi : (P.info? ty).map (·.size) = some cells.size)
  (hold : old.size = cells.size) (h1 : cells.all (·.oneCell') = true)
  (h : wpList P ops Q rest (a.put o.dst undef) (w.alloc (.cells cells t))) : wpList P ops Q (o :: rest) a (w.alloc (.cells old t)) :=
 wpList_store_row hgd ty x y ho w.heap.size cells hx hy t old (heap_alloc_new w _) hi hold h1 (by rw [setRow_new]; exact h)
theorem bare_hdr (a b c : Int) (w : World) : (Instr.build 37 #[(0, .int .i64 a), (1, .int .i64 b), (2, .int .i64 c)]).run Tryz.prog w = .ok (.agg #[.int .i64 a, .int .i64 b, .int .i64 c, .int .i64 0, .int .u64 0, .int .u64 0, .int .u64 0, .int .u64 0, .int .u64 0, .int .u64 0, .int .i64 0, .int .u32 0, .int .i64 0, .int .i64 0, .int .i64 0, .int .u64 0, .int .i64 0, .int .i64 0, .int .u64 0, .slice none 0 0, .bool false, .int .i64 0, .slice none 0 0, .slice none 0 0, .slice none 0 0]) w := by kernel_rfl
theorem bare_any (l : Lt) (k : Nat) (hk : k < 21) (hkd : l.kd = k) (w : World) (hK : KindsAt w) :
  Calls Tryz.prog 119 #[l.agg] w fun e w' => e = .returned (l.mask (partF k 15)).agg ∧ Below w.heap.size w w' := by
 have hmf : ∀ (fn : Fn) (first cap : Array Value) (w : World), (Instr.makeFunc fn first cap).run Tryz.prog w = .ok (.func fn first cap) w := fun _ _ _ _ => rfl
 have HK := Lib.hid hK
 have q0 := hK.cell k 0 hk (by omega)
 have q1 := hK.cell k 1 hk (by omega)
 have q2 := hK.cell k 2 hk (by omega)
 have q3 := hK.cell k 3 hk (by omega)
 have q4 := hK.cell k 4 hk (by omega)
 have q5 := hK.cell k 5 hk (by omega)
 have hki : (k : Int) < 21 := by omega
 have h0w : 0 < w.heap.size := hK.lt
 have i0 : ∀ w, (Instr.index 201 (.agg #[.int .i64 (kindP k 0), .int .i64 (kindP k 1), .int .i64 (kindP k 2), .int .i64 (kindP k 3), .int .i64 (kindP k 4), .int .i64 (kindP k 5)]) (.int .i64 0)).run Tryz.prog w = .ok (.int .i64 (kindP k 0)) w := fun _ => by kernel_rfl
 have i1 : ∀ w, (Instr.index 201 (.agg #[.int .i64 (kindP k 0), .int .i64 (kindP k 1), .int .i64 (kindP k 2), .int .i64 (kindP k 3), .int .i64 (kindP k 4), .int .i64 (kindP k 5)]) (.int .i64 1)).run Tryz.prog w = .ok (.int .i64 (kindP k 1)) w := fun _ => by kernel_rfl
 have i2 : ∀ w, (Instr.index 201 (.agg #[.int .i64 (kindP k 0), .int .i64 (kindP k 1), .int .i64 (kindP k 2), .int .i64 (kindP k 3), .int .i64 (kindP k 4), .int .i64 (kindP k 5)]) (.int .i64 2)).run Tryz.prog w = .ok (.int .i64 (kindP k 2)) w := fun _ => by kernel_rfl
 have i3 : ∀ w, (Instr.index 201 (.agg #[.int .i64 (kindP k 0), .int .i64 (kindP k 1), .int .i64 (kindP k 2), .int .i64 (kindP k 3), .int .i64 (kindP k 4), .int .i64 (kindP k 5)]) (.int .i64 3)).run Tryz.prog w = .ok (.int .i64 (kindP k 3)) w := fun _ => by kernel_rfl
 have i4 : ∀ w, (Instr.index 201 (.agg #[.int .i64 (kindP k 0), .int .i64 (kindP k 1), .int .i64 (kindP k 2), .int .i64 (kindP k 3), .int .i64 (kindP k 4), .int .i64 (kindP k 5)]) (.int .i64 4)).run Tryz.prog w = .ok (.int .i64 (kindP k 4)) w := fun _ => by kernel_rfl
 have i5 : ∀ w, (Instr.index 201 (.agg #[.int .i64 (kindP k 0), .int .i64 (kindP k 1), .int .i64 (kindP k 2), .int .i64 (kindP k 3), .int .i64 (kindP k 4), .int .i64 (kindP k 5)]) (.int .i64 5)).run Tryz.prog w = .ok (.int .i64 (kindP k 5)) w := fun _ => by kernel_rfl
 clear hK
 go_enter Tryz.func119, Tryz.ntmps119
 go_wp2_with (fail)
 obtain ⟨W0, hW0⟩ : ∃ W0, W0 = (w.alloc (.cells #[.int .i64 (k : Int), .int .i64 l.fr, .int .i64 l.tw, .int .i64 l.ch, .int .u64 l.ep, .int .u64 l.bl, .int .u64 l.nu, .int .u64 l.sq, .int .u64 l.dz, .int .u64 l.vr, .int .i64 l.sl, .int .u32 l.ky, .int .i64 l.cd, .int .i64 l.qk, .int .i64 l.qc, .int .u64 l.qe, .int .i64 l.qn, .int .i64 l.fc, .int .u64 l.fe, .slice l.fA l.fn l.fp, .bool l.ff, .int .i64 l.fj, .slice l.vA l.vn l.vp, .slice l.uA l.un l.up, .slice l.dA l.dn l.dp] 37)).alloc (.cells ZL 37) := ⟨_, rfl⟩
 rw [← hW0]
 have HB1 : Hid (Blk W0 w.heap.size 37 l.cells) := Lib.hid (by
  rw [hW0, show l.cells = #[.int .i64 (k : Int), .int .i64 l.fr, .int .i64 l.tw, .int .i64 l.ch, .int .u64 l.ep, .int .u64 l.bl, .int .u64 l.nu, .int .u64 l.sq, .int .u64 l.dz, .int .u64 l.vr, .int .i64 l.sl, .int .u32 l.ky, .int .i64 l.cd, .int .i64 l.qk, .int .i64 l.qc, .int .u64 l.qe, .int .i64 l.qn, .int .i64 l.fc, .int .u64 l.fe, .slice l.fA l.fn l.fp, .bool l.ff, .int .i64 l.fj, .slice l.vA l.vn l.vp, .slice l.uA l.un l.up, .slice l.dA l.dn l.dp] from by unfold Lt.cells; rw [hkd]]
  exact (Blk.new w _ _).alloc _)
 have HB2 : Hid (Blk W0 (w.heap.size + 1) 37 Lt.zero.cells) := Lib.hid (by rw [hW0]; exact blk_at7 _ _ Lt.zero.cells _ (by simp))
 have HBW : Hid (Below w.heap.size w W0) := Lib.hid (by rw [hW0]; repeat (first | with_reducible exact Below.refl _ _ | with_reducible refine Below.setCell ?_ (by first | omega | (simp <;> omega)) _ | with_reducible refine Below.alloc ?_ (by first | omega | (simp <;> omega)) _ | with_reducible refine below_drewN ?_ _ | with_reducible refine Below.drew ?_))
 have hsz : W0.heap.size = w.heap.size + 2 := by rw [hW0]; simp
 have HKD := Lib.hid hkd
 clear hW0
 go_loopw [3, 5, 14] (fun bv _ iv wr => ∃ z : Int, 0 ≤ z ∧ z ≤ 6 ∧ iv = .int .i64 z ∧ bv = .int .i64 (orK k z.toNat) ∧ W0 = wr) (fun _ _ iv _ => 6 - (intOf iv).toNat)
 case atStart => exact ⟨0, by omega, by omega, rfl, rfl, rfl⟩
 case round =>
  obtain ⟨z, hz0, hz6, rfl, rfl, rfl⟩ := hrel
  by_cases hlt : z < 6
  ·have HS : Hid (∀ j, orK k (j + 1) = bits .or .i64 (orK k j) (kindP k j)) := Lib.hid (fun _ => rfl)
   clear q0 q1 q2 q3 q4 q5
   have hjj : z = 0 ∨ z = 1 ∨ z = 2 ∨ z = 3 ∨ z = 4 ∨ z = 5 := by omega
   rcases hjj with rfl | rfl | rfl | rfl | rfl | rfl
   all_goals (
    clear hlt hz0 hz6
    go_wp2_with (fail)
    go_roundw
    case rel => exact ⟨_, by omega, by omega, rfl, rfl, (by first | rfl | trivial)⟩
    case measure => decide)
  ·obtain rfl : z = 6 := by omega
   obtain ⟨r0, r1, r2, _⟩ := lt_cells HB1.out
   obtain ⟨cap, hcap⟩ : ∃ cap : Array Value, #[Value.pointer (some ⟨w.heap.size, 0, none⟩), .pointer (some ⟨w.heap.size + 2, 0, none⟩)] = cap := ⟨_, rfl⟩
   have hhdr := fun a b c w => bare_hdr a b c w
   have hone := fun n fn w => bare_one n fn cap w
   have hlit := fun w => bare_lit cap w
   have HOR : Hid (orK k (Int.toNat 6) = orK k 6) := Lib.hid rfl
   go_upto_region 7 with (fail)
   iterate 25 go_step
   refine wpList_store_fresh rfl 37 (.tmp 6) (.tmp 27) rfl _ _ _ (by rw [hsz]; rfl) rfl (by kernel_rfl) rfl (by first | kernel_rfl | (simp [Value.oneCell'])) ?_
   go_wp2_with (fail)
   obtain ⟨W1, hW1⟩ : ∃ W1, W1 = (W0.alloc (.cells #[.int .i64 (k : Int), .int .i64 l.fr, .int .i64 l.tw, .int .i64 0, .int .u64 0, .int .u64 0, .int .u64 0, .int .u64 0, .int .u64 0, .int .u64 0, .int .i64 0, .int .u32 0, .int .i64 0, .int .i64 0, .int .i64 0, .int .u64 0, .int .i64 0, .int .i64 0, .int .u64 0, .slice none 0 0, .bool false, .int .i64 0, .slice none 0 0, .slice none 0 0, .slice none 0 0] 37)).alloc (.cells #[.int .i64 1, .func (.func 207) #[] cap, .int .i64 2, .func (.func 208) #[] cap, .int .i64 4, .func (.func 209) #[] cap, .int .i64 8, .func (.func 210) #[] cap, .int .i64 16, .func (.func 211) #[] cap, .int .i64 32, .func (.func 212) #[] cap, .int .i64 64, .func (.func 213) #[] cap, .int .i64 128, .func (.func 214) #[] cap, .int .i64 256, .func (.func 215) #[] cap, .int .i64 512, .func (.func 216) #[] cap, .int .i64 1024, .func (.func 217) #[] cap, .int .i64 2048, .func (.func 218) #[] cap, .int .i64 4096, .func (.func 219) #[] cap, .int .i64 8192, .func (.func 220) #[] cap, .int .i64 16384, .func (.func 221) #[] cap] 300) := ⟨_, rfl⟩
   rw [← hW1]
   have HC1 : Hid (Blk W1 w.heap.size 37 l.cells) := Lib.hid (by rw [hW1]; exact (HB1.out.alloc _).alloc _)
   have HC2 : Hid (Blk W1 (w.heap.size + 1) 37 Lt.zero.cells) := Lib.hid (by rw [hW1]; exact (HB2.out.alloc _).alloc _)
   have HC3 : Hid (Blk W1 (w.heap.size + 2) 37 (l.mask (partF k 0)).cells) := Lib.hid (by
    rw [hW1, show (l.mask (partF k 0)).cells = #[.int .i64 (k : Int), .int .i64 l.fr, .int .i64 l.tw, .int .i64 0, .int .u64 0, .int .u64 0, .int .u64 0, .int .u64 0, .int .u64 0, .int .u64 0, .int .i64 0, .int .u32 0, .int .i64 0, .int .i64 0, .int .i64 0, .int .u64 0, .int .i64 0, .int .i64 0, .int .u64 0, .slice none 0 0, .bool false, .int .i64 0, .slice none 0 0, .slice none 0 0, .slice none 0 0] from (by rw [← hkd]; rfl)]
    exact (blk_at7 _ _ _ _ hsz.symm).alloc _)
   have HC4 : Hid (Blk W1 (w.heap.size + 3) 300 (bareRow cap)) := Lib.hid (by rw [hW1]; exact blk_at7 _ _ (bareRow cap) _ (by simp [hsz]))
   have HCW : Hid (Below w.heap.size w W1) := Lib.hid (by rw [hW1]; exact (HBW.out.alloc (by omega) _).alloc (by simp; omega) _)
   clear hW1 HB1 HB2 HBW hsz r0 r1 r2 hhdr hone hlit q0 q1 q2 q3 q4 q5 i0 i1 i2 i3 i4 i5 hmf hki
   go_loopw [8, 60] (fun _ iv wr => ∃ j : Nat, j ≤ 15 ∧ iv = .int .i64 j ∧ Below w.heap.size w wr ∧ Blk wr w.heap.size 37 l.cells ∧ Blk wr (w.heap.size + 1) 37 Lt.zero.cells ∧ Blk wr (w.heap.size + 2) 37 (l.mask (partF k j)).cells ∧ Blk wr (w.heap.size + 3) 300 (bareRow cap)) (fun _ iv _ => 15 - (intOf iv).toNat)
   case atStart => exact ⟨0, by omega, rfl, HCW.out, HC1.out, HC2.out, HC3.out, HC4.out⟩
   case round =>
    obtain ⟨j, hj, rfl, hbw, hc1, hc2, hc3, hc4⟩ := hrel
    have HD1 := Lib.hid hc1
    have HD2 := Lib.hid hc2
    have HD3 := Lib.hid hc3
    have HD4 := Lib.hid hc4
    have HDW := Lib.hid hbw
    by_cases hlt : j < 15
    ·have f0 := (hc4.cell (j * 2)).trans (bareRow_at cap j hlt).1
     have f1 := (hc4.cell (j * 2 + 1)).trans (bareRow_at cap j hlt).2
     have l4 := hc4.lt
     have hl2 : (j : Int) < 15 := by omega
     clear hc1 hc2 hc3 hc4 hbw
     have hent := bare_enter j hlt
     have HBE : Hid (∀ W, Blk W w.heap.size 37 l.cells → Blk W (w.heap.size + 2) 37 (l.mask (partF k j)).cells → Calls Tryz.prog (207 + j) cap W (BareP l (partF k j) j (w.heap.size + 2) W)) := Lib.hid (fun W hb ho => by rw [← hcap]; exact bareF_any l (partF k j) w.heap.size (w.heap.size + 2) j hlt W hb ho (by omega))
     have HHC := Lib.hid hcap
     clear hcap
     go_wp2_with (fail)
     ·have hbit : hasB k j = true := by unfold hasB; assumption
      refine (HBE.out _ (HD1.out.alloc _) (HD3.out.alloc _)).mono ?_
      rintro e W2 ⟨rfl, hm2, hch⟩
      have HN1 := Lib.hid (hch.blk (HD1.out.alloc _) (by simp [isB]))
      have HN2 := Lib.hid (hch.blk (HD2.out.alloc _) (by simp [isB]))
      have HN4 := Lib.hid (hch.blk (HD4.out.alloc _) (by simp [isB]))
      have HNW := Lib.hid ((HDW.out.alloc (by omega) _).trans (hch.below (B := w.heap.size) (by simp; omega) (by intro k hk; simp [isB]; omega)))
      have HN3 : Hid (Blk W2 (w.heap.size + 2) 37 (l.mask (partF k (j + 1))).cells) := Lib.hid (by rw [partF_yes k j hbit] ; exact hm2)
      clear hm2 hch f0 f1 l4
      go_wp2_with (fail)
      exact ⟨⟨j + 1, by omega, by simp, HNW.out, HN1.out, HN2.out, HN3.out, HN4.out⟩, by simp [intOf]; omega⟩
     ·have hbit : hasB k j = false := by unfold hasB; assumption
      refine ⟨⟨j + 1, by omega, by simp, HDW.out.alloc (by omega) _, HD1.out.alloc _, HD2.out.alloc _, ?_, HD4.out.alloc _⟩, by simp [intOf]; omega⟩
      rw [partF_no k j hbit]
      exact HD3.out.alloc _
    ·obtain rfl : j = 15 := by omega
     obtain ⟨m, hm⟩ : ∃ m, m = l.mask (partF k 15) := ⟨_, rfl⟩
     rw [← hm] at hc3
     clear HD1 HD4 HD3
     obtain ⟨fs, hu⟩ : ∃ fs, Tryz.prog.underlying 37 = some (.struct fs) := ⟨_, rfl⟩
     have hi : (Tryz.prog.info? 37).map (·.size) = some m.cells.size := by kernel_rfl
     go_upto_region 14 with (fail)
     go_step
     refine wpList_load_row rfl 37 (.tmp 6) rfl (w.heap.size + 2) rfl 37 m.cells (0, 0) (.struct fs) hc3 hu rfl hi ?_
     refine wpList_store_row rfl 37 (.tmp 2) (.tmp 73) rfl (w.heap.size + 1) m.cells rfl rfl 37 Lt.zero.cells hc2 hi rfl (by first | kernel_rfl | (simp [Lt.cells, Value.oneCell'])) ?_
     go_wp2_with (fail)
     refine bodyPost_ret_by (v := .agg m.cells) (results_cell_row Tryz.results119 _ _ (w.heap.size + 1) 37 m.cells (0, 0) (.struct fs) rfl (setRow_heap _ _ _ _ _ _ hc2) hu rfl hi) rfl ⟨?_, ?_⟩
     ·rw [← hm]; rfl
     ·exact below_setRow hbw (by omega) _
end Go.Proofs.YtmpedblelnpjdaaGreatDoor
/- The parts of a letter, with their closures (printed by cdgen.py). -/
namespace Go.Proofs.YtmpedblelnpjdaaGreatDoor
open Go.RowKit
set_option linter.unusedSimpArgs false
set_option linter.unusedVariables false
set_option maxHeartbeats 8000000
set_option maxRecDepth 100000
structure Pm where
 f : Fn
 a : Fn
 b : Fn
 x : Array Value
 y : Array Value
def Pm.row (p : Pm) : List Value := [.func p.f #[] #[], .func p.a #[] p.x, .func p.b #[] p.y]
def Pm.cells (p : Pm) : Array Value := #[.func p.f #[] #[], .func p.a #[] p.x, .func p.b #[] p.y]
def Pm.agg (p : Pm) : Value := .agg #[.func p.f #[] #[], .func p.a #[] p.x, .func p.b #[] p.y]
def boxT (t : TypeId) : Prop := t = 3 ∨ t = 295 ∨ t = 298
theorem boxT_ne {t s : TypeId} (h : boxT t) (h1 : s ≠ 3) (h2 : s ≠ 295) (h3 : s ≠ 298) : t ≠ s := by
 rcases h with rfl | rfl | rfl
 ·exact fun e => h1 e.symm
 ·exact fun e => h2 e.symm
 ·exact fun e => h3 e.symm
def Boxes (W : World) (l : List (Nat × TypeId × Value)) : Prop := ∀ b ∈ l, Blk W b.1 b.2.1 #[b.2.2] ∧ boxT b.2.1
theorem Boxes.below {W W' : World} {l : List (Nat × TypeId × Value)} (h : Boxes W l) (hb : Below W.heap.size W W') : Boxes W' l := fun b hb' => ⟨(h b hb').1.below hb (h b hb').1.lt, (h b hb').2⟩
theorem Boxes.nil (W : World) : Boxes W [] := fun b hb => by cases hb
theorem Boxes.grown {W W' : World} {l : List (Nat × TypeId × Value)} {base n : Nat} {v : Value} {xs : List Value} (h : Boxes W l) (ho : W.ownsRow base 123 3 v n xs) (hg : W.grownBy W' v.ownBlock) : Boxes W' l := by
 intro b hb
 refine ⟨(hg.block _ (h b hb).1.lt (fun e => ?_)).trans (h b hb).1, (h b hb).2⟩
 have hblk := (h b hb).1
 rcases ho.2 with hn | ⟨g, cap, cur, rfl, _, hh, _⟩
 ·rcases hn with ⟨rfl, _⟩
  cases e
 ·simp only [Value.ownBlock] at e
  injection e with e
  subst e
  unfold Blk at hblk
  rw [hh] at hblk
  injection hblk with hblk
  injection hblk with _ ht _
  exact boxT_ne (h b hb).2 (by decide) (by decide) (by decide) ht.symm
def smallP (f : Fn) (g1 g2 : Nat) : Pm := ⟨f, .func 253, .func 254, #[.pointer (some ⟨g2, 0, none⟩), .pointer (some ⟨g1, 0, none⟩)], #[.pointer (some ⟨g1, 0, none⟩), .pointer (some ⟨g2, 0, none⟩)]⟩
def wordP (f : Fn) (g : Nat) : Pm := ⟨f, .func 255, .func 256, #[.pointer (some ⟨g, 0, none⟩)], #[.pointer (some ⟨g, 0, none⟩)]⟩
def plainP (f a b : Fn) : Pm := ⟨f, a, b, #[], #[]⟩
def SmallAt (W : World) (n : Int) (f q : Fn) (p : Pm) : Prop := ∃ g1 g2, p = smallP f g1 g2 ∧ Boxes W [(g1, 3, .int .i64 n), (g2, 295, .func q #[] #[])]
def WordAt (W : World) (f q : Fn) (p : Pm) : Prop := ∃ g, p = wordP f g ∧ Boxes W [(g, 298, .func q #[] #[])]
def PartM (W : World) (i : Nat) (p : Pm) : Prop := match i with
 | 0 => SmallAt W 1 (.func 184) (.func 185) p
 | 1 => WordAt W (.func 189) (.func 190) p
 | 2 => WordAt W (.func 191) (.func 193) p
 | 3 => WordAt W (.func 194) (.func 195) p
 | 4 => WordAt W (.func 194) (.func 196) p
 | 5 => SmallAt W 2 (.func 186) (.func 187) p
 | 6 => WordAt W (.func 194) (.func 197) p
 | 7 => p = plainP (.func 258) (.func 259) (.func 260)
 | 8 => p = plainP (.func 194) (.func 261) (.func 262)
 | 9 => WordAt W (.func 194) (.func 198) p
 | 10 => p = plainP (.func 263) (.func 265) (.func 267)
 | 11 => p = plainP (.func 268) (.func 269) (.func 271)
 | 12 => p = plainP (.func 272) (.func 274) (.func 275)
 | 13 => p = plainP (.func 276) (.func 277) (.func 278)
 | 14 => p = plainP (.func 279) (.func 281) (.func 282)
 | _ => False
theorem SmallAt.below {W W' : World} {n : Int} {f q : Fn} {p : Pm} (h : SmallAt W n f q p) (hb : Below W.heap.size W W') : SmallAt W' n f q p := by obtain ⟨g1, g2, e, hx⟩ := h; exact ⟨g1, g2, e, hx.below hb⟩
theorem WordAt.below {W W' : World} {f q : Fn} {p : Pm} (h : WordAt W f q p) (hb : Below W.heap.size W W') : WordAt W' f q p := by obtain ⟨g, e, hx⟩ := h; exact ⟨g, e, hx.below hb⟩
theorem SmallAt.grown {W W' : World} {k : Int} {f q : Fn} {p : Pm} {base n : Nat} {v : Value} {xs : List Value} (h : SmallAt W k f q p) (ho : W.ownsRow base 123 3 v n xs) (hg : W.grownBy W' v.ownBlock) : SmallAt W' k f q p := by obtain ⟨g1, g2, e, hx⟩ := h; exact ⟨g1, g2, e, hx.grown ho hg⟩
theorem WordAt.grown {W W' : World} {f q : Fn} {p : Pm} {base n : Nat} {v : Value} {xs : List Value} (h : WordAt W f q p) (ho : W.ownsRow base 123 3 v n xs) (hg : W.grownBy W' v.ownBlock) : WordAt W' f q p := by obtain ⟨g, e, hx⟩ := h; exact ⟨g, e, hx.grown ho hg⟩
theorem PartM.below {W W' : World} {p : Pm} (hb : Below W.heap.size W W') : ∀ (i : Nat), PartM W i p → PartM W' i p
 | 0, h => SmallAt.below h hb
 | 1, h => WordAt.below h hb
 | 2, h => WordAt.below h hb
 | 3, h => WordAt.below h hb
 | 4, h => WordAt.below h hb
 | 5, h => SmallAt.below h hb
 | 6, h => WordAt.below h hb
 | 7, h => h
 | 8, h => h
 | 9, h => WordAt.below h hb
 | 10, h => h
 | 11, h => h
 | 12, h => h
 | 13, h => h
 | 14, h => h
 | _ + 15, h => h
theorem PartM.grown {W W' : World} {p : Pm} {base n : Nat} {v : Value} {xs : List Value} (ho : W.ownsRow base 123 3 v n xs) (hg : W.grownBy W' v.ownBlock) : ∀ (i : Nat), PartM W i p → PartM W' i p
 | 0, h => SmallAt.grown h ho hg
 | 1, h => WordAt.grown h ho hg
 | 2, h => WordAt.grown h ho hg
 | 3, h => WordAt.grown h ho hg
 | 4, h => WordAt.grown h ho hg
 | 5, h => SmallAt.grown h ho hg
 | 6, h => WordAt.grown h ho hg
 | 7, h => h
 | 8, h => h
 | 9, h => WordAt.grown h ho hg
 | 10, h => h
 | 11, h => h
 | 12, h => h
 | 13, h => h
 | 14, h => h
 | _ + 15, h => h
theorem small_full (n : Int) (f q : Fn) (w : World) : Calls Tryz.prog 183 #[.int .i64 n, .func f #[] #[], .func q #[] #[]] w fun e w' => ∃ p, e = .returned p.agg ∧ SmallAt w' n f q p ∧ Below w.heap.size w w' := by
 go_enter Tryz.func183, Tryz.ntmps183
 go_wp2_with (fail)
 refine bodyPost_ret (v := .agg #[.func f #[] #[], .func (.func 253) #[] #[.pointer (some ⟨w.heap.size + 1, 0, none⟩), .pointer (some ⟨w.heap.size, 0, none⟩)], .func (.func 254) #[] #[.pointer (some ⟨w.heap.size, 0, none⟩), .pointer (some ⟨w.heap.size + 1, 0, none⟩)]]) (by simp [results, Tryz.results183, go_sem]) rfl ?_
 have c1 : Blk (w.alloc (.cells #[.int .i64 n] 3)) w.heap.size 3 #[.int .i64 n] := Blk.new w _ _
 have c2 : Blk ((w.alloc (.cells #[.int .i64 n] 3)).alloc (.cells #[.func q #[] #[]] 295)) (w.heap.size + 1) 295 #[.func q #[] #[]] := by
  have := Blk.new (w.alloc (.cells #[.int .i64 n] 3)) 295 #[.func q #[] #[]]
  simpa using this
 refine ⟨smallP f w.heap.size (w.heap.size + 1), rfl, ⟨_, _, rfl, ?_⟩, by repeat (first | with_reducible exact Below.refl _ _ | with_reducible refine Below.setCell ?_ (by first | omega | (simp <;> omega)) _ | with_reducible refine Below.alloc ?_ (by first | omega | (simp <;> omega)) _ | with_reducible refine below_drewN ?_ _ | with_reducible refine Below.drew ?_)⟩
 intro b hb
 simp only [List.mem_cons, List.not_mem_nil, or_false] at hb
 rcases hb with rfl | rfl
 ·refine ⟨?_, Or.inl rfl⟩
  repeat (first | with_reducible exact c1 | with_reducible refine Blk.far ?_ (by first | omega | (simp <;> omega)) _ | with_reducible refine Blk.alloc ?_ _ | with_reducible exact blk_drewN ?_)
 ·refine ⟨?_, Or.inr (Or.inl rfl)⟩
  repeat (first | with_reducible exact c2 | with_reducible refine Blk.far ?_ (by first | omega | (simp <;> omega)) _ | with_reducible refine Blk.alloc ?_ _ | with_reducible exact blk_drewN ?_)
theorem word_full (f q : Fn) (w : World) : Calls Tryz.prog 188 #[.func f #[] #[], .func q #[] #[]] w fun e w' => ∃ p, e = .returned p.agg ∧ WordAt w' f q p ∧ Below w.heap.size w w' := by
 go_enter Tryz.func188, Tryz.ntmps188
 go_wp2_with (fail)
 refine bodyPost_ret (v := .agg #[.func f #[] #[], .func (.func 255) #[] #[.pointer (some ⟨w.heap.size, 0, none⟩)], .func (.func 256) #[] #[.pointer (some ⟨w.heap.size, 0, none⟩)]]) (by simp [results, Tryz.results188, go_sem]) rfl ?_
 have c1 : Blk (w.alloc (.cells #[.func q #[] #[]] 298)) w.heap.size 298 #[.func q #[] #[]] := Blk.new w _ _
 refine ⟨wordP f w.heap.size, rfl, ⟨_, rfl, ?_⟩, by repeat (first | with_reducible exact Below.refl _ _ | with_reducible refine Below.setCell ?_ (by first | omega | (simp <;> omega)) _ | with_reducible refine Below.alloc ?_ (by first | omega | (simp <;> omega)) _ | with_reducible refine below_drewN ?_ _ | with_reducible refine Below.drew ?_)⟩
 intro b hb
 simp only [List.mem_cons, List.not_mem_nil, or_false] at hb
 subst hb
 refine ⟨?_, Or.inr (Or.inr rfl)⟩
 repeat (first | with_reducible exact c1 | with_reducible refine Blk.far ?_ (by first | omega | (simp <;> omega)) _ | with_reducible refine Blk.alloc ?_ _)
def PartOfM (i : Nat) (w : World) (e : Ending) (w' : World) : Prop := ∃ p, e = .returned p.agg ∧ PartM w' i p ∧ Below w.heap.size w w' 
theorem oth7_any (w : World) : Calls Tryz.prog 199 #[.int .i64 128] w fun e w' => e = .returned (plainP (.func 258) (.func 259) (.func 260)).agg ∧ Below w.heap.size w w' := by
 go_enter Tryz.func199, Tryz.ntmps199
 go_wp2_with (fail)
 refine bodyPost_ret (v := (plainP (.func 258) (.func 259) (.func 260)).agg) (by simp [results, Tryz.results199, go_sem, Pm.agg, plainP]) rfl ?_
 exact rp19
theorem oth8_any (w : World) : Calls Tryz.prog 199 #[.int .i64 256] w fun e w' => e = .returned (plainP (.func 194) (.func 261) (.func 262)).agg ∧ Below w.heap.size w w' := by
 go_enter Tryz.func199, Tryz.ntmps199
 go_wp2_with (fail)
 refine bodyPost_ret (v := (plainP (.func 194) (.func 261) (.func 262)).agg) (by simp [results, Tryz.results199, go_sem, Pm.agg, plainP]) rfl ?_
 exact rp19
theorem oth10_any (w : World) : Calls Tryz.prog 199 #[.int .i64 1024] w fun e w' => e = .returned (plainP (.func 263) (.func 265) (.func 267)).agg ∧ Below w.heap.size w w' := by
 go_enter Tryz.func199, Tryz.ntmps199
 go_wp2_with (fail)
 refine bodyPost_ret (v := (plainP (.func 263) (.func 265) (.func 267)).agg) (by simp [results, Tryz.results199, go_sem, Pm.agg, plainP]) rfl ?_
 exact rp19
theorem oth11_any (w : World) : Calls Tryz.prog 199 #[.int .i64 2048] w fun e w' => e = .returned (plainP (.func 268) (.func 269) (.func 271)).agg ∧ Below w.heap.size w w' := by
 go_enter Tryz.func199, Tryz.ntmps199
 go_wp2_with (fail)
 refine bodyPost_ret (v := (plainP (.func 268) (.func 269) (.func 271)).agg) (by simp [results, Tryz.results199, go_sem, Pm.agg, plainP]) rfl ?_
 exact rp19
theorem oth12_any (w : World) : Calls Tryz.prog 199 #[.int .i64 4096] w fun e w' => e = .returned (plainP (.func 272) (.func 274) (.func 275)).agg ∧ Below w.heap.size w w' := by
 go_enter Tryz.func199, Tryz.ntmps199
 go_wp2_with (fail)
 refine bodyPost_ret (v := (plainP (.func 272) (.func 274) (.func 275)).agg) (by simp [results, Tryz.results199, go_sem, Pm.agg, plainP]) rfl ?_
 exact rp19
theorem oth13_any (w : World) : Calls Tryz.prog 199 #[.int .i64 8192] w fun e w' => e = .returned (plainP (.func 276) (.func 277) (.func 278)).agg ∧ Below w.heap.size w w' := by
 go_enter Tryz.func199, Tryz.ntmps199
 go_wp2_with (fail)
 refine bodyPost_ret (v := (plainP (.func 276) (.func 277) (.func 278)).agg) (by simp [results, Tryz.results199, go_sem, Pm.agg, plainP]) rfl ?_
 exact rp19
theorem oth14_any (w : World) : Calls Tryz.prog 199 #[.int .i64 16384] w fun e w' => e = .returned (plainP (.func 279) (.func 281) (.func 282)).agg ∧ Below w.heap.size w w' := by
 go_enter Tryz.func199, Tryz.ntmps199
 go_wp2_with (fail)
 refine bodyPost_ret (v := (plainP (.func 279) (.func 281) (.func 282)).agg) (by simp [results, Tryz.results199, go_sem, Pm.agg, plainP]) rfl ?_
 exact rp19
theorem ofm0_any (w : World) : Calls Tryz.prog 115 #[.int .i64 1] w (PartOfM 0 w) := by
 have HB : Hid (Below w.heap.size w (w.alloc (.cells #[.nilFunc, .nilFunc, .nilFunc] 123))) := Lib.hid (by repeat (first | with_reducible exact Below.refl _ _ | with_reducible refine Below.setCell ?_ (by first | omega | (simp <;> omega)) _ | with_reducible refine Below.alloc ?_ (by first | omega | (simp <;> omega)) _ | with_reducible refine below_drewN ?_ _ | with_reducible refine Below.drew ?_))
 have hblk : Hid (Blk (w.alloc (.cells #[.nilFunc, .nilFunc, .nilFunc] 123)) w.heap.size 123 #[.nilFunc, .nilFunc, .nilFunc]) := Lib.hid (Blk.new _ _ _)
 go_enter Tryz.func115, Tryz.ntmps115
 go_wp2_with (fail)
 refine (small_full 1 (.func 184) (.func 185) _).mono ?_
 rintro e w2 ⟨p, rfl, ⟨g1, g2, rfl, hx⟩, h⟩
 have hb2 := hblk.out.below h hblk.out.lt
 have p0 := hb2.cell 0
 have p1 := hb2.cell 1
 have p2 := hb2.cell 2
 have z0 := hb2.frozen 0
 have z1 := hb2.frozen 1
 have z2 := hb2.frozen 2
 have hl := hb2.lt
 simp at p0 p1 p2
 have HB2 := Lib.hid (HB.out.trans (h.mono HB.out.size))
 have hne : ∀ b ∈ [(g1, 3, Value.int .i64 1), (g2, 295, .func (.func 185) #[] #[])], b.1 ≠ w.heap.size := fun b hb e => by
  exact rp35
 replace hx := Lib.hid hx
 unfold smallP Pm.agg
 clear h hb2
 go_wp2_with (fail)
 refine bodyPost_ret (v := (smallP (.func 184) g1 g2).agg) (by simp [results, Tryz.results115, go_sem, p0, p1, p2, smallP, wordP, plainP, Pm.agg]) rfl ?_
 exact ⟨smallP (.func 184) g1 g2, rfl, ⟨_, _, rfl, by intro b hb; have h5 := hx.out b hb; refine ⟨?_, h5.2⟩; repeat (first | with_reducible exact h5.1 | with_reducible refine Blk.far ?_ (hne b hb) _)⟩, by repeat (first | with_reducible exact HB2.out | with_reducible refine Below.setCell ?_ (by first | omega | (simp <;> omega) | simp) _)⟩
theorem ofm1_any (w : World) : Calls Tryz.prog 115 #[.int .i64 2] w (PartOfM 1 w) := by
 have HB : Hid (Below w.heap.size w (w.alloc (.cells #[.nilFunc, .nilFunc, .nilFunc] 123))) := Lib.hid (by repeat (first | with_reducible exact Below.refl _ _ | with_reducible refine Below.setCell ?_ (by first | omega | (simp <;> omega)) _ | with_reducible refine Below.alloc ?_ (by first | omega | (simp <;> omega)) _ | with_reducible refine below_drewN ?_ _ | with_reducible refine Below.drew ?_))
 have hblk : Hid (Blk (w.alloc (.cells #[.nilFunc, .nilFunc, .nilFunc] 123)) w.heap.size 123 #[.nilFunc, .nilFunc, .nilFunc]) := Lib.hid (Blk.new _ _ _)
 go_enter Tryz.func115, Tryz.ntmps115
 go_wp2_with (fail)
 refine (word_full (.func 189) (.func 190) _).mono ?_
 rintro e w2 ⟨p, rfl, ⟨g1, rfl, hx⟩, h⟩
 have hb2 := hblk.out.below h hblk.out.lt
 have p0 := hb2.cell 0
 have p1 := hb2.cell 1
 have p2 := hb2.cell 2
 have z0 := hb2.frozen 0
 have z1 := hb2.frozen 1
 have z2 := hb2.frozen 2
 have hl := hb2.lt
 simp at p0 p1 p2
 have HB2 := Lib.hid (HB.out.trans (h.mono HB.out.size))
 have hne : ∀ b ∈ [(g1, 298, Value.func (.func 190) #[] #[])], b.1 ≠ w.heap.size := fun b hb e => by
  exact rp35
 replace hx := Lib.hid hx
 unfold wordP Pm.agg
 clear h hb2
 go_wp2_with (fail)
 refine bodyPost_ret (v := (wordP (.func 189) g1).agg) (by simp [results, Tryz.results115, go_sem, p0, p1, p2, smallP, wordP, plainP, Pm.agg]) rfl ?_
 exact ⟨wordP (.func 189) g1, rfl, ⟨_, rfl, by intro b hb; have h5 := hx.out b hb; refine ⟨?_, h5.2⟩; repeat (first | with_reducible exact h5.1 | with_reducible refine Blk.far ?_ (hne b hb) _)⟩, by repeat (first | with_reducible exact HB2.out | with_reducible refine Below.setCell ?_ (by first | omega | (simp <;> omega) | simp) _)⟩
theorem ofm2_any (w : World) : Calls Tryz.prog 115 #[.int .i64 4] w (PartOfM 2 w) := by
 have HB : Hid (Below w.heap.size w (w.alloc (.cells #[.nilFunc, .nilFunc, .nilFunc] 123))) := Lib.hid (by repeat (first | with_reducible exact Below.refl _ _ | with_reducible refine Below.setCell ?_ (by first | omega | (simp <;> omega)) _ | with_reducible refine Below.alloc ?_ (by first | omega | (simp <;> omega)) _ | with_reducible refine below_drewN ?_ _ | with_reducible refine Below.drew ?_))
 have hblk : Hid (Blk (w.alloc (.cells #[.nilFunc, .nilFunc, .nilFunc] 123)) w.heap.size 123 #[.nilFunc, .nilFunc, .nilFunc]) := Lib.hid (Blk.new _ _ _)
 go_enter Tryz.func115, Tryz.ntmps115
 go_wp2_with (fail)
 refine (word_full (.func 191) (.func 193) _).mono ?_
 rintro e w2 ⟨p, rfl, ⟨g1, rfl, hx⟩, h⟩
 have hb2 := hblk.out.below h hblk.out.lt
 have p0 := hb2.cell 0
 have p1 := hb2.cell 1
 have p2 := hb2.cell 2
 have z0 := hb2.frozen 0
 have z1 := hb2.frozen 1
 have z2 := hb2.frozen 2
 have hl := hb2.lt
 simp at p0 p1 p2
 have HB2 := Lib.hid (HB.out.trans (h.mono HB.out.size))
 have hne : ∀ b ∈ [(g1, 298, Value.func (.func 193) #[] #[])], b.1 ≠ w.heap.size := fun b hb e => by
  exact rp35
 replace hx := Lib.hid hx
 unfold wordP Pm.agg
 clear h hb2
 go_wp2_with (fail)
 refine bodyPost_ret (v := (wordP (.func 191) g1).agg) (by simp [results, Tryz.results115, go_sem, p0, p1, p2, smallP, wordP, plainP, Pm.agg]) rfl ?_
 exact ⟨wordP (.func 191) g1, rfl, ⟨_, rfl, by intro b hb; have h5 := hx.out b hb; refine ⟨?_, h5.2⟩; repeat (first | with_reducible exact h5.1 | with_reducible refine Blk.far ?_ (hne b hb) _)⟩, by repeat (first | with_reducible exact HB2.out | with_reducible refine Below.setCell ?_ (by first | omega | (simp <;> omega) | simp) _)⟩
theorem ofm3_any (w : World) : Calls Tryz.prog 115 #[.int .i64 8] w (PartOfM 3 w) := by
 have HB : Hid (Below w.heap.size w (w.alloc (.cells #[.nilFunc, .nilFunc, .nilFunc] 123))) := Lib.hid (by repeat (first | with_reducible exact Below.refl _ _ | with_reducible refine Below.setCell ?_ (by first | omega | (simp <;> omega)) _ | with_reducible refine Below.alloc ?_ (by first | omega | (simp <;> omega)) _ | with_reducible refine below_drewN ?_ _ | with_reducible refine Below.drew ?_))
 have hblk : Hid (Blk (w.alloc (.cells #[.nilFunc, .nilFunc, .nilFunc] 123)) w.heap.size 123 #[.nilFunc, .nilFunc, .nilFunc]) := Lib.hid (Blk.new _ _ _)
 go_enter Tryz.func115, Tryz.ntmps115
 go_wp2_with (fail)
 refine (word_full (.func 194) (.func 195) _).mono ?_
 rintro e w2 ⟨p, rfl, ⟨g1, rfl, hx⟩, h⟩
 have hb2 := hblk.out.below h hblk.out.lt
 have p0 := hb2.cell 0
 have p1 := hb2.cell 1
 have p2 := hb2.cell 2
 have z0 := hb2.frozen 0
 have z1 := hb2.frozen 1
 have z2 := hb2.frozen 2
 have hl := hb2.lt
 simp at p0 p1 p2
 have HB2 := Lib.hid (HB.out.trans (h.mono HB.out.size))
 have hne : ∀ b ∈ [(g1, 298, Value.func (.func 195) #[] #[])], b.1 ≠ w.heap.size := fun b hb e => by
  exact rp35
 replace hx := Lib.hid hx
 exact rp25
theorem ofm4_any (w : World) : Calls Tryz.prog 115 #[.int .i64 16] w (PartOfM 4 w) := by
 have HB : Hid (Below w.heap.size w (w.alloc (.cells #[.nilFunc, .nilFunc, .nilFunc] 123))) := Lib.hid (by repeat (first | with_reducible exact Below.refl _ _ | with_reducible refine Below.setCell ?_ (by first | omega | (simp <;> omega)) _ | with_reducible refine Below.alloc ?_ (by first | omega | (simp <;> omega)) _ | with_reducible refine below_drewN ?_ _ | with_reducible refine Below.drew ?_))
 have hblk : Hid (Blk (w.alloc (.cells #[.nilFunc, .nilFunc, .nilFunc] 123)) w.heap.size 123 #[.nilFunc, .nilFunc, .nilFunc]) := Lib.hid (Blk.new _ _ _)
 go_enter Tryz.func115, Tryz.ntmps115
 go_wp2_with (fail)
 refine (word_full (.func 194) (.func 196) _).mono ?_
 rintro e w2 ⟨p, rfl, ⟨g1, rfl, hx⟩, h⟩
 have hb2 := hblk.out.below h hblk.out.lt
 have p0 := hb2.cell 0
 have p1 := hb2.cell 1
 have p2 := hb2.cell 2
 have z0 := hb2.frozen 0
 have z1 := hb2.frozen 1
 have z2 := hb2.frozen 2
 have hl := hb2.lt
 simp at p0 p1 p2
 have HB2 := Lib.hid (HB.out.trans (h.mono HB.out.size))
 have hne : ∀ b ∈ [(g1, 298, Value.func (.func 196) #[] #[])], b.1 ≠ w.heap.size := fun b hb e => by
  exact rp35
 replace hx := Lib.hid hx
 exact rp25
theorem ofm5_any (w : World) : Calls Tryz.prog 115 #[.int .i64 32] w (PartOfM 5 w) := by
 have HB : Hid (Below w.heap.size w (w.alloc (.cells #[.nilFunc, .nilFunc, .nilFunc] 123))) := Lib.hid (by repeat (first | with_reducible exact Below.refl _ _ | with_reducible refine Below.setCell ?_ (by first | omega | (simp <;> omega)) _ | with_reducible refine Below.alloc ?_ (by first | omega | (simp <;> omega)) _ | with_reducible refine below_drewN ?_ _ | with_reducible refine Below.drew ?_))
 have hblk : Hid (Blk (w.alloc (.cells #[.nilFunc, .nilFunc, .nilFunc] 123)) w.heap.size 123 #[.nilFunc, .nilFunc, .nilFunc]) := Lib.hid (Blk.new _ _ _)
 go_enter Tryz.func115, Tryz.ntmps115
 go_wp2_with (fail)
 refine (small_full 2 (.func 186) (.func 187) _).mono ?_
 rintro e w2 ⟨p, rfl, ⟨g1, g2, rfl, hx⟩, h⟩
 have hb2 := hblk.out.below h hblk.out.lt
 have p0 := hb2.cell 0
 have p1 := hb2.cell 1
 have p2 := hb2.cell 2
 have z0 := hb2.frozen 0
 have z1 := hb2.frozen 1
 have z2 := hb2.frozen 2
 have hl := hb2.lt
 simp at p0 p1 p2
 have HB2 := Lib.hid (HB.out.trans (h.mono HB.out.size))
 have hne : ∀ b ∈ [(g1, 3, Value.int .i64 2), (g2, 295, .func (.func 187) #[] #[])], b.1 ≠ w.heap.size := fun b hb e => by
  exact rp35
 replace hx := Lib.hid hx
 unfold smallP Pm.agg
 clear h hb2
 go_wp2_with (fail)
 refine bodyPost_ret (v := (smallP (.func 186) g1 g2).agg) (by simp [results, Tryz.results115, go_sem, p0, p1, p2, smallP, wordP, plainP, Pm.agg]) rfl ?_
 exact ⟨smallP (.func 186) g1 g2, rfl, ⟨_, _, rfl, by intro b hb; have h5 := hx.out b hb; refine ⟨?_, h5.2⟩; repeat (first | with_reducible exact h5.1 | with_reducible refine Blk.far ?_ (hne b hb) _)⟩, by repeat (first | with_reducible exact HB2.out | with_reducible refine Below.setCell ?_ (by first | omega | (simp <;> omega) | simp) _)⟩
theorem ofm6_any (w : World) : Calls Tryz.prog 115 #[.int .i64 64] w (PartOfM 6 w) := by
 have HB : Hid (Below w.heap.size w (w.alloc (.cells #[.nilFunc, .nilFunc, .nilFunc] 123))) := Lib.hid (by repeat (first | with_reducible exact Below.refl _ _ | with_reducible refine Below.setCell ?_ (by first | omega | (simp <;> omega)) _ | with_reducible refine Below.alloc ?_ (by first | omega | (simp <;> omega)) _ | with_reducible refine below_drewN ?_ _ | with_reducible refine Below.drew ?_))
 have hblk : Hid (Blk (w.alloc (.cells #[.nilFunc, .nilFunc, .nilFunc] 123)) w.heap.size 123 #[.nilFunc, .nilFunc, .nilFunc]) := Lib.hid (Blk.new _ _ _)
 go_enter Tryz.func115, Tryz.ntmps115
 go_wp2_with (fail)
 refine (word_full (.func 194) (.func 197) _).mono ?_
 rintro e w2 ⟨p, rfl, ⟨g1, rfl, hx⟩, h⟩
 have hb2 := hblk.out.below h hblk.out.lt
 have p0 := hb2.cell 0
 have p1 := hb2.cell 1
 have p2 := hb2.cell 2
 have z0 := hb2.frozen 0
 have z1 := hb2.frozen 1
 have z2 := hb2.frozen 2
 have hl := hb2.lt
 simp at p0 p1 p2
 have HB2 := Lib.hid (HB.out.trans (h.mono HB.out.size))
 have hne : ∀ b ∈ [(g1, 298, Value.func (.func 197) #[] #[])], b.1 ≠ w.heap.size := fun b hb e => by
  exact rp35
 replace hx := Lib.hid hx
 exact rp25
theorem ofm7_any (w : World) : Calls Tryz.prog 115 #[.int .i64 128] w (PartOfM 7 w) := by
 have HB : Hid (Below w.heap.size w (w.alloc (.cells #[.nilFunc, .nilFunc, .nilFunc] 123))) := Lib.hid (by repeat (first | with_reducible exact Below.refl _ _ | with_reducible refine Below.setCell ?_ (by first | omega | (simp <;> omega)) _ | with_reducible refine Below.alloc ?_ (by first | omega | (simp <;> omega)) _ | with_reducible refine below_drewN ?_ _ | with_reducible refine Below.drew ?_))
 have hblk : Hid (Blk (w.alloc (.cells #[.nilFunc, .nilFunc, .nilFunc] 123)) w.heap.size 123 #[.nilFunc, .nilFunc, .nilFunc]) := Lib.hid (Blk.new _ _ _)
 go_enter Tryz.func115, Tryz.ntmps115
 go_wp2_with (fail)
 refine (oth7_any _).mono ?_
 rintro e w2 ⟨rfl, h⟩
 have hb2 := hblk.out.below h hblk.out.lt
 have p0 := hb2.cell 0
 have p1 := hb2.cell 1
 have p2 := hb2.cell 2
 have z0 := hb2.frozen 0
 have z1 := hb2.frozen 1
 have z2 := hb2.frozen 2
 have hl := hb2.lt
 simp at p0 p1 p2
 have HB2 := Lib.hid (HB.out.trans (h.mono HB.out.size))
 unfold plainP Pm.agg
 clear h hb2
 go_wp2_with (fail)
 refine bodyPost_ret (v := (plainP (.func 258) (.func 259) (.func 260)).agg) (by simp [results, Tryz.results115, go_sem, p0, p1, p2, smallP, wordP, plainP, Pm.agg]) rfl ?_
 exact ⟨plainP (.func 258) (.func 259) (.func 260), rfl, rfl, by repeat (first | with_reducible exact HB2.out | with_reducible refine Below.setCell ?_ (by first | omega | (simp <;> omega) | simp) _)⟩
theorem ofm8_any (w : World) : Calls Tryz.prog 115 #[.int .i64 256] w (PartOfM 8 w) := by
 have HB : Hid (Below w.heap.size w (w.alloc (.cells #[.nilFunc, .nilFunc, .nilFunc] 123))) := Lib.hid (by repeat (first | with_reducible exact Below.refl _ _ | with_reducible refine Below.setCell ?_ (by first | omega | (simp <;> omega)) _ | with_reducible refine Below.alloc ?_ (by first | omega | (simp <;> omega)) _ | with_reducible refine below_drewN ?_ _ | with_reducible refine Below.drew ?_))
 have hblk : Hid (Blk (w.alloc (.cells #[.nilFunc, .nilFunc, .nilFunc] 123)) w.heap.size 123 #[.nilFunc, .nilFunc, .nilFunc]) := Lib.hid (Blk.new _ _ _)
 go_enter Tryz.func115, Tryz.ntmps115
 go_wp2_with (fail)
 refine (oth8_any _).mono ?_
 rintro e w2 ⟨rfl, h⟩
 have hb2 := hblk.out.below h hblk.out.lt
 have p0 := hb2.cell 0
 have p1 := hb2.cell 1
 have p2 := hb2.cell 2
 have z0 := hb2.frozen 0
 have z1 := hb2.frozen 1
 have z2 := hb2.frozen 2
 have hl := hb2.lt
 simp at p0 p1 p2
 have HB2 := Lib.hid (HB.out.trans (h.mono HB.out.size))
 unfold plainP Pm.agg
 clear h hb2
 go_wp2_with (fail)
 refine bodyPost_ret (v := (plainP (.func 194) (.func 261) (.func 262)).agg) (by simp [results, Tryz.results115, go_sem, p0, p1, p2, smallP, wordP, plainP, Pm.agg]) rfl ?_
 exact ⟨plainP (.func 194) (.func 261) (.func 262), rfl, rfl, by repeat (first | with_reducible exact HB2.out | with_reducible refine Below.setCell ?_ (by first | omega | (simp <;> omega) | simp) _)⟩
theorem ofm9_any (w : World) : Calls Tryz.prog 115 #[.int .i64 512] w (PartOfM 9 w) := by
 have HB : Hid (Below w.heap.size w (w.alloc (.cells #[.nilFunc, .nilFunc, .nilFunc] 123))) := Lib.hid (by repeat (first | with_reducible exact Below.refl _ _ | with_reducible refine Below.setCell ?_ (by first | omega | (simp <;> omega)) _ | with_reducible refine Below.alloc ?_ (by first | omega | (simp <;> omega)) _ | with_reducible refine below_drewN ?_ _ | with_reducible refine Below.drew ?_))
 have hblk : Hid (Blk (w.alloc (.cells #[.nilFunc, .nilFunc, .nilFunc] 123)) w.heap.size 123 #[.nilFunc, .nilFunc, .nilFunc]) := Lib.hid (Blk.new _ _ _)
 go_enter Tryz.func115, Tryz.ntmps115
 go_wp2_with (fail)
 refine (word_full (.func 194) (.func 198) _).mono ?_
 rintro e w2 ⟨p, rfl, ⟨g1, rfl, hx⟩, h⟩
 have hb2 := hblk.out.below h hblk.out.lt
 have p0 := hb2.cell 0
 have p1 := hb2.cell 1
 have p2 := hb2.cell 2
 have z0 := hb2.frozen 0
 have z1 := hb2.frozen 1
 have z2 := hb2.frozen 2
 have hl := hb2.lt
 simp at p0 p1 p2
 have HB2 := Lib.hid (HB.out.trans (h.mono HB.out.size))
 have hne : ∀ b ∈ [(g1, 298, Value.func (.func 198) #[] #[])], b.1 ≠ w.heap.size := fun b hb e => by
  exact rp35
 replace hx := Lib.hid hx
 exact rp25
theorem ofm10_any (w : World) : Calls Tryz.prog 115 #[.int .i64 1024] w (PartOfM 10 w) := by
 have HB : Hid (Below w.heap.size w (w.alloc (.cells #[.nilFunc, .nilFunc, .nilFunc] 123))) := Lib.hid (by repeat (first | with_reducible exact Below.refl _ _ | with_reducible refine Below.setCell ?_ (by first | omega | (simp <;> omega)) _ | with_reducible refine Below.alloc ?_ (by first | omega | (simp <;> omega)) _ | with_reducible refine below_drewN ?_ _ | with_reducible refine Below.drew ?_))
 have hblk : Hid (Blk (w.alloc (.cells #[.nilFunc, .nilFunc, .nilFunc] 123)) w.heap.size 123 #[.nilFunc, .nilFunc, .nilFunc]) := Lib.hid (Blk.new _ _ _)
 go_enter Tryz.func115, Tryz.ntmps115
 go_wp2_with (fail)
 refine (oth10_any _).mono ?_
 rintro e w2 ⟨rfl, h⟩
 have hb2 := hblk.out.below h hblk.out.lt
 have p0 := hb2.cell 0
 have p1 := hb2.cell 1
 have p2 := hb2.cell 2
 have z0 := hb2.frozen 0
 have z1 := hb2.frozen 1
 have z2 := hb2.frozen 2
 have hl := hb2.lt
 simp at p0 p1 p2
 have HB2 := Lib.hid (HB.out.trans (h.mono HB.out.size))
 unfold plainP Pm.agg
 clear h hb2
 go_wp2_with (fail)
 refine bodyPost_ret (v := (plainP (.func 263) (.func 265) (.func 267)).agg) (by simp [results, Tryz.results115, go_sem, p0, p1, p2, smallP, wordP, plainP, Pm.agg]) rfl ?_
 exact ⟨plainP (.func 263) (.func 265) (.func 267), rfl, rfl, by repeat (first | with_reducible exact HB2.out | with_reducible refine Below.setCell ?_ (by first | omega | (simp <;> omega) | simp) _)⟩
theorem ofm11_any (w : World) : Calls Tryz.prog 115 #[.int .i64 2048] w (PartOfM 11 w) := by
 have HB : Hid (Below w.heap.size w (w.alloc (.cells #[.nilFunc, .nilFunc, .nilFunc] 123))) := Lib.hid (by repeat (first | with_reducible exact Below.refl _ _ | with_reducible refine Below.setCell ?_ (by first | omega | (simp <;> omega)) _ | with_reducible refine Below.alloc ?_ (by first | omega | (simp <;> omega)) _ | with_reducible refine below_drewN ?_ _ | with_reducible refine Below.drew ?_))
 have hblk : Hid (Blk (w.alloc (.cells #[.nilFunc, .nilFunc, .nilFunc] 123)) w.heap.size 123 #[.nilFunc, .nilFunc, .nilFunc]) := Lib.hid (Blk.new _ _ _)
 go_enter Tryz.func115, Tryz.ntmps115
 go_wp2_with (fail)
 refine (oth11_any _).mono ?_
 rintro e w2 ⟨rfl, h⟩
 have hb2 := hblk.out.below h hblk.out.lt
 have p0 := hb2.cell 0
 have p1 := hb2.cell 1
 have p2 := hb2.cell 2
 have z0 := hb2.frozen 0
 have z1 := hb2.frozen 1
 have z2 := hb2.frozen 2
 have hl := hb2.lt
 simp at p0 p1 p2
 have HB2 := Lib.hid (HB.out.trans (h.mono HB.out.size))
 unfold plainP Pm.agg
 clear h hb2
 go_wp2_with (fail)
 refine bodyPost_ret (v := (plainP (.func 268) (.func 269) (.func 271)).agg) (by simp [results, Tryz.results115, go_sem, p0, p1, p2, smallP, wordP, plainP, Pm.agg]) rfl ?_
 exact ⟨plainP (.func 268) (.func 269) (.func 271), rfl, rfl, by repeat (first | with_reducible exact HB2.out | with_reducible refine Below.setCell ?_ (by first | omega | (simp <;> omega) | simp) _)⟩
theorem ofm12_any (w : World) : Calls Tryz.prog 115 #[.int .i64 4096] w (PartOfM 12 w) := by
 have HB : Hid (Below w.heap.size w (w.alloc (.cells #[.nilFunc, .nilFunc, .nilFunc] 123))) := Lib.hid (by repeat (first | with_reducible exact Below.refl _ _ | with_reducible refine Below.setCell ?_ (by first | omega | (simp <;> omega)) _ | with_reducible refine Below.alloc ?_ (by first | omega | (simp <;> omega)) _ | with_reducible refine below_drewN ?_ _ | with_reducible refine Below.drew ?_))
 have hblk : Hid (Blk (w.alloc (.cells #[.nilFunc, .nilFunc, .nilFunc] 123)) w.heap.size 123 #[.nilFunc, .nilFunc, .nilFunc]) := Lib.hid (Blk.new _ _ _)
 go_enter Tryz.func115, Tryz.ntmps115
 go_wp2_with (fail)
 refine (oth12_any _).mono ?_
 rintro e w2 ⟨rfl, h⟩
 have hb2 := hblk.out.below h hblk.out.lt
 have p0 := hb2.cell 0
 have p1 := hb2.cell 1
 have p2 := hb2.cell 2
 have z0 := hb2.frozen 0
 have z1 := hb2.frozen 1
 have z2 := hb2.frozen 2
 have hl := hb2.lt
 simp at p0 p1 p2
 have HB2 := Lib.hid (HB.out.trans (h.mono HB.out.size))
 unfold plainP Pm.agg
 clear h hb2
 go_wp2_with (fail)
 refine bodyPost_ret (v := (plainP (.func 272) (.func 274) (.func 275)).agg) (by simp [results, Tryz.results115, go_sem, p0, p1, p2, smallP, wordP, plainP, Pm.agg]) rfl ?_
 exact ⟨plainP (.func 272) (.func 274) (.func 275), rfl, rfl, by repeat (first | with_reducible exact HB2.out | with_reducible refine Below.setCell ?_ (by first | omega | (simp <;> omega) | simp) _)⟩
theorem ofm13_any (w : World) : Calls Tryz.prog 115 #[.int .i64 8192] w (PartOfM 13 w) := by
 have HB : Hid (Below w.heap.size w (w.alloc (.cells #[.nilFunc, .nilFunc, .nilFunc] 123))) := Lib.hid (by repeat (first | with_reducible exact Below.refl _ _ | with_reducible refine Below.setCell ?_ (by first | omega | (simp <;> omega)) _ | with_reducible refine Below.alloc ?_ (by first | omega | (simp <;> omega)) _ | with_reducible refine below_drewN ?_ _ | with_reducible refine Below.drew ?_))
 have hblk : Hid (Blk (w.alloc (.cells #[.nilFunc, .nilFunc, .nilFunc] 123)) w.heap.size 123 #[.nilFunc, .nilFunc, .nilFunc]) := Lib.hid (Blk.new _ _ _)
 go_enter Tryz.func115, Tryz.ntmps115
 go_wp2_with (fail)
 refine (oth13_any _).mono ?_
 rintro e w2 ⟨rfl, h⟩
 have hb2 := hblk.out.below h hblk.out.lt
 have p0 := hb2.cell 0
 have p1 := hb2.cell 1
 have p2 := hb2.cell 2
 have z0 := hb2.frozen 0
 have z1 := hb2.frozen 1
 have z2 := hb2.frozen 2
 have hl := hb2.lt
 simp at p0 p1 p2
 have HB2 := Lib.hid (HB.out.trans (h.mono HB.out.size))
 unfold plainP Pm.agg
 clear h hb2
 go_wp2_with (fail)
 refine bodyPost_ret (v := (plainP (.func 276) (.func 277) (.func 278)).agg) (by simp [results, Tryz.results115, go_sem, p0, p1, p2, smallP, wordP, plainP, Pm.agg]) rfl ?_
 exact ⟨plainP (.func 276) (.func 277) (.func 278), rfl, rfl, by repeat (first | with_reducible exact HB2.out | with_reducible refine Below.setCell ?_ (by first | omega | (simp <;> omega) | simp) _)⟩
theorem ofm14_any (w : World) : Calls Tryz.prog 115 #[.int .i64 16384] w (PartOfM 14 w) := by
 have HB : Hid (Below w.heap.size w (w.alloc (.cells #[.nilFunc, .nilFunc, .nilFunc] 123))) := Lib.hid (by repeat (first | with_reducible exact Below.refl _ _ | with_reducible refine Below.setCell ?_ (by first | omega | (simp <;> omega)) _ | with_reducible refine Below.alloc ?_ (by first | omega | (simp <;> omega)) _ | with_reducible refine below_drewN ?_ _ | with_reducible refine Below.drew ?_))
 have hblk : Hid (Blk (w.alloc (.cells #[.nilFunc, .nilFunc, .nilFunc] 123)) w.heap.size 123 #[.nilFunc, .nilFunc, .nilFunc]) := Lib.hid (Blk.new _ _ _)
 go_enter Tryz.func115, Tryz.ntmps115
 go_wp2_with (fail)
 refine (oth14_any _).mono ?_
 rintro e w2 ⟨rfl, h⟩
 have hb2 := hblk.out.below h hblk.out.lt
 have p0 := hb2.cell 0
 have p1 := hb2.cell 1
 have p2 := hb2.cell 2
 have z0 := hb2.frozen 0
 have z1 := hb2.frozen 1
 have z2 := hb2.frozen 2
 have hl := hb2.lt
 simp at p0 p1 p2
 have HB2 := Lib.hid (HB.out.trans (h.mono HB.out.size))
 unfold plainP Pm.agg
 clear h hb2
 go_wp2_with (fail)
 refine bodyPost_ret (v := (plainP (.func 279) (.func 281) (.func 282)).agg) (by simp [results, Tryz.results115, go_sem, p0, p1, p2, smallP, wordP, plainP, Pm.agg]) rfl ?_
 exact ⟨plainP (.func 279) (.func 281) (.func 282), rfl, rfl, by repeat (first | with_reducible exact HB2.out | with_reducible refine Below.setCell ?_ (by first | omega | (simp <;> omega) | simp) _)⟩
theorem ofm_any : ∀ (i : Nat), i < 15 → ∀ w : World, Calls Tryz.prog 115 #[.int .i64 (2 ^ i : Nat)] w (PartOfM i w)
 | 0, _, w => ofm0_any w
 | 1, _, w => ofm1_any w
 | 2, _, w => ofm2_any w
 | 3, _, w => ofm3_any w
 | 4, _, w => ofm4_any w
 | 5, _, w => ofm5_any w
 | 6, _, w => ofm6_any w
 | 7, _, w => ofm7_any w
 | 8, _, w => ofm8_any w
 | 9, _, w => ofm9_any w
 | 10, _, w => ofm10_any w
 | 11, _, w => ofm11_any w
 | 12, _, w => ofm12_any w
 | 13, _, w => ofm13_any w
 | 14, _, w => ofm14_any w
 | _ + 15, h, _ => absurd h (by omega)
end Go.Proofs.YtmpedblelnpjdaaGreatDoor
/- The parts of any kind of letter (printed by cdgen.py). -/
namespace Go.Proofs.YtmpedblelnpjdaaGreatDoor
open Go.RowKit
set_option linter.unusedSimpArgs false
set_option linter.unusedVariables false
set_option maxHeartbeats 8000000
set_option maxRecDepth 100000
attribute [local go_sem] Pm.agg Pm.cells
theorem partInfo : (Tryz.prog.info? 123).map (fun i => (i.zero, i.size, i.bytes)) = some (some (.agg #[.nilFunc, .nilFunc, .nilFunc]), 3, 24) := by kernel_rfl
structure PartsM (w : World) (is : List Nat) (v : Value) (W : World) : Prop where
 ex : ∃ ps : List Pm, ps.length = is.length ∧ (∀ (j i : Nat) (p : Pm), is[j]? = some i → ps[j]? = some p → PartM W i p) ∧ W.ownsRow w.heap.size 123 3 v ps.length (ps.flatMap Pm.row)
 bel : Below w.heap.size w W
theorem PartsM.nil (w : World) : PartsM w [] (.slice none 0 0) w := ⟨⟨[], rfl, fun j i p h => by simp at h, World.ownsRow_nil _ _ _ _⟩, Below.refl _ _⟩
theorem PartsM.app {w W W7 : World} {is : List Nat} {ps : List Pm} {v v7 : Value} {p : Pm} {i : Nat} (hl : ps.length = is.length) (hpm : ∀ (j i : Nat) (p : Pm), is[j]? = some i → ps[j]? = some p → PartM W i p) (hp : PartM W i p) (hb : Below w.heap.size w W) (ho : W.ownsRow w.heap.size 123 3 v ps.length (ps.flatMap Pm.row))
  (hown : W7.ownsRow w.heap.size 123 3 v7 (ps.length + 1) (ps.flatMap Pm.row ++ p.row)) (hg : W.grownBy W7 v.ownBlock) : PartsM w (is ++ [i]) v7 W7 :=
 ⟨⟨ps ++ [p], by simp [hl], fun j i' p' h1 h2 => by
   by_cases hj : j < is.length
   ·rw [List.getElem?_append_left hj] at h1
    rw [List.getElem?_append_left (by omega)] at h2
    exact PartM.grown ho hg _ (hpm j i' p' h1 h2)
   ·rw [List.getElem?_append_right (by omega)] at h1
    rw [List.getElem?_append_right (by omega)] at h2
    have h0 : j - is.length = 0 := by
     rcases Nat.eq_zero_or_pos (j - is.length) with h | h
     ·exact h
     ·rw [List.getElem?_eq_none (by simp; omega)] at h1; cases h1
    rw [hl, h0] at h2
    rw [h0] at h1
    simp at h1 h2
    subst h1 h2
    exact PartM.grown ho hg _ hp, by simpa [List.flatMap_append] using hown⟩, hb.grown hg hb.size (fun k hk => (ho.lt k hk).1)⟩
def bitI (n : Int) : Nat := Nat.log2 n.toNat
def partsI (k : Nat) : List Nat := ((List.range 6).filter fun j => kindP k j != 0).map fun j => bitI (kindP k j)
def partsF (k z : Nat) : List Nat := ((List.range z).filter fun j => kindP k j != 0).map fun j => bitI (kindP k j)
theorem kindP_pow : ∀ k, k < 21 → ∀ z, z < 6 → kindP k z = 0 ∨ (kindP k z = ((2 ^ bitI (kindP k z) : Nat) : Int) ∧ bitI (kindP k z) < 15) := by decide +kernel
theorem partsF_succ (k z : Nat) : partsF k (z + 1) = if kindP k z = 0 then partsF k z else partsF k z ++ [bitI (kindP k z)] := by
 unfold partsF
 rw [List.range_succ, List.filter_append]
 by_cases h : kindP k z = 0
 ·simp [h]
 ·simp [h]
theorem partsF_len (k z : Nat) : (partsF k z).length ≤ z := by
 unfold partsF
 rw [List.length_map]
 exact Nat.le_trans (List.length_filter_le _ _) (by simp)
theorem partsM_any (k : Nat) (hk : k < 21) (F : Nat → List Nat) (hF : F 0 = []) (hstep : ∀ z, z < 6 → ∀ w, (kindP k z = 0 ∧ F (z + 1) = F z) ∨ (kindP k z ≠ 0 ∧ ∃ i, F (z + 1) = F z ++ [i] ∧ Calls Tryz.prog 115 #[.int .i64 (kindP k z)] w (PartOfM i w))) (hlen : ∀ z, z ≤ 6 → (F z).length ≤ 6) (w : World) (hK : KindsAt w) :
  Calls Tryz.prog 47 #[.int .i64 k] w fun e w' => ∃ v, e = .returned v ∧ PartsM w (F 6) v w' := by
 obtain ⟨i0, hi, hz0, hz1, hz2⟩ := info_parts partInfo
 have q0 := hK.cell k 0 hk (by omega)
 have q1 := hK.cell k 1 hk (by omega)
 have q2 := hK.cell k 2 hk (by omega)
 have q3 := hK.cell k 3 hk (by omega)
 have q4 := hK.cell k 4 hk (by omega)
 have q5 := hK.cell k 5 hk (by omega)
 have hki : (k : Int) < 21 := by omega
 have h0w : 0 < w.heap.size := hK.lt
 have j0 : ∀ w, (Instr.index 201 (.agg #[.int .i64 (kindP k 0), .int .i64 (kindP k 1), .int .i64 (kindP k 2), .int .i64 (kindP k 3), .int .i64 (kindP k 4), .int .i64 (kindP k 5)]) (.int .i64 0)).run Tryz.prog w = .ok (.int .i64 (kindP k 0)) w := fun _ => by kernel_rfl
 have j1 : ∀ w, (Instr.index 201 (.agg #[.int .i64 (kindP k 0), .int .i64 (kindP k 1), .int .i64 (kindP k 2), .int .i64 (kindP k 3), .int .i64 (kindP k 4), .int .i64 (kindP k 5)]) (.int .i64 1)).run Tryz.prog w = .ok (.int .i64 (kindP k 1)) w := fun _ => by kernel_rfl
 have j2 : ∀ w, (Instr.index 201 (.agg #[.int .i64 (kindP k 0), .int .i64 (kindP k 1), .int .i64 (kindP k 2), .int .i64 (kindP k 3), .int .i64 (kindP k 4), .int .i64 (kindP k 5)]) (.int .i64 2)).run Tryz.prog w = .ok (.int .i64 (kindP k 2)) w := fun _ => by kernel_rfl
 have j3 : ∀ w, (Instr.index 201 (.agg #[.int .i64 (kindP k 0), .int .i64 (kindP k 1), .int .i64 (kindP k 2), .int .i64 (kindP k 3), .int .i64 (kindP k 4), .int .i64 (kindP k 5)]) (.int .i64 3)).run Tryz.prog w = .ok (.int .i64 (kindP k 3)) w := fun _ => by kernel_rfl
 have j4 : ∀ w, (Instr.index 201 (.agg #[.int .i64 (kindP k 0), .int .i64 (kindP k 1), .int .i64 (kindP k 2), .int .i64 (kindP k 3), .int .i64 (kindP k 4), .int .i64 (kindP k 5)]) (.int .i64 4)).run Tryz.prog w = .ok (.int .i64 (kindP k 4)) w := fun _ => by kernel_rfl
 have j5 : ∀ w, (Instr.index 201 (.agg #[.int .i64 (kindP k 0), .int .i64 (kindP k 1), .int .i64 (kindP k 2), .int .i64 (kindP k 3), .int .i64 (kindP k 4), .int .i64 (kindP k 5)]) (.int .i64 5)).run Tryz.prog w = .ok (.int .i64 (kindP k 5)) w := fun _ => by kernel_rfl
 have HS := Lib.hid hstep
 have HLN := Lib.hid hlen
 have HP0 : Hid (PartsM w (F 0) (.slice none 0 0) w) := Lib.hid (by rw [hF]; exact PartsM.nil w)
 clear hK hstep hlen
 go_enter Tryz.func47, Tryz.ntmps47
 go_wp2_with (fail)
 go_loopw [3, 10] (fun va iv wr => ∃ z : Int, 0 ≤ z ∧ z ≤ 6 ∧ iv = .int .i64 z ∧ Hid (PartsM w (F z.toNat) va wr)) (fun _ iv _ => 6 - (intOf iv).toNat)
 case atStart => exact ⟨0, by omega, by omega, rfl, HP0⟩
 case round =>
  clear HP0 q0 q1 q2 q3 q4 q5
  obtain ⟨z, hz0', hz6, rfl, HP⟩ := hrel
  by_cases hlt : z < 6
  ·have hjj : z = 0 ∨ z = 1 ∨ z = 2 ∨ z = 3 ∨ z = 4 ∨ z = 5 := by omega
   rcases hjj with rfl | rfl | rfl | rfl | rfl | rfl
   ·rcases HS.out 0 (by omega) wr with ⟨h0, hF1⟩ | ⟨h0, i, hF1, hc⟩
    ·have HF := Lib.hid hF1
     have e0 : (kindP k 0 != 0) = false := by rw [h0]; rfl
     clear h0 hF1 hlt hz0' hz6
     go_wp2_with (fail)
     go_roundw
     case rel => exact ⟨1, by omega, by omega, rfl, Lib.hid (by have := HP.out; simp only [show Int.toNat 0 = 0 from rfl] at this; show PartsM w (F 1) _ _; rw [HF.out]; exact this)⟩
     case measure => decide
    ·have HC := Lib.hid hc
     have HF := Lib.hid hF1
     obtain ⟨ps, hps, hpm, hown⟩ := HP.out.ex
     have HOWN := Lib.hid hown
     have HPS := Lib.hid hps
     have HPM := Lib.hid hpm
     obtain ⟨A7, c7, rfl, _, _, _⟩ := own_slice hown
     clear hF1 hc hown hps hpm hlt hz0' hz6
     go_wp2_with (fail)
     refine HC.out.mono ?_
     rintro e w2 ⟨⟨f, a, b, x, y⟩, rfl, hp2, hb⟩
     have hq2 : Below wr.heap.size wr w2 := hb
     have hq5 := hq2.alloc hq2.size (.cells #[.func f #[] #[], .func a #[] x, .func b #[] y] 123)
     have HPX := Lib.hid (PartM.below ((Below.refl _ _).alloc (Nat.le_refl _) (.cells #[.func f #[] #[], .func a #[] x, .func b #[] y] 123)) _ hp2)
     have HPY := Lib.hid (fun j i p h1 h2 => PartM.below hq5 _ (HPM.out j i p h1 h2))
     clear hp2 hq2 hq5
     have HB2 := Lib.hid hb
     clear hb
     have HO5 := Lib.hid (((Chg.of_below HB2.out (fun _ => False)).own HOWN.out (fun _ _ h => h)).alloc (.cells #[.func f #[] #[], .func a #[] x, .func b #[] y] 123))
     have HB5 := Lib.hid ((HP.out.bel.trans (HB2.out.mono HP.out.bel.size)).alloc (Nat.le_trans HP.out.bel.size HB2.out.size) (.cells #[.func f #[] #[], .func a #[] x, .func b #[] y] 123))
     have hpl : ps.length ≤ 6 := (by rw [HPS.out]; exact HLN.out _ (by omega))
     go_wp2_with (at_builtin; go_must (refine wpList_append_own _ rfl (.tmp 15) (.tmp 18) _ rfl w.heap.size 123 i0 _ 3 24 Tryz.underlying118 hi hz0 hz1 hz2 rfl (by omega) _ _ _ rfl HO5.out ⟨w2.heap.size, 0, none⟩ 1 1 [.func f #[] #[], .func a #[] x, .func b #[] y] rfl rfl ?c1 ?c2 ?c3 ?c4 ?c5 ?_))
     case c1 => exact fun j x hx => cells_new_at _ _ _ _ (by simp) j x hx
     case c2 => simp [Value.oneCell']
     case c3 => unfold maxLen; omega
     case c4 => omega
     case c5 => exact HB5.out.size
     intro v7 w7 hown hg hat
     have HP7 : Hid (PartsM w (F 1) v7 w7) := Lib.hid (by rw [HF.out]; exact PartsM.app (p := ⟨f, a, b, x, y⟩) HPS.out HPY.out HPX.out HB5.out HO5.out hown hg)
     obtain ⟨A8, c8, rfl, _, _, _⟩ := own_slice hown
     clear hown hg hat
     go_wp2_with (fail)
     go_roundw
     case rel => exact ⟨1, by omega, by omega, rfl, HP7⟩
     case measure => decide
   ·rcases HS.out 1 (by omega) wr with ⟨h0, hF1⟩ | ⟨h0, i, hF1, hc⟩
    ·have HF := Lib.hid hF1
     have e0 : (kindP k 1 != 0) = false := by rw [h0]; rfl
     clear h0 hF1 hlt hz0' hz6
     go_wp2_with (fail)
     go_roundw
     case rel => exact ⟨2, by omega, by omega, rfl, Lib.hid (by have := HP.out; simp only [show Int.toNat 1 = 1 from rfl] at this; show PartsM w (F 2) _ _; rw [HF.out]; exact this)⟩
     case measure => decide
    ·have HC := Lib.hid hc
     have HF := Lib.hid hF1
     obtain ⟨ps, hps, hpm, hown⟩ := HP.out.ex
     have HOWN := Lib.hid hown
     have HPS := Lib.hid hps
     have HPM := Lib.hid hpm
     obtain ⟨A7, c7, rfl, _, _, _⟩ := own_slice hown
     clear hF1 hc hown hps hpm hlt hz0' hz6
     go_wp2_with (fail)
     refine HC.out.mono ?_
     rintro e w2 ⟨⟨f, a, b, x, y⟩, rfl, hp2, hb⟩
     have hq2 : Below wr.heap.size wr w2 := hb
     have hq5 := hq2.alloc hq2.size (.cells #[.func f #[] #[], .func a #[] x, .func b #[] y] 123)
     have HPX := Lib.hid (PartM.below ((Below.refl _ _).alloc (Nat.le_refl _) (.cells #[.func f #[] #[], .func a #[] x, .func b #[] y] 123)) _ hp2)
     have HPY := Lib.hid (fun j i p h1 h2 => PartM.below hq5 _ (HPM.out j i p h1 h2))
     clear hp2 hq2 hq5
     have HB2 := Lib.hid hb
     clear hb
     have HO5 := Lib.hid (((Chg.of_below HB2.out (fun _ => False)).own HOWN.out (fun _ _ h => h)).alloc (.cells #[.func f #[] #[], .func a #[] x, .func b #[] y] 123))
     have HB5 := Lib.hid ((HP.out.bel.trans (HB2.out.mono HP.out.bel.size)).alloc (Nat.le_trans HP.out.bel.size HB2.out.size) (.cells #[.func f #[] #[], .func a #[] x, .func b #[] y] 123))
     have hpl : ps.length ≤ 6 := (by rw [HPS.out]; exact HLN.out _ (by omega))
     go_wp2_with (at_builtin; go_must (refine wpList_append_own _ rfl (.tmp 15) (.tmp 18) _ rfl w.heap.size 123 i0 _ 3 24 Tryz.underlying118 hi hz0 hz1 hz2 rfl (by omega) _ _ _ rfl HO5.out ⟨w2.heap.size, 0, none⟩ 1 1 [.func f #[] #[], .func a #[] x, .func b #[] y] rfl rfl ?c1 ?c2 ?c3 ?c4 ?c5 ?_))
     case c1 => exact fun j x hx => cells_new_at _ _ _ _ (by simp) j x hx
     case c2 => simp [Value.oneCell']
     case c3 => unfold maxLen; omega
     case c4 => omega
     case c5 => exact HB5.out.size
     intro v7 w7 hown hg hat
     have HP7 : Hid (PartsM w (F 2) v7 w7) := Lib.hid (by rw [HF.out]; exact PartsM.app (p := ⟨f, a, b, x, y⟩) HPS.out HPY.out HPX.out HB5.out HO5.out hown hg)
     obtain ⟨A8, c8, rfl, _, _, _⟩ := own_slice hown
     clear hown hg hat
     go_wp2_with (fail)
     go_roundw
     case rel => exact ⟨2, by omega, by omega, rfl, HP7⟩
     case measure => decide
   ·rcases HS.out 2 (by omega) wr with ⟨h0, hF1⟩ | ⟨h0, i, hF1, hc⟩
    ·have HF := Lib.hid hF1
     have e0 : (kindP k 2 != 0) = false := by rw [h0]; rfl
     clear h0 hF1 hlt hz0' hz6
     go_wp2_with (fail)
     go_roundw
     case rel => exact ⟨3, by omega, by omega, rfl, Lib.hid (by have := HP.out; simp only [show Int.toNat 2 = 2 from rfl] at this; show PartsM w (F 3) _ _; rw [HF.out]; exact this)⟩
     case measure => decide
    ·have HC := Lib.hid hc
     have HF := Lib.hid hF1
     obtain ⟨ps, hps, hpm, hown⟩ := HP.out.ex
     have HOWN := Lib.hid hown
     have HPS := Lib.hid hps
     have HPM := Lib.hid hpm
     obtain ⟨A7, c7, rfl, _, _, _⟩ := own_slice hown
     clear hF1 hc hown hps hpm hlt hz0' hz6
     go_wp2_with (fail)
     refine HC.out.mono ?_
     rintro e w2 ⟨⟨f, a, b, x, y⟩, rfl, hp2, hb⟩
     have hq2 : Below wr.heap.size wr w2 := hb
     have hq5 := hq2.alloc hq2.size (.cells #[.func f #[] #[], .func a #[] x, .func b #[] y] 123)
     have HPX := Lib.hid (PartM.below ((Below.refl _ _).alloc (Nat.le_refl _) (.cells #[.func f #[] #[], .func a #[] x, .func b #[] y] 123)) _ hp2)
     have HPY := Lib.hid (fun j i p h1 h2 => PartM.below hq5 _ (HPM.out j i p h1 h2))
     clear hp2 hq2 hq5
     have HB2 := Lib.hid hb
     clear hb
     have HO5 := Lib.hid (((Chg.of_below HB2.out (fun _ => False)).own HOWN.out (fun _ _ h => h)).alloc (.cells #[.func f #[] #[], .func a #[] x, .func b #[] y] 123))
     have HB5 := Lib.hid ((HP.out.bel.trans (HB2.out.mono HP.out.bel.size)).alloc (Nat.le_trans HP.out.bel.size HB2.out.size) (.cells #[.func f #[] #[], .func a #[] x, .func b #[] y] 123))
     have hpl : ps.length ≤ 6 := (by rw [HPS.out]; exact HLN.out _ (by omega))
     go_wp2_with (at_builtin; go_must (refine wpList_append_own _ rfl (.tmp 15) (.tmp 18) _ rfl w.heap.size 123 i0 _ 3 24 Tryz.underlying118 hi hz0 hz1 hz2 rfl (by omega) _ _ _ rfl HO5.out ⟨w2.heap.size, 0, none⟩ 1 1 [.func f #[] #[], .func a #[] x, .func b #[] y] rfl rfl ?c1 ?c2 ?c3 ?c4 ?c5 ?_))
     case c1 => exact fun j x hx => cells_new_at _ _ _ _ (by simp) j x hx
     case c2 => simp [Value.oneCell']
     case c3 => unfold maxLen; omega
     case c4 => omega
     case c5 => exact HB5.out.size
     intro v7 w7 hown hg hat
     have HP7 : Hid (PartsM w (F 3) v7 w7) := Lib.hid (by rw [HF.out]; exact PartsM.app (p := ⟨f, a, b, x, y⟩) HPS.out HPY.out HPX.out HB5.out HO5.out hown hg)
     obtain ⟨A8, c8, rfl, _, _, _⟩ := own_slice hown
     clear hown hg hat
     go_wp2_with (fail)
     go_roundw
     case rel => exact ⟨3, by omega, by omega, rfl, HP7⟩
     case measure => decide
   ·rcases HS.out 3 (by omega) wr with ⟨h0, hF1⟩ | ⟨h0, i, hF1, hc⟩
    ·have HF := Lib.hid hF1
     have e0 : (kindP k 3 != 0) = false := by rw [h0]; rfl
     clear h0 hF1 hlt hz0' hz6
     go_wp2_with (fail)
     go_roundw
     case rel => exact ⟨4, by omega, by omega, rfl, Lib.hid (by have := HP.out; simp only [show Int.toNat 3 = 3 from rfl] at this; show PartsM w (F 4) _ _; rw [HF.out]; exact this)⟩
     case measure => decide
    ·have HC := Lib.hid hc
     have HF := Lib.hid hF1
     obtain ⟨ps, hps, hpm, hown⟩ := HP.out.ex
     have HOWN := Lib.hid hown
     have HPS := Lib.hid hps
     have HPM := Lib.hid hpm
     obtain ⟨A7, c7, rfl, _, _, _⟩ := own_slice hown
     clear hF1 hc hown hps hpm hlt hz0' hz6
     go_wp2_with (fail)
     refine HC.out.mono ?_
     rintro e w2 ⟨⟨f, a, b, x, y⟩, rfl, hp2, hb⟩
     have hq2 : Below wr.heap.size wr w2 := hb
     have hq5 := hq2.alloc hq2.size (.cells #[.func f #[] #[], .func a #[] x, .func b #[] y] 123)
     have HPX := Lib.hid (PartM.below ((Below.refl _ _).alloc (Nat.le_refl _) (.cells #[.func f #[] #[], .func a #[] x, .func b #[] y] 123)) _ hp2)
     have HPY := Lib.hid (fun j i p h1 h2 => PartM.below hq5 _ (HPM.out j i p h1 h2))
     clear hp2 hq2 hq5
     have HB2 := Lib.hid hb
     clear hb
     have HO5 := Lib.hid (((Chg.of_below HB2.out (fun _ => False)).own HOWN.out (fun _ _ h => h)).alloc (.cells #[.func f #[] #[], .func a #[] x, .func b #[] y] 123))
     have HB5 := Lib.hid ((HP.out.bel.trans (HB2.out.mono HP.out.bel.size)).alloc (Nat.le_trans HP.out.bel.size HB2.out.size) (.cells #[.func f #[] #[], .func a #[] x, .func b #[] y] 123))
     have hpl : ps.length ≤ 6 := (by rw [HPS.out]; exact HLN.out _ (by omega))
     go_wp2_with (at_builtin; go_must (refine wpList_append_own _ rfl (.tmp 15) (.tmp 18) _ rfl w.heap.size 123 i0 _ 3 24 Tryz.underlying118 hi hz0 hz1 hz2 rfl (by omega) _ _ _ rfl HO5.out ⟨w2.heap.size, 0, none⟩ 1 1 [.func f #[] #[], .func a #[] x, .func b #[] y] rfl rfl ?c1 ?c2 ?c3 ?c4 ?c5 ?_))
     case c1 => exact fun j x hx => cells_new_at _ _ _ _ (by simp) j x hx
     case c2 => simp [Value.oneCell']
     case c3 => unfold maxLen; omega
     case c4 => omega
     case c5 => exact HB5.out.size
     intro v7 w7 hown hg hat
     have HP7 : Hid (PartsM w (F 4) v7 w7) := Lib.hid (by rw [HF.out]; exact PartsM.app (p := ⟨f, a, b, x, y⟩) HPS.out HPY.out HPX.out HB5.out HO5.out hown hg)
     obtain ⟨A8, c8, rfl, _, _, _⟩ := own_slice hown
     clear hown hg hat
     go_wp2_with (fail)
     go_roundw
     case rel => exact ⟨4, by omega, by omega, rfl, HP7⟩
     case measure => decide
   ·rcases HS.out 4 (by omega) wr with ⟨h0, hF1⟩ | ⟨h0, i, hF1, hc⟩
    ·have HF := Lib.hid hF1
     have e0 : (kindP k 4 != 0) = false := by rw [h0]; rfl
     clear h0 hF1 hlt hz0' hz6
     go_wp2_with (fail)
     go_roundw
     case rel => exact ⟨5, by omega, by omega, rfl, Lib.hid (by have := HP.out; simp only [show Int.toNat 4 = 4 from rfl] at this; show PartsM w (F 5) _ _; rw [HF.out]; exact this)⟩
     case measure => decide
    ·have HC := Lib.hid hc
     have HF := Lib.hid hF1
     obtain ⟨ps, hps, hpm, hown⟩ := HP.out.ex
     have HOWN := Lib.hid hown
     have HPS := Lib.hid hps
     have HPM := Lib.hid hpm
     obtain ⟨A7, c7, rfl, _, _, _⟩ := own_slice hown
     clear hF1 hc hown hps hpm hlt hz0' hz6
     go_wp2_with (fail)
     refine HC.out.mono ?_
     rintro e w2 ⟨⟨f, a, b, x, y⟩, rfl, hp2, hb⟩
     have hq2 : Below wr.heap.size wr w2 := hb
     have hq5 := hq2.alloc hq2.size (.cells #[.func f #[] #[], .func a #[] x, .func b #[] y] 123)
     have HPX := Lib.hid (PartM.below ((Below.refl _ _).alloc (Nat.le_refl _) (.cells #[.func f #[] #[], .func a #[] x, .func b #[] y] 123)) _ hp2)
     have HPY := Lib.hid (fun j i p h1 h2 => PartM.below hq5 _ (HPM.out j i p h1 h2))
     clear hp2 hq2 hq5
     have HB2 := Lib.hid hb
     clear hb
     have HO5 := Lib.hid (((Chg.of_below HB2.out (fun _ => False)).own HOWN.out (fun _ _ h => h)).alloc (.cells #[.func f #[] #[], .func a #[] x, .func b #[] y] 123))
     have HB5 := Lib.hid ((HP.out.bel.trans (HB2.out.mono HP.out.bel.size)).alloc (Nat.le_trans HP.out.bel.size HB2.out.size) (.cells #[.func f #[] #[], .func a #[] x, .func b #[] y] 123))
     have hpl : ps.length ≤ 6 := (by rw [HPS.out]; exact HLN.out _ (by omega))
     go_wp2_with (at_builtin; go_must (refine wpList_append_own _ rfl (.tmp 15) (.tmp 18) _ rfl w.heap.size 123 i0 _ 3 24 Tryz.underlying118 hi hz0 hz1 hz2 rfl (by omega) _ _ _ rfl HO5.out ⟨w2.heap.size, 0, none⟩ 1 1 [.func f #[] #[], .func a #[] x, .func b #[] y] rfl rfl ?c1 ?c2 ?c3 ?c4 ?c5 ?_))
     case c1 => exact fun j x hx => cells_new_at _ _ _ _ (by simp) j x hx
     case c2 => simp [Value.oneCell']
     case c3 => unfold maxLen; omega
     case c4 => omega
     case c5 => exact HB5.out.size
     intro v7 w7 hown hg hat
     have HP7 : Hid (PartsM w (F 5) v7 w7) := Lib.hid (by rw [HF.out]; exact PartsM.app (p := ⟨f, a, b, x, y⟩) HPS.out HPY.out HPX.out HB5.out HO5.out hown hg)
     obtain ⟨A8, c8, rfl, _, _, _⟩ := own_slice hown
     clear hown hg hat
     go_wp2_with (fail)
     go_roundw
     case rel => exact ⟨5, by omega, by omega, rfl, HP7⟩
     case measure => decide
   ·rcases HS.out 5 (by omega) wr with ⟨h0, hF1⟩ | ⟨h0, i, hF1, hc⟩
    ·have HF := Lib.hid hF1
     have e0 : (kindP k 5 != 0) = false := by rw [h0]; rfl
     clear h0 hF1 hlt hz0' hz6
     go_wp2_with (fail)
     go_roundw
     case rel => exact ⟨6, by omega, by omega, rfl, Lib.hid (by have := HP.out; simp only [show Int.toNat 5 = 5 from rfl] at this; show PartsM w (F 6) _ _; rw [HF.out]; exact this)⟩
     case measure => decide
    ·have HC := Lib.hid hc
     have HF := Lib.hid hF1
     obtain ⟨ps, hps, hpm, hown⟩ := HP.out.ex
     have HOWN := Lib.hid hown
     have HPS := Lib.hid hps
     have HPM := Lib.hid hpm
     obtain ⟨A7, c7, rfl, _, _, _⟩ := own_slice hown
     clear hF1 hc hown hps hpm hlt hz0' hz6
     go_wp2_with (fail)
     refine HC.out.mono ?_
     rintro e w2 ⟨⟨f, a, b, x, y⟩, rfl, hp2, hb⟩
     have hq2 : Below wr.heap.size wr w2 := hb
     have hq5 := hq2.alloc hq2.size (.cells #[.func f #[] #[], .func a #[] x, .func b #[] y] 123)
     have HPX := Lib.hid (PartM.below ((Below.refl _ _).alloc (Nat.le_refl _) (.cells #[.func f #[] #[], .func a #[] x, .func b #[] y] 123)) _ hp2)
     have HPY := Lib.hid (fun j i p h1 h2 => PartM.below hq5 _ (HPM.out j i p h1 h2))
     clear hp2 hq2 hq5
     have HB2 := Lib.hid hb
     clear hb
     have HO5 := Lib.hid (((Chg.of_below HB2.out (fun _ => False)).own HOWN.out (fun _ _ h => h)).alloc (.cells #[.func f #[] #[], .func a #[] x, .func b #[] y] 123))
     have HB5 := Lib.hid ((HP.out.bel.trans (HB2.out.mono HP.out.bel.size)).alloc (Nat.le_trans HP.out.bel.size HB2.out.size) (.cells #[.func f #[] #[], .func a #[] x, .func b #[] y] 123))
     have hpl : ps.length ≤ 6 := (by rw [HPS.out]; exact HLN.out _ (by omega))
     go_wp2_with (at_builtin; go_must (refine wpList_append_own _ rfl (.tmp 15) (.tmp 18) _ rfl w.heap.size 123 i0 _ 3 24 Tryz.underlying118 hi hz0 hz1 hz2 rfl (by omega) _ _ _ rfl HO5.out ⟨w2.heap.size, 0, none⟩ 1 1 [.func f #[] #[], .func a #[] x, .func b #[] y] rfl rfl ?c1 ?c2 ?c3 ?c4 ?c5 ?_))
     case c1 => exact fun j x hx => cells_new_at _ _ _ _ (by simp) j x hx
     case c2 => simp [Value.oneCell']
     case c3 => unfold maxLen; omega
     case c4 => omega
     case c5 => exact HB5.out.size
     intro v7 w7 hown hg hat
     have HP7 : Hid (PartsM w (F 6) v7 w7) := Lib.hid (by rw [HF.out]; exact PartsM.app (p := ⟨f, a, b, x, y⟩) HPS.out HPY.out HPX.out HB5.out HO5.out hown hg)
     obtain ⟨A8, c8, rfl, _, _, _⟩ := own_slice hown
     clear hown hg hat
     go_wp2_with (fail)
     go_roundw
     case rel => exact ⟨6, by omega, by omega, rfl, HP7⟩
     case measure => decide
  ·obtain rfl : z = 6 := by omega
   go_wp2_with (fail)
   go_ret
   exact ⟨_, rfl, HP.out⟩
theorem partsAll_any (k : Nat) (hk : k < 21) (w : World) (hK : KindsAt w) : Calls Tryz.prog 47 #[.int .i64 k] w fun e w' => ∃ v, e = .returned v ∧ PartsM w (partsI k) v w' :=
 partsM_any k hk (partsF k) rfl (fun z hz w => by
  rcases kindP_pow k hk z hz with h | ⟨h, h15⟩
  ·exact .inl ⟨h, by rw [partsF_succ, if_pos h]⟩
  ·have h0 : kindP k z ≠ 0 := by
    rw [h]
    have := Nat.pow_pos (n := bitI (kindP k z)) (show 0 < 2 by decide)
    omega
   refine .inr ⟨h0, bitI (kindP k z), by rw [partsF_succ, if_neg h0], ?_⟩
   have := ofm_any _ h15 w
   rw [← h] at this
   exact this) (fun z hz => Nat.le_trans (partsF_len k z) hz) w hK
end Go.Proofs.YtmpedblelnpjdaaGreatDoor
