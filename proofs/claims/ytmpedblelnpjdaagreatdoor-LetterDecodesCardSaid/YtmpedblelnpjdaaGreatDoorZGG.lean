/- GG: CdC CdV -/
import Derived.Test.YtmpedblelnpjdaaGreatDoorZGF
import Derived.Test.YtmpedblelnpjdaaGreatDoorZTq
import Derived.Test.YtmpedblelnpjdaaGreatDoorZGE
/- The closures that put and get a letter's numbers (printed by cdgen2.py). -/
namespace Go.Proofs.YtmpedblelnpjdaaGreatDoor
open Go.RowKit
set_option linter.unusedSimpArgs false
set_option linter.unusedVariables false
set_option maxHeartbeats 8000000
set_option maxRecDepth 100000
def PutP (g : Nat) (v : Value) (bs pb : List Int) (W : World) (e : Ending) (W' : World) : Prop :=
 e = .returned (.tuple #[]) ∧ ∃ v', OutAt W' g v' ⟨bs ++ pb, 16384, 0⟩ ∧ OutStep W W' g v v'
theorem OutStep.typ {W W' : World} {g b : Nat} {v v' : Value} {s : FO} {t : TypeId} {cs : Array Value} (h : OutStep W W' g v v') (ho : OutAt W g v s) (hb : Blk W b t cs) (h1 : t ≠ 242) (h2 : t ≠ 5) : Blk W' b t cs := by
 refine (h.2.block b hb.lt (fun e => ?_)).trans hb
 rcases e with e | e
 ·subst e
  exact Blk.ne_ hb ho.1 h1 rfl
 ·rcases ho.2.1.2 with hn | ⟨k, cap, cur, hv, _, hh, _⟩
  ·rw [hn.1] at e; cases e
  ·rw [hv] at e
   simp only [Value.ownBlock] at e
   injection e with e
   subst e
   have hblk := hb
   unfold Blk at hblk
   rw [hh] at hblk
   injection hblk with hblk
   injection hblk with _ ht _
   exact h2 ht.symm
theorem OutAt.drew {W : World} {g : Nat} {v : Value} {s : FO} (h : OutAt W g v s) : OutAt W.drew g v s := h.below ((Below.refl _ _).drew)
theorem InAt.drew {W : World} {gi B : Nat} {s : FI} (h : InAt W gi B s) : InAt W.drew gi B s := h.below ((Below.refl _ _).drew)
theorem PutP.pre {g : Nat} {v : Value} {bs pb : List Int} {W W0 W' : World} {e : Ending} (hb : Below W.heap.size W W0) (h : PutP g v bs pb W0 e W') : PutP g v bs pb W e W' := by
 obtain ⟨he, v', h1, h2⟩ := h
 exact ⟨he, v', h1, OutStep.pre hb h2⟩
def GetP (gi gl B : Nat) (s' : FI) (l' : Lt) (W : World) (e : Ending) (W' : World) : Prop :=
 e = .returned (.tuple #[]) ∧ InAt W' gi B s' ∧ Blk W' gl 37 l'.cells ∧ Chg W W' (fun k => k = gi ∨ k = gl)
theorem Boxes.chg {W W' : World} {l : List (Nat × TypeId × Value)} {gi gl : Nat} {cs ds : Array Value} (h : Boxes W l) (hi : Blk W gi 223 cs) (hl : Blk W gl 37 ds) (hc : Chg W W' (fun k => k = gi ∨ k = gl)) : Boxes W' l := fun b hb => by
 refine ⟨hc.blk (h b hb).1 (fun e => ?_), (h b hb).2⟩
 rcases e with e | e
 ·exact Blk.ne_ (h b hb).1 hi (boxT_ne (h b hb).2 (by decide) (by decide) (by decide)) e
 ·exact Blk.ne_ (h b hb).1 hl (boxT_ne (h b hb).2 (by decide) (by decide) (by decide)) e
theorem Boxes.put {W W' : World} {l : List (Nat × TypeId × Value)} {g : Nat} {v v' : Value} {s : FO} (h : Boxes W l) (ho : OutAt W g v s) (hs : OutStep W W' g v v') : Boxes W' l := fun b hb =>
 ⟨hs.typ ho (h b hb).1 (boxT_ne (h b hb).2 (by decide) (by decide) (by decide)) (boxT_ne (h b hb).2 (by decide) (by decide) (by decide)), (h b hb).2⟩
theorem InAt.far {W : World} {gi gl B : Nat} {s : FI} (h : InAt W gi B s) (hB : B ≤ gl) (o : Nat) (v : Value) : InAt (W.setCell ⟨gl, o, none⟩ v) gi B s :=
 h.below ((Below.refl _ _).setCell hB _)
theorem SmallAt.put {W W' : World} {k : Int} {f q : Fn} {p : Pm} {g : Nat} {v v' : Value} {s : FO} (h : SmallAt W k f q p) (ho : OutAt W g v s) (hs : OutStep W W' g v v') : SmallAt W' k f q p := by obtain ⟨g1, g2, e, hx⟩ := h; exact ⟨g1, g2, e, hx.put ho hs⟩
theorem WordAt.put {W W' : World} {f q : Fn} {p : Pm} {g : Nat} {v v' : Value} {s : FO} (h : WordAt W f q p) (ho : OutAt W g v s) (hs : OutStep W W' g v v') : WordAt W' f q p := by obtain ⟨g, e, hx⟩ := h; exact ⟨g, e, hx.put ho hs⟩
theorem SmallAt.chg {W W' : World} {k : Int} {f q : Fn} {p : Pm} {gi gl : Nat} {cs ds : Array Value} (h : SmallAt W k f q p) (hi : Blk W gi 223 cs) (hl : Blk W gl 37 ds) (hc : Chg W W' (fun k => k = gi ∨ k = gl)) : SmallAt W' k f q p := by obtain ⟨g1, g2, e, hx⟩ := h; exact ⟨g1, g2, e, hx.chg hi hl hc⟩
theorem WordAt.chg {W W' : World} {f q : Fn} {p : Pm} {gi gl : Nat} {cs ds : Array Value} (h : WordAt W f q p) (hi : Blk W gi 223 cs) (hl : Blk W gl 37 ds) (hc : Chg W W' (fun k => k = gi ∨ k = gl)) : WordAt W' f q p := by obtain ⟨g, e, hx⟩ := h; exact ⟨g, e, hx.chg hi hl hc⟩
theorem PartM.put {W W' : World} {p : Pm} {g : Nat} {v v' : Value} {s : FO} (ho : OutAt W g v s) (hs : OutStep W W' g v v') : ∀ (i : Nat), PartM W i p → PartM W' i p
 | 0, h => SmallAt.put h ho hs
 | 1, h => WordAt.put h ho hs
 | 2, h => WordAt.put h ho hs
 | 3, h => WordAt.put h ho hs
 | 4, h => WordAt.put h ho hs
 | 5, h => SmallAt.put h ho hs
 | 6, h => WordAt.put h ho hs
 | 7, h => h
 | 8, h => h
 | 9, h => WordAt.put h ho hs
 | 10, h => h
 | 11, h => h
 | 12, h => h
 | 13, h => h
 | 14, h => h
 | _ + 15, h => h
theorem PartM.chg {W W' : World} {p : Pm} {gi gl : Nat} {cs ds : Array Value} (hi : Blk W gi 223 cs) (hl : Blk W gl 37 ds) (hc : Chg W W' (fun k => k = gi ∨ k = gl)) : ∀ (i : Nat), PartM W i p → PartM W' i p
 | 0, h => SmallAt.chg h hi hl hc
 | 1, h => WordAt.chg h hi hl hc
 | 2, h => WordAt.chg h hi hl hc
 | 3, h => WordAt.chg h hi hl hc
 | 4, h => WordAt.chg h hi hl hc
 | 5, h => SmallAt.chg h hi hl hc
 | 6, h => WordAt.chg h hi hl hc
 | 7, h => h
 | 8, h => h
 | 9, h => WordAt.chg h hi hl hc
 | 10, h => h
 | 11, h => h
 | 12, h => h
 | 13, h => h
 | 14, h => h
 | _ + 15, h => h
theorem at1_any (gl : Nat) (W : World) : Calls Tryz.prog 190 #[.pointer (some ⟨gl, 0, none⟩)] W fun e W' => e = .returned (.pointer (some ⟨gl, 4, none⟩)) ∧ W = W' := by
 go_enter Tryz.func190, Tryz.ntmps190
 go_wp2
 go_ret
 exact ⟨rfl, rfl⟩
theorem at2_any (gl : Nat) (W : World) : Calls Tryz.prog 193 #[.pointer (some ⟨gl, 0, none⟩)] W fun e W' => e = .returned (.pointer (some ⟨gl, 5, none⟩)) ∧ W = W' := by
 go_enter Tryz.func193, Tryz.ntmps193
 go_wp2
 go_ret
 exact ⟨rfl, rfl⟩
theorem at3_any (gl : Nat) (W : World) : Calls Tryz.prog 195 #[.pointer (some ⟨gl, 0, none⟩)] W fun e W' => e = .returned (.pointer (some ⟨gl, 7, none⟩)) ∧ W = W' := by
 go_enter Tryz.func195, Tryz.ntmps195
 go_wp2
 go_ret
 exact ⟨rfl, rfl⟩
theorem at4_any (gl : Nat) (W : World) : Calls Tryz.prog 196 #[.pointer (some ⟨gl, 0, none⟩)] W fun e W' => e = .returned (.pointer (some ⟨gl, 8, none⟩)) ∧ W = W' := by
 go_enter Tryz.func196, Tryz.ntmps196
 go_wp2
 go_ret
 exact ⟨rfl, rfl⟩
theorem at6_any (gl : Nat) (W : World) : Calls Tryz.prog 197 #[.pointer (some ⟨gl, 0, none⟩)] W fun e W' => e = .returned (.pointer (some ⟨gl, 6, none⟩)) ∧ W = W' := by
 go_enter Tryz.func197, Tryz.ntmps197
 go_wp2
 go_ret
 exact ⟨rfl, rfl⟩
theorem at9_any (gl : Nat) (W : World) : Calls Tryz.prog 198 #[.pointer (some ⟨gl, 0, none⟩)] W fun e W' => e = .returned (.pointer (some ⟨gl, 9, none⟩)) ∧ W = W' := by
 go_enter Tryz.func198, Tryz.ntmps198
 go_wp2
 go_ret
 exact ⟨rfl, rfl⟩
theorem at0_any (gl : Nat) (W : World) : Calls Tryz.prog 185 #[.pointer (some ⟨gl, 0, none⟩)] W fun e W' => e = .returned (.pointer (some ⟨gl, 3, none⟩)) ∧ W = W' := by
 go_enter Tryz.func185, Tryz.ntmps185
 go_wp2
 go_ret
 exact ⟨rfl, rfl⟩
theorem at5_any (gl : Nat) (W : World) : Calls Tryz.prog 187 #[.pointer (some ⟨gl, 0, none⟩)] W fun e W' => e = .returned (.pointer (some ⟨gl, 10, none⟩)) ∧ W = W' := by
 go_enter Tryz.func187, Tryz.ntmps187
 go_wp2
 go_ret
 exact ⟨rfl, rfl⟩
theorem put1_any (l : Lt) (hf : 0 ≤ l.ep ∧ l.ep < 18446744073709551616) (gb g : Nat) (v : Value) (bs : List Int) (W : World) (hb : Blk W gb 298 #[.func (.func 190) #[] #[]]) (ho : OutAt W g v ⟨bs, 16384, 0⟩) (hl : bs.length + 8 ≤ 16384) :
  Calls Tryz.prog 255 #[.pointer (some ⟨g, 0, none⟩), l.agg, .pointer (some ⟨gb, 0, none⟩)] W (PutP g v bs (big l.ep.toNat 8) W) := by
 obtain ⟨W0, hW0⟩ : ∃ W0, W0 = W.alloc (.cells #[.int .i64 l.kd, .int .i64 l.fr, .int .i64 l.tw, .int .i64 l.ch, .int .u64 l.ep, .int .u64 l.bl, .int .u64 l.nu, .int .u64 l.sq, .int .u64 l.dz, .int .u64 l.vr, .int .i64 l.sl, .int .u32 l.ky, .int .i64 l.cd, .int .i64 l.qk, .int .i64 l.qc, .int .u64 l.qe, .int .i64 l.qn, .int .i64 l.fc, .int .u64 l.fe, .slice l.fA l.fn l.fp, .bool l.ff, .int .i64 l.fj, .slice l.vA l.vn l.vp, .slice l.uA l.un l.up, .slice l.dA l.dn l.dp] 37) := ⟨_, rfl⟩
 have hb0 : Below W.heap.size W W0 := by rw [hW0]; exact (Below.refl _ _).alloc (Nat.le_refl _) _
 have hbk : Blk W0 W.heap.size 37 l.cells := by rw [hW0]; exact Blk.new _ _ _
 have x0 : W0.cell? ⟨gb, 0, none⟩ = some (.func (.func 190) #[] #[]) := (hb.below hb0 hb.lt).cell 0
 have x1 : W0.cell? ⟨W.heap.size, 4, none⟩ = some (.int .u64 l.ep) := hbk.cell 4
 have hgb := hb.lt
 have hll := hbk.lt
 have PC := Lib.hid (putNum_ok g v bs 16384 l.ep l.ep.toNat 8 (by omega) W0 (by omega) (by omega) (by omega) (ho.below hb0) (by omega) (by omega))
 have HB := Lib.hid hb0
 have HW := Lib.hid hW0
 clear hb ho hb0 hbk hW0
 show Calls Tryz.prog 255 #[.pointer (some ⟨g, 0, none⟩), .agg #[.int .i64 l.kd, .int .i64 l.fr, .int .i64 l.tw, .int .i64 l.ch, .int .u64 l.ep, .int .u64 l.bl, .int .u64 l.nu, .int .u64 l.sq, .int .u64 l.dz, .int .u64 l.vr, .int .i64 l.sl, .int .u32 l.ky, .int .i64 l.cd, .int .i64 l.qk, .int .i64 l.qc, .int .u64 l.qe, .int .i64 l.qn, .int .i64 l.fc, .int .u64 l.fe, .slice l.fA l.fn l.fp, .bool l.ff, .int .i64 l.fj, .slice l.vA l.vn l.vp, .slice l.uA l.un l.up, .slice l.dA l.dn l.dp], .pointer (some ⟨gb, 0, none⟩)] W _
 go_enter Tryz.func255, Tryz.ntmps255
 go_upto_region 1 with (fail)
 rw [← HW.out]
 go_wp2_with (fail)
 refine (at1_any _ _).mono ?_
 rintro e w1 ⟨rfl, rfl⟩
 go_wp2_with (fail)
 refine PC.out.mono ?_
 exact rp23
theorem put2_any (l : Lt) (hf : 0 ≤ l.bl ∧ l.bl < 18446744073709551616) (gb g : Nat) (v : Value) (bs : List Int) (W : World) (hb : Blk W gb 298 #[.func (.func 193) #[] #[]]) (ho : OutAt W g v ⟨bs, 16384, 0⟩) (hl : bs.length + 8 ≤ 16384) :
  Calls Tryz.prog 255 #[.pointer (some ⟨g, 0, none⟩), l.agg, .pointer (some ⟨gb, 0, none⟩)] W (PutP g v bs (big l.bl.toNat 8) W) := by
 obtain ⟨W0, hW0⟩ : ∃ W0, W0 = W.alloc (.cells #[.int .i64 l.kd, .int .i64 l.fr, .int .i64 l.tw, .int .i64 l.ch, .int .u64 l.ep, .int .u64 l.bl, .int .u64 l.nu, .int .u64 l.sq, .int .u64 l.dz, .int .u64 l.vr, .int .i64 l.sl, .int .u32 l.ky, .int .i64 l.cd, .int .i64 l.qk, .int .i64 l.qc, .int .u64 l.qe, .int .i64 l.qn, .int .i64 l.fc, .int .u64 l.fe, .slice l.fA l.fn l.fp, .bool l.ff, .int .i64 l.fj, .slice l.vA l.vn l.vp, .slice l.uA l.un l.up, .slice l.dA l.dn l.dp] 37) := ⟨_, rfl⟩
 have hb0 : Below W.heap.size W W0 := by rw [hW0]; exact (Below.refl _ _).alloc (Nat.le_refl _) _
 have hbk : Blk W0 W.heap.size 37 l.cells := by rw [hW0]; exact Blk.new _ _ _
 have x0 : W0.cell? ⟨gb, 0, none⟩ = some (.func (.func 193) #[] #[]) := (hb.below hb0 hb.lt).cell 0
 have x1 : W0.cell? ⟨W.heap.size, 5, none⟩ = some (.int .u64 l.bl) := hbk.cell 5
 have hgb := hb.lt
 have hll := hbk.lt
 have PC := Lib.hid (putNum_ok g v bs 16384 l.bl l.bl.toNat 8 (by omega) W0 (by omega) (by omega) (by omega) (ho.below hb0) (by omega) (by omega))
 have HB := Lib.hid hb0
 have HW := Lib.hid hW0
 clear hb ho hb0 hbk hW0
 show Calls Tryz.prog 255 #[.pointer (some ⟨g, 0, none⟩), .agg #[.int .i64 l.kd, .int .i64 l.fr, .int .i64 l.tw, .int .i64 l.ch, .int .u64 l.ep, .int .u64 l.bl, .int .u64 l.nu, .int .u64 l.sq, .int .u64 l.dz, .int .u64 l.vr, .int .i64 l.sl, .int .u32 l.ky, .int .i64 l.cd, .int .i64 l.qk, .int .i64 l.qc, .int .u64 l.qe, .int .i64 l.qn, .int .i64 l.fc, .int .u64 l.fe, .slice l.fA l.fn l.fp, .bool l.ff, .int .i64 l.fj, .slice l.vA l.vn l.vp, .slice l.uA l.un l.up, .slice l.dA l.dn l.dp], .pointer (some ⟨gb, 0, none⟩)] W _
 go_enter Tryz.func255, Tryz.ntmps255
 go_upto_region 1 with (fail)
 rw [← HW.out]
 go_wp2_with (fail)
 refine (at2_any _ _).mono ?_
 rintro e w1 ⟨rfl, rfl⟩
 go_wp2_with (fail)
 refine PC.out.mono ?_
 exact rp23
theorem put3_any (l : Lt) (hf : 0 ≤ l.sq ∧ l.sq < 18446744073709551616) (gb g : Nat) (v : Value) (bs : List Int) (W : World) (hb : Blk W gb 298 #[.func (.func 195) #[] #[]]) (ho : OutAt W g v ⟨bs, 16384, 0⟩) (hl : bs.length + 8 ≤ 16384) :
  Calls Tryz.prog 255 #[.pointer (some ⟨g, 0, none⟩), l.agg, .pointer (some ⟨gb, 0, none⟩)] W (PutP g v bs (big l.sq.toNat 8) W) := by
 obtain ⟨W0, hW0⟩ : ∃ W0, W0 = W.alloc (.cells #[.int .i64 l.kd, .int .i64 l.fr, .int .i64 l.tw, .int .i64 l.ch, .int .u64 l.ep, .int .u64 l.bl, .int .u64 l.nu, .int .u64 l.sq, .int .u64 l.dz, .int .u64 l.vr, .int .i64 l.sl, .int .u32 l.ky, .int .i64 l.cd, .int .i64 l.qk, .int .i64 l.qc, .int .u64 l.qe, .int .i64 l.qn, .int .i64 l.fc, .int .u64 l.fe, .slice l.fA l.fn l.fp, .bool l.ff, .int .i64 l.fj, .slice l.vA l.vn l.vp, .slice l.uA l.un l.up, .slice l.dA l.dn l.dp] 37) := ⟨_, rfl⟩
 have hb0 : Below W.heap.size W W0 := by rw [hW0]; exact (Below.refl _ _).alloc (Nat.le_refl _) _
 have hbk : Blk W0 W.heap.size 37 l.cells := by rw [hW0]; exact Blk.new _ _ _
 have x0 : W0.cell? ⟨gb, 0, none⟩ = some (.func (.func 195) #[] #[]) := (hb.below hb0 hb.lt).cell 0
 have x1 : W0.cell? ⟨W.heap.size, 7, none⟩ = some (.int .u64 l.sq) := hbk.cell 7
 have hgb := hb.lt
 have hll := hbk.lt
 have PC := Lib.hid (putNum_ok g v bs 16384 l.sq l.sq.toNat 8 (by omega) W0 (by omega) (by omega) (by omega) (ho.below hb0) (by omega) (by omega))
 have HB := Lib.hid hb0
 have HW := Lib.hid hW0
 clear hb ho hb0 hbk hW0
 show Calls Tryz.prog 255 #[.pointer (some ⟨g, 0, none⟩), .agg #[.int .i64 l.kd, .int .i64 l.fr, .int .i64 l.tw, .int .i64 l.ch, .int .u64 l.ep, .int .u64 l.bl, .int .u64 l.nu, .int .u64 l.sq, .int .u64 l.dz, .int .u64 l.vr, .int .i64 l.sl, .int .u32 l.ky, .int .i64 l.cd, .int .i64 l.qk, .int .i64 l.qc, .int .u64 l.qe, .int .i64 l.qn, .int .i64 l.fc, .int .u64 l.fe, .slice l.fA l.fn l.fp, .bool l.ff, .int .i64 l.fj, .slice l.vA l.vn l.vp, .slice l.uA l.un l.up, .slice l.dA l.dn l.dp], .pointer (some ⟨gb, 0, none⟩)] W _
 go_enter Tryz.func255, Tryz.ntmps255
 go_upto_region 1 with (fail)
 rw [← HW.out]
 go_wp2_with (fail)
 refine (at3_any _ _).mono ?_
 rintro e w1 ⟨rfl, rfl⟩
 go_wp2_with (fail)
 refine PC.out.mono ?_
 exact rp23
theorem put4_any (l : Lt) (hf : 0 ≤ l.dz ∧ l.dz < 18446744073709551616) (gb g : Nat) (v : Value) (bs : List Int) (W : World) (hb : Blk W gb 298 #[.func (.func 196) #[] #[]]) (ho : OutAt W g v ⟨bs, 16384, 0⟩) (hl : bs.length + 8 ≤ 16384) :
  Calls Tryz.prog 255 #[.pointer (some ⟨g, 0, none⟩), l.agg, .pointer (some ⟨gb, 0, none⟩)] W (PutP g v bs (big l.dz.toNat 8) W) := by
 obtain ⟨W0, hW0⟩ : ∃ W0, W0 = W.alloc (.cells #[.int .i64 l.kd, .int .i64 l.fr, .int .i64 l.tw, .int .i64 l.ch, .int .u64 l.ep, .int .u64 l.bl, .int .u64 l.nu, .int .u64 l.sq, .int .u64 l.dz, .int .u64 l.vr, .int .i64 l.sl, .int .u32 l.ky, .int .i64 l.cd, .int .i64 l.qk, .int .i64 l.qc, .int .u64 l.qe, .int .i64 l.qn, .int .i64 l.fc, .int .u64 l.fe, .slice l.fA l.fn l.fp, .bool l.ff, .int .i64 l.fj, .slice l.vA l.vn l.vp, .slice l.uA l.un l.up, .slice l.dA l.dn l.dp] 37) := ⟨_, rfl⟩
 have hb0 : Below W.heap.size W W0 := by rw [hW0]; exact (Below.refl _ _).alloc (Nat.le_refl _) _
 have hbk : Blk W0 W.heap.size 37 l.cells := by rw [hW0]; exact Blk.new _ _ _
 have x0 : W0.cell? ⟨gb, 0, none⟩ = some (.func (.func 196) #[] #[]) := (hb.below hb0 hb.lt).cell 0
 have x1 : W0.cell? ⟨W.heap.size, 8, none⟩ = some (.int .u64 l.dz) := hbk.cell 8
 have hgb := hb.lt
 have hll := hbk.lt
 have PC := Lib.hid (putNum_ok g v bs 16384 l.dz l.dz.toNat 8 (by omega) W0 (by omega) (by omega) (by omega) (ho.below hb0) (by omega) (by omega))
 have HB := Lib.hid hb0
 have HW := Lib.hid hW0
 clear hb ho hb0 hbk hW0
 show Calls Tryz.prog 255 #[.pointer (some ⟨g, 0, none⟩), .agg #[.int .i64 l.kd, .int .i64 l.fr, .int .i64 l.tw, .int .i64 l.ch, .int .u64 l.ep, .int .u64 l.bl, .int .u64 l.nu, .int .u64 l.sq, .int .u64 l.dz, .int .u64 l.vr, .int .i64 l.sl, .int .u32 l.ky, .int .i64 l.cd, .int .i64 l.qk, .int .i64 l.qc, .int .u64 l.qe, .int .i64 l.qn, .int .i64 l.fc, .int .u64 l.fe, .slice l.fA l.fn l.fp, .bool l.ff, .int .i64 l.fj, .slice l.vA l.vn l.vp, .slice l.uA l.un l.up, .slice l.dA l.dn l.dp], .pointer (some ⟨gb, 0, none⟩)] W _
 go_enter Tryz.func255, Tryz.ntmps255
 go_upto_region 1 with (fail)
 rw [← HW.out]
 go_wp2_with (fail)
 refine (at4_any _ _).mono ?_
 rintro e w1 ⟨rfl, rfl⟩
 go_wp2_with (fail)
 refine PC.out.mono ?_
 exact rp23
theorem put6_any (l : Lt) (hf : 0 ≤ l.nu ∧ l.nu < 18446744073709551616) (gb g : Nat) (v : Value) (bs : List Int) (W : World) (hb : Blk W gb 298 #[.func (.func 197) #[] #[]]) (ho : OutAt W g v ⟨bs, 16384, 0⟩) (hl : bs.length + 8 ≤ 16384) :
  Calls Tryz.prog 255 #[.pointer (some ⟨g, 0, none⟩), l.agg, .pointer (some ⟨gb, 0, none⟩)] W (PutP g v bs (big l.nu.toNat 8) W) := by
 obtain ⟨W0, hW0⟩ : ∃ W0, W0 = W.alloc (.cells #[.int .i64 l.kd, .int .i64 l.fr, .int .i64 l.tw, .int .i64 l.ch, .int .u64 l.ep, .int .u64 l.bl, .int .u64 l.nu, .int .u64 l.sq, .int .u64 l.dz, .int .u64 l.vr, .int .i64 l.sl, .int .u32 l.ky, .int .i64 l.cd, .int .i64 l.qk, .int .i64 l.qc, .int .u64 l.qe, .int .i64 l.qn, .int .i64 l.fc, .int .u64 l.fe, .slice l.fA l.fn l.fp, .bool l.ff, .int .i64 l.fj, .slice l.vA l.vn l.vp, .slice l.uA l.un l.up, .slice l.dA l.dn l.dp] 37) := ⟨_, rfl⟩
 have hb0 : Below W.heap.size W W0 := by rw [hW0]; exact (Below.refl _ _).alloc (Nat.le_refl _) _
 have hbk : Blk W0 W.heap.size 37 l.cells := by rw [hW0]; exact Blk.new _ _ _
 have x0 : W0.cell? ⟨gb, 0, none⟩ = some (.func (.func 197) #[] #[]) := (hb.below hb0 hb.lt).cell 0
 have x1 : W0.cell? ⟨W.heap.size, 6, none⟩ = some (.int .u64 l.nu) := hbk.cell 6
 have hgb := hb.lt
 have hll := hbk.lt
 have PC := Lib.hid (putNum_ok g v bs 16384 l.nu l.nu.toNat 8 (by omega) W0 (by omega) (by omega) (by omega) (ho.below hb0) (by omega) (by omega))
 have HB := Lib.hid hb0
 have HW := Lib.hid hW0
 clear hb ho hb0 hbk hW0
 show Calls Tryz.prog 255 #[.pointer (some ⟨g, 0, none⟩), .agg #[.int .i64 l.kd, .int .i64 l.fr, .int .i64 l.tw, .int .i64 l.ch, .int .u64 l.ep, .int .u64 l.bl, .int .u64 l.nu, .int .u64 l.sq, .int .u64 l.dz, .int .u64 l.vr, .int .i64 l.sl, .int .u32 l.ky, .int .i64 l.cd, .int .i64 l.qk, .int .i64 l.qc, .int .u64 l.qe, .int .i64 l.qn, .int .i64 l.fc, .int .u64 l.fe, .slice l.fA l.fn l.fp, .bool l.ff, .int .i64 l.fj, .slice l.vA l.vn l.vp, .slice l.uA l.un l.up, .slice l.dA l.dn l.dp], .pointer (some ⟨gb, 0, none⟩)] W _
 go_enter Tryz.func255, Tryz.ntmps255
 go_upto_region 1 with (fail)
 rw [← HW.out]
 go_wp2_with (fail)
 refine (at6_any _ _).mono ?_
 rintro e w1 ⟨rfl, rfl⟩
 go_wp2_with (fail)
 refine PC.out.mono ?_
 exact rp23
theorem put9_any (l : Lt) (hf : 0 ≤ l.vr ∧ l.vr < 18446744073709551616) (gb g : Nat) (v : Value) (bs : List Int) (W : World) (hb : Blk W gb 298 #[.func (.func 198) #[] #[]]) (ho : OutAt W g v ⟨bs, 16384, 0⟩) (hl : bs.length + 8 ≤ 16384) :
  Calls Tryz.prog 255 #[.pointer (some ⟨g, 0, none⟩), l.agg, .pointer (some ⟨gb, 0, none⟩)] W (PutP g v bs (big l.vr.toNat 8) W) := by
 obtain ⟨W0, hW0⟩ : ∃ W0, W0 = W.alloc (.cells #[.int .i64 l.kd, .int .i64 l.fr, .int .i64 l.tw, .int .i64 l.ch, .int .u64 l.ep, .int .u64 l.bl, .int .u64 l.nu, .int .u64 l.sq, .int .u64 l.dz, .int .u64 l.vr, .int .i64 l.sl, .int .u32 l.ky, .int .i64 l.cd, .int .i64 l.qk, .int .i64 l.qc, .int .u64 l.qe, .int .i64 l.qn, .int .i64 l.fc, .int .u64 l.fe, .slice l.fA l.fn l.fp, .bool l.ff, .int .i64 l.fj, .slice l.vA l.vn l.vp, .slice l.uA l.un l.up, .slice l.dA l.dn l.dp] 37) := ⟨_, rfl⟩
 have hb0 : Below W.heap.size W W0 := by rw [hW0]; exact (Below.refl _ _).alloc (Nat.le_refl _) _
 have hbk : Blk W0 W.heap.size 37 l.cells := by rw [hW0]; exact Blk.new _ _ _
 have x0 : W0.cell? ⟨gb, 0, none⟩ = some (.func (.func 198) #[] #[]) := (hb.below hb0 hb.lt).cell 0
 have x1 : W0.cell? ⟨W.heap.size, 9, none⟩ = some (.int .u64 l.vr) := hbk.cell 9
 have hgb := hb.lt
 have hll := hbk.lt
 have PC := Lib.hid (putNum_ok g v bs 16384 l.vr l.vr.toNat 8 (by omega) W0 (by omega) (by omega) (by omega) (ho.below hb0) (by omega) (by omega))
 have HB := Lib.hid hb0
 have HW := Lib.hid hW0
 clear hb ho hb0 hbk hW0
 show Calls Tryz.prog 255 #[.pointer (some ⟨g, 0, none⟩), .agg #[.int .i64 l.kd, .int .i64 l.fr, .int .i64 l.tw, .int .i64 l.ch, .int .u64 l.ep, .int .u64 l.bl, .int .u64 l.nu, .int .u64 l.sq, .int .u64 l.dz, .int .u64 l.vr, .int .i64 l.sl, .int .u32 l.ky, .int .i64 l.cd, .int .i64 l.qk, .int .i64 l.qc, .int .u64 l.qe, .int .i64 l.qn, .int .i64 l.fc, .int .u64 l.fe, .slice l.fA l.fn l.fp, .bool l.ff, .int .i64 l.fj, .slice l.vA l.vn l.vp, .slice l.uA l.un l.up, .slice l.dA l.dn l.dp], .pointer (some ⟨gb, 0, none⟩)] W _
 go_enter Tryz.func255, Tryz.ntmps255
 go_upto_region 1 with (fail)
 rw [← HW.out]
 go_wp2_with (fail)
 refine (at9_any _ _).mono ?_
 rintro e w1 ⟨rfl, rfl⟩
 go_wp2_with (fail)
 refine PC.out.mono ?_
 exact rp23
theorem put0_any (l : Lt) (hf : 0 ≤ l.ch ∧ l.ch < 256) (g1 g2 g : Nat) (v : Value) (bs : List Int) (W : World) (hb1 : Blk W g1 3 #[.int .i64 1]) (hb2 : Blk W g2 295 #[.func (.func 185) #[] #[]]) (ho : OutAt W g v ⟨bs, 16384, 0⟩) (hl : bs.length + 1 ≤ 16384) :
  Calls Tryz.prog 253 #[.pointer (some ⟨g, 0, none⟩), l.agg, .pointer (some ⟨g2, 0, none⟩), .pointer (some ⟨g1, 0, none⟩)] W (PutP g v bs (big l.ch.toNat 1) W) := by
 obtain ⟨W0, hW0⟩ : ∃ W0, W0 = W.alloc (.cells #[.int .i64 l.kd, .int .i64 l.fr, .int .i64 l.tw, .int .i64 l.ch, .int .u64 l.ep, .int .u64 l.bl, .int .u64 l.nu, .int .u64 l.sq, .int .u64 l.dz, .int .u64 l.vr, .int .i64 l.sl, .int .u32 l.ky, .int .i64 l.cd, .int .i64 l.qk, .int .i64 l.qc, .int .u64 l.qe, .int .i64 l.qn, .int .i64 l.fc, .int .u64 l.fe, .slice l.fA l.fn l.fp, .bool l.ff, .int .i64 l.fj, .slice l.vA l.vn l.vp, .slice l.uA l.un l.up, .slice l.dA l.dn l.dp] 37) := ⟨_, rfl⟩
 have hb0 : Below W.heap.size W W0 := by rw [hW0]; exact (Below.refl _ _).alloc (Nat.le_refl _) _
 have hbk : Blk W0 W.heap.size 37 l.cells := by rw [hW0]; exact Blk.new _ _ _
 have X0 := Lib.hid (hb2.below hb0 hb2.lt)
 have X1 := Lib.hid hbk
 have X2 := Lib.hid (hb1.below hb0 hb1.lt)
 have x0 : W0.cell? ⟨g2, 0, none⟩ = some (.func (.func 185) #[] #[]) := X0.out.cell 0
 have x1 : W0.cell? ⟨W.heap.size, 3, none⟩ = some (.int .i64 l.ch) := hbk.cell 3
 have x2 : W0.cell? ⟨g1, 0, none⟩ = some (.int .i64 1) := X2.out.cell 0
 have hgb := hb2.lt
 have hll := hbk.lt
 have cz : IntKind.u64.wrap l.ch = l.ch := u64_keep (by omega)
 have HO := Lib.hid (ho.below hb0)
 have PC := Lib.hid (fun W9 (h9 : OutAt W9 g v ⟨bs, 16384, 0⟩) => putNum_ok g v bs 16384 l.ch l.ch.toNat 1 (by omega) W9 (by omega) (by omega) (by omega) h9 (by omega) (by omega))
 have HB := Lib.hid hb0
 have HW := Lib.hid hW0
 clear hb1 hb2 ho hb0 hbk hW0
 show Calls Tryz.prog 253 #[.pointer (some ⟨g, 0, none⟩), .agg #[.int .i64 l.kd, .int .i64 l.fr, .int .i64 l.tw, .int .i64 l.ch, .int .u64 l.ep, .int .u64 l.bl, .int .u64 l.nu, .int .u64 l.sq, .int .u64 l.dz, .int .u64 l.vr, .int .i64 l.sl, .int .u32 l.ky, .int .i64 l.cd, .int .i64 l.qk, .int .i64 l.qc, .int .u64 l.qe, .int .i64 l.qn, .int .i64 l.fc, .int .u64 l.fe, .slice l.fA l.fn l.fp, .bool l.ff, .int .i64 l.fj, .slice l.vA l.vn l.vp, .slice l.uA l.un l.up, .slice l.dA l.dn l.dp], .pointer (some ⟨g2, 0, none⟩), .pointer (some ⟨g1, 0, none⟩)] W _
 go_enter Tryz.func253, Tryz.ntmps253
 go_upto_region 1 with (fail)
 rw [← HW.out]
 go_region_held3 (fun w' => w'.cell? ⟨g2, 0, none⟩ = some (.func (.func 185) #[] #[]) ∧ w'.cell? ⟨W.heap.size, 3, none⟩ = some (.int .i64 l.ch) ∧ w'.cell? ⟨g1, 0, none⟩ = some (.int .i64 1)) (go_keep) (first
  | (go_at_call 185; refine (at0_any _ _).mono ?_; rintro e w1 ⟨rfl, rfl⟩)
  | (go_at_call 59; refine (PC.out _ (HO.out.drew)).mono ?_; rintro e w2 ⟨rfl, v', h1, h2⟩; have d0 := (OutStep.typ h2 HO.out.drew X0.out.drew (by decide) (by decide)).cell 0; have d1 := (OutStep.typ h2 HO.out.drew X1.out.drew (by decide) (by decide)).cell 3; have d2 := (OutStep.typ h2 HO.out.drew X2.out.drew (by decide) (by decide)).cell 0; replace d0 := d0.trans (show _ = some (.func (.func 185) #[] #[]) from rfl); replace d1 := d1.trans (show _ = some (.int .i64 l.ch) from rfl); replace d2 := d2.trans (show _ = some (.int .i64 1) from rfl); have H := Lib.hid (PutP.pre (HB.out.drew) ⟨rfl, v', h1, h2⟩); clear h1 h2)
  | fail)
 all_goals
  go_wp2_with (fail)
  go_end0
  exact H.out
theorem put5_any (l : Lt) (hf : 0 ≤ l.sl ∧ l.sl < 65536) (g1 g2 g : Nat) (v : Value) (bs : List Int) (W : World) (hb1 : Blk W g1 3 #[.int .i64 2]) (hb2 : Blk W g2 295 #[.func (.func 187) #[] #[]]) (ho : OutAt W g v ⟨bs, 16384, 0⟩) (hl : bs.length + 2 ≤ 16384) :
  Calls Tryz.prog 253 #[.pointer (some ⟨g, 0, none⟩), l.agg, .pointer (some ⟨g2, 0, none⟩), .pointer (some ⟨g1, 0, none⟩)] W (PutP g v bs (big l.sl.toNat 2) W) := by
 obtain ⟨W0, hW0⟩ : ∃ W0, W0 = W.alloc (.cells #[.int .i64 l.kd, .int .i64 l.fr, .int .i64 l.tw, .int .i64 l.ch, .int .u64 l.ep, .int .u64 l.bl, .int .u64 l.nu, .int .u64 l.sq, .int .u64 l.dz, .int .u64 l.vr, .int .i64 l.sl, .int .u32 l.ky, .int .i64 l.cd, .int .i64 l.qk, .int .i64 l.qc, .int .u64 l.qe, .int .i64 l.qn, .int .i64 l.fc, .int .u64 l.fe, .slice l.fA l.fn l.fp, .bool l.ff, .int .i64 l.fj, .slice l.vA l.vn l.vp, .slice l.uA l.un l.up, .slice l.dA l.dn l.dp] 37) := ⟨_, rfl⟩
 have hb0 : Below W.heap.size W W0 := by rw [hW0]; exact (Below.refl _ _).alloc (Nat.le_refl _) _
 have hbk : Blk W0 W.heap.size 37 l.cells := by rw [hW0]; exact Blk.new _ _ _
 have X0 := Lib.hid (hb2.below hb0 hb2.lt)
 have X1 := Lib.hid hbk
 have X2 := Lib.hid (hb1.below hb0 hb1.lt)
 have x0 : W0.cell? ⟨g2, 0, none⟩ = some (.func (.func 187) #[] #[]) := X0.out.cell 0
 have x1 : W0.cell? ⟨W.heap.size, 10, none⟩ = some (.int .i64 l.sl) := hbk.cell 10
 have x2 : W0.cell? ⟨g1, 0, none⟩ = some (.int .i64 2) := X2.out.cell 0
 have hgb := hb2.lt
 have hll := hbk.lt
 have cz : IntKind.u64.wrap l.sl = l.sl := u64_keep (by omega)
 have HO := Lib.hid (ho.below hb0)
 have PC := Lib.hid (fun W9 (h9 : OutAt W9 g v ⟨bs, 16384, 0⟩) => putNum_ok g v bs 16384 l.sl l.sl.toNat 2 (by omega) W9 (by omega) (by omega) (by omega) h9 (by omega) (by omega))
 have HB := Lib.hid hb0
 have HW := Lib.hid hW0
 clear hb1 hb2 ho hb0 hbk hW0
 show Calls Tryz.prog 253 #[.pointer (some ⟨g, 0, none⟩), .agg #[.int .i64 l.kd, .int .i64 l.fr, .int .i64 l.tw, .int .i64 l.ch, .int .u64 l.ep, .int .u64 l.bl, .int .u64 l.nu, .int .u64 l.sq, .int .u64 l.dz, .int .u64 l.vr, .int .i64 l.sl, .int .u32 l.ky, .int .i64 l.cd, .int .i64 l.qk, .int .i64 l.qc, .int .u64 l.qe, .int .i64 l.qn, .int .i64 l.fc, .int .u64 l.fe, .slice l.fA l.fn l.fp, .bool l.ff, .int .i64 l.fj, .slice l.vA l.vn l.vp, .slice l.uA l.un l.up, .slice l.dA l.dn l.dp], .pointer (some ⟨g2, 0, none⟩), .pointer (some ⟨g1, 0, none⟩)] W _
 go_enter Tryz.func253, Tryz.ntmps253
 go_upto_region 1 with (fail)
 rw [← HW.out]
 go_region_held3 (fun w' => w'.cell? ⟨g2, 0, none⟩ = some (.func (.func 187) #[] #[]) ∧ w'.cell? ⟨W.heap.size, 10, none⟩ = some (.int .i64 l.sl) ∧ w'.cell? ⟨g1, 0, none⟩ = some (.int .i64 2)) (go_keep) (first
  | (go_at_call 187; refine (at5_any _ _).mono ?_; rintro e w1 ⟨rfl, rfl⟩)
  | (go_at_call 59; refine (PC.out _ (HO.out.drew)).mono ?_; rintro e w2 ⟨rfl, v', h1, h2⟩; have d0 := (OutStep.typ h2 HO.out.drew X0.out.drew (by decide) (by decide)).cell 0; have d1 := (OutStep.typ h2 HO.out.drew X1.out.drew (by decide) (by decide)).cell 10; have d2 := (OutStep.typ h2 HO.out.drew X2.out.drew (by decide) (by decide)).cell 0; replace d0 := d0.trans (show _ = some (.func (.func 187) #[] #[]) from rfl); replace d1 := d1.trans (show _ = some (.int .i64 l.sl) from rfl); replace d2 := d2.trans (show _ = some (.int .i64 2) from rfl); have H := Lib.hid (PutP.pre (HB.out.drew) ⟨rfl, v', h1, h2⟩); clear h1 h2)
  | fail)
 all_goals
  go_wp2_with (fail)
  go_end0
  exact H.out
theorem get1_any (l : Lt) (gb gi gl B : Nat) (s : FI) (W : World) (hb : Blk W gb 298 #[.func (.func 190) #[] #[]]) (hi : InAt W gi B s) (hl : Blk W gl 37 l.cells) (hB : B ≤ gl) :
  Calls Tryz.prog 256 #[.pointer (some ⟨gi, 0, none⟩), .pointer (some ⟨gl, 0, none⟩), .pointer (some ⟨gb, 0, none⟩)] W (GetP gi gl B (s.upto 8 18446744073709551615).1 { l with ep := ((s.upto 8 18446744073709551615).2 : Int) } W) := by
 have x0 : W.cell? ⟨gb, 0, none⟩ = some (.func (.func 190) #[] #[]) := hb.cell 0
 have G := Lib.hid (get_any gi s 8 B W hi)
 have HL := Lib.hid hl
 have hgi := hi.lt
 clear hb hi hl
 go_enter Tryz.func256, Tryz.ntmps256
 go_wp2_with (fail)
 refine (at1_any _ _).mono ?_
 rintro e w1 ⟨rfl, rfl⟩
 go_wp2_with (fail)
 refine G.out.mono ?_
 rintro e w2 ⟨rfl, h1, h2⟩
 have hl2 := h2.blk HL.out (by unfold isG; omega)
 have c0 := (hl2.cell 4).trans (show _ = some (.int .u64 l.ep) from rfl)
 have f0 := hl2.frozen 4
 have H1 := Lib.hid h1
 have H2 := Lib.hid h2
 have HL2 := Lib.hid hl2
 clear h1 h2 hl2 G
 go_wp2_with (fail)
 go_end0
 exact ⟨rfl, H1.out.far hB _ _, HL2.out.set_ 4 _, (H2.out.sub (fun _ h => Or.inl h)).trans ((chg_set0 _ gl _ 4).sub (fun _ h => Or.inr h)) (fun _ _ h => h)⟩
theorem get2_any (l : Lt) (gb gi gl B : Nat) (s : FI) (W : World) (hb : Blk W gb 298 #[.func (.func 193) #[] #[]]) (hi : InAt W gi B s) (hl : Blk W gl 37 l.cells) (hB : B ≤ gl) :
  Calls Tryz.prog 256 #[.pointer (some ⟨gi, 0, none⟩), .pointer (some ⟨gl, 0, none⟩), .pointer (some ⟨gb, 0, none⟩)] W (GetP gi gl B (s.upto 8 18446744073709551615).1 { l with bl := ((s.upto 8 18446744073709551615).2 : Int) } W) := by
 have x0 : W.cell? ⟨gb, 0, none⟩ = some (.func (.func 193) #[] #[]) := hb.cell 0
 have G := Lib.hid (get_any gi s 8 B W hi)
 have HL := Lib.hid hl
 have hgi := hi.lt
 clear hb hi hl
 go_enter Tryz.func256, Tryz.ntmps256
 go_wp2_with (fail)
 refine (at2_any _ _).mono ?_
 rintro e w1 ⟨rfl, rfl⟩
 go_wp2_with (fail)
 refine G.out.mono ?_
 rintro e w2 ⟨rfl, h1, h2⟩
 have hl2 := h2.blk HL.out (by unfold isG; omega)
 have c0 := (hl2.cell 5).trans (show _ = some (.int .u64 l.bl) from rfl)
 have f0 := hl2.frozen 5
 have H1 := Lib.hid h1
 have H2 := Lib.hid h2
 have HL2 := Lib.hid hl2
 clear h1 h2 hl2 G
 go_wp2_with (fail)
 go_end0
 exact ⟨rfl, H1.out.far hB _ _, HL2.out.set_ 5 _, (H2.out.sub (fun _ h => Or.inl h)).trans ((chg_set0 _ gl _ 5).sub (fun _ h => Or.inr h)) (fun _ _ h => h)⟩
theorem get3_any (l : Lt) (gb gi gl B : Nat) (s : FI) (W : World) (hb : Blk W gb 298 #[.func (.func 195) #[] #[]]) (hi : InAt W gi B s) (hl : Blk W gl 37 l.cells) (hB : B ≤ gl) :
  Calls Tryz.prog 256 #[.pointer (some ⟨gi, 0, none⟩), .pointer (some ⟨gl, 0, none⟩), .pointer (some ⟨gb, 0, none⟩)] W (GetP gi gl B (s.upto 8 18446744073709551615).1 { l with sq := ((s.upto 8 18446744073709551615).2 : Int) } W) := by
 have x0 : W.cell? ⟨gb, 0, none⟩ = some (.func (.func 195) #[] #[]) := hb.cell 0
 have G := Lib.hid (get_any gi s 8 B W hi)
 have HL := Lib.hid hl
 have hgi := hi.lt
 clear hb hi hl
 go_enter Tryz.func256, Tryz.ntmps256
 go_wp2_with (fail)
 refine (at3_any _ _).mono ?_
 rintro e w1 ⟨rfl, rfl⟩
 go_wp2_with (fail)
 refine G.out.mono ?_
 rintro e w2 ⟨rfl, h1, h2⟩
 have hl2 := h2.blk HL.out (by unfold isG; omega)
 have c0 := (hl2.cell 7).trans (show _ = some (.int .u64 l.sq) from rfl)
 have f0 := hl2.frozen 7
 have H1 := Lib.hid h1
 have H2 := Lib.hid h2
 have HL2 := Lib.hid hl2
 clear h1 h2 hl2 G
 go_wp2_with (fail)
 go_end0
 exact ⟨rfl, H1.out.far hB _ _, HL2.out.set_ 7 _, (H2.out.sub (fun _ h => Or.inl h)).trans ((chg_set0 _ gl _ 7).sub (fun _ h => Or.inr h)) (fun _ _ h => h)⟩
theorem get4_any (l : Lt) (gb gi gl B : Nat) (s : FI) (W : World) (hb : Blk W gb 298 #[.func (.func 196) #[] #[]]) (hi : InAt W gi B s) (hl : Blk W gl 37 l.cells) (hB : B ≤ gl) :
  Calls Tryz.prog 256 #[.pointer (some ⟨gi, 0, none⟩), .pointer (some ⟨gl, 0, none⟩), .pointer (some ⟨gb, 0, none⟩)] W (GetP gi gl B (s.upto 8 18446744073709551615).1 { l with dz := ((s.upto 8 18446744073709551615).2 : Int) } W) := by
 have x0 : W.cell? ⟨gb, 0, none⟩ = some (.func (.func 196) #[] #[]) := hb.cell 0
 have G := Lib.hid (get_any gi s 8 B W hi)
 have HL := Lib.hid hl
 have hgi := hi.lt
 clear hb hi hl
 go_enter Tryz.func256, Tryz.ntmps256
 go_wp2_with (fail)
 refine (at4_any _ _).mono ?_
 rintro e w1 ⟨rfl, rfl⟩
 go_wp2_with (fail)
 refine G.out.mono ?_
 rintro e w2 ⟨rfl, h1, h2⟩
 have hl2 := h2.blk HL.out (by unfold isG; omega)
 have c0 := (hl2.cell 8).trans (show _ = some (.int .u64 l.dz) from rfl)
 have f0 := hl2.frozen 8
 have H1 := Lib.hid h1
 have H2 := Lib.hid h2
 have HL2 := Lib.hid hl2
 clear h1 h2 hl2 G
 go_wp2_with (fail)
 go_end0
 exact ⟨rfl, H1.out.far hB _ _, HL2.out.set_ 8 _, (H2.out.sub (fun _ h => Or.inl h)).trans ((chg_set0 _ gl _ 8).sub (fun _ h => Or.inr h)) (fun _ _ h => h)⟩
theorem get6_any (l : Lt) (gb gi gl B : Nat) (s : FI) (W : World) (hb : Blk W gb 298 #[.func (.func 197) #[] #[]]) (hi : InAt W gi B s) (hl : Blk W gl 37 l.cells) (hB : B ≤ gl) :
  Calls Tryz.prog 256 #[.pointer (some ⟨gi, 0, none⟩), .pointer (some ⟨gl, 0, none⟩), .pointer (some ⟨gb, 0, none⟩)] W (GetP gi gl B (s.upto 8 18446744073709551615).1 { l with nu := ((s.upto 8 18446744073709551615).2 : Int) } W) := by
 have x0 : W.cell? ⟨gb, 0, none⟩ = some (.func (.func 197) #[] #[]) := hb.cell 0
 have G := Lib.hid (get_any gi s 8 B W hi)
 have HL := Lib.hid hl
 have hgi := hi.lt
 clear hb hi hl
 go_enter Tryz.func256, Tryz.ntmps256
 go_wp2_with (fail)
 refine (at6_any _ _).mono ?_
 rintro e w1 ⟨rfl, rfl⟩
 go_wp2_with (fail)
 refine G.out.mono ?_
 rintro e w2 ⟨rfl, h1, h2⟩
 have hl2 := h2.blk HL.out (by unfold isG; omega)
 have c0 := (hl2.cell 6).trans (show _ = some (.int .u64 l.nu) from rfl)
 have f0 := hl2.frozen 6
 have H1 := Lib.hid h1
 have H2 := Lib.hid h2
 have HL2 := Lib.hid hl2
 clear h1 h2 hl2 G
 go_wp2_with (fail)
 go_end0
 exact ⟨rfl, H1.out.far hB _ _, HL2.out.set_ 6 _, (H2.out.sub (fun _ h => Or.inl h)).trans ((chg_set0 _ gl _ 6).sub (fun _ h => Or.inr h)) (fun _ _ h => h)⟩
theorem get9_any (l : Lt) (gb gi gl B : Nat) (s : FI) (W : World) (hb : Blk W gb 298 #[.func (.func 198) #[] #[]]) (hi : InAt W gi B s) (hl : Blk W gl 37 l.cells) (hB : B ≤ gl) :
  Calls Tryz.prog 256 #[.pointer (some ⟨gi, 0, none⟩), .pointer (some ⟨gl, 0, none⟩), .pointer (some ⟨gb, 0, none⟩)] W (GetP gi gl B (s.upto 8 18446744073709551615).1 { l with vr := ((s.upto 8 18446744073709551615).2 : Int) } W) := by
 have x0 : W.cell? ⟨gb, 0, none⟩ = some (.func (.func 198) #[] #[]) := hb.cell 0
 have G := Lib.hid (get_any gi s 8 B W hi)
 have HL := Lib.hid hl
 have hgi := hi.lt
 clear hb hi hl
 go_enter Tryz.func256, Tryz.ntmps256
 go_wp2_with (fail)
 refine (at9_any _ _).mono ?_
 rintro e w1 ⟨rfl, rfl⟩
 go_wp2_with (fail)
 refine G.out.mono ?_
 rintro e w2 ⟨rfl, h1, h2⟩
 have hl2 := h2.blk HL.out (by unfold isG; omega)
 have c0 := (hl2.cell 9).trans (show _ = some (.int .u64 l.vr) from rfl)
 have f0 := hl2.frozen 9
 have H1 := Lib.hid h1
 have H2 := Lib.hid h2
 have HL2 := Lib.hid hl2
 clear h1 h2 hl2 G
 go_wp2_with (fail)
 go_end0
 exact ⟨rfl, H1.out.far hB _ _, HL2.out.set_ 9 _, (H2.out.sub (fun _ h => Or.inl h)).trans ((chg_set0 _ gl _ 9).sub (fun _ h => Or.inr h)) (fun _ _ h => h)⟩
theorem get0_any (l : Lt) (g1 g2 gi gl B : Nat) (s : FI) (W : World) (hb1 : Blk W g1 3 #[.int .i64 1]) (hb2 : Blk W g2 295 #[.func (.func 185) #[] #[]]) (hi : InAt W gi B s) (hl : Blk W gl 37 l.cells) (hB : B ≤ gl) :
  Calls Tryz.prog 254 #[.pointer (some ⟨gi, 0, none⟩), .pointer (some ⟨gl, 0, none⟩), .pointer (some ⟨g1, 0, none⟩), .pointer (some ⟨g2, 0, none⟩)] W (GetP gi gl B (s.upto 1 18446744073709551615).1 { l with ch := ((s.upto 1 18446744073709551615).2 : Int) } W) := by
 have x0 : W.cell? ⟨g2, 0, none⟩ = some (.func (.func 185) #[] #[]) := hb2.cell 0
 have x1 : W.cell? ⟨g1, 0, none⟩ = some (.int .i64 1) := hb1.cell 0
 have hlt : (s.upto 1 18446744073709551615).2 < 256 ^ 1 := FI.upto_lt s 1 _ hi.bytes
 have cz : IntKind.i64.wrap ((s.upto 1 18446744073709551615).2 : Int) = ((s.upto 1 18446744073709551615).2 : Int) := by rw [IntKind.wrap_i64]; omega
 have G := Lib.hid (fun W9 (h9 : InAt W9 gi B s) => get_any gi s 1 B W9 h9)
 have n1 : g1 ≠ gl := Blk.ne_ hb1 hl (by decide)
 have n2 : g2 ≠ gl := Blk.ne_ hb2 hl (by decide)
 obtain ⟨A0, c0, hbi, _⟩ := hi.mem
 have m1 : Hid (¬ isG gi g1) := Lib.hid (Blk.ne_ hb1 hbi (by decide))
 have m2 : Hid (¬ isG gi g2) := Lib.hid (Blk.ne_ hb2 hbi (by decide))
 have HL := Lib.hid hl
 have HI := Lib.hid hi
 have X1 := Lib.hid hb1
 have X2 := Lib.hid hb2
 have hgi := hi.lt
 have n1' : gl ≠ g1 := fun e => n1 e.symm
 have n2' : gl ≠ g2 := fun e => n2 e.symm
 clear hb1 hb2 hi hl hbi
 generalize s.upto 1 18446744073709551615 = r at *
 go_enter Tryz.func254, Tryz.ntmps254
 go_region_held3 (fun w' => w'.cell? ⟨g2, 0, none⟩ = some (.func (.func 185) #[] #[]) ∧ w'.cell? ⟨g1, 0, none⟩ = some (.int .i64 1)) (go_keep) (first
  | (go_at_call 185; refine (at0_any _ _).mono ?_; rintro e w1 ⟨rfl, rfl⟩)
  | (go_at_call 46; refine (G.out _ (HI.out.drew)).mono ?_; rintro e w2 ⟨rfl, h1, h2⟩; have hl2 := h2.blk HL.out.drew (by unfold isG; omega); have d0 := (h2.blk X2.out.drew m2.out).cell 0; have d1 := (h2.blk X1.out.drew m1.out).cell 0; replace d0 := d0.trans (show _ = some (.func (.func 185) #[] #[]) from rfl); replace d1 := d1.trans (show _ = some (.int .i64 1) from rfl); have e0 := (hl2.cell 3).trans (show _ = some (.int .i64 l.ch) from rfl); have f0 := hl2.frozen 3; have H1 := Lib.hid h1; have H2 := Lib.hid h2; have HL2 := Lib.hid hl2; clear h1 h2 hl2)
  | fail)
 all_goals
  go_wp2_with (fail)
  go_end0
  exact ⟨rfl, H1.out.far hB _ _, HL2.out.set_ 3 _, (((Chg.refl W (isG gi)).drewN 1 |>.trans H2.out (fun _ _ h => h)).sub (fun _ h => Or.inl h)).trans ((chg_set0 _ gl _ 3).sub (fun _ h => Or.inr h)) (fun _ _ h => h)⟩
theorem get5_any (l : Lt) (g1 g2 gi gl B : Nat) (s : FI) (W : World) (hb1 : Blk W g1 3 #[.int .i64 2]) (hb2 : Blk W g2 295 #[.func (.func 187) #[] #[]]) (hi : InAt W gi B s) (hl : Blk W gl 37 l.cells) (hB : B ≤ gl) :
  Calls Tryz.prog 254 #[.pointer (some ⟨gi, 0, none⟩), .pointer (some ⟨gl, 0, none⟩), .pointer (some ⟨g1, 0, none⟩), .pointer (some ⟨g2, 0, none⟩)] W (GetP gi gl B (s.upto 2 18446744073709551615).1 { l with sl := ((s.upto 2 18446744073709551615).2 : Int) } W) := by
 have x0 : W.cell? ⟨g2, 0, none⟩ = some (.func (.func 187) #[] #[]) := hb2.cell 0
 have x1 : W.cell? ⟨g1, 0, none⟩ = some (.int .i64 2) := hb1.cell 0
 have hlt : (s.upto 2 18446744073709551615).2 < 256 ^ 2 := FI.upto_lt s 2 _ hi.bytes
 have cz : IntKind.i64.wrap ((s.upto 2 18446744073709551615).2 : Int) = ((s.upto 2 18446744073709551615).2 : Int) := by rw [IntKind.wrap_i64]; omega
 have G := Lib.hid (fun W9 (h9 : InAt W9 gi B s) => get_any gi s 2 B W9 h9)
 have n1 : g1 ≠ gl := Blk.ne_ hb1 hl (by decide)
 have n2 : g2 ≠ gl := Blk.ne_ hb2 hl (by decide)
 obtain ⟨A0, c0, hbi, _⟩ := hi.mem
 have m1 : Hid (¬ isG gi g1) := Lib.hid (Blk.ne_ hb1 hbi (by decide))
 have m2 : Hid (¬ isG gi g2) := Lib.hid (Blk.ne_ hb2 hbi (by decide))
 have HL := Lib.hid hl
 have HI := Lib.hid hi
 have X1 := Lib.hid hb1
 have X2 := Lib.hid hb2
 have hgi := hi.lt
 have n1' : gl ≠ g1 := fun e => n1 e.symm
 have n2' : gl ≠ g2 := fun e => n2 e.symm
 clear hb1 hb2 hi hl hbi
 generalize s.upto 2 18446744073709551615 = r at *
 go_enter Tryz.func254, Tryz.ntmps254
 go_region_held3 (fun w' => w'.cell? ⟨g2, 0, none⟩ = some (.func (.func 187) #[] #[]) ∧ w'.cell? ⟨g1, 0, none⟩ = some (.int .i64 2)) (go_keep) (first
  | (go_at_call 187; refine (at5_any _ _).mono ?_; rintro e w1 ⟨rfl, rfl⟩)
  | (go_at_call 46; refine (G.out _ (HI.out.drew)).mono ?_; rintro e w2 ⟨rfl, h1, h2⟩; have hl2 := h2.blk HL.out.drew (by unfold isG; omega); have d0 := (h2.blk X2.out.drew m2.out).cell 0; have d1 := (h2.blk X1.out.drew m1.out).cell 0; replace d0 := d0.trans (show _ = some (.func (.func 187) #[] #[]) from rfl); replace d1 := d1.trans (show _ = some (.int .i64 2) from rfl); have e0 := (hl2.cell 10).trans (show _ = some (.int .i64 l.sl) from rfl); have f0 := hl2.frozen 10; have H1 := Lib.hid h1; have H2 := Lib.hid h2; have HL2 := Lib.hid hl2; clear h1 h2 hl2)
  | fail)
 all_goals
  go_wp2_with (fail)
  go_end0
  exact ⟨rfl, H1.out.far hB _ _, HL2.out.set_ 10 _, (((Chg.refl W (isG gi)).drewN 1 |>.trans H2.out (fun _ _ h => h)).sub (fun _ h => Or.inl h)).trans ((chg_set0 _ gl _ 10).sub (fun _ h => Or.inr h)) (fun _ _ h => h)⟩
theorem put7_any (l : Lt) (hf : 0 ≤ l.cd ∧ l.cd < 256) (g : Nat) (v : Value) (bs : List Int) (W : World) (ho : OutAt W g v ⟨bs, 16384, 0⟩) (hl : bs.length + 1 ≤ 16384) :
  Calls Tryz.prog 259 #[.pointer (some ⟨g, 0, none⟩), l.agg] W (PutP g v bs (big l.cd.toNat 1) W) := by
 obtain ⟨W0, hW0⟩ : ∃ W0, W0 = W.alloc (.cells #[.int .i64 l.kd, .int .i64 l.fr, .int .i64 l.tw, .int .i64 l.ch, .int .u64 l.ep, .int .u64 l.bl, .int .u64 l.nu, .int .u64 l.sq, .int .u64 l.dz, .int .u64 l.vr, .int .i64 l.sl, .int .u32 l.ky, .int .i64 l.cd, .int .i64 l.qk, .int .i64 l.qc, .int .u64 l.qe, .int .i64 l.qn, .int .i64 l.fc, .int .u64 l.fe, .slice l.fA l.fn l.fp, .bool l.ff, .int .i64 l.fj, .slice l.vA l.vn l.vp, .slice l.uA l.un l.up, .slice l.dA l.dn l.dp] 37) := ⟨_, rfl⟩
 have hb0 : Below W.heap.size W W0 := by rw [hW0]; exact (Below.refl _ _).alloc (Nat.le_refl _) _
 have hbk : Blk W0 W.heap.size 37 l.cells := by rw [hW0]; exact Blk.new _ _ _
 have x1 : W0.cell? ⟨W.heap.size, 12, none⟩ = some (.int .i64 l.cd) := hbk.cell 12
 have hll := hbk.lt
 have cz : IntKind.u64.wrap l.cd = l.cd := u64_keep (by omega)
 have PC := Lib.hid (putNum_ok g v bs 16384 l.cd l.cd.toNat 1 (by omega) W0 (by omega) (by omega) (by omega) (ho.below hb0) (by omega) (by omega))
 have HB := Lib.hid hb0
 have HW := Lib.hid hW0
 clear ho hb0 hbk hW0
 show Calls Tryz.prog 259 #[.pointer (some ⟨g, 0, none⟩), .agg #[.int .i64 l.kd, .int .i64 l.fr, .int .i64 l.tw, .int .i64 l.ch, .int .u64 l.ep, .int .u64 l.bl, .int .u64 l.nu, .int .u64 l.sq, .int .u64 l.dz, .int .u64 l.vr, .int .i64 l.sl, .int .u32 l.ky, .int .i64 l.cd, .int .i64 l.qk, .int .i64 l.qc, .int .u64 l.qe, .int .i64 l.qn, .int .i64 l.fc, .int .u64 l.fe, .slice l.fA l.fn l.fp, .bool l.ff, .int .i64 l.fj, .slice l.vA l.vn l.vp, .slice l.uA l.un l.up, .slice l.dA l.dn l.dp]] W _
 go_enter Tryz.func259, Tryz.ntmps259
 go_upto_region 1 with (fail)
 rw [← HW.out]
 go_wp2_with (fail)
 refine PC.out.mono ?_
 exact rp23
theorem get7_any (l : Lt) (gi gl B : Nat) (s : FI) (W : World) (hi : InAt W gi B s) (hl : Blk W gl 37 l.cells) (hB : B ≤ gl) :
  Calls Tryz.prog 260 #[.pointer (some ⟨gi, 0, none⟩), .pointer (some ⟨gl, 0, none⟩)] W (GetP gi gl B (s.upto 1 18446744073709551615).1 { l with cd := ((s.upto 1 18446744073709551615).2 : Int) } W) := by
 have hlt : (s.upto 1 18446744073709551615).2 < 256 ^ 1 := FI.upto_lt s 1 _ hi.bytes
 have cz : IntKind.i64.wrap ((s.upto 1 18446744073709551615).2 : Int) = ((s.upto 1 18446744073709551615).2 : Int) := by rw [IntKind.wrap_i64]; omega
 have G := Lib.hid (get_any gi s 1 B W hi)
 have HL := Lib.hid hl
 have hgi := hi.lt
 clear hi hl
 generalize s.upto 1 18446744073709551615 = r at *
 go_enter Tryz.func260, Tryz.ntmps260
 go_wp2_with (fail)
 refine G.out.mono ?_
 rintro e w2 ⟨rfl, h1, h2⟩
 have hl2 := h2.blk HL.out (by unfold isG; omega)
 have c0 := (hl2.cell 12).trans (show _ = some (.int .i64 l.cd) from rfl)
 have f0 := hl2.frozen 12
 have H1 := Lib.hid h1
 have H2 := Lib.hid h2
 have HL2 := Lib.hid hl2
 clear h1 h2 hl2 G
 go_wp2_with (fail)
 go_end0
 exact ⟨rfl, H1.out.far hB _ _, HL2.out.set_ 12 _, (H2.out.sub (fun _ h => Or.inl h)).trans ((chg_set0 _ gl _ 12).sub (fun _ h => Or.inr h)) (fun _ _ h => h)⟩
theorem put8_any (l : Lt) (hf : 0 ≤ l.ky ∧ l.ky < 4294967296) (g : Nat) (v : Value) (bs : List Int) (W : World) (ho : OutAt W g v ⟨bs, 16384, 0⟩) (hl : bs.length + 4 ≤ 16384) :
  Calls Tryz.prog 261 #[.pointer (some ⟨g, 0, none⟩), l.agg] W (PutP g v bs (big l.ky.toNat 4) W) := by
 obtain ⟨W0, hW0⟩ : ∃ W0, W0 = W.alloc (.cells #[.int .i64 l.kd, .int .i64 l.fr, .int .i64 l.tw, .int .i64 l.ch, .int .u64 l.ep, .int .u64 l.bl, .int .u64 l.nu, .int .u64 l.sq, .int .u64 l.dz, .int .u64 l.vr, .int .i64 l.sl, .int .u32 l.ky, .int .i64 l.cd, .int .i64 l.qk, .int .i64 l.qc, .int .u64 l.qe, .int .i64 l.qn, .int .i64 l.fc, .int .u64 l.fe, .slice l.fA l.fn l.fp, .bool l.ff, .int .i64 l.fj, .slice l.vA l.vn l.vp, .slice l.uA l.un l.up, .slice l.dA l.dn l.dp] 37) := ⟨_, rfl⟩
 have hb0 : Below W.heap.size W W0 := by rw [hW0]; exact (Below.refl _ _).alloc (Nat.le_refl _) _
 have hbk : Blk W0 W.heap.size 37 l.cells := by rw [hW0]; exact Blk.new _ _ _
 have x1 : W0.cell? ⟨W.heap.size, 11, none⟩ = some (.int .u32 l.ky) := hbk.cell 11
 have hll := hbk.lt
 have cz : IntKind.u64.wrap l.ky = l.ky := u64_keep (by omega)
 have PC := Lib.hid (putNum_ok g v bs 16384 l.ky l.ky.toNat 4 (by omega) W0 (by omega) (by omega) (by omega) (ho.below hb0) (by omega) (by omega))
 have HB := Lib.hid hb0
 have HW := Lib.hid hW0
 clear ho hb0 hbk hW0
 show Calls Tryz.prog 261 #[.pointer (some ⟨g, 0, none⟩), .agg #[.int .i64 l.kd, .int .i64 l.fr, .int .i64 l.tw, .int .i64 l.ch, .int .u64 l.ep, .int .u64 l.bl, .int .u64 l.nu, .int .u64 l.sq, .int .u64 l.dz, .int .u64 l.vr, .int .i64 l.sl, .int .u32 l.ky, .int .i64 l.cd, .int .i64 l.qk, .int .i64 l.qc, .int .u64 l.qe, .int .i64 l.qn, .int .i64 l.fc, .int .u64 l.fe, .slice l.fA l.fn l.fp, .bool l.ff, .int .i64 l.fj, .slice l.vA l.vn l.vp, .slice l.uA l.un l.up, .slice l.dA l.dn l.dp]] W _
 go_enter Tryz.func261, Tryz.ntmps261
 go_upto_region 1 with (fail)
 rw [← HW.out]
 go_wp2_with (fail)
 refine PC.out.mono ?_
 exact rp23
theorem get8_any (l : Lt) (gi gl B : Nat) (s : FI) (W : World) (hi : InAt W gi B s) (hl : Blk W gl 37 l.cells) (hB : B ≤ gl) :
  Calls Tryz.prog 262 #[.pointer (some ⟨gi, 0, none⟩), .pointer (some ⟨gl, 0, none⟩)] W (GetP gi gl B (s.upto 4 18446744073709551615).1 { l with ky := ((s.upto 4 18446744073709551615).2 : Int) } W) := by
 have hlt : (s.upto 4 18446744073709551615).2 < 256 ^ 4 := FI.upto_lt s 4 _ hi.bytes
 have cz : IntKind.u32.wrap ((s.upto 4 18446744073709551615).2 : Int) = ((s.upto 4 18446744073709551615).2 : Int) := by rw [IntKind.wrap_u32]; omega
 have G := Lib.hid (get_any gi s 4 B W hi)
 have HL := Lib.hid hl
 have hgi := hi.lt
 clear hi hl
 generalize s.upto 4 18446744073709551615 = r at *
 go_enter Tryz.func262, Tryz.ntmps262
 go_wp2_with (fail)
 refine G.out.mono ?_
 rintro e w2 ⟨rfl, h1, h2⟩
 have hl2 := h2.blk HL.out (by unfold isG; omega)
 have c0 := (hl2.cell 11).trans (show _ = some (.int .u32 l.ky) from rfl)
 have f0 := hl2.frozen 11
 have H1 := Lib.hid h1
 have H2 := Lib.hid h2
 have HL2 := Lib.hid hl2
 clear h1 h2 hl2 G
 go_wp2_with (fail)
 go_end0
 exact ⟨rfl, H1.out.far hB _ _, HL2.out.set_ 11 _, (H2.out.sub (fun _ h => Or.inl h)).trans ((chg_set0 _ gl _ 11).sub (fun _ h => Or.inr h)) (fun _ _ h => h)⟩
end Go.Proofs.YtmpedblelnpjdaaGreatDoor
/- Letters with their lists: as data, in memory, as values. -/
namespace Go.Proofs.YtmpedblelnpjdaaGreatDoor
open Go.RowKit
set_option linter.unusedSimpArgs false
set_option linter.unusedVariables false
set_option maxHeartbeats 2000000
set_option maxRecDepth 100000
structure Vt where
 sl : Int
 bl : Int
 qk : Int
 qc : Int
 qe : Int
 qn : Int
def Vt.row (v : Vt) : List Value := [.int .i64 v.sl, .int .u64 v.bl, .int .i64 v.qk, .int .i64 v.qc, .int .u64 v.qe, .int .i64 v.qn]
def Vt.agg (v : Vt) : Value := .agg #[.int .i64 v.sl, .int .u64 v.bl, .int .i64 v.qk, .int .i64 v.qc, .int .u64 v.qe, .int .i64 v.qn]
def Vt.cells (v : Vt) : Array Value := #[.int .i64 v.sl, .int .u64 v.bl, .int .i64 v.qk, .int .i64 v.qc, .int .u64 v.qe, .int .i64 v.qn]
instance : DecidableEq Vt := fun a b => decidable_of_iff (a.sl = b.sl ∧ a.bl = b.bl ∧ a.qk = b.qk ∧ a.qc = b.qc ∧ a.qe = b.qe ∧ a.qn = b.qn) ⟨fun h => by cases a; cases b; simp_all, fun h => by subst h; simp⟩
theorem Vt.row_len (v : Vt) : v.row.length = 6 := rfl
structure Vt.wf (v : Vt) : Prop where
 sl : -9223372036854775808 ≤ v.sl ∧ v.sl ≤ 9223372036854775807
 bl : 0 ≤ v.bl ∧ v.bl ≤ 18446744073709551615
 qk : -9223372036854775808 ≤ v.qk ∧ v.qk ≤ 9223372036854775807
 qc : -9223372036854775808 ≤ v.qc ∧ v.qc ≤ 9223372036854775807
 qe : 0 ≤ v.qe ∧ v.qe ≤ 18446744073709551615
 qn : -9223372036854775808 ≤ v.qn ∧ v.qn ≤ 9223372036854775807
structure LV where
 l : Lt
 ns : List Int
 vs : List Vt
 us : List Up
 ds : List Int
structure LVal where
 kd : Int
 fr : Int
 tw : Int
 ch : Int
 ep : Int
 bl : Int
 nu : Int
 sq : Int
 dz : Int
 vr : Int
 sl : Int
 ky : Int
 cd : Int
 qk : Int
 qc : Int
 qe : Int
 qn : Int
 fc : Int
 fe : Int
 ff : Bool
 fj : Int
 ns : List Int
 vs : List Vt
 us : List (Int × Int × Int × Int × Int × Int × List Int)
 ds : List Int
noncomputable instance : DecidableEq LVal := fun a b => Classical.propDecidable _
def LV.val (x : LV) : LVal := ⟨x.l.kd, x.l.fr, x.l.tw, x.l.ch, x.l.ep, x.l.bl, x.l.nu, x.l.sq, x.l.dz, x.l.vr, x.l.sl, x.l.ky, x.l.cd, x.l.qk, x.l.qc, x.l.qe, x.l.qn, x.l.fc, x.l.fe, x.l.ff, x.l.fj, x.ns, x.vs, x.us.map Up.val, x.ds⟩
structure LWf (l : Lt) : Prop where
 kd : -9223372036854775808 ≤ l.kd ∧ l.kd ≤ 9223372036854775807
 fr : -9223372036854775808 ≤ l.fr ∧ l.fr ≤ 9223372036854775807
 tw : -9223372036854775808 ≤ l.tw ∧ l.tw ≤ 9223372036854775807
 ch : -9223372036854775808 ≤ l.ch ∧ l.ch ≤ 9223372036854775807
 ep : 0 ≤ l.ep ∧ l.ep ≤ 18446744073709551615
 bl : 0 ≤ l.bl ∧ l.bl ≤ 18446744073709551615
 nu : 0 ≤ l.nu ∧ l.nu ≤ 18446744073709551615
 sq : 0 ≤ l.sq ∧ l.sq ≤ 18446744073709551615
 dz : 0 ≤ l.dz ∧ l.dz ≤ 18446744073709551615
 vr : 0 ≤ l.vr ∧ l.vr ≤ 18446744073709551615
 sl : -9223372036854775808 ≤ l.sl ∧ l.sl ≤ 9223372036854775807
 ky : 0 ≤ l.ky ∧ l.ky ≤ 4294967295
 cd : -9223372036854775808 ≤ l.cd ∧ l.cd ≤ 9223372036854775807
 qk : -9223372036854775808 ≤ l.qk ∧ l.qk ≤ 9223372036854775807
 qc : -9223372036854775808 ≤ l.qc ∧ l.qc ≤ 9223372036854775807
 qe : 0 ≤ l.qe ∧ l.qe ≤ 18446744073709551615
 qn : -9223372036854775808 ≤ l.qn ∧ l.qn ≤ 9223372036854775807
 fc : -9223372036854775808 ≤ l.fc ∧ l.fc ≤ 9223372036854775807
 fe : 0 ≤ l.fe ∧ l.fe ≤ 18446744073709551615
 fj : -9223372036854775808 ≤ l.fj ∧ l.fj ≤ 9223372036854775807
structure LIn (w : World) (B : Nat) (x : LV) : Prop where
 nd : Reads w B 1 x.l.fA x.l.fn (x.ns.map (Value.int .i64))
 vt : Reads w B 6 x.l.vA x.l.vn (x.vs.flatMap Vt.row)
 up : UpsIn w B x.l.uA x.l.un x.us
 da : Reads w B 1 x.l.dA x.l.dn (x.ds.map (Value.int .u8))
 by_ : bytesB x.ds
 wf : LWf x.l
 vw : ∀ v ∈ x.vs, v.wf
 nw : ∀ z ∈ x.ns, -9223372036854775808 ≤ z ∧ z ≤ 9223372036854775807
 cf : x.l.fn ≤ x.l.fp ∧ x.l.fp ≤ maxLen
 cv : x.l.vn ≤ x.l.vp ∧ x.l.vp ≤ maxLen
 cu : x.l.un ≤ x.l.up ∧ x.l.up ≤ maxLen
 cd : x.l.dn ≤ x.l.dp ∧ x.l.dp ≤ maxLen
theorem LIn.below {w w' : World} {B : Nat} {x : LV} (h : LIn w B x) (hb : Below B w w') : LIn w' B x :=
 ⟨h.nd.below hb, h.vt.below hb, h.up.below hb, h.da.below hb, h.by_, h.wf, h.vw, h.nw, h.cf, h.cv, h.cu, h.cd⟩
theorem LIn.more {w : World} {B B' : Nat} {x : LV} (h : LIn w B x) (hb : B ≤ B') : LIn w B' x :=
 ⟨h.nd.more hb, h.vt.more hb, h.up.more hb, h.da.more hb, h.by_, h.wf, h.vw, h.nw, h.cf, h.cv, h.cu, h.cd⟩
theorem LIn.nl {w : World} {B : Nat} {x : LV} (h : LIn w B x) : x.ns.length = x.l.fn := by have := h.nd.1; simpa using this
theorem LIn.dl {w : World} {B : Nat} {x : LV} (h : LIn w B x) : x.ds.length = x.l.dn := by have := h.da.1; simpa using this
theorem LIn.vl {w : World} {B : Nat} {x : LV} (h : LIn w B x) : x.vs.length = x.l.vn := flat_len Vt.row Vt.row_len (by omega) h.vt
theorem LIn.ul {w : World} {B : Nat} {x : LV} (h : LIn w B x) : x.us.length = x.l.un := h.up.len
structure LV.near (x : LV) : Prop where
 us : ∀ u ∈ x.us, u.n ≤ 1000000
 ul : x.l.un ≤ 1000000
 vl : x.l.vn ≤ 1000000
 dl : x.l.dn ≤ 1000000
 nl : x.l.fn ≤ 1000000
instance upvDec : DecidableEq (Int × Int × Int × Int × Int × Int × List Int) := fun a b => inferInstance
instance upvsDec : DecidableEq (List (Int × Int × Int × Int × Int × Int × List Int)) := fun a b => @instDecidableEqList _ upvDec a b
def Up7 (w : World) (b o : Nat) (u : Up) : Prop := w.cell? ⟨b, o, none⟩ = some (.int .u64 u.seq) ∧ w.cell? ⟨b, o + 1, none⟩ = some (.int .i64 u.cl) ∧ w.cell? ⟨b, o + 2, none⟩ = some (.int .u64 u.num) ∧ w.cell? ⟨b, o + 3, none⟩ = some (.int .i64 u.kd) ∧ w.cell? ⟨b, o + 4, none⟩ = some (.int .u32 u.key) ∧ w.cell? ⟨b, o + 5, none⟩ = some (.int .u64 u.ver) ∧ w.cell? ⟨b, o + 6, none⟩ = some (.slice u.A u.n u.c)
theorem up7_below {w w' : World} {b o : Nat} {u : Up} (hb : b < w.heap.size) (h2 : Below w.heap.size w w') (c : Up7 w b o u) : Up7 w' b o u := by
 obtain ⟨c0, c1, c2, c3, c4, c5, c6⟩ := c
 exact ⟨(h2.cell hb).trans c0, (h2.cell hb).trans c1, (h2.cell hb).trans c2, (h2.cell hb).trans c3, (h2.cell hb).trans c4, (h2.cell hb).trans c5, (h2.cell hb).trans c6⟩
theorem natB_inj {x y : List Int} (hx : bytesB x) (hy : bytesB y) (h : x.map Int.toNat = y.map Int.toNat) : x = y := by
 induction x generalizing y with
 | nil => cases y with
  | nil => rfl
  | cons b y => cases h
 | cons a x ih => cases y with
  | nil => cases h
  | cons b y =>
   simp only [List.map_cons, List.cons.injEq] at h
   have h1 := hx a (by simp)
   have h2 := hy b (by simp)
   rw [ih (fun z hz => hx z (List.mem_cons_of_mem _ hz)) (fun z hz => hy z (List.mem_cons_of_mem _ hz)) h.2, show a = b by omega]
theorem bI_toNat (l : List Int) (h : bytesB l) : bI (l.map Int.toNat) = l := by
 unfold bI
 rw [List.map_map]
 conv => rhs; rw [← List.map_id l]
 refine List.map_congr_left (fun z hz => ?_)
 have := h z hz
 simp only [Function.comp_apply, id_eq]
 omega
theorem toNat_bs (l : List Int) (h : bytesB l) : isBs (l.map Int.toNat) := by
 intro b hb
 obtain ⟨z, hz, rfl⟩ := List.mem_map.1 hb
 have := h z hz
 omega
theorem bytesEqI_any (A C : Option Addr) (n m c d B D : Nat) (x y : List Int) (w : World) (hx : Reads w B 1 A n (x.map (Value.int .u8))) (hy : Reads w D 1 C m (y.map (Value.int .u8))) (bx : bytesB x) (by' : bytesB y) :
  Calls Tryz.prog 206 #[.slice A n c, .slice C m d] w fun e w' => e = .returned (.bool (decide (x = y))) ∧ w = w' := by
 have h := bytesEqual_any A C n m c d B D (x.map Int.toNat) (y.map Int.toNat) w (by rw [bI_toNat x bx]; exact hx) (by rw [bI_toNat y by']; exact hy) (toNat_bs x bx) (toNat_bs y by')
 have e : decide (x.map Int.toNat = y.map Int.toNat) = decide (x = y) := decide_eq_decide.2 ⟨natB_inj bx by', fun h => by rw [h]⟩
 rw [e] at h
 exact h
end Go.Proofs.YtmpedblelnpjdaaGreatDoor
