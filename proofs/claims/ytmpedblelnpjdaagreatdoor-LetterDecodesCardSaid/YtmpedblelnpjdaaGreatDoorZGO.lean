/- GO: CdQ CdR CdT CdW CdX -/
import Derived.Test.YtmpedblelnpjdaaGreatDoorZGN
import Derived.Test.YtmpedblelnpjdaaGreatDoorZTq
import Derived.Test.YtmpedblelnpjdaaGreatDoorZGM
/- A letter's command and data: put and read. -/
namespace Go.Proofs.YtmpedblelnpjdaaGreatDoor
open Go.RowKit
set_option linter.unusedSimpArgs false
set_option linter.unusedVariables false
set_option maxHeartbeats 8000000
set_option maxRecDepth 100000
theorem put10_any (x : LV) (hok : cmdE x.l.qk x.l.qc x.l.qe x.l.qn = 0) (he : 0 ≤ x.l.qe ∧ x.l.qe < 18446744073709551616) (g : Nat) (v : Value) (bs : List Int) (W : World) (ho : OutAt W g v ⟨bs, 16384, 0⟩) (hl : bs.length + 11 ≤ 16384) :
  Calls Tryz.prog 265 #[.pointer (some ⟨g, 0, none⟩), x.l.agg] W (PutP g v bs (cmdB x.l.qk x.l.qc x.l.qe x.l.qn) W) := by
 obtain ⟨W0, hW0, hb0, hbk⟩ := box_all x W
 have l1 := hbk.lt
 have x0 := (hbk.cell 13).trans (show _ = some (.int .i64 x.l.qk) from rfl)
 have x1 := (hbk.cell 14).trans (show _ = some (.int .i64 x.l.qc) from rfl)
 have x2 := (hbk.cell 15).trans (show _ = some (.int .u64 x.l.qe) from rfl)
 have x3 := (hbk.cell 16).trans (show _ = some (.int .i64 x.l.qn) from rfl)
 have C := Lib.hid (cmdsPut_ok x.l.qk x.l.qc x.l.qe x.l.qn hok he g v bs W0 (ho.below hb0) hl)
 have HB := Lib.hid hb0
 have HW := Lib.hid hW0
 clear hb0 hW0 hbk ho hok he
 generalize cmdB x.l.qk x.l.qc x.l.qe x.l.qn = pb at *
 show Calls Tryz.prog 265 #[.pointer (some ⟨g, 0, none⟩), .agg #[.int .i64 x.l.kd, .int .i64 x.l.fr, .int .i64 x.l.tw, .int .i64 x.l.ch, .int .u64 x.l.ep, .int .u64 x.l.bl, .int .u64 x.l.nu, .int .u64 x.l.sq, .int .u64 x.l.dz, .int .u64 x.l.vr, .int .i64 x.l.sl, .int .u32 x.l.ky, .int .i64 x.l.cd, .int .i64 x.l.qk, .int .i64 x.l.qc, .int .u64 x.l.qe, .int .i64 x.l.qn, .int .i64 x.l.fc, .int .u64 x.l.fe, .slice x.l.fA x.l.fn x.l.fp, .bool x.l.ff, .int .i64 x.l.fj, .slice x.l.vA x.l.vn x.l.vp, .slice x.l.uA x.l.un x.l.up, .slice x.l.dA x.l.dn x.l.dp]] W _
 go_enter Tryz.func265, Tryz.ntmps265
 exact rp79
theorem put14_any (x : LV) (B : Nat) (g : Nat) (v : Value) (bs : List Int) (W : World) (h : LIn W B x) (hB : B ≤ W.heap.size) (hd : x.l.dn ≤ 2048) (ho : OutAt W g v ⟨bs, 16384, 0⟩) (hl : bs.length + (2 + x.ds.length) ≤ 16384) :
  Calls Tryz.prog 281 #[.pointer (some ⟨g, 0, none⟩), x.l.agg] W (PutP g v bs (big x.ds.length 2 ++ x.ds) W) := by
 obtain ⟨W0, hW0, hb0, hbk⟩ := box_all x W
 have l1 := hbk.lt
 have x0 := (hbk.cell 24).trans (show _ = some (.slice x.l.dA x.l.dn x.l.dp) from rfl)
 have hdl := h.dl
 have C := Lib.hid (text_ok g v bs 16384 x.l.dA x.l.dn x.l.dp B x.ds W0 (ho.below hb0) (Nat.le_trans hB hb0.size) (h.da.below (hb0.mono hB)) hdl.symm (by omega) (by omega) (by omega))
 have HB := Lib.hid hb0
 have HW := Lib.hid hW0
 clear hb0 hW0 hbk ho h
 generalize big x.ds.length 2 ++ x.ds = pb at *
 show Calls Tryz.prog 281 #[.pointer (some ⟨g, 0, none⟩), .agg #[.int .i64 x.l.kd, .int .i64 x.l.fr, .int .i64 x.l.tw, .int .i64 x.l.ch, .int .u64 x.l.ep, .int .u64 x.l.bl, .int .u64 x.l.nu, .int .u64 x.l.sq, .int .u64 x.l.dz, .int .u64 x.l.vr, .int .i64 x.l.sl, .int .u32 x.l.ky, .int .i64 x.l.cd, .int .i64 x.l.qk, .int .i64 x.l.qc, .int .u64 x.l.qe, .int .i64 x.l.qn, .int .i64 x.l.fc, .int .u64 x.l.fe, .slice x.l.fA x.l.fn x.l.fp, .bool x.l.ff, .int .i64 x.l.fj, .slice x.l.vA x.l.vn x.l.vp, .slice x.l.uA x.l.un x.l.up, .slice x.l.dA x.l.dn x.l.dp]] W _
 go_enter Tryz.func281, Tryz.ntmps281
 exact rp79
theorem cells_cmd {W : World} {gl : Nat} {l : Lt} (h : Blk W gl 37 l.cells) (a b c d : Int) : Blk ((((W.setCell ⟨gl, 13, none⟩ (.int .i64 a)).setCell ⟨gl, 14, none⟩ (.int .i64 b)).setCell ⟨gl, 15, none⟩ (.int .u64 c)).setCell ⟨gl, 16, none⟩ (.int .i64 d)) gl 37 (Lt.cells { l with qk := a, qc := b, qe := c, qn := d }) :=
 (((h.set_ 13 _).set_ 14 _).set_ 15 _).set_ 16 _
theorem chg_cmd (W : World) (gl : Nat) (a b c d : Value) : Chg W ((((W.setCell ⟨gl, 13, none⟩ a).setCell ⟨gl, 14, none⟩ b).setCell ⟨gl, 15, none⟩ c).setCell ⟨gl, 16, none⟩ d) (isG gl) :=
 (((chg_set0 W gl a 13).trans (chg_set0 _ gl b 14) (fun _ _ x => x)).trans (chg_set0 _ gl c 15) (fun _ _ x => x)).trans (chg_set0 _ gl d 16) (fun _ _ x => x)
def st10 (s : FI) (v : LVal) : FI × LVal := (if cmdGe s ≠ 0 then wrongF (s.raw 11).1 else (s.raw 11).1, { v with qk := (cmdGv s).k, qc := (cmdGv s).c, qe := (cmdGv s).e, qn := (cmdGv s).n })
def st14 (s : FI) (v : LVal) : FI × LVal := ((s.text (roomV v.kd)).1, { v with ds := (s.text (roomV v.kd)).2 })
theorem get10_any (x : LV) (gi gl B : Nat) (s : FI) (W : World) (hi : InAt W gi B s) (h : LAt W gl x) (hB : B ≤ gl) (hl : s.l.length ≤ 1000000) :
  Calls Tryz.prog 267 #[.pointer (some ⟨gi, 0, none⟩), .pointer (some ⟨gl, 0, none⟩)] W fun e W' => e = .returned (.tuple #[]) ∧ InAt W' gi B (st10 s x.val).1 ∧ Blk W' gl 37 (Lt.cells { x.l with qk := (cmdGv s).k, qc := (cmdGv s).c, qe := (cmdGv s).e, qn := (cmdGv s).n }) ∧ Chg W W' (fun k => k = gi ∨ k = gl) := by
 have C := Lib.hid (cmdsGet_any gi B s W hi hl)
 have HB := Lib.hid h.blk
 have hgi := hi.lt
 have hrl : (s.raw 11).1.l.length ≤ 1000000 := by
  unfold FI.raw
  rw [if_neg (by omega)]
  exact Nat.le_trans (FI.next_short1 _ _) hl
 have HRL := Lib.hid hrl
 have HST : Hid ((st10 s x.val).1 = if cmdGe s ≠ 0 then wrongF (s.raw 11).1 else (s.raw 11).1) := Lib.hid rfl
 have hgl := h.blk.lt
 unfold CmG at C
 clear hi h hrl
 generalize (st10 s x.val).1 = st at *
 generalize cmdGv s = q at *
 generalize cmdGe s = er at *
 generalize (s.raw 11).1 = s1 at *
 obtain ⟨qk, qc, qe, qn⟩ := q
 simp only [Cm.agg] at C
 go_enter Tryz.func267, Tryz.ntmps267
 go_wp2_with (fail)
 refine C.out.mono ?_
 rintro e w1 ⟨rfl, i1, q1⟩
 have B1 := Lib.hid (q1.blk HB.out (by unfold isG; omega))
 have I1 := Lib.hid i1
 have C1 := Lib.hid (q1.sub (T := fun k => k = gi ∨ k = gl) (fun _ h => Or.inl h))
 have hs1 := q1.size
 clear i1 q1 C HB
 go_upto_region 1 with (fail)
 obtain ⟨W2, hW2⟩ : ∃ W2, W2 = w1.alloc (.cells #[.int .i64 qk, .int .i64 qc, .int .u64 qe, .int .i64 qn] 30) := ⟨_, rfl⟩
 rw [← hW2]
 have h12 : Below w1.heap.size w1 W2 := by rw [hW2]; exact (Below.refl _ _).alloc (Nat.le_refl _) _
 have X2 : Hid (Blk W2 w1.heap.size 30 #[.int .i64 qk, .int .i64 qc, .int .u64 qe, .int .i64 qn]) := Lib.hid (by rw [hW2]; exact Blk.new _ _ _)
 have B2 := Lib.hid (B1.out.below h12 B1.out.lt)
 have I2 := Lib.hid (I1.out.below (h12.mono I1.out.le))
 have C2 := Lib.hid (C1.out.trans (Chg.of_below h12 _) (fun _ _ h => h))
 have lx := X2.out.lt
 have hng : ¬ isG gi w1.heap.size := by unfold isG; omega
 have hnl : gl ≠ w1.heap.size := by omega
 clear hW2 h12 B1 I1 C1
 generalize w1.heap.size = gx at *
 by_cases he : er = 0
 ·subst he
  have HS : Hid (st = s1) := Lib.hid (by rw [HST.out]; simp)
  obtain ⟨x0, x1, x2, x3⟩ := cells4 X2.out
  have c13 := (B2.out.cell 13).trans (show _ = some (.int .i64 x.l.qk) from rfl)
  have c14 := (B2.out.cell 14).trans (show _ = some (.int .i64 x.l.qc) from rfl)
  have c15 := (B2.out.cell 15).trans (show _ = some (.int .u64 x.l.qe) from rfl)
  have c16 := (B2.out.cell 16).trans (show _ = some (.int .i64 x.l.qn) from rfl)
  have f13 := B2.out.frozen 13
  have f14 := B2.out.frozen 14
  have f15 := B2.out.frozen 15
  have f16 := B2.out.frozen 16
  have lb := B2.out.lt
  clear HST
  go_wp2_with (fail)
  go_end0
  rw [HS.out]
  exact ⟨rfl, I2.out.below ((chg_cmd W2 gl _ _ _ _).below I2.out.le (fun k hk e => by simp only [isG] at e; omega)), cells_cmd B2.out _ _ _ _, C2.out.trans ((chg_cmd W2 gl _ _ _ _).sub (fun _ h => Or.inr h)) (fun _ _ h => h)⟩
 ·have heb : (er != 0) = true := by simpa using he
  have HS : Hid (st = wrongF s1) := Lib.hid (by rw [HST.out, if_pos he])
  have WR := Lib.hid (wrong_any gi s1 B W2 I2.out HRL.out)
  clear HST he
  go_wp2_with (fail)
  refine WR.out.mono ?_
  rintro e w3 ⟨rfl, i3, q3⟩
  have X3 := Lib.hid (q3.blk X2.out hng)
  have B3 := Lib.hid (q3.blk B2.out (by unfold isG; omega))
  have I3 := Lib.hid i3
  have C3 := Lib.hid (C2.out.trans (q3.sub (T := fun k => k = gi ∨ k = gl) (fun _ h => Or.inl h)) (fun _ _ h => h))
  clear i3 q3 X2 B2 I2 C2 WR
  obtain ⟨x0, x1, x2, x3⟩ := cells4 X3.out
  have c13 := (B3.out.cell 13).trans (show _ = some (.int .i64 x.l.qk) from rfl)
  have c14 := (B3.out.cell 14).trans (show _ = some (.int .i64 x.l.qc) from rfl)
  have c15 := (B3.out.cell 15).trans (show _ = some (.int .u64 x.l.qe) from rfl)
  have c16 := (B3.out.cell 16).trans (show _ = some (.int .i64 x.l.qn) from rfl)
  have f13 := B3.out.frozen 13
  have f14 := B3.out.frozen 14
  have f15 := B3.out.frozen 15
  have f16 := B3.out.frozen 16
  have lb := B3.out.lt
  have lx3 := X3.out.lt
  go_wp2_with (fail)
  go_end0
  rw [HS.out]
  exact ⟨rfl, I3.out.below ((chg_cmd w3 gl _ _ _ _).below I3.out.le (fun k hk e => by simp only [isG] at e; omega)), cells_cmd B3.out _ _ _ _, C3.out.trans ((chg_cmd w3 gl _ _ _ _).sub (fun _ h => Or.inr h)) (fun _ _ h => h)⟩
theorem get14_any (x : LV) (gi gl B : Nat) (s : FI) (W : World) (hi : InAt W gi B s) (h : LAt W gl x) (hB : B ≤ gl) (hl : s.l.length ≤ 1000000) :
  Calls Tryz.prog 282 #[.pointer (some ⟨gi, 0, none⟩), .pointer (some ⟨gl, 0, none⟩)] W fun e W' => e = .returned (.tuple #[]) ∧ ∃ (A : Option Addr) (c : Nat), InAt W' gi B (s.text (roomV x.l.kd)).1 ∧ Blk W' gl 37 (Lt.cells { x.l with dA := A, dn := (s.text (roomV x.l.kd)).2.length, dp := c }) ∧ Chg W W' (fun k => k = gi ∨ k = gl) ∧ W'.ownsRow W.heap.size 5 1 (.slice A (s.text (roomV x.l.kd)).2.length c) (s.text (roomV x.l.kd)).2.length ((s.text (roomV x.l.kd)).2.map (Value.int .u8)) := by
 have HB := Lib.hid h.blk
 have hgi := hi.lt
 have hgl := h.blk.lt
 have RM := Lib.hid (room_any x.l W)
 have T := Lib.hid (fun X (h9 : Below W.heap.size W X) => textInO_any gi s (roomV x.l.kd) B X (hi.below (h9.mono hi.le)) (by omega))
 have hiB := hi.le
 clear hi h
 generalize roomV x.l.kd = rm at *
 generalize s.text rm = tt at *
 go_enter Tryz.func282, Tryz.ntmps282
 go_upto_region 0 with (fail)
 iterate 14 go_step
 refine wpList_load_row rfl 37 (.tmp 7) rfl gl rfl 37 x.l.cells (0, 0) _ HB.out Tryz.underlying37 rfl ltInfo ?_
 go_wp2_with (fail)
 refine RM.out.mono ?_
 rintro e w1 ⟨rfl, h1⟩
 have H1 := Lib.hid h1
 clear h1
 go_wp2_with (fail)
 refine (T.out _ H1.out).mono ?_
 rintro e w2 ⟨A, c, rfl, i2, q2, o2⟩
 have hs1 := H1.out.size
 have B2 := Lib.hid (q2.blk (HB.out.below H1.out hgl) (by unfold isG; omega))
 have I2 := Lib.hid i2
 have O2 := Lib.hid (Go.Joins.ownsRow_le o2 hs1)
 have C2 := Lib.hid ((Chg.of_below H1.out (fun k => k = gi ∨ k = gl)).trans (q2.sub (T := fun k => k = gi ∨ k = gl) (fun _ h => Or.inl h)) (fun _ _ h => h))
 have hlo : ∀ k, (Value.slice A tt.2.length c).ownBlock = some k → W.heap.size ≤ k := fun k hk => (O2.out.lt k hk).1
 have HLO := Lib.hid hlo
 have c24 := (B2.out.cell 24).trans (show _ = some (.slice x.l.dA x.l.dn x.l.dp) from rfl)
 have f24 := B2.out.frozen 24
 have lb := B2.out.lt
 clear i2 q2 o2 hlo T RM HB
 go_wp2_with (fail)
 go_end0
 refine ⟨rfl, A, c, I2.out.below ((chg_set0 w2 gl _ 24).below I2.out.le (fun k hk e => by simp only [isG] at e; omega)), B2.out.set_ 24 _, C2.out.trans ((chg_set0 w2 gl _ 24).sub (fun _ h => Or.inr h)) (fun _ _ h => h), ?_⟩
 exact (chg_set0 w2 gl _ 24).own O2.out (fun k hk e => by have := HLO.out k hk; simp only [isG] at e; omega)
end Go.Proofs.YtmpedblelnpjdaaGreatDoor
/- A letter's updates: put. PutC, GetC of command and data. -/
namespace Go.Proofs.YtmpedblelnpjdaaGreatDoor
open Go.RowKit
set_option linter.unusedSimpArgs false
set_option linter.unusedVariables false
set_option maxHeartbeats 4000000
set_option maxRecDepth 100000
theorem putC10 (x : LV) (hok : cmdE x.l.qk x.l.qc x.l.qe x.l.qn = 0) (he : 0 ≤ x.l.qe ∧ x.l.qe < 18446744073709551616) (B0 : Nat) (Good : World → Prop) : PutC B0 Good x.l.agg 10 (cmdB x.l.qk x.l.qc x.l.qe x.l.qn) := by
 intro p W0 hp
 obtain rfl := hp
 refine ⟨265, rfl, enters_of Tryz.func265 (by kernel_rfl) rfl, fun g v bs W hpm hg hB ho hl => ?_⟩
 exact put10_any x hok he g v bs W ho (by rw [cmdB_len] at hl; exact hl)
theorem putC14 (x : LV) (B : Nat) (hd : x.l.dn ≤ 2048) : PutC B (fun W => LIn W B x ∧ B ≤ W.heap.size) x.l.agg 14 (big x.ds.length 2 ++ x.ds) := by
 intro p W0 hp
 obtain rfl := hp
 refine ⟨281, rfl, enters_of Tryz.func281 (by kernel_rfl) rfl, fun g v bs W hpm hg hB ho hl => ?_⟩
 exact put14_any x B g v bs W hg.1 hg.2 hd ho (by simpa [List.length_append, big_len] using hl)
theorem getC10 (st : Nat → FI → LVal → FI × LVal) (hst : ∀ s v, st 10 s v = st10 s v) : GetC st 10 := by
 intro p W0 hp
 obtain rfl := hp
 refine ⟨267, rfl, enters_of Tryz.func267 (by kernel_rfl) rfl, fun gi gl B s x W hpm hi hB hl h _ => ?_⟩
 have hgl : gi < gl := Nat.lt_of_lt_of_le hi.lt hB
 have hq := cmdGv_wf s hi.bytes
 refine (get10_any x gi gl B s W hi h hB hl).mono ?_
 rintro e W' ⟨he, h1, h2, h3⟩
 have hown := h.own.chg h3 (fun k hk => by omega)
 have hw := h.own.wf
 rw [hst]
 exact ⟨he, ⟨{ x.l with qk := (cmdGv s).k, qc := (cmdGv s).c, qe := (cmdGv s).e, qn := (cmdGv s).n }, x.ns, x.vs, x.us, x.ds⟩, h1, ⟨h2, ⟨hown.nd, hown.vt, hown.up, hown.ub, hown.da, hown.by_, ⟨hw.kd, hw.fr, hw.tw, hw.ch, hw.ep, hw.bl, hw.nu, hw.sq, hw.dz, hw.vr, hw.sl, hw.ky, hw.cd, hq.k, hq.c, hq.e, hq.n, hw.fc, hw.fe, hw.fj⟩, hown.vw, hown.nw⟩, h.nil⟩, rfl, h3⟩
theorem getC14 (st : Nat → FI → LVal → FI × LVal) (hst : ∀ s v, st 14 s v = st14 s v) : GetC st 14 := by
 intro p W0 hp
 obtain rfl := hp
 refine ⟨282, rfl, enters_of Tryz.func282 (by kernel_rfl) rfl, fun gi gl B s x W hpm hi hB hl h _ => ?_⟩
 have hgl : gi < gl := Nat.lt_of_lt_of_le hi.lt hB
 have hby := hi.bytes
 have hlt := h.blk.lt
 refine (get14_any x gi gl B s W hi h hB hl).mono ?_
 rintro e W' ⟨he, A, c, h1, h2, h3, h4⟩
 have hown := h.own.chg h3 (fun k hk => by omega)
 have hw := h.own.wf
 rw [hst]
 exact ⟨he, ⟨{ x.l with dA := A, dn := (s.text (roomV x.l.kd)).2.length, dp := c }, x.ns, x.vs, x.us, (s.text (roomV x.l.kd)).2⟩, h1, ⟨h2, ⟨hown.nd, hown.vt, hown.up, hown.ub, Go.Joins.ownsRow_le h4 hlt, FI.text_bytes _ _ hby, ⟨hw.kd, hw.fr, hw.tw, hw.ch, hw.ep, hw.bl, hw.nu, hw.sq, hw.dz, hw.vr, hw.sl, hw.ky, hw.cd, hw.qk, hw.qc, hw.qe, hw.qn, hw.fc, hw.fe, hw.fj⟩, hown.vw, hown.nw⟩, h.nil⟩, rfl, h3⟩
attribute [local go_sem] Up.agg Up.cells
theorem putUpdateX_any (g : Nat) (v0 : Value) (u : Up) (l : List Int) (m : Int) (B : Nat) (w : World) (hu : UpIn w B u) (hBg : B ≤ g) (hp : u.put) (ho : OutAt w g v0 ⟨l, m, 0⟩) (hm : (l.length : Int) + 32 + u.n ≤ m) (hm2 : m ≤ 899999000) :
  Calls Tryz.prog 313 #[.pointer (some ⟨g, 0, none⟩), u.agg] w fun e w' => e = .returned (.tuple #[]) ∧ ∃ v', OutAt w' g v' ⟨l ++ upB u, m, 0⟩ ∧ OutStep w w' g v0 v' := by
 have hgl := ho.1.lt
 have f0 : IntKind.u64.wrap u.cl = u.cl := u64_keep (by have := hp.cl; omega)
 have f1 : IntKind.u64.wrap u.kd = u.kd := u64_keep (by have := hp.kd; omega)
 have f2 : IntKind.u64.wrap u.key = u.key := u64_keep (by have := hu.wf.key; omega)
 have hn := hu.len
 have HN := Lib.hid hn
 have hbl := hp.bs
 have HU := Lib.hid hu
 have HPU := Lib.hid hp
 have BX := Blk.new w 145 u.cells
 have d0 := (BX.cell 0).trans (show _ = some (Value.int .u64 u.seq) from rfl)
 have d1 := (BX.cell 1).trans (show _ = some (Value.int .i64 u.cl) from rfl)
 have d2 := (BX.cell 2).trans (show _ = some (Value.int .u64 u.num) from rfl)
 have d3 := (BX.cell 3).trans (show _ = some (Value.int .i64 u.kd) from rfl)
 have d4 := (BX.cell 4).trans (show _ = some (Value.int .u32 u.key) from rfl)
 have d5 := (BX.cell 5).trans (show _ = some (Value.int .u64 u.ver) from rfl)
 have d6 := (BX.cell 6).trans (show _ = some (Value.slice u.A u.n u.c) from rfl)
 have O0 := ho.below ((Below.refl w.heap.size w).alloc (Nat.le_refl _) (.cells u.cells 145))
 have F0 : Off w.heap.size (w.heap.size + 1) v0 := ho.off _
 have S0 : OutStep w (w.alloc (.cells u.cells 145)) g v0 v0 := OutStep.pre ((Below.refl w.heap.size w).alloc (Nat.le_refl _) _) (OutStep.refl _ _ _)
 have L0 : Below B w (w.alloc (.cells u.cells 145)) := (Below.refl B w).alloc (by omega) _
 have HP := Lib.hid (And.intro O0 (And.intro F0 (And.intro S0 (And.intro BX L0))))
 have hgr := hgl
 have z0 : w.heap.size + 1 ≤ (w.alloc (.cells u.cells 145)).heap.size := by simp
 clear O0 F0 S0 L0 BX ho hu hp
 show Calls Tryz.prog 313 #[.pointer (some ⟨g, 0, none⟩), .agg #[.int .u64 u.seq, .int .i64 u.cl, .int .u64 u.num, .int .i64 u.kd, .int .u32 u.key, .int .u64 u.ver, .slice u.A u.n u.c]] w _
 go_enter Tryz.func313, Tryz.ntmps313
 go_wp2_with (fail)
 refine (putNum_ok g v0 l m u.seq u.seq.toNat 8 (by have := HU.out.wf.seq; omega) _ (by omega) (by omega) (by have := HU.out.wf.seq; omega) HP.out.1 (by omega) (by omega)).mono ?_
 rintro e y1 ⟨rfl, u1, p1, s1⟩
 have z1 := s1.2.size; have B1 := s1.blk HP.out.2.2.2.1 hgr HP.out.2.1; have HP := Lib.hid (And.intro p1 (And.intro (s1.off HP.out.2.1 (by omega)) (And.intro (HP.out.2.2.1.trans s1) (And.intro B1 (HP.out.2.2.2.2.trans (s1.bel HP.out.1 hBg))))))
 clear d0
 replace d1 := (B1.cell 1).trans (show _ = some (Value.int .i64 u.cl) from rfl)
 replace d2 := (B1.cell 2).trans (show _ = some (Value.int .u64 u.num) from rfl)
 replace d3 := (B1.cell 3).trans (show _ = some (Value.int .i64 u.kd) from rfl)
 replace d4 := (B1.cell 4).trans (show _ = some (Value.int .u32 u.key) from rfl)
 replace d5 := (B1.cell 5).trans (show _ = some (Value.int .u64 u.ver) from rfl)
 replace d6 := (B1.cell 6).trans (show _ = some (Value.slice u.A u.n u.c) from rfl)
 clear p1 s1 B1
 go_wp2_with (fail)
 refine (putNum_ok g u1 (l ++ big u.seq.toNat 8) m u.cl u.cl.toNat 1 (by have := HPU.out.cl; omega) _ (by omega) (by omega) (by have := HPU.out.cl; omega) HP.out.1 (by simp only [List.length_append, big_len]; omega) (by simp only [List.length_append, big_len]; omega)).mono ?_
 rintro e y2 ⟨rfl, u2, p1, s1⟩
 have z1 := s1.2.size; have B1 := s1.blk HP.out.2.2.2.1 hgr HP.out.2.1; have HP := Lib.hid (And.intro p1 (And.intro (s1.off HP.out.2.1 (by omega)) (And.intro (HP.out.2.2.1.trans s1) (And.intro B1 (HP.out.2.2.2.2.trans (s1.bel HP.out.1 hBg))))))
 clear d1
 replace d2 := (B1.cell 2).trans (show _ = some (Value.int .u64 u.num) from rfl)
 replace d3 := (B1.cell 3).trans (show _ = some (Value.int .i64 u.kd) from rfl)
 replace d4 := (B1.cell 4).trans (show _ = some (Value.int .u32 u.key) from rfl)
 replace d5 := (B1.cell 5).trans (show _ = some (Value.int .u64 u.ver) from rfl)
 replace d6 := (B1.cell 6).trans (show _ = some (Value.slice u.A u.n u.c) from rfl)
 clear p1 s1 B1
 go_wp2_with (fail)
 refine (putNum_ok g u2 (l ++ big u.seq.toNat 8 ++ big u.cl.toNat 1) m u.num u.num.toNat 8 (by have := HU.out.wf.num; omega) _ (by omega) (by omega) (by have := HU.out.wf.num; omega) HP.out.1 (by simp only [List.length_append, big_len]; omega) (by simp only [List.length_append, big_len]; omega)).mono ?_
 rintro e y3 ⟨rfl, u3, p1, s1⟩
 have z1 := s1.2.size; have B1 := s1.blk HP.out.2.2.2.1 hgr HP.out.2.1; have HP := Lib.hid (And.intro p1 (And.intro (s1.off HP.out.2.1 (by omega)) (And.intro (HP.out.2.2.1.trans s1) (And.intro B1 (HP.out.2.2.2.2.trans (s1.bel HP.out.1 hBg))))))
 clear d2
 replace d3 := (B1.cell 3).trans (show _ = some (Value.int .i64 u.kd) from rfl)
 replace d4 := (B1.cell 4).trans (show _ = some (Value.int .u32 u.key) from rfl)
 replace d5 := (B1.cell 5).trans (show _ = some (Value.int .u64 u.ver) from rfl)
 replace d6 := (B1.cell 6).trans (show _ = some (Value.slice u.A u.n u.c) from rfl)
 clear p1 s1 B1
 go_wp2_with (fail)
 refine (putNum_ok g u3 (l ++ big u.seq.toNat 8 ++ big u.cl.toNat 1 ++ big u.num.toNat 8) m u.kd u.kd.toNat 1 (by have := HPU.out.kd; omega) _ (by omega) (by omega) (by have := HPU.out.kd; omega) HP.out.1 (by simp only [List.length_append, big_len]; omega) (by simp only [List.length_append, big_len]; omega)).mono ?_
 rintro e y4 ⟨rfl, u4, p1, s1⟩
 have z1 := s1.2.size; have B1 := s1.blk HP.out.2.2.2.1 hgr HP.out.2.1; have HP := Lib.hid (And.intro p1 (And.intro (s1.off HP.out.2.1 (by omega)) (And.intro (HP.out.2.2.1.trans s1) (And.intro B1 (HP.out.2.2.2.2.trans (s1.bel HP.out.1 hBg))))))
 clear d3
 replace d4 := (B1.cell 4).trans (show _ = some (Value.int .u32 u.key) from rfl)
 replace d5 := (B1.cell 5).trans (show _ = some (Value.int .u64 u.ver) from rfl)
 replace d6 := (B1.cell 6).trans (show _ = some (Value.slice u.A u.n u.c) from rfl)
 clear p1 s1 B1
 go_wp2_with (fail)
 refine (putNum_ok g u4 (l ++ big u.seq.toNat 8 ++ big u.cl.toNat 1 ++ big u.num.toNat 8 ++ big u.kd.toNat 1) m u.key u.key.toNat 4 (by have := HU.out.wf.key; omega) _ (by omega) (by omega) (by have := HU.out.wf.key; omega) HP.out.1 (by simp only [List.length_append, big_len]; omega) (by simp only [List.length_append, big_len]; omega)).mono ?_
 rintro e y5 ⟨rfl, u5, p1, s1⟩
 have z1 := s1.2.size; have B1 := s1.blk HP.out.2.2.2.1 hgr HP.out.2.1; have HP := Lib.hid (And.intro p1 (And.intro (s1.off HP.out.2.1 (by omega)) (And.intro (HP.out.2.2.1.trans s1) (And.intro B1 (HP.out.2.2.2.2.trans (s1.bel HP.out.1 hBg))))))
 clear d4
 replace d5 := (B1.cell 5).trans (show _ = some (Value.int .u64 u.ver) from rfl)
 replace d6 := (B1.cell 6).trans (show _ = some (Value.slice u.A u.n u.c) from rfl)
 clear p1 s1 B1
 go_wp2_with (fail)
 refine (putNum_ok g u5 (l ++ big u.seq.toNat 8 ++ big u.cl.toNat 1 ++ big u.num.toNat 8 ++ big u.kd.toNat 1 ++ big u.key.toNat 4) m u.ver u.ver.toNat 8 (by have := HU.out.wf.ver; omega) _ (by omega) (by omega) (by have := HU.out.wf.ver; omega) HP.out.1 (by simp only [List.length_append, big_len]; omega) (by simp only [List.length_append, big_len]; omega)).mono ?_
 rintro e y6 ⟨rfl, u6, p1, s1⟩
 have z1 := s1.2.size; have B1 := s1.blk HP.out.2.2.2.1 hgr HP.out.2.1; have HP := Lib.hid (And.intro p1 (And.intro (s1.off HP.out.2.1 (by omega)) (And.intro (HP.out.2.2.1.trans s1) (And.intro B1 (HP.out.2.2.2.2.trans (s1.bel HP.out.1 hBg))))))
 clear d5
 replace d6 := (B1.cell 6).trans (show _ = some (Value.slice u.A u.n u.c) from rfl)
 clear p1 s1 B1
 go_wp2_with (fail)
 refine (text_ok g u6 (l ++ big u.seq.toNat 8 ++ big u.cl.toNat 1 ++ big u.num.toNat 8 ++ big u.kd.toNat 1 ++ big u.key.toNat 4 ++ big u.ver.toNat 8) m u.A u.n u.c B u.bs _ HP.out.1 (by omega) (HU.out.rd.below HP.out.2.2.2.2) HN.out.symm (by simp only [List.length_append, big_len]; omega) (by omega) (by simp only [List.length_append, big_len]; omega)).mono ?_
 rintro e y7 ⟨rfl, u7, p1, s1⟩
 have H7 := Lib.hid p1
 have S7 := Lib.hid (HP.out.2.2.1.trans s1)
 clear p1 s1
 go_wp2_with (fail)
 go_end0
 refine ⟨rfl, u7, ?_, S7.out⟩
 have := H7.out
 simpa only [upB, List.append_assoc] using this
end Go.Proofs.YtmpedblelnpjdaaGreatDoor
/- A letter's updates: put. -/
namespace Go.Proofs.YtmpedblelnpjdaaGreatDoor
open Go.RowKit
set_option linter.unusedSimpArgs false
set_option linter.unusedVariables false
set_option maxHeartbeats 8000000
set_option maxRecDepth 100000
def updsPB (l : List Up) : List Int := big l.length 1 ++ l.flatMap upB
structure PuI (B : Nat) (l : List Up) (bs : List Int) (n : Nat) (W : World) (g : Nat) (v : Value) (j : Nat) (v' : Value) (wr : World) : Prop where
 out : OutAt wr g v' ⟨bs ++ big n 1 ++ (l.take j).flatMap upB, 16384, 0⟩
 st : OutStep W wr g v v'
 bel : Below B W wr
theorem flatUp_step (l : List Up) (j : Nat) (u : Up) (hu : l[j]? = some u) : ((l.take j).flatMap upB).length + (upB u).length ≤ (l.flatMap upB).length := by
 have h : l.flatMap upB = (l.take (j + 1)).flatMap upB ++ (l.drop (j + 1)).flatMap upB := by rw [← List.flatMap_append, List.take_append_drop]
 rw [h, List.length_append, List.take_add_one, hu]
 simp [List.flatMap_append]
theorem put13_any (x : LV) (B g : Nat) (v : Value) (bs : List Int) (W : World) (h : LIn W B x) (hB : B ≤ W.heap.size) (hBg : B ≤ g) (hu : ∀ u ∈ x.us, u.put) (hn : x.l.un ≤ 255) (ho : OutAt W g v ⟨bs, 16384, 0⟩) (hl : bs.length + (updsPB x.us).length ≤ 16384) :
  Calls Tryz.prog 277 #[.pointer (some ⟨g, 0, none⟩), x.l.agg] W (PutP g v bs (updsPB x.us) W) := by
 obtain ⟨W0, hW0, hb0, hbk⟩ := box_all x W
 have hul := h.ul
 have l1 := hbk.lt
 have x23 := (hbk.cell 23).trans (show _ = some (.slice x.l.uA x.l.un x.l.up) from rfl)
 have HBK := Lib.hid hbk
 have HB := Lib.hid hb0
 have HW := Lib.hid hW0
 have HU := Lib.hid hu
 have HUP := Lib.hid h.up
 have O0 := Lib.hid (ho.below hb0)
 have HUL := Lib.hid hul
 have HLEN : Hid (bs.length + 1 + (x.us.flatMap upB).length ≤ 16384) := Lib.hid (by unfold updsPB at hl; rw [List.length_append, big_len] at hl; omega)
 have HPB : Hid (updsPB x.us = big x.l.un 1 ++ x.us.flatMap upB) := Lib.hid (by unfold updsPB; rw [hul])
 have cz : IntKind.u64.wrap (x.l.un : Int) = (x.l.un : Int) := u64_keep (by omega)
 have P := Lib.hid (putNum_ok g v bs 16384 (x.l.un : Int) x.l.un 1 rfl W0 (by omega) (by omega) (by omega) (ho.below hb0) (by have := HLEN.out; omega) (by have := HLEN.out; omega))
 clear hb0 hW0 hbk ho h hu hul hl
 rw [HPB.out]
 show Calls Tryz.prog 277 #[.pointer (some ⟨g, 0, none⟩), .agg #[.int .i64 x.l.kd, .int .i64 x.l.fr, .int .i64 x.l.tw, .int .i64 x.l.ch, .int .u64 x.l.ep, .int .u64 x.l.bl, .int .u64 x.l.nu, .int .u64 x.l.sq, .int .u64 x.l.dz, .int .u64 x.l.vr, .int .i64 x.l.sl, .int .u32 x.l.ky, .int .i64 x.l.cd, .int .i64 x.l.qk, .int .i64 x.l.qc, .int .u64 x.l.qe, .int .i64 x.l.qn, .int .i64 x.l.fc, .int .u64 x.l.fe, .slice x.l.fA x.l.fn x.l.fp, .bool x.l.ff, .int .i64 x.l.fj, .slice x.l.vA x.l.vn x.l.vp, .slice x.l.uA x.l.un x.l.up, .slice x.l.dA x.l.dn x.l.dp]] W _
 go_enter Tryz.func277, Tryz.ntmps277
 go_upto_region 1 with (fail)
 have e0 := HW.out
 simp only [Lt.cells] at e0
 rw [← e0]
 clear e0
 go_wp2_with (fail)
 refine P.out.mono ?_
 rintro e w1 ⟨rfl, v1, p1, s1⟩
 have BK1 := Lib.hid (s1.typ O0.out HBK.out (by decide) (by decide))
 have x23 := (BK1.out.cell 23).trans (show _ = some (.slice x.l.uA x.l.un x.l.up) from rfl)
 have E0 : Hid (PuI B x.us bs x.l.un W g v 0 v1 w1) := Lib.hid ⟨by simpa using p1, OutStep.pre HB.out s1, (HB.out.mono hB).trans (s1.bel O0.out hBg)⟩
 have lb1 := BK1.out.lt
 clear p1 s1 P O0 HBK
 go_wp2_with (fail)
 go_loopw [15] (fun iv wr => ∃ (j : Nat) (v' : Value), j ≤ x.l.un ∧ iv = .int .i64 j ∧ Hid (PuI B x.us bs x.l.un W g v j v' wr)) (fun iv _ => x.l.un - (intOf iv).toNat)
 case atStart => exact ⟨0, v1, Nat.zero_le _, rfl, E0⟩
 case round =>
  clear E0
  obtain ⟨j, v', hj, rfl, HE⟩ := hrel
  by_cases hlt : j < x.l.un
  ·have hltZ : (j : Int) < x.l.un := by omega
   obtain ⟨b, o, u, e1, hb, huj, hui, p0, p1, p2, p3, p4, p5, p6⟩ := (HUP.out.below HE.out.bel).at_ (k := j) hlt
   have hstep := flatUp_step x.us j u huj
   have hul2 := upB_len u
   have hun := hui.len
   have hB2 : Below B wr (wr.alloc (.cells u.cells 145)) := (Below.refl _ _).alloc (Nat.le_trans hB (Nat.le_trans (Nat.le_refl _) HE.out.st.2.size)) _
   have O1 := HE.out.out.below ((Below.refl wr.heap.size wr).alloc (Nat.le_refl _) (.cells u.cells 145))
   have PU := Lib.hid (putUpdateX_any g v' u _ 16384 B _ (hui.below hB2) hBg (HU.out u (List.mem_of_getElem? huj)) O1 (by simp only [List.length_append, big_len]; have := HLEN.out; omega) (by omega))
   have HE2 : Hid (∀ (w3 : World) (v3 : Value), OutAt w3 g v3 ⟨(bs ++ big x.l.un 1 ++ (x.us.take j).flatMap upB) ++ upB u, 16384, 0⟩ → OutStep (wr.alloc (.cells u.cells 145)) w3 g v' v3 → PuI B x.us bs x.l.un W g v (j + 1) v3 w3) := Lib.hid (fun w3 v3 q1 q2 =>
    ⟨by rw [List.take_add_one, huj]; simpa [List.flatMap_append, List.append_assoc] using q1, HE.out.st.trans (OutStep.pre ((Below.refl _ _).alloc (Nat.le_refl _) _) q2), (HE.out.bel.trans hB2).trans (q2.bel O1 hBg)⟩)
   have hbw : b < wr.heap.size := Nat.lt_of_lt_of_le hb (Nat.le_trans hB HE.out.st.2.size)
   clear hstep hul2 hun hB2 O1 hui huj hb
   rw [e1]
   have UC : Hid (u.cells = #[.int .u64 u.seq, .int .i64 u.cl, .int .u64 u.num, .int .i64 u.kd, .int .u32 u.key, .int .u64 u.ver, .slice u.A u.n u.c]) := Lib.hid rfl
   rw [UC.out] at PU HE2
   go_wp2_with (fail)
   refine PU.out.mono ?_
   rintro e w3 ⟨rfl, v3, q1, q2⟩
   have HE3 := Lib.hid (HE2.out w3 v3 q1 q2)
   clear q1 q2 PU HE2 p0 p1 p2 p3 p4 p5 p6
   go_wp2_with (fail)
   go_roundw
   case rel => exact ⟨j + 1, v3, hlt, by go_num, HE3⟩
   case measure => simp [intOf]; omega
  ·obtain rfl : j = x.l.un := by omega
   exact rp63
end Go.Proofs.YtmpedblelnpjdaaGreatDoor
/- A letter's votes: put. -/
namespace Go.Proofs.YtmpedblelnpjdaaGreatDoor
open Go.RowKit
set_option linter.unusedSimpArgs false
set_option linter.unusedVariables false
set_option maxHeartbeats 8000000
set_option maxRecDepth 100000
def voteB (u : Vt) : List Int := big u.sl.toNat 2 ++ big u.bl.toNat 8 ++ cmdB u.qk u.qc u.qe u.qn
theorem voteB_len (u : Vt) : (voteB u).length = 21 := by simp [voteB, big_len, cmdB_len]
def votesPB (l : List Vt) : List Int := big l.length 2 ++ l.flatMap voteB
structure Vt.put (u : Vt) : Prop where
 sl : 0 ≤ u.sl ∧ u.sl < 65536
 bl : 0 ≤ u.bl ∧ u.bl < 18446744073709551616
 qe : 0 ≤ u.qe ∧ u.qe < 18446744073709551616
 ok : cmdE u.qk u.qc u.qe u.qn = 0
structure PvI (l : List Vt) (bs : List Int) (n : Nat) (W : World) (B g : Nat) (v : Value) (j : Nat) (v' : Value) (wr : World) : Prop where
 out : OutAt wr g v' ⟨bs ++ big n 2 ++ (l.take j).flatMap voteB, 16384, 0⟩
 st : OutStep W wr g v v'
 bel : Below B W wr
theorem flatVt_len (l : List Vt) : (l.flatMap voteB).length = l.length * 21 := by
 induction l with
 | nil => rfl
 | cons a l ih => rw [List.flatMap_cons, List.length_append, voteB_len, ih, List.length_cons]; omega
theorem put12_any (x : LV) (B g : Nat) (v : Value) (bs : List Int) (W : World) (h : LIn W B x) (hB : B ≤ W.heap.size) (hBg : B ≤ g) (hu : ∀ u ∈ x.vs, u.put) (hn : x.l.vn ≤ 65535) (ho : OutAt W g v ⟨bs, 16384, 0⟩) (hl : bs.length + (votesPB x.vs).length ≤ 16384) :
  Calls Tryz.prog 274 #[.pointer (some ⟨g, 0, none⟩), x.l.agg] W (PutP g v bs (votesPB x.vs) W) := by
 obtain ⟨W0, hW0, hb0, hbk⟩ := box_all x W
 have hul := h.vl
 have l1 := hbk.lt
 have x22 := (hbk.cell 22).trans (show _ = some (.slice x.l.vA x.l.vn x.l.vp) from rfl)
 have HBK := Lib.hid hbk
 have HB := Lib.hid hb0
 have HW := Lib.hid hW0
 have HU := Lib.hid hu
 have HUP := Lib.hid h.vt
 have O0 := Lib.hid (ho.below hb0)
 have HUL := Lib.hid hul
 have HLEN : Hid (bs.length + 2 + x.l.vn * 21 ≤ 16384) := Lib.hid (by unfold votesPB at hl; rw [List.length_append, big_len, flatVt_len, hul] at hl; omega)
 have HPB : Hid (votesPB x.vs = big x.l.vn 2 ++ x.vs.flatMap voteB) := Lib.hid (by unfold votesPB; rw [hul])
 have cz : IntKind.u64.wrap (x.l.vn : Int) = (x.l.vn : Int) := u64_keep (by omega)
 have P := Lib.hid (putNum_ok g v bs 16384 (x.l.vn : Int) x.l.vn 2 rfl W0 (by omega) (by omega) (by omega) (ho.below hb0) (by have := HLEN.out; omega) (by have := HLEN.out; omega))
 clear hb0 hW0 hbk ho h hu hul hl
 rw [HPB.out]
 show Calls Tryz.prog 274 #[.pointer (some ⟨g, 0, none⟩), .agg #[.int .i64 x.l.kd, .int .i64 x.l.fr, .int .i64 x.l.tw, .int .i64 x.l.ch, .int .u64 x.l.ep, .int .u64 x.l.bl, .int .u64 x.l.nu, .int .u64 x.l.sq, .int .u64 x.l.dz, .int .u64 x.l.vr, .int .i64 x.l.sl, .int .u32 x.l.ky, .int .i64 x.l.cd, .int .i64 x.l.qk, .int .i64 x.l.qc, .int .u64 x.l.qe, .int .i64 x.l.qn, .int .i64 x.l.fc, .int .u64 x.l.fe, .slice x.l.fA x.l.fn x.l.fp, .bool x.l.ff, .int .i64 x.l.fj, .slice x.l.vA x.l.vn x.l.vp, .slice x.l.uA x.l.un x.l.up, .slice x.l.dA x.l.dn x.l.dp]] W _
 go_enter Tryz.func274, Tryz.ntmps274
 go_upto_region 1 with (fail)
 have e0 := HW.out
 simp only [Lt.cells] at e0
 rw [← e0]
 clear e0
 go_wp2_with (fail)
 refine P.out.mono ?_
 rintro e w1 ⟨rfl, v1, p1, s1⟩
 have BK1 := Lib.hid (s1.typ O0.out HBK.out (by decide) (by decide))
 have x22 := (BK1.out.cell 22).trans (show _ = some (.slice x.l.vA x.l.vn x.l.vp) from rfl)
 have E0 : Hid (PvI x.vs bs x.l.vn W B g v 0 v1 w1) := Lib.hid ⟨by simpa using p1, OutStep.pre HB.out s1, (HB.out.mono hB).trans (s1.bel O0.out hBg)⟩
 have lb1 := BK1.out.lt
 clear p1 s1 P O0 HBK
 go_wp2_with (fail)
 go_loopw [15] (fun iv wr => ∃ (j : Nat) (v' : Value), j ≤ x.l.vn ∧ iv = .int .i64 j ∧ Hid (PvI x.vs bs x.l.vn W B g v j v' wr)) (fun iv _ => x.l.vn - (intOf iv).toNat)
 case atStart => exact ⟨0, v1, Nat.zero_le _, rfl, E0⟩
 case round =>
  clear E0
  obtain ⟨j, v', hj, rfl, HE⟩ := hrel
  by_cases hlt : j < x.l.vn
  ·have hltZ : (j : Int) < x.l.vn := by omega
   obtain ⟨b, o, u, e1, hb, huj, hc⟩ := reads_at Vt.row (fun _ => rfl) (by omega) (HUP.out.below HE.out.bel) hlt
   have p0 := hc 0 _ rfl
   have p1 := hc 1 _ rfl
   have p2 := hc 2 _ rfl
   have p3 := hc 3 _ rfl
   have p4 := hc 4 _ rfl
   have p5 := hc 5 _ rfl
   simp only [Nat.add_zero] at p0
   have HPU := Lib.hid (HU.out u (List.mem_of_getElem? huj))
   have HUJ := Lib.hid huj
   have hbw : b < wr.heap.size := Nat.lt_of_lt_of_le hb (Nat.le_trans hB HE.out.st.2.size)
   have fs : IntKind.u64.wrap u.sl = u.sl := u64_keep (by have := HPU.out.sl; omega)
   have hlj : (bs ++ big x.l.vn 2 ++ (x.vs.take j).flatMap voteB).length + 21 ≤ 16384 := by
    have h1 := HLEN.out
    have h2 : (x.vs.take j).length = j := by rw [List.length_take]; have := HUL.out; omega
    simp only [List.length_append, big_len, flatVt_len, h2]
    have h3 : (j + 1) * 21 ≤ x.l.vn * 21 := Nat.mul_le_mul_right _ hlt
    omega
   have HLJ := Lib.hid hlj
   obtain ⟨W1, hW1⟩ : ∃ W1, W1 = wr.alloc (.cells #[.int .i64 u.sl, .int .u64 u.bl, .int .i64 u.qk, .int .i64 u.qc, .int .u64 u.qe, .int .i64 u.qn] 239) := ⟨_, rfl⟩
   have hb1 : Below wr.heap.size wr W1 := by rw [hW1]; exact (Below.refl _ _).alloc (Nat.le_refl _) _
   have BV : Hid (Blk W1 wr.heap.size 239 u.cells) := Lib.hid (by rw [hW1]; exact Blk.new _ _ _)
   have O1 := Lib.hid (HE.out.out.below hb1)
   have S1 : Hid (OutStep W W1 g v v') := Lib.hid (HE.out.st.trans (OutStep.pre hb1 (OutStep.refl _ _ _)))
   have L1 := Lib.hid (HE.out.bel.trans (hb1.mono (Nat.le_trans hB HE.out.st.2.size)))
   have HW1 := Lib.hid hW1
   clear hc huj hb hlj hW1 hb1 HE
   rw [e1]
   go_upto_region 5 with (fail)
   rw [← HW1.out]
   clear p0 p1 p2 p3 p4 p5 HW1
   obtain ⟨cs, hcs⟩ : ∃ cs, cs = bs ++ big x.l.vn 2 ++ (x.vs.take j).flatMap voteB := ⟨_, rfl⟩
   rw [← hcs] at HLJ O1
   have HCS := Lib.hid hcs
   clear hcs
   obtain ⟨c0, c1, c2, c3, c4, c5⟩ := vt_cells BV.out
   have lv1 := BV.out.lt
   generalize wr.heap.size = gV at *
   go_wp2_with (fail)
   refine (putNum_ok g v' cs 16384 u.sl u.sl.toNat 2 (by have := HPU.out.sl; omega) W1 (by omega) (by omega) (by have := HPU.out.sl; omega) O1.out (by have := HLJ.out; omega) (by have := HLJ.out; omega)).mono ?_
   rintro e w2 ⟨rfl, v2, q1, q2⟩
   have BV2 := Lib.hid (q2.typ O1.out BV.out (by decide) (by decide))
   have S2 := Lib.hid (S1.out.trans q2)
   have L2 := Lib.hid (L1.out.trans (q2.bel O1.out hBg))
   have O2 := Lib.hid q1
   clear q1 q2 c0 c1 c2 c3 c4 c5 BV S1 L1 O1 lv1
   obtain ⟨c0, c1, c2, c3, c4, c5⟩ := vt_cells BV2.out
   have lv2 := BV2.out.lt
   go_wp2_with (fail)
   refine (putNum_ok g v2 (cs ++ big u.sl.toNat 2) 16384 u.bl u.bl.toNat 8 (by have := HPU.out.bl; omega) w2 (by omega) (by omega) (by have := HPU.out.bl; omega) O2.out (by rw [List.length_append, big_len]; have := HLJ.out; omega) (by rw [List.length_append, big_len]; have := HLJ.out; omega)).mono ?_
   rintro e w3 ⟨rfl, v3, q1, q2⟩
   have BV3 := Lib.hid (q2.typ O2.out BV2.out (by decide) (by decide))
   have S3 := Lib.hid (S2.out.trans q2)
   have L3 := Lib.hid (L2.out.trans (q2.bel O2.out hBg))
   have O3 := Lib.hid q1
   clear q1 q2 c0 c1 c2 c3 c4 c5 BV2 S2 L2 O2 lv2
   obtain ⟨c0, c1, c2, c3, c4, c5⟩ := vt_cells BV3.out
   have lv3 := BV3.out.lt
   have CP := Lib.hid (cmdsPut_ok u.qk u.qc u.qe u.qn HPU.out.ok HPU.out.qe g v3 (cs ++ big u.sl.toNat 2 ++ big u.bl.toNat 8) w3 O3.out (by simp only [List.length_append, big_len]; have := HLJ.out; omega))
   go_wp2_with (fail)
   refine CP.out.mono ?_
   rintro e w4 ⟨rfl, v4, q1, q2⟩
   have HE4 : Hid (OutAt w4 g v4 ⟨cs ++ voteB u, 16384, 0⟩) := Lib.hid (by
    unfold voteB
    simpa [List.append_assoc] using q1)
   have S4 := Lib.hid (S3.out.trans q2)
   have L4 := Lib.hid (L3.out.trans (q2.bel O3.out hBg))
   clear q1 q2 c0 c1 c2 c3 c4 c5 BV3 S3 L3 O3 lv3 CP
   go_wp2_with (fail)
   go_roundw
   case rel =>
    refine ⟨j + 1, v4, hlt, by go_num, Lib.hid ⟨?_, S4.out, L4.out⟩⟩
    have h9 := HE4.out
    rw [HCS.out] at h9
    rw [List.take_add_one, HUJ.out]
    simpa [List.flatMap_append, List.append_assoc] using h9
   case measure => simp [intOf]; omega
  ·obtain rfl : j = x.l.vn := by omega
   exact rp63
end Go.Proofs.YtmpedblelnpjdaaGreatDoor
/- PutC of votes and updates. -/
namespace Go.Proofs.YtmpedblelnpjdaaGreatDoor
open Go.RowKit
set_option linter.unusedSimpArgs false
set_option linter.unusedVariables false
set_option maxHeartbeats 4000000
set_option maxRecDepth 100000
theorem putC13 (x : LV) (B : Nat) (hu : ∀ u ∈ x.us, u.put) (hn : x.l.un ≤ 255) : PutC B (fun W => LIn W B x ∧ B ≤ W.heap.size) x.l.agg 13 (updsPB x.us) := by
 intro p W0 hp
 obtain rfl := hp
 exact ⟨277, rfl, enters_of Tryz.func277 (by kernel_rfl) rfl, fun g v bs W hpm hg hB ho hl => put13_any x B g v bs W hg.1 hg.2 hB hu hn ho hl⟩
theorem putC12 (x : LV) (B : Nat) (hu : ∀ u ∈ x.vs, u.put) (hn : x.l.vn ≤ 65535) : PutC B (fun W => LIn W B x ∧ B ≤ W.heap.size) x.l.agg 12 (votesPB x.vs) := by
 intro p W0 hp
 obtain rfl := hp
 exact ⟨274, rfl, enters_of Tryz.func274 (by kernel_rfl) rfl, fun g v bs W hpm hg hB ho hl => put12_any x B g v bs W hg.1 hg.2 hB hu hn ho hl⟩
end Go.Proofs.YtmpedblelnpjdaaGreatDoor
