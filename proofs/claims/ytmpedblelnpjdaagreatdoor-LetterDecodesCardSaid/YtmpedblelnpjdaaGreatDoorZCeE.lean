/- A letter's votes: read. -/
import Derived.Test.YtmpedblelnpjdaaGreatDoorZCeC
import Derived.Test.YtmpedblelnpjdaaGreatDoorZTq
import Derived.Test.YtmpedblelnpjdaaGreatDoorZTk
namespace Go.Proofs.YtmpedblelnpjdaaGreatDoor
open Go.RowKit
set_option linter.unusedSimpArgs false
set_option linter.unusedVariables false
set_option maxHeartbeats 8000000
set_option maxRecDepth 100000
theorem vt_oneC (u : Vt) : ∀ v ∈ u.row, v.oneCell' = true := by
 intro v hv
 simp only [Vt.row, List.mem_cons, List.not_mem_nil, or_false] at hv
 rcases hv with rfl | rfl | rfl | rfl | rfl | rfl <;> rfl
def LV.addVt (x : LV) (u : Vt) (A : Option Addr) (c : Nat) : LV := ⟨{ x.l with vA := A, vn := x.l.vn + 1, vp := c }, x.ns, x.vs ++ [u], x.us, x.ds⟩
theorem LOwn.addVt {W w9 : World} {base : Nat} {x : LV} {u : Vt} {A9 : Option Addr} {c9 : Nat} (h : LOwn W base x) (hu : u.wf)
  (hown : w9.ownsRow base 239 6 (.slice A9 (x.l.vn + 1) c9) (x.l.vn + 1) (x.vs.flatMap Vt.row ++ u.row)) (hg : W.grownBy w9 (Value.slice x.l.vA x.l.vn x.l.vp).ownBlock) : LOwn w9 base (x.addVt u A9 c9) := by
 have hc := Chg.of_grown hg
 have o : ∀ {t : TypeId} {sz n : Nat} {v : Value} {xs : List Value}, t ≠ 239 → W.ownsRow base t sz v n xs → w9.ownsRow base t sz v n xs := fun hne hr => hc.own hr (fun k hk e => own_ne_ownC hr h.vt hne k hk e.symm)
 have w := h.wf
 refine ⟨o (by decide) h.nd, ?_, o (by decide) h.up, fun z hz => ⟨o (by decide) (h.ub z hz).1, (h.ub z hz).2⟩, o (by decide) h.da, h.by_, ⟨w.kd, w.fr, w.tw, w.ch, w.ep, w.bl, w.nu, w.sq, w.dz, w.vr, w.sl, w.ky, w.cd, w.qk, w.qc, w.qe, w.qn, w.fc, w.fe, w.fj⟩, fun z hz => ?_, h.nw⟩
 ·show w9.ownsRow base _ 6 (.slice A9 (x.l.vn + 1) c9) (x.l.vn + 1) ((x.vs ++ [u]).flatMap Vt.row)
  rw [List.flatMap_append, List.flatMap_cons, List.flatMap_nil, List.append_nil]; exact hown
 ·rcases List.mem_append.1 hz with hz | hz
  ·exact h.vw z hz
  ·rw [List.mem_singleton] at hz
   subst hz; exact hu
structure G12 (W0 : World) (gi gl B : Nat) (s1 : FI) (x0 : LV) (j : Nat) (x : LV) (W : World) : Prop where
 inn : InAt W gi B (votsG s1 j).1
 lat : LAt W gl x
 val : x.val = { x0.val with vs := (votsG s1 j).2.1 }
 on : (votsG s1 j).2.2 = false
 new : ∀ k, (Value.slice x.l.vA x.l.vn x.l.vp).ownBlock = some k → W0.heap.size ≤ k
 chg : Chg W0 W (fun k => k = gi ∨ k = gl)
theorem G12.vn {W0 W : World} {gi gl B j : Nat} {s1 : FI} {x0 x : LV} (h : G12 W0 gi gl B s1 x0 j x W) : x.l.vn ≤ j := by
 have h1 := h.lat.own.lin.vl
 have h2 : x.val.vs.length = x.vs.length := rfl
 rw [h.val] at h2
 have h3 : (votsG s1 j).2.1.length = x.vs.length := h2
 have := votsG_len s1 j
 omega
theorem votsG_yes (s : FI) (j : Nat) (h : (votsG s j).2.2 = false) (h0 : cmdGe (w2 (votsG s j).1).1 = 0) : votsG s (j + 1) = (voteI (votsG s j).1, (votsG s j).2.1 ++ [voteV (votsG s j).1], false) := by
 rw [votsG, if_neg (by rw [h]; simp), if_neg (by simpa using h0)]
theorem votsG_no (s : FI) (j : Nat) (h : (votsG s j).2.2 = false) (h0 : cmdGe (w2 (votsG s j).1).1 ≠ 0) : votsG s (j + 1) = (wrongF (voteI (votsG s j).1), (votsG s j).2.1, true) := by
 rw [votsG, if_neg (by rw [h]; simp), if_pos h0]
theorem voteV_wf (s : FI) (hb : bytesB s.l) : (voteV s).wf := by
 have b1 : bytesB (w1 s).1.l := FI.upto_bytes _ _ _ hb
 have b2 : bytesB (w2 s).1.l := FI.upto_bytes _ _ _ b1
 have h1 : (w1 s).2 < 65536 := FI.upto_lt s 2 _ hb
 have h2 : (w2 s).2 < 18446744073709551616 := FI.upto_lt _ 8 _ b1
 have h3 := cmdGv_wf (w2 s).1 b2
 exact ⟨by simp only [voteV]; omega, by simp only [voteV]; omega, h3.k, h3.c, h3.e, h3.n⟩
theorem G12.step {W0 W W7 w9 : World} {gi gl B j : Nat} {s1 : FI} {x0 x : LV} {A9 : Option Addr} {c9 : Nat} (h : G12 W0 gi gl B s1 x0 j x W) (hgi : gi < B) (hB : B ≤ gl) (hl : gl < W0.heap.size)
  (h0 : cmdGe (w2 (votsG s1 j).1).1 = 0) (hi : InAt W7 gi B (voteI (votsG s1 j).1)) (hc : Chg W W7 (isG gi))
  (hown : w9.ownsRow (gl + 1) 239 6 (.slice A9 (x.l.vn + 1) c9) (x.l.vn + 1) (x.vs.flatMap Vt.row ++ (voteV (votsG s1 j).1).row)) (hg : W7.grownBy w9 (Value.slice x.l.vA x.l.vn x.l.vp).ownBlock)
  (hat : (Value.slice A9 (x.l.vn + 1) c9).ownBlock = (Value.slice x.l.vA x.l.vn x.l.vp).ownBlock ∨ (Value.slice A9 (x.l.vn + 1) c9).ownBlock = some W7.heap.size) :
  Blk w9 gl 37 x.l.cells ∧ G12 W0 gi gl B s1 x0 (j + 1) (x.addVt (voteV (votsG s1 j).1) A9 c9) (w9.setCell ⟨gl, 22, none⟩ (.slice A9 (x.l.vn + 1) c9)) := by
 have hs1 := h.chg.size
 have hs2 := hc.size
 have hy := votsG_yes s1 j h.on h0
 have hb7 := hc.blk h.lat.blk (by unfold isG; omega)
 have ho7 : LOwn W7 (gl + 1) x := h.lat.own.chg hc (fun k hk => by simp only [isG] at hk; omega)
 have hb9 := hb7.grown hg (fun e => by have := h.new gl e.symm; omega)
 have hcg := Chg.of_grown hg
 have hcs := chg_set0 w9 gl (.slice A9 (x.l.vn + 1) c9) 22
 have hwv := voteV_wf (votsG s1 j).1 h.inn.bytes
 have hall : Chg W7 (w9.setCell ⟨gl, 22, none⟩ (.slice A9 (x.l.vn + 1) c9)) (fun k => k = gl ∨ W0.heap.size ≤ k) := (hcg.mono (T := fun k => k = gl ∨ W0.heap.size ≤ k) (fun k _ e => .inr (h.new k e.symm))).trans (hcs.sub (fun _ e => Or.inl e)) (fun _ _ e => e)
 have hvv := h.val
 refine ⟨hb9, ⟨?_, ⟨?_, ?_, ?_⟩, ?_, by rw [hy], ?_, ?_⟩⟩
 ·rw [hy]
  exact hi.below (hall.below (by omega) (fun k hk e => by omega))
 ·exact hb9.set_ 22 _
 ·exact (ho7.addVt hwv hown hg).chg hcs (fun k hk => by simp only [isG] at hk; omega)
 ·exact ⟨fun e => by simp [LV.addVt] at e, h.lat.nil.2⟩
 ·have e1 : (x.addVt (voteV (votsG s1 j).1) A9 c9).val = { x.val with vs := x.val.vs ++ [voteV (votsG s1 j).1] } := rfl
  rw [e1, hvv, hy]
 ·intro k hk
  have hk : (Value.slice A9 (x.l.vn + 1) c9).ownBlock = some k := hk
  rcases hat with e | e
  ·rw [e] at hk; exact h.new k hk
  ·rw [e] at hk; injection hk with hk; omega
 ·exact (h.chg.trans (hc.sub (T := fun k => k = gi ∨ k = gl) (fun _ e => Or.inl e)) (fun _ _ e => e)).trans hall (fun k hk e => by omega)
theorem cells6 {w : World} {g : Nat} {t : TypeId} {a0 a1 a2 a3 a4 a5 : Value} (h : Blk w g t #[a0, a1, a2, a3, a4, a5]) : w.cell? ⟨g, 0, none⟩ = some a0 ∧ w.cell? ⟨g, 1, none⟩ = some a1 ∧ w.cell? ⟨g, 2, none⟩ = some a2 ∧ w.cell? ⟨g, 3, none⟩ = some a3 ∧ w.cell? ⟨g, 4, none⟩ = some a4 ∧ w.cell? ⟨g, 5, none⟩ = some a5 := ⟨h.cell 0, h.cell 1, h.cell 2, h.cell 3, h.cell 4, h.cell 5⟩
theorem set25_chg (W : World) (g : Nat) (a2 a3 a4 a5 : Value) : Chg W ((((W.setCell ⟨g, 2, none⟩ a2).setCell ⟨g, 3, none⟩ a3).setCell ⟨g, 4, none⟩ a4).setCell ⟨g, 5, none⟩ a5) (isG g) :=
 (((chg_set0 W g a2 2).trans (chg_set0 _ g a3 3) (fun _ _ x => x)).trans (chg_set0 _ g a4 4) (fun _ _ x => x)).trans (chg_set0 _ g a5 5) (fun _ _ x => x)
theorem set25_blk {W : World} {g : Nat} {t : TypeId} {b0 b1 b2 b3 b4 b5 : Value} (h : Blk W g t #[b0, b1, b2, b3, b4, b5]) (a2 a3 a4 a5 : Value) : Blk ((((W.setCell ⟨g, 2, none⟩ a2).setCell ⟨g, 3, none⟩ a3).setCell ⟨g, 4, none⟩ a4).setCell ⟨g, 5, none⟩ a5) g t #[b0, b1, a2, a3, a4, a5] := (((h.set_ 2 a2).set_ 3 a3).set_ 4 a4).set_ 5 a5
theorem get12_any (x : LV) (gi gl B : Nat) (s : FI) (W : World) (hi : InAt W gi B s) (h : LAt W gl x) (hB : B ≤ gl) (hl : s.l.length ≤ 1000000) (hu : x.vs = []) :
  Calls Tryz.prog 275 #[.pointer (some ⟨gi, 0, none⟩), .pointer (some ⟨gl, 0, none⟩)] W fun e W' => e = .returned (.tuple #[]) ∧ ∃ x' : LV, InAt W' gi B (st12 s x.val).1 ∧ LAt W' gl x' ∧ x'.val = (st12 s x.val).2 ∧ Chg W W' (fun k => k = gi ∨ k = gl) := by
 obtain ⟨i0, hiu, hz0, hz1, hz2⟩ := info_parts voteInfoC
 have U := Lib.hid (upto_at gi s 2 512 512 B rfl W hi)
 have hgi := hi.lt
 have hgl := h.blk.lt
 have H := Lib.hid h
 have HN : Hid ((s.upto 2 512).2 ≤ 512) := Lib.hid (FI.upto_most _ _ _)
 have HSH : Hid (∀ j, (votsG (s.upto 2 512).1 j).1.l.length ≤ 1000000) := Lib.hid (fun j => Nat.le_trans (votsG_short _ j) (Nat.le_trans (FI.upto_short _ _ _) hl))
 have hxu : x.val.vs = [] := hu
 have HST : Hid (st12 s x.val = ((votsG (s.upto 2 512).1 (s.upto 2 512).2).1, { x.val with vs := (votsG (s.upto 2 512).1 (s.upto 2 512).2).2.1 })) := Lib.hid (by unfold st12; rw [hxu, List.nil_append])
 have HXU : Hid ({ x.val with vs := [] } = x.val) := Lib.hid (by rw [← hxu])
 have HNA : Hid (x.l.vA = none) := Lib.hid (h.nil.1 hu)
 clear hi h hu hxu hl
 generalize st12 s x.val = so at *
 generalize s.upto 2 512 = r at *
 obtain ⟨s1, n⟩ := r
 have hz6 : ∀ (a b : Int) (w : World), (Instr.build 239 #[(0, .int .i64 a), (1, .int .u64 b)]).run Tryz.prog w = .ok (.agg #[.int .i64 a, .int .u64 b, .int .i64 0, .int .i64 0, .int .u64 0, .int .i64 0]) w := fun a b w => by kernel_rfl
 go_enter Tryz.func275, Tryz.ntmps275
 go_wp2_with (fail)
 refine U.out.mono ?_
 rintro e wa ⟨rfl, i1, q1⟩
 have E0 : Hid (G12 W gi gl B s1 x 0 x wa) := Lib.hid ⟨i1, ⟨q1.blk H.out.blk (by unfold isG; omega), H.out.own.chg q1 (fun k hk => by simp only [isG] at hk; omega), H.out.nil⟩, HXU.out.symm, rfl, fun k hk => (by rw [HNA.out] at hk; cases hk), q1.sub (fun _ e => Or.inl e)⟩
 clear i1 q1 U
 have hn4 : n ≤ 512 := HN.out
 go_wp2_with (fail)
 go_loopw [9] (fun iv wr => ∃ (j : Nat) (y : LV), j ≤ n ∧ iv = .int .u64 j ∧ Hid (G12 W gi gl B s1 x j y wr)) (fun iv _ => n - (intOf iv).toNat)
 case atStart => exact ⟨0, x, Nat.zero_le _, rfl, E0⟩
 case round =>
  clear E0
  obtain ⟨j, y, hj, rfl, HE⟩ := hrel
  by_cases hlt : j < n
  ·have hltZ : (j : Int) < n := by omega
   have hvn := HE.out.vn
   have lg := HE.out.lat.blk.lt
   have hws := HE.out.chg.size
   have HSTEP := Lib.hid (fun (W7 w9 : World) (A9 : Option Addr) (c9 : Nat) h0 hi hc hown hg hat => HE.out.step (W7 := W7) (w9 := w9) (A9 := A9) (c9 := c9) hgi hB hgl h0 hi hc hown hg hat)
   have HNO := Lib.hid (votsG_no s1 j HE.out.on)
   have HSJ := HSH.out j
   have hbj := HE.out.inn.bytes
   have hb1 : bytesB (w1 (votsG s1 j).1).1.l := FI.upto_bytes _ _ _ hbj
   have L1 : (w1 (votsG s1 j).1).2 < 65536 := FI.upto_lt (votsG s1 j).1 2 _ hbj
   have G1 := Lib.hid (fun W (i : InAt W gi B (votsG s1 j).1) => (show Calls Tryz.prog 46 #[.pointer (some ⟨gi, 0, none⟩), .int .i64 2] W fun e W' => e = .returned (.int .u64 (w1 (votsG s1 j).1).2) ∧ InAt W' gi B (w1 (votsG s1 j).1).1 ∧ Chg W W' (isG gi) from get_any gi _ 2 B W i))
   have G2 := Lib.hid (fun W (i : InAt W gi B (w1 (votsG s1 j).1).1) => (show Calls Tryz.prog 46 #[.pointer (some ⟨gi, 0, none⟩), .int .i64 8] W fun e W' => e = .returned (.int .u64 (w2 (votsG s1 j).1).2) ∧ InAt W' gi B (w2 (votsG s1 j).1).1 ∧ Chg W W' (isG gi) from get_any gi _ 8 B W i))
   have G3 := Lib.hid (fun W (i : InAt W gi B (w2 (votsG s1 j).1).1) => (show Calls Tryz.prog 306 #[.pointer (some ⟨gi, 0, none⟩)] W fun e W' => e = .returned (.tuple #[(cmdGv (w2 (votsG s1 j).1).1).agg, .int .i64 (cmdGe (w2 (votsG s1 j).1).1)]) ∧ InAt W' gi B (voteI (votsG s1 j).1) ∧ Chg W W' (isG gi) from cmdsGet_any gi B _ W i (Nat.le_trans (Nat.le_trans (FI.upto_short _ _ _) (FI.upto_short _ _ _)) HSJ)))
   have G4 := Lib.hid (fun W (i : InAt W gi B (voteI (votsG s1 j).1)) => wrong_any gi (voteI (votsG s1 j).1) B W i (Nat.le_trans (voteI_short _) HSJ))
   have HVV : Hid (voteV (votsG s1 j).1 = ⟨(w1 (votsG s1 j).1).2, (w2 (votsG s1 j).1).2, (cmdGv (w2 (votsG s1 j).1).1).k, (cmdGv (w2 (votsG s1 j).1).1).c, (cmdGv (w2 (votsG s1 j).1).1).e, (cmdGv (w2 (votsG s1 j).1).1).n⟩) := Lib.hid rfl
   have I0 := Lib.hid HE.out.inn
   have LT := Lib.hid HE.out.lat
   have HV := Lib.hid HE.out.val
   have HC := Lib.hid HE.out.chg
   clear hbj hb1 HSJ HE
   generalize voteV (votsG s1 j).1 = vv at *
   generalize voteI (votsG s1 j).1 = vi at *
   generalize cmdGe (w2 (votsG s1 j).1).1 = ce at *
   generalize cmdGv (w2 (votsG s1 j).1).1 = cq at *
   generalize w2 (votsG s1 j).1 = r2 at *
   generalize w1 (votsG s1 j).1 = r1 at *
   obtain ⟨t1, n1⟩ := r1
   obtain ⟨t2, n2⟩ := r2
   obtain ⟨qk, qc, qe, qn⟩ := cq
   simp only [Cm.agg] at G1 G2 G3 HVV L1
   have c1 : IntKind.i64.wrap (n1 : Int) = n1 := by rw [IntKind.wrap_i64]; omega
   go_wp2_with (fail)
   refine (G1.out _ I0.out).mono ?_
   rintro e u1 ⟨rfl, i1, q1⟩
   have J1 := Lib.hid i1
   have D1 := Lib.hid q1
   clear i1 q1
   go_wp2_with (fail)
   refine (G2.out _ J1.out).mono ?_
   rintro e u2 ⟨rfl, i1, q1⟩
   have J2 := Lib.hid i1
   have D2 := Lib.hid (D1.out.trans q1 (fun _ _ h => h))
   clear i1 q1 J1 D1 G1 G2
   go_upto_region 3 with (fail)
   obtain ⟨U3, hU3⟩ : ∃ U3, U3 = u2.alloc (.cells #[.int .i64 n1, .int .u64 n2, .int .i64 0, .int .i64 0, .int .u64 0, .int .i64 0] 239) := ⟨_, rfl⟩
   rw [← hU3]
   have h23 : Below u2.heap.size u2 U3 := by rw [hU3]; exact (Below.refl _ _).alloc (Nat.le_refl _) _
   have X3 : Hid (Blk U3 u2.heap.size 239 #[.int .i64 n1, .int .u64 n2, .int .i64 0, .int .i64 0, .int .u64 0, .int .i64 0]) := Lib.hid (by rw [hU3]; exact Blk.new _ _ _)
   have J3 := Lib.hid (J2.out.below (h23.mono J2.out.le))
   have D3 := Lib.hid (D2.out.trans (Chg.of_below h23 _) (fun _ _ h => h))
   have hgv : wr.heap.size ≤ u2.heap.size := D2.out.size
   clear hU3 h23 J2 D2
   generalize u2.heap.size = gv at *
   go_wp2_with (fail)
   refine (G3.out _ J3.out).mono ?_
   rintro e u4 ⟨rfl, i1, q1⟩
   have J4 := Lib.hid i1
   have D4 := Lib.hid (D3.out.trans q1 (fun _ _ h => h))
   have X4 := Lib.hid (q1.blk X3.out (by unfold isG; omega))
   clear i1 q1 J3 D3 X3 G3
   go_upto_region 4 with (fail)
   obtain ⟨U5, hU5⟩ : ∃ U5, U5 = u4.alloc (.cells #[.int .i64 qk, .int .i64 qc, .int .u64 qe, .int .i64 qn] 30) := ⟨_, rfl⟩
   rw [← hU5]
   have h45 : Below u4.heap.size u4 U5 := by rw [hU5]; exact (Below.refl _ _).alloc (Nat.le_refl _) _
   have Y5 : Hid (Blk U5 u4.heap.size 30 #[.int .i64 qk, .int .i64 qc, .int .u64 qe, .int .i64 qn]) := Lib.hid (by rw [hU5]; exact Blk.new _ _ _)
   have J5 := Lib.hid (J4.out.below (h45.mono J4.out.le))
   have D5 := Lib.hid (D4.out.trans (Chg.of_below h45 _) (fun _ _ h => h))
   have X5 := Lib.hid (X4.out.below h45 X4.out.lt)
   have ngv : u4.heap.size ≠ gv := by have := X4.out.lt; omega
   clear hU5 h45 J4 D4 X4
   generalize u4.heap.size = gq at *
   by_cases he : ce = 0
   ·subst he
    obtain ⟨y0, y1, y2, y3⟩ := cells4 Y5.out
    obtain ⟨x0, x1, x2, x3, x4, x5⟩ := cells6 X5.out
    have f2 := X5.out.frozen 2
    have f3 := X5.out.frozen 3
    have f4 := X5.out.frozen 4
    have f5 := X5.out.frozen 5
    go_upto_region 7 with (fail)
    obtain ⟨U6, hU6⟩ : ∃ U6, U6 = (((U5.setCell ⟨gv, 2, none⟩ (.int .i64 qk)).setCell ⟨gv, 3, none⟩ (.int .i64 qc)).setCell ⟨gv, 4, none⟩ (.int .u64 qe)).setCell ⟨gv, 5, none⟩ (.int .i64 qn) := ⟨_, rfl⟩
    rw [← hU6]
    have X6 : Hid (Blk U6 gv 239 #[.int .i64 n1, .int .u64 n2, .int .i64 qk, .int .i64 qc, .int .u64 qe, .int .i64 qn]) := Lib.hid (by rw [hU6]; exact set25_blk X5.out _ _ _ _)
    have hcs : Chg U5 U6 (isG gv) := by rw [hU6]; exact set25_chg U5 gv _ _ _ _
    have hBw := I0.out.le
    have D6 := Lib.hid (D5.out.trans hcs (fun k hk e => by simp only [isG] at e; omega))
    have J6 := Lib.hid (J5.out.below (hcs.below J5.out.le (fun k hk e => by simp only [isG] at e; omega)))
    clear hU6 hcs x0 x1 x2 x3 x4 x5 y0 y1 y2 y3 f2 f3 f4 f5
    obtain ⟨x0, x1, x2, x3, x4, x5⟩ := cells6 X6.out
    have hb6 := D6.out.blk LT.out.blk (by unfold isG; omega)
    have c22 := (hb6.cell 22).trans (show _ = some (.slice y.l.vA y.l.vn y.l.vp) from rfl)
    have lg6 := hb6.lt
    have lv6 := X6.out.lt
    clear hb6
    go_wp2_with (fail)
    refine wp_region_k 7 (S := fun w' => w'.cell? ⟨gl, 22, none⟩ = some (.slice y.l.vA y.l.vn y.l.vp) ∧ w'.cell? ⟨gv, 0, none⟩ = some (.int .i64 n1) ∧ w'.cell? ⟨gv, 1, none⟩ = some (.int .u64 n2) ∧ w'.cell? ⟨gv, 2, none⟩ = some (.int .i64 qk) ∧ w'.cell? ⟨gv, 3, none⟩ = some (.int .i64 qc) ∧ w'.cell? ⟨gv, 4, none⟩ = some (.int .u64 qe) ∧ w'.cell? ⟨gv, 5, none⟩ = some (.int .i64 qn)) (by kernel_rfl) ⟨c22, x0, x1, x2, x3, x4, x5⟩ (fun hHeld => ?_)
    refine wpAnyK_free' (i := 0) (oi := _) (v := ?_) rfl (by kernel_rfl) (by kernel_rfl) (by kernel_rfl) (by decide) (fun _ _ _ h => h) (Or.inl ⟨by rfl, ?_⟩) (fun _ => by assumption) ?_
    rotate_left 1
    ·(intro wq hSw; (try dsimp only at hSw); go_simp; (try with_reducible rfl))
    try simp only [Act.put, pS]
    refine wpAnyK_take (n := 12) (i := 1) (oi := _) (v := ?_) rfl (by kernel_rfl) (by kernel_rfl) (by kernel_rfl) (by kernel_rfl) (by kernel_rfl) (by kernel_rfl) (fun _ _ _ h => h) (Or.inl ⟨by rfl, ?_⟩) (by assumption) ?_
    rotate_left 1
    ·(intro wq hSw; (try dsimp only at hSw); go_simp; (try with_reducible rfl))
    try simp only [Act.put, pS]
    refine wpAnyK_take (n := 12) (i := 2) (oi := _) (v := ?_) rfl (by kernel_rfl) (by kernel_rfl) (by kernel_rfl) (by kernel_rfl) (by kernel_rfl) (by kernel_rfl) (fun _ _ _ h => h) (Or.inl ⟨by rfl, ?_⟩) (by assumption) ?_
    rotate_left 1
    ·(intro wq hSw; (try dsimp only at hSw); go_simp; (try with_reducible rfl))
    try simp only [Act.put, pS]
    refine wpAnyK_take (n := 12) (i := 3) (oi := _) (v := ?_) rfl (by kernel_rfl) (by kernel_rfl) (by kernel_rfl) (by kernel_rfl) (by kernel_rfl) (by kernel_rfl) (fun _ _ _ h => h) (Or.inl ⟨by rfl, ?_⟩) (by assumption) ?_
    rotate_left 1
    ·(intro wq hSw; (try dsimp only at hSw); go_simp; (try with_reducible rfl))
    try simp only [Act.put, pS]
    refine wpAnyK_take (n := 12) (i := 4) (oi := _) (v := ?_) rfl (by kernel_rfl) (by kernel_rfl) (by kernel_rfl) (by kernel_rfl) (by kernel_rfl) (by kernel_rfl) (fun _ _ _ h => h) (Or.inl ⟨by rfl, ?_⟩) (by assumption) ?_
    rotate_left 1
    ·(intro wq hSw; (try dsimp only at hSw); go_simp; (try with_reducible rfl))
    try simp only [Act.put, pS]
    refine wpAnyK_take (n := 12) (i := 5) (oi := _) (v := ?_) rfl (by kernel_rfl) (by kernel_rfl) (by kernel_rfl) (by kernel_rfl) (by kernel_rfl) (by kernel_rfl) (fun _ _ _ h => h) (Or.inl ⟨by rfl, ?_⟩) (by assumption) ?_
    rotate_left 1
    ·(intro wq hSw; (try dsimp only at hSw); go_simp; (try with_reducible rfl))
    try simp only [Act.put, pS]
    refine wpAnyK_ready (rs := [6]) (by kernel_rfl) (by simp) ?_
    refine AllReadyK.cons (o := _) rfl (fun K hK => ?_) AllReadyK.nil
    go_simp
    (try go_simp)
    refine hK.out _ _ ?_ (fun hHeld => ?_)
    ·first | exact HS | go_keep
    clear hK K
    try simp only [Act.put, pS]
    obtain ⟨U7, hU7⟩ : ∃ U7, U7 = (U6.alloc (.cells #[.int .i64 n1, .int .u64 n2, .int .i64 qk, .int .i64 qc, .int .u64 qe, .int .i64 qn] 239)).drew := ⟨_, rfl⟩
    have h67 : Below U6.heap.size U6 U7 := by rw [hU7]; exact ((Below.refl _ _).alloc (Nat.le_refl _) _).drew
    have hrd : Reads U7 U7.heap.size 6 (some ⟨U6.heap.size, 0, none⟩) 1 vv.row := by rw [hU7, HVV.out]; exact (reads_one U6 _ _ 6 rfl).drew
    have hc7 : Chg wr U7 (isG gi) := D6.out.trans (Chg.of_below h67 _) (fun _ _ e => e)
    have HO7 : U7.ownsRow (gl + 1) 239 6 (.slice y.l.vA y.l.vn y.l.vp) y.l.vn (y.vs.flatMap Vt.row) := (LT.out.own.chg hc7 (fun k hk => by simp only [isG] at hk; omega)).vt
    have J7 : InAt U7 gi B vi := J6.out.below (h67.mono J6.out.le)
    have hs7 := hc7.size
    have hun : y.l.vn ≤ 512 := by omega
    rw [← hU7] at hHeld ⊢
    have HU7 := Lib.hid hU7
    clear hU7
    refine wpAnyK_ready (rs := [7]) (by kernel_rfl) (by simp) ?_
    refine AllReadyK.last (o := _) rfl (by kernel_rfl) (fun K hK => ?_) AllReadyK.nil
    refine step_append_any _ rfl (.tmp 32) (.tmp 34) _ rfl (gl + 1) 239 i0 _ 6 48 Tryz.underlying34 hiu hz0 hz1 hz2 rfl (by omega) (.slice y.l.vA y.l.vn y.l.vp) y.l.vn (y.vs.flatMap Vt.row) rfl HO7 U7.heap.size (some ⟨U6.heap.size, 0, none⟩) 1 1 vv.row rfl hrd (vt_oneC vv) (by unfold maxLen; omega) (by omega) (by omega) ?_
    intro v9 w9 hown hg hat
    obtain ⟨A9, c9, rfl, _, _, _⟩ := own_slice hown
    have HA := Lib.hid (HSTEP.out U7 w9 A9 c9 (by trivial) J7 hc7 hown hg hat)
    have d22 := (HA.out.1.cell 22).trans (show _ = some (.slice y.l.vA y.l.vn y.l.vp) from rfl)
    have e22 := HA.out.1.frozen 22
    have lg9 := HA.out.1.lt
    clear hown hg hat HO7 hrd hc7 h67 c22 hs7 x0 x1 x2 x3 x4 x5 J7
    (try go_simp)
    refine hK.out _ _ ?_
    clear hK K
    try simp only [Act.put, pS]
    refine wpAnyK_free' (i := 8) (oi := _) (v := ?_) rfl (by kernel_rfl) (by kernel_rfl) (by kernel_rfl) (by decide) (fun _ _ _ h => h) (Or.inl ⟨by rfl, ?_⟩) (fun h0 => by cases h0) ?_
    rotate_left 1
    ·(intro wq hSw; (try dsimp only at hSw); go_simp; (try with_reducible rfl))
    try simp only [Act.put, pS]
    refine wpAnyK_free' (i := 9) (oi := _) (v := ?_) rfl (by kernel_rfl) (by kernel_rfl) (by kernel_rfl) (by decide) (fun _ _ _ h => h) (Or.inl ⟨by rfl, ?_⟩) (fun h0 => by cases h0) ?_
    rotate_left 1
    ·(intro wq hSw; (try dsimp only at hSw); go_simp; (try with_reducible rfl))
    try simp only [Act.put, pS]
    refine wpAnyK_ready (rs := [10]) (by kernel_rfl) (by simp) ?_
    exact rp59
   ·have heb : (ce != 0) = true := by simpa using he
    have hno := HNO.out he
    have HNY := Lib.hid hno
    have HLE : Hid (votsG s1 n = votsG s1 (j + 1)) := Lib.hid (by
     obtain ⟨m, hm⟩ : ∃ m, n = (j + 1) + m := ⟨n - (j + 1), by omega⟩
     rw [hm]; exact votsG_stop s1 (j + 1) (by rw [hno]) m)
    clear hno he
    go_wp2_with (fail)
    refine (G4.out _ J5.out).mono ?_
    rintro e u6 ⟨rfl, i1, q1⟩
    have J6 := Lib.hid i1
    have D6 := Lib.hid (D5.out.trans q1 (fun _ _ h => h))
    clear i1 q1
    go_wp2_with (fail)
    refine bodyPost_ret (v := .tuple #[]) (by simp [results, Tryz.results275]) rfl ?_
    refine ⟨rfl, y, ?_, ⟨D6.out.blk LT.out.blk (by unfold isG; omega), LT.out.own.chg D6.out (fun k hk => by simp only [isG] at hk; omega), LT.out.nil⟩, ?_, HC.out.trans (D6.out.sub (fun _ e => Or.inl e)) (fun _ _ e => e)⟩
    ·rw [HST.out, HLE.out, HNY.out]; exact J6.out
    ·rw [HST.out, HLE.out, HNY.out]; exact HV.out
  ·obtain rfl : j = n := by omega
   have HF := Lib.hid HE.out
   clear HE
   go_wp2_with (fail)
   go_end0
   refine ⟨rfl, y, ?_, HF.out.lat, ?_, HF.out.chg⟩
   ·rw [HST.out]; exact HF.out.inn
   ·rw [HST.out]; exact HF.out.val
end Go.Proofs.YtmpedblelnpjdaaGreatDoor
