/- A letter's configuration: read. GetC of configuration, votes, updates. -/
import Derived.Test.YtmpedblelnpjdaaGreatDoorZCeF
namespace Go.Proofs.YtmpedblelnpjdaaGreatDoor
open Go.RowKit
set_option linter.unusedSimpArgs false
set_option linter.unusedVariables false
set_option maxHeartbeats 8000000
set_option maxRecDepth 100000
theorem cells_conf {W : World} {gl : Nat} {l : Lt} (h : Blk W gl 37 l.cells) (a b : Int) (A : Option Addr) (n c : Nat) (f : Bool) (j : Int) : Blk (((((W.setCell ⟨gl, 17, none⟩ (.int .i64 a)).setCell ⟨gl, 18, none⟩ (.int .u64 b)).setCell ⟨gl, 19, none⟩ (.slice A n c)).setCell ⟨gl, 20, none⟩ (.bool f)).setCell ⟨gl, 21, none⟩ (.int .i64 j)) gl 37 (Lt.cells { l with fc := a, fe := b, fA := A, fn := n, fp := c, ff := f, fj := j }) :=
 ((((h.set_ 17 _).set_ 18 _).set_ 19 _).set_ 20 _).set_ 21 _
theorem chg_conf (W : World) (gl : Nat) (a b c d e : Value) : Chg W (((((W.setCell ⟨gl, 17, none⟩ a).setCell ⟨gl, 18, none⟩ b).setCell ⟨gl, 19, none⟩ c).setCell ⟨gl, 20, none⟩ d).setCell ⟨gl, 21, none⟩ e) (isG gl) :=
 ((((chg_set0 W gl a 17).trans (chg_set0 _ gl b 18) (fun _ _ x => x)).trans (chg_set0 _ gl c 19) (fun _ _ x => x)).trans (chg_set0 _ gl d 20) (fun _ _ x => x)).trans (chg_set0 _ gl e 21) (fun _ _ x => x)
def LV.setCf (x : LV) (q : Cn) (A : Option Addr) (c : Nat) : LV := ⟨{ x.l with fc := q.ch, fe := q.ep, fA := A, fn := q.ns.length, fp := c, ff := q.fr, fj := q.jn }, q.ns, x.vs, x.us, x.ds⟩
theorem get11_any (x : LV) (gi gl B : Nat) (s : FI) (W : World) (hi : InAt W gi B s) (h : LAt W gl x) (hB : B ≤ gl) (hl : s.l.length ≤ 1000000) :
  Calls Tryz.prog 271 #[.pointer (some ⟨gi, 0, none⟩), .pointer (some ⟨gl, 0, none⟩)] W fun e W' => e = .returned (.tuple #[]) ∧ ∃ (A : Option Addr) (c : Nat), InAt W' gi B (st11 s x.val).1 ∧ Blk W' gl 37 (Lt.cells (x.setCf (confGv s) A c).l) ∧ Chg W W' (fun k => k = gi ∨ k = gl) ∧ W'.ownsRow (gl + 1) 3 1 (.slice A (confGv s).ns.length c) (confGv s).ns.length ((confGv s).ns.map (Value.int .i64)) := by
 have C := Lib.hid (confGet_any gi B s W hi hl)
 have HB := Lib.hid h.blk
 have hgi := hi.lt
 have HRL : Hid ((k6 s).1.l.length ≤ 1000000) := Lib.hid (Nat.le_trans (k6_short s) hl)
 have HST : Hid ((st11 s x.val).1 = if confGe s ≠ 0 then wrongF (k6 s).1 else (k6 s).1) := Lib.hid rfl
 have hgl := h.blk.lt
 unfold CfG at C
 clear hi h
 generalize (st11 s x.val).1 = st at *
 generalize confGv s = q at *
 generalize confGe s = er at *
 generalize (k6 s).1 = s1 at *
 obtain ⟨qc, qe, qf, qj, qn⟩ := q
 simp only [LV.setCf] at *
 go_enter Tryz.func271, Tryz.ntmps271
 go_wp2_with (fail)
 refine C.out.mono ?_
 rintro e w1 ⟨A, c, rfl, o1, i1, q1⟩
 have B1 := Lib.hid (q1.blk HB.out (by unfold isG; omega))
 have I1 := Lib.hid i1
 have C1 := Lib.hid (q1.sub (T := fun k => k = gi ∨ k = gl) (fun _ h => Or.inl h))
 have O1 := Lib.hid (own_base o1 (show gl + 1 ≤ W.heap.size by omega))
 have hs1 := q1.size
 clear i1 q1 o1 C HB
 go_upto_region 1 with (fail)
 obtain ⟨W2, hW2⟩ : ∃ W2, W2 = w1.alloc (.cells #[.int .i64 qc, .int .u64 qe, .slice A qn.length c, .bool qf, .int .i64 qj] 33) := ⟨_, rfl⟩
 rw [← hW2]
 have h12 : Below w1.heap.size w1 W2 := by rw [hW2]; exact (Below.refl _ _).alloc (Nat.le_refl _) _
 have X2 : Hid (Blk W2 w1.heap.size 33 #[.int .i64 qc, .int .u64 qe, .slice A qn.length c, .bool qf, .int .i64 qj]) := Lib.hid (by rw [hW2]; exact Blk.new _ _ _)
 have B2 := Lib.hid (B1.out.below h12 B1.out.lt)
 have I2 := Lib.hid (I1.out.below (h12.mono I1.out.le))
 have C2 := Lib.hid (C1.out.trans (Chg.of_below h12 _) (fun _ _ h => h))
 have O2 := Lib.hid ((Chg.of_below h12 (fun _ => False)).own O1.out (fun _ _ e => e))
 have lx := X2.out.lt
 have hng : ¬ isG gi w1.heap.size := by unfold isG; omega
 have hnl : gl ≠ w1.heap.size := by omega
 clear hW2 h12 B1 I1 C1 O1
 generalize w1.heap.size = gx at *
 by_cases he : er = 0
 ·subst he
  have HS : Hid (st = s1) := Lib.hid (by rw [HST.out]; simp)
  obtain ⟨x0, x1, x2, x3, x4⟩ := cells5 X2.out
  have c17 := (B2.out.cell 17).trans (show _ = some (.int .i64 x.l.fc) from rfl)
  have c18 := (B2.out.cell 18).trans (show _ = some (.int .u64 x.l.fe) from rfl)
  have c19 := (B2.out.cell 19).trans (show _ = some (.slice x.l.fA x.l.fn x.l.fp) from rfl)
  have c20 := (B2.out.cell 20).trans (show _ = some (.bool x.l.ff) from rfl)
  have c21 := (B2.out.cell 21).trans (show _ = some (.int .i64 x.l.fj) from rfl)
  have f17 := B2.out.frozen 17
  have f18 := B2.out.frozen 18
  have f19 := B2.out.frozen 19
  have f20 := B2.out.frozen 20
  have f21 := B2.out.frozen 21
  have lb := B2.out.lt
  clear HST
  go_wp2_with (fail)
  go_end0
  rw [HS.out]
  exact ⟨rfl, A, c, I2.out.below ((chg_conf W2 gl _ _ _ _ _).below I2.out.le (fun k hk e => by simp only [isG] at e; omega)), cells_conf B2.out _ _ _ _ _ _ _, C2.out.trans ((chg_conf W2 gl _ _ _ _ _).sub (fun _ h => Or.inr h)) (fun _ _ h => h),
   (chg_conf W2 gl _ _ _ _ _).own O2.out (fun k hk e => by have := (O2.out.lt k hk).1; simp only [isG] at e; omega)⟩
 ·have heb : (er != 0) = true := by simpa using he
  have HS : Hid (st = wrongF s1) := Lib.hid (by rw [HST.out, if_pos he])
  have WR := Lib.hid (wrong_any gi s1 B W2 I2.out HRL.out)
  clear HST he
  go_wp2_with (fail)
  refine WR.out.mono ?_
  rintro e w3 ⟨rfl, i3, q3⟩
  have X3 := Lib.hid (q3.blk X2.out hng)
  have B3 := Lib.hid (q3.blk B2.out (by unfold isG; omega))
  have I3 := Lib.hid i3
  have O3 := Lib.hid (q3.own O2.out (fun k hk e => by have := (O2.out.lt k hk).1; simp only [isG] at e; omega))
  have C3 := Lib.hid (C2.out.trans (q3.sub (T := fun k => k = gi ∨ k = gl) (fun _ h => Or.inl h)) (fun _ _ h => h))
  clear i3 q3 X2 B2 I2 C2 WR O2
  obtain ⟨x0, x1, x2, x3, x4⟩ := cells5 X3.out
  have c17 := (B3.out.cell 17).trans (show _ = some (.int .i64 x.l.fc) from rfl)
  have c18 := (B3.out.cell 18).trans (show _ = some (.int .u64 x.l.fe) from rfl)
  have c19 := (B3.out.cell 19).trans (show _ = some (.slice x.l.fA x.l.fn x.l.fp) from rfl)
  have c20 := (B3.out.cell 20).trans (show _ = some (.bool x.l.ff) from rfl)
  have c21 := (B3.out.cell 21).trans (show _ = some (.int .i64 x.l.fj) from rfl)
  have f17 := B3.out.frozen 17
  have f18 := B3.out.frozen 18
  have f19 := B3.out.frozen 19
  have f20 := B3.out.frozen 20
  have f21 := B3.out.frozen 21
  have lb := B3.out.lt
  have lx3 := X3.out.lt
  go_wp2_with (fail)
  go_end0
  rw [HS.out]
  exact ⟨rfl, A, c, I3.out.below ((chg_conf w3 gl _ _ _ _ _).below I3.out.le (fun k hk e => by simp only [isG] at e; omega)), cells_conf B3.out _ _ _ _ _ _ _, C3.out.trans ((chg_conf w3 gl _ _ _ _ _).sub (fun _ h => Or.inr h)) (fun _ _ h => h),
   (chg_conf w3 gl _ _ _ _ _).own O3.out (fun k hk e => by have := (O3.out.lt k hk).1; simp only [isG] at e; omega)⟩
theorem Cn.wf_of (s : FI) (hb : bytesB s.l) : (-9223372036854775808 ≤ (confGv s).ch ∧ (confGv s).ch ≤ 9223372036854775807) ∧ (0 ≤ (confGv s).ep ∧ (confGv s).ep ≤ 18446744073709551615) ∧ (-9223372036854775808 ≤ (confGv s).jn ∧ (confGv s).jn ≤ 9223372036854775807) ∧ ∀ z ∈ (confGv s).ns, -9223372036854775808 ≤ z ∧ z ≤ 9223372036854775807 := by
 obtain ⟨l1, l2, l4, _⟩ := ks_lt s hb
 have hy := k6_bytes s hb
 have z : (-9223372036854775808 ≤ Cn.zero.ch ∧ Cn.zero.ch ≤ 9223372036854775807) ∧ (0 ≤ Cn.zero.ep ∧ Cn.zero.ep ≤ 18446744073709551615) ∧ (-9223372036854775808 ≤ Cn.zero.jn ∧ Cn.zero.jn ≤ 9223372036854775807) ∧ ∀ z ∈ Cn.zero.ns, -9223372036854775808 ≤ z ∧ z ≤ 9223372036854775807 := by
  simp only [Cn.zero]
  exact ⟨by omega, by omega, by omega, fun z hz => (by cases hz)⟩
 unfold confGv
 split
 ·exact z
 ·split
  ·simp only [confP]
   exact ⟨by omega, by omega, by omega, fun z hz => by have := hy z hz; omega⟩
  ·exact z
theorem getC11 (st : Nat → FI → LVal → FI × LVal) (hst : ∀ s v, st 11 s v = st11 s v) : GetC st 11 := by
 intro p W0 hp
 obtain rfl := hp
 refine ⟨271, rfl, enters_of Tryz.func271 (by kernel_rfl) rfl, fun gi gl B s x W hpm hi hB hl h _ => ?_⟩
 have hgl : gi < gl := Nat.lt_of_lt_of_le hi.lt hB
 obtain ⟨z1, z2, z3, z4⟩ := Cn.wf_of s hi.bytes
 refine (get11_any x gi gl B s W hi h hB hl).mono ?_
 rintro e W' ⟨he, A, c, h1, h2, h3, h4⟩
 have hown := h.own.chg h3 (fun k hk => by omega)
 have hw := h.own.wf
 rw [hst]
 exact ⟨he, x.setCf (confGv s) A c, h1, ⟨h2, ⟨h4, hown.vt, hown.up, hown.ub, hown.da, hown.by_, ⟨hw.kd, hw.fr, hw.tw, hw.ch, hw.ep, hw.bl, hw.nu, hw.sq, hw.dz, hw.vr, hw.sl, hw.ky, hw.cd, hw.qk, hw.qc, hw.qe, hw.qn, z1, z2, z3⟩, hown.vw, z4⟩, h.nil⟩, rfl, h3⟩
theorem getC12 (st : Nat → FI → LVal → FI × LVal) (hst : ∀ s v, st 12 s v = st12 s v) : GetC st 12 := by
 intro p W0 hp
 obtain rfl := hp
 refine ⟨275, rfl, enters_of Tryz.func275 (by kernel_rfl) rfl, fun gi gl B s x W hpm hi hB hl h hem => ?_⟩
 refine (get12_any x gi gl B s W hi h hB hl (hem.1 rfl)).mono ?_
 rintro e W' ⟨he, x', h1, h2, h3, h4⟩
 rw [hst]
 exact ⟨he, x', h1, h2, h3, h4⟩
theorem getC13 (st : Nat → FI → LVal → FI × LVal) (hst : ∀ s v, st 13 s v = st13 s v) : GetC st 13 := by
 intro p W0 hp
 obtain rfl := hp
 refine ⟨278, rfl, enters_of Tryz.func278 (by kernel_rfl) rfl, fun gi gl B s x W hpm hi hB hl h hem => ?_⟩
 refine (get13_any x gi gl B s W hi h hB hl (hem.2 rfl)).mono ?_
 rintro e W' ⟨he, x', h1, h2, h3, h4⟩
 rw [hst]
 exact ⟨he, x', h1, h2, h3, h4⟩
end Go.Proofs.YtmpedblelnpjdaaGreatDoor
