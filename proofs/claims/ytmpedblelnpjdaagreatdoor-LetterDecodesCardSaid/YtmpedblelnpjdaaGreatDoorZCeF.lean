/- conf.Get. -/
import Derived.Test.YtmpedblelnpjdaaGreatDoorZCeE
namespace Go.Proofs.YtmpedblelnpjdaaGreatDoor
open Go.RowKit
set_option linter.unusedSimpArgs false
set_option linter.unusedVariables false
set_option maxHeartbeats 8000000
set_option maxRecDepth 100000
theorem intInfoC : (Tryz.prog.info? 3).map (fun i => (i.zero, i.size, i.bytes)) = some (some (.int .i64 0), 1, 8) := by kernel_rfl
def CfG (g B : Nat) (s : FI) (w : World) (r : Ending) (w' : World) : Prop :=
 ∃ (A : Option Addr) (c : Nat), r = .returned (.tuple #[.agg #[.int .i64 (confGv s).ch, .int .u64 (confGv s).ep, .slice A (confGv s).ns.length c, .bool (confGv s).fr, .int .i64 (confGv s).jn], .int .i64 (confGe s)]) ∧ w'.ownsRow w.heap.size 3 1 (.slice A (confGv s).ns.length c) (confGv s).ns.length ((confGv s).ns.map (Value.int .i64)) ∧ InAt w' g B (k6 s).1 ∧ Chg w w' (isG g)
theorem cells5 {w : World} {g : Nat} {t : TypeId} {a0 a1 a2 a3 a4 : Value} (h : Blk w g t #[a0, a1, a2, a3, a4]) : w.cell? ⟨g, 0, none⟩ = some a0 ∧ w.cell? ⟨g, 1, none⟩ = some a1 ∧ w.cell? ⟨g, 2, none⟩ = some a2 ∧ w.cell? ⟨g, 3, none⟩ = some a3 ∧ w.cell? ⟨g, 4, none⟩ = some a4 := ⟨h.cell 0, h.cell 1, h.cell 2, h.cell 3, h.cell 4⟩
theorem frozen5 {w : World} {g : Nat} {t : TypeId} {cs : Array Value} (h : Blk w g t cs) : w.frozen? ⟨g, 0, none⟩ = false ∧ w.frozen? ⟨g, 1, none⟩ = false ∧ w.frozen? ⟨g, 2, none⟩ = false ∧ w.frozen? ⟨g, 3, none⟩ = false ∧ w.frozen? ⟨g, 4, none⟩ = false := ⟨h.frozen 0, h.frozen 1, h.frozen 2, h.frozen 3, h.frozen 4⟩
theorem set5_chg (W : World) (g : Nat) (a0 a1 a2 a3 a4 : Value) : Chg W (((((W.setCell ⟨g, 0, none⟩ a0).setCell ⟨g, 1, none⟩ a1).setCell ⟨g, 2, none⟩ a2).setCell ⟨g, 3, none⟩ a3).setCell ⟨g, 4, none⟩ a4) (isG g) :=
 ((((chg_set0 W g a0 0).trans (chg_set0 _ g a1 1) (fun _ _ x => x)).trans (chg_set0 _ g a2 2) (fun _ _ x => x)).trans (chg_set0 _ g a3 3) (fun _ _ x => x)).trans (chg_set0 _ g a4 4) (fun _ _ x => x)
theorem set5_blk {W : World} {g : Nat} {t : TypeId} {b0 b1 b2 b3 b4 : Value} (h : Blk W g t #[b0, b1, b2, b3, b4]) (a0 a1 a2 a3 a4 : Value) : Blk (((((W.setCell ⟨g, 0, none⟩ a0).setCell ⟨g, 1, none⟩ a1).setCell ⟨g, 2, none⟩ a2).setCell ⟨g, 3, none⟩ a3).setCell ⟨g, 4, none⟩ a4) g t #[a0, a1, a2, a3, a4] := ((((h.set_ 0 a0).set_ 1 a1).set_ 2 a2).set_ 3 a3).set_ 4 a4
structure CgI (w : World) (g B gr gc : Nat) (s6 : FI) (c0 c1 c3 c4 : Value) (Ab : Option Addr) (cb : Nat) (bs : List Int) (j : Nat) (v : Value) (W : World) : Prop where
 inn : InAt W g B s6
 res : Blk W gr 33 #[.int .i64 0, .int .u64 0, .slice none 0 0, .bool false, .int .i64 0]
 box : Blk W gc 33 #[c0, c1, v, c3, c4]
 row : W.ownsRow (gc + 1) 3 1 v j ((bs.take j).map (Value.int .i64))
 byt : W.ownsRow (gc + 1) 5 1 (.slice Ab bs.length cb) bs.length (bs.map (Value.int .u8))
 chg : Chg w W (isG g)
theorem CgI.put {w W w1 : World} {g B gr gc j : Nat} {s6 : FI} {c0 c1 c3 c4 v v' : Value} {Ab : Option Addr} {cb : Nat} {bs : List Int} {z : Int} (h : CgI w g B gr gc s6 c0 c1 c3 c4 Ab cb bs j v W) (hgr : w.heap.size ≤ gr ∧ gr < gc ∧ B ≤ gr) (hz : bs[j]? = some z)
  (hown : w1.ownsRow (gc + 1) 3 1 v' (j + 1) ((bs.take j).map (Value.int .i64) ++ [.int .i64 z])) (hg : (W.alloc (.cells #[.int .i64 z] 3)).grownBy w1 v.ownBlock) :
  CgI w g B gr gc s6 c0 c1 c3 c4 Ab cb bs (j + 1) v' (w1.setCell ⟨gc, 2, none⟩ v') := by
 have h67 : Below W.heap.size W (W.alloc (.cells #[.int .i64 z] 3)) := (Below.refl _ _).alloc (Nat.le_refl _) _
 have hs := h.chg.size
 have hs7 := h67.size
 have lb := h.box.lt
 have lr := h.res.lt
 have hlt : ∀ k, v.ownBlock = some k → gc < k := fun k hk => by have := (h.row.lt k hk).1; omega
 have hcg := Chg.of_grown hg
 have hcs := chg_set0 w1 gc v' 2
 have hall : Chg (W.alloc (.cells #[.int .i64 z] 3)) (w1.setCell ⟨gc, 2, none⟩ v') (fun k => gc ≤ k) := (hcg.mono (T := fun k => gc ≤ k) (fun k _ e => by have := hlt k e.symm; omega)).trans (hcs.mono (T := fun k => gc ≤ k) (fun k _ e => by simp only [isG] at e; omega)) (fun _ _ e => e)
 have hbw := h.inn.le
 refine ⟨(h.inn.below (h67.mono hbw)).below (hall.below (by omega) (fun k hk e => by omega)), hall.blk (h.res.below h67 lr) (by omega), ?_, ?_, ?_, ?_⟩
 ·exact ((h.box.below h67 lb).grown hg (fun e => by have := hlt gc e.symm; omega)).set_ 2 v'
 ·have e : (bs.take (j + 1)).map (Value.int .i64) = (bs.take j).map (Value.int .i64) ++ [.int .i64 z] := by rw [List.take_add_one, hz]; simp
  rw [e]
  exact hcs.own hown (fun k hk e => by have := (hown.lt k hk).1; simp only [isG] at e; omega)
 ·have h1 := (Chg.of_below h67 (fun _ => False)).own h.byt (fun _ _ e => e)
  have h0 := (Chg.of_below h67 (fun _ => False)).own h.row (fun _ _ e => e)
  have h2 := hcg.own h1 (fun k hk e => own_ne_ownC h1 h0 (by decide) k hk e.symm)
  exact hcs.own h2 (fun k hk e => by have := (h2.lt k hk).1; simp only [isG] at e; omega)
 ·exact (h.chg.trans (Chg.of_below h67 (fun _ => False)) (fun _ _ e => e.elim)).trans hall (fun k hk e => by omega)
theorem confGet_any (g B : Nat) (s : FI) (w : World) (h : InAt w g B s) (hl : s.l.length ≤ 1000000) :
  Calls Tryz.prog 309 #[.pointer (some ⟨g, 0, none⟩)] w (CfG g B s w) := by
 obtain ⟨i0, hi, hz0, hz1, hz2⟩ := info_parts intInfoC
 have hBw := h.le
 have hgB := h.lt
 obtain ⟨l1, l2, l4, l5⟩ := ks_lt s h.bytes
 have hl6 := k6_len s h.bytes
 have hby := k6_bytes s h.bytes
 have hsh : (k5 s).1.l.length ≤ 1000000 := Nat.le_trans (FI.upto_short _ _ _) (Nat.le_trans (FI.upto_short _ _ _) (Nat.le_trans (FI.upto_short _ _ _) (Nat.le_trans (FI.upto_short _ _ _) (Nat.le_trans (FI.upto_short _ _ _) hl))))
 have hb0 : Below w.heap.size w (w.alloc (.cells #[.int .i64 0, .int .u64 0, .slice none 0 0, .bool false, .int .i64 0] 33)) := (Below.refl _ _).alloc (Nat.le_refl _) _
 have hr0 : Blk (w.alloc (.cells #[.int .i64 0, .int .u64 0, .slice none 0 0, .bool false, .int .i64 0] 33)) w.heap.size 33 #[.int .i64 0, .int .u64 0, .slice none 0 0, .bool false, .int .i64 0] := Blk.new _ _ _
 have G1 := Lib.hid (fun W (i : InAt W g B s) => (show Calls Tryz.prog 46 #[.pointer (some ⟨g, 0, none⟩), .int .i64 1] W fun e W' => e = .returned (.int .u64 (k1 s).2) ∧ InAt W' g B (k1 s).1 ∧ Chg W W' (isG g) from get_any g s 1 B W i))
 have G2 := Lib.hid (fun W (i : InAt W g B (k1 s).1) => (show Calls Tryz.prog 46 #[.pointer (some ⟨g, 0, none⟩), .int .i64 8] W fun e W' => e = .returned (.int .u64 (k2 s).2) ∧ InAt W' g B (k2 s).1 ∧ Chg W W' (isG g) from get_any g _ 8 B W i))
 have G3 := Lib.hid (fun W (i : InAt W g B (k2 s).1) => (show Calls Tryz.prog 325 #[.pointer (some ⟨g, 0, none⟩)] W fun e W' => e = .returned (.bool (decide ((k3 s).2 = 1))) ∧ InAt W' g B (k3 s).1 ∧ Chg W W' (isG g) from bool_any g _ B W i))
 have G4 := Lib.hid (fun W (i : InAt W g B (k3 s).1) => (show Calls Tryz.prog 46 #[.pointer (some ⟨g, 0, none⟩), .int .i64 1] W fun e W' => e = .returned (.int .u64 (k4 s).2) ∧ InAt W' g B (k4 s).1 ∧ Chg W W' (isG g) from get_any g _ 1 B W i))
 have G5 := Lib.hid (fun W (i : InAt W g B (k4 s).1) => (show Calls Tryz.prog 46 #[.pointer (some ⟨g, 0, none⟩), .int .i64 1] W fun e W' => e = .returned (.int .u64 (k5 s).2) ∧ InAt W' g B (k5 s).1 ∧ Chg W W' (isG g) from get_any g _ 1 B W i))
 have G6 := Lib.hid (fun W (i : InAt W g B (k5 s).1) => (show Calls Tryz.prog 315 #[.pointer (some ⟨g, 0, none⟩), .int .i64 ((k5 s).2 : Int)] W fun e W' => ∃ A c, e = .returned (.slice A (k6 s).2.length c) ∧ InAt W' g B (k6 s).1 ∧ Chg W W' (isG g) ∧ W'.ownsRow W.heap.size 5 1 (.slice A (k6 s).2.length c) (k6 s).2.length ((k6 s).2.map (Value.int .u8)) from rawInO_any g (k5 s).1 (k5 s).2 B W i (by omega) (by omega)))
 have VV : Hid (confGv s = if (k6 s).1.e ≠ 0 then Cn.zero else if (confP s).right = true then confP s else Cn.zero) := Lib.hid rfl
 have VE : Hid (confGe s = if (k6 s).1.e ≠ 0 then (k6 s).1.e else if (confP s).right = true then 0 else 4) := Lib.hid rfl
 have QP : Hid (confP s = ⟨((k1 s).2 : Int), ((k2 s).2 : Int), decide ((k3 s).2 = 1), ((k4 s).2 : Int), (k6 s).2⟩) := Lib.hid rfl
 have HCG : Hid (∀ (q : Cn) (er : Int) (A : Option Addr) (c : Nat) (w' : World), confGv s = q → confGe s = er → w'.ownsRow w.heap.size 3 1 (.slice A q.ns.length c) q.ns.length (q.ns.map (Value.int .i64)) → InAt w' g B (k6 s).1 → Chg w w' (isG g) → CfG g B s w (.returned (.tuple #[.agg #[.int .i64 q.ch, .int .u64 q.ep, .slice A q.ns.length c, .bool q.fr, .int .i64 q.jn], .int .i64 er])) w') :=
  Lib.hid (fun q er A c w' h1 h2 h3 h4 h5 => by subst h1; subst h2; exact ⟨A, c, rfl, h3, h4, h5⟩)
 have HBY := Lib.hid hby
 have HB0 := Lib.hid hb0
 have HR0 := Lib.hid hr0
 have I0 := Lib.hid (h.below (hb0.mono hBw))
 have hz : ∀ w : World, (Instr.build 33 #[]).run Tryz.prog w = .ok (.agg #[.int .i64 0, .int .u64 0, .slice none 0 0, .bool false, .int .i64 0]) w := fun w => by kernel_rfl
 clear hb0 hr0 h hby hsh
 generalize CfG g B s w = post at *
 generalize confGv s = gv at *
 generalize confGe s = ge at *
 generalize confP s = qq at *
 generalize k6 s = r6 at *
 generalize k5 s = r5 at *
 generalize k4 s = r4 at *
 generalize k3 s = r3 at *
 generalize k2 s = r2 at *
 generalize k1 s = r1 at *
 obtain ⟨t1, n1⟩ := r1
 obtain ⟨t2, n2⟩ := r2
 obtain ⟨t3, n3⟩ := r3
 obtain ⟨t4, n4⟩ := r4
 obtain ⟨t5, n5⟩ := r5
 obtain ⟨t6, bs⟩ := r6
 simp only at G1 G2 G3 G4 G5 G6 QP VV VE HCG HBY l1 l2 l4 l5 hl6
 generalize decide (n3 = 1) = fr at *
 have c1 : IntKind.i64.wrap (n1 : Int) = n1 := by rw [IntKind.wrap_i64]; omega
 have c4 : IntKind.i64.wrap (n4 : Int) = n4 := by rw [IntKind.wrap_i64]; omega
 have c5 : IntKind.i64.wrap (n5 : Int) = n5 := by rw [IntKind.wrap_i64]; omega
 go_enter Tryz.func309, Tryz.ntmps309
 go_wp2_with (fail)
 refine (G1.out _ I0.out).mono ?_
 rintro e w1 ⟨rfl, i1, q1⟩
 have J1 := Lib.hid i1
 have D1 := Lib.hid q1
 clear i1 q1
 go_wp2_with (fail)
 refine (G2.out _ J1.out).mono ?_
 rintro e w2 ⟨rfl, i1, q1⟩
 have J2 := Lib.hid i1
 have D2 := Lib.hid (D1.out.trans q1 (fun _ _ h => h))
 clear i1 q1
 go_wp2_with (fail)
 refine (G3.out _ J2.out).mono ?_
 rintro e w3 ⟨rfl, i1, q1⟩
 have J3 := Lib.hid i1
 have D3 := Lib.hid (D2.out.trans q1 (fun _ _ h => h))
 clear i1 q1
 go_wp2_with (fail)
 refine (G4.out _ J3.out).mono ?_
 rintro e w4 ⟨rfl, i1, q1⟩
 have J4 := Lib.hid i1
 have D4 := Lib.hid (D3.out.trans q1 (fun _ _ h => h))
 have hng : ¬ isG g w.heap.size := by unfold isG; omega
 have RB4 := Lib.hid (D4.out.blk HR0.out hng)
 have C4 := Lib.hid ((Chg.of_below HB0.out (isG g)).trans D4.out (fun _ _ h => h))
 clear i1 q1 J1 J2 J3 D1 D2 D3 D4 G1 G2 G3 G4 I0 HB0 HR0
 go_upto_region 2 with (fail)
 obtain ⟨W5, hW5⟩ : ∃ W5, W5 = w4.alloc (.cells #[.int .i64 n1, .int .u64 n2, .slice none 0 0, .bool fr, .int .i64 n4] 33) := ⟨_, rfl⟩
 rw [← hW5]
 have h45 : Below w4.heap.size w4 W5 := by rw [hW5]; exact (Below.refl _ _).alloc (Nat.le_refl _) _
 have X5 : Hid (Blk W5 w4.heap.size 33 #[.int .i64 n1, .int .u64 n2, .slice none 0 0, .bool fr, .int .i64 n4]) := Lib.hid (by rw [hW5]; exact Blk.new _ _ _)
 have RB5 := Lib.hid (RB4.out.below h45 RB4.out.lt)
 have J5 := Lib.hid (J4.out.below (h45.mono J4.out.le))
 have C5 := Lib.hid (C4.out.trans (Chg.of_below h45 _) (fun _ _ h => h))
 have hgr : w.heap.size ≤ w.heap.size ∧ w.heap.size < w4.heap.size ∧ B ≤ w.heap.size := ⟨Nat.le_refl _, RB4.out.lt, hBw⟩
 have hl5 := X5.out.lt
 clear hW5 h45 RB4 J4 C4
 generalize w4.heap.size = gc at *
 go_wp2_with (fail)
 refine (G5.out _ J5.out).mono ?_
 rintro e w6 ⟨rfl, i1, q1⟩
 have J6 := Lib.hid i1
 have D6 := Lib.hid q1
 clear i1 q1
 go_wp2_with (fail)
 refine (G6.out _ J6.out).mono ?_
 rintro e w7 ⟨Ab, cb, rfl, i1, q1, o1⟩
 have hs6 := D6.out.size
 have D7 := Lib.hid (D6.out.trans q1 (fun _ _ h => h))
 obtain ⟨Ab', cb', e1, _, hnc, hcm⟩ := own_slice o1
 have hngc : ¬ isG g gc := by unfold isG; omega
 have E0 : Hid (CgI w g B w.heap.size gc t6 (.int .i64 n1) (.int .u64 n2) (.bool fr) (.int .i64 n4) Ab cb bs 0 (.slice none 0 0) w7) := Lib.hid
  ⟨i1, D7.out.blk RB5.out hng, D7.out.blk X5.out hngc, World.ownsRow_nil _ _ _ _, own_base o1 (by omega), C5.out.trans D7.out (fun _ _ h => h)⟩
 clear i1 q1 o1 D6 D7 J5 J6 C5 RB5 X5 G5 G6
 go_wp2_with (fail)
 have HL6 := Lib.hid hl6
 go_loopw [25] (fun iv wr => ∃ (j : Nat) (v : Value), j ≤ bs.length ∧ iv = .int .i64 j ∧ Hid (CgI w g B w.heap.size gc t6 (.int .i64 n1) (.int .u64 n2) (.bool fr) (.int .i64 n4) Ab cb bs j v wr)) (fun iv _ => bs.length - (intOf iv).toNat)
 case atStart => exact ⟨0, _, Nat.zero_le _, rfl, E0⟩
 case round =>
  clear E0
  obtain ⟨j, v, hj, rfl, HE⟩ := hrel
  by_cases hlt : j < bs.length
  ·have hltZ : (j : Int) < bs.length := by omega
   obtain ⟨ad, z, e1, hbk, hbz, c0⟩ := reads_int (own_reads HE.out.byt) (k := j) hlt
   have hz1b := HBY.out z (List.mem_of_getElem? hbz)
   obtain ⟨hz1b, hz2b⟩ := hz1b
   have hcz : IntKind.i64.wrap z = z := by rw [IntKind.wrap_i64]; omega
   obtain ⟨b2, c2, c3, c4', c5'⟩ := cells5 HE.out.box
   have lgc := HE.out.box.lt
   have HBZ := Lib.hid hbz
   have hlow : ∀ k, v.ownBlock = some k → gc < k := fun k hk => by have := (HE.out.row.lt k hk).1; omega
   have HLO := Lib.hid hlow
   have HZR := Lib.hid (And.intro hz1b hz2b)
   clear hbz hlow hz1b hz2b
   rw [e1]
   obtain ⟨ab, ao, ap⟩ := ad
   go_wp2_with (at_builtin; go_must (refine wpList_append_any _ rfl (.tmp 30) (.tmp 33) _ rfl (gc + 1) 3 i0 _ 1 8 Tryz.underlying31 hi hz0 hz1 hz2 rfl (by omega) v j _ rfl (HE.out.row.alloc _) (wr.heap.size + 1) (some ⟨wr.heap.size, 0, none⟩) 1 1 [.int .i64 z] rfl ?c0 ?c1 ?c2 ?c3 ?c4 ?_))
   case c0 => exact ⟨rfl, fun _ => ⟨_, rfl, by simp, fun j u hu => cells_new _ _ _ j u hu⟩⟩
   case c1 => first | rfl | (intro u hu; simp at hu; subst hu; rfl)
   case c2 => unfold maxLen; omega
   case c3 => omega
   case c4 => first | omega | (simp; omega)
   intro v' wb hown hg _
   obtain ⟨A1, cc1, rfl, _, _, _⟩ := own_slice hown
   rw [← List.map_take] at hown
   have P := Lib.hid (HE.out.put hgr HBZ.out hown hg)
   have hbB := (HE.out.box.alloc _).grown hg (fun e => by have := HLO.out gc e.symm; omega)
   have d2 : wb.cell? ⟨gc, 2, none⟩ = some v := hbB.cell 2
   have e2 := hbB.frozen 2
   have lgb := hbB.lt
   rw [e1] at P
   clear hown hg hbB b2 c2 c3 c4' c5' c0
   go_wp2_with (fail)
   go_roundw
   case rel => exact ⟨j + 1, _, hlt, by go_num, P⟩
   case measure => simp [intOf]; omega
  ·obtain rfl : j = bs.length := by omega
   have ER := Lib.hid (err_any g t6 B wr HE.out.inn)
   have hrow := HE.out.row
   rw [List.take_of_length_le (Nat.le_refl _)] at hrow
   obtain ⟨A2, cc2, rfl, hrd2, hn2, hm2⟩ := own_slice hrow
   have HROW := Lib.hid hrow
   have HRD2 := Lib.hid hrd2
   have I8 := Lib.hid HE.out.inn
   have R8 := Lib.hid HE.out.res
   have X8 := Lib.hid HE.out.box
   have C8 := Lib.hid HE.out.chg
   clear hrow hrd2 HE
   go_wp2_with (fail)
   refine ER.out.mono ?_
   rintro e w9 ⟨rfl, rfl⟩
   obtain ⟨r0, r1, r2, r3, r4⟩ := cells5 R8.out
   obtain ⟨f0, f1, f2, f3, f4⟩ := frozen5 R8.out
   have lr := R8.out.lt
   by_cases he : t6.e = 0
   rotate_left
   ·have heb : (t6.e != 0) = true := by simpa using he
    have H1 : Hid (gv = Cn.zero) := Lib.hid (by rw [VV.out, if_pos he])
    have H2 : Hid (ge = t6.e) := Lib.hid (by rw [VE.out, if_pos he])
    clear he VV VE ER
    go_wp2_with (fail)
    have HC := Lib.hid (set5_chg wr w.heap.size (.int .i64 0) (.int .u64 0) (.slice none 0 0) (.bool false) (.int .i64 0))
    have HK := Lib.hid (set5_blk R8.out (.int .i64 0) (.int .u64 0) (.slice none 0 0) (.bool false) (.int .i64 0))
    generalize ((((wr.setCell ⟨w.heap.size, 0, none⟩ (.int .i64 0)).setCell ⟨w.heap.size, 1, none⟩ (.int .u64 0)).setCell ⟨w.heap.size, 2, none⟩ (.slice none 0 0)).setCell ⟨w.heap.size, 3, none⟩ (.bool false)).setCell ⟨w.heap.size, 4, none⟩ (.int .i64 0) = wz at *
    clear r0 r1 r2 r3 r4 f0 f1 f2 f3 f4
    obtain ⟨k0, k1, k2, k3, k4⟩ := cells5 HK.out
    go_wp2_with (fail)
    refine bodyPost_ret (v := .tuple #[.agg #[.int .i64 0, .int .u64 0, .slice none 0 0, .bool false, .int .i64 0], .int .i64 t6.e]) (by simp [results, Tryz.results309, go_sem, k0, k1, k2, k3, k4]) rfl ?_
    exact HCG.out Cn.zero _ none 0 _ H1.out H2.out (World.ownsRow_nil _ _ _ _) (I8.out.below (HC.out.below I8.out.le (fun k hk e => by simp only [isG] at e; omega))) (C8.out.trans HC.out (fun k hk e => by simp only [isG] at e; omega))
   ·have heb : (t6.e != 0) = false := by simp [he]
    have VV2 : Hid (gv = if qq.right = true then qq else Cn.zero) := Lib.hid (by rw [VV.out, if_neg (fun h => h he)])
    have VE2 : Hid (ge = if qq.right = true then 0 else 4) := Lib.hid (by rw [VE.out, if_neg (fun h => h he)])
    obtain ⟨x0, x1, x2, x3, x4⟩ := cells5 X8.out
    have lx := X8.out.lt
    have HE0 := Lib.hid he
    have RG := Lib.hid (right_any ⟨n1, n2, A2, bs.length, cc2, fr, n4, bs⟩ wr.heap.size wr ⟨HRD2.out, hn2, hm2⟩ (Nat.le_refl _))
    have HQR : Hid (Cf.right ⟨n1, n2, A2, bs.length, cc2, fr, n4, bs⟩ = qq.right) := Lib.hid (by rw [QP.out]; rfl)
    rw [HQR.out] at RG
    clear he VV VE ER
    generalize qq.right = qr at *
    go_wp2_with (fail)
    refine RG.out.mono ?_
    rintro e wd ⟨rfl, h9⟩
    have I9 := Lib.hid (I8.out.below (h9.mono I8.out.le))
    have R9 := Lib.hid (R8.out.below h9 lr)
    have X9 := Lib.hid (X8.out.below h9 lx)
    have C9 := Lib.hid (C8.out.trans (Chg.of_below h9 _) (fun _ _ h => h))
    have O9 := Lib.hid ((Chg.of_below h9 (fun _ => False)).own HROW.out (fun _ _ e => e))
    clear h9 RG r0 r1 r2 r3 r4 f0 f1 f2 f3 f4 x0 x1 x2 x3 x4 lr lx I8 R8 X8 C8 HROW
    obtain ⟨r0, r1, r2, r3, r4⟩ := cells5 R9.out
    obtain ⟨f0, f1, f2, f3, f4⟩ := frozen5 R9.out
    have lr := R9.out.lt
    cases qr
    ·have H1 : Hid (gv = Cn.zero) := Lib.hid (by rw [VV2.out]; simp)
     have H2 : Hid (ge = 4) := Lib.hid (by rw [VE2.out]; simp)
     clear VV2 VE2
     go_wp2_with (fail)
     have HC := Lib.hid (set5_chg wd w.heap.size (.int .i64 0) (.int .u64 0) (.slice none 0 0) (.bool false) (.int .i64 0))
     have HK := Lib.hid (set5_blk R9.out (.int .i64 0) (.int .u64 0) (.slice none 0 0) (.bool false) (.int .i64 0))
     generalize ((((wd.setCell ⟨w.heap.size, 0, none⟩ (.int .i64 0)).setCell ⟨w.heap.size, 1, none⟩ (.int .u64 0)).setCell ⟨w.heap.size, 2, none⟩ (.slice none 0 0)).setCell ⟨w.heap.size, 3, none⟩ (.bool false)).setCell ⟨w.heap.size, 4, none⟩ (.int .i64 0) = wz at *
     clear r0 r1 r2 r3 r4 f0 f1 f2 f3 f4
     obtain ⟨k0, k1, k2, k3, k4⟩ := cells5 HK.out
     go_wp2_with (fail)
     refine bodyPost_ret (v := .tuple #[.agg #[.int .i64 0, .int .u64 0, .slice none 0 0, .bool false, .int .i64 0], .int .i64 4]) (by simp [results, Tryz.results309, go_sem, k0, k1, k2, k3, k4]) rfl ?_
     exact HCG.out Cn.zero _ none 0 _ H1.out H2.out (World.ownsRow_nil _ _ _ _) (I9.out.below (HC.out.below I9.out.le (fun k hk e => by simp only [isG] at e; omega))) (C9.out.trans HC.out (fun k hk e => by simp only [isG] at e; omega))
    ·have H1 : Hid (gv = qq) := Lib.hid (by rw [VV2.out]; simp)
     have H2 : Hid (ge = 0) := Lib.hid (by rw [VE2.out]; simp)
     clear VV2 VE2
     obtain ⟨x0, x1, x2, x3, x4⟩ := cells5 X9.out
     have lx := X9.out.lt
     go_wp2_with (fail)
     have HC := Lib.hid (set5_chg wd w.heap.size (.int .i64 n1) (.int .u64 n2) (.slice A2 bs.length cc2) (.bool fr) (.int .i64 n4))
     have HK := Lib.hid (set5_blk R9.out (.int .i64 n1) (.int .u64 n2) (.slice A2 bs.length cc2) (.bool fr) (.int .i64 n4))
     generalize ((((wd.setCell ⟨w.heap.size, 0, none⟩ (.int .i64 n1)).setCell ⟨w.heap.size, 1, none⟩ (.int .u64 n2)).setCell ⟨w.heap.size, 2, none⟩ (.slice A2 bs.length cc2)).setCell ⟨w.heap.size, 3, none⟩ (.bool fr)).setCell ⟨w.heap.size, 4, none⟩ (.int .i64 n4) = wz at *
     clear r0 r1 r2 r3 r4 f0 f1 f2 f3 f4 x0 x1 x2 x3 x4
     obtain ⟨k0, k1, k2, k3, k4⟩ := cells5 HK.out
     go_wp2_with (fail)
     refine bodyPost_ret (v := .tuple #[.agg #[.int .i64 n1, .int .u64 n2, .slice A2 bs.length cc2, .bool fr, .int .i64 n4], .int .i64 0]) (by simp [results, Tryz.results309, go_sem, k0, k1, k2, k3, k4]) rfl ?_
     exact HCG.out ⟨n1, n2, fr, n4, bs⟩ _ A2 cc2 _ (by rw [H1.out, QP.out]) H2.out (HC.out.own (own_base O9.out (by omega)) (fun k hk e => by have := (O9.out.lt k hk).1; simp only [isG] at e; omega)) (I9.out.below (HC.out.below I9.out.le (fun k hk e => by simp only [isG] at e; omega))) (C9.out.trans HC.out (fun k hk e => by simp only [isG] at e; omega))
end Go.Proofs.YtmpedblelnpjdaaGreatDoor
