/- GH: CdS CdU -/
import Derived.Test.YtmpedblelnpjdaaGreatDoorZGG
import Derived.Test.YtmpedblelnpjdaaGreatDoorZTq
import Derived.Test.YtmpedblelnpjdaaGreatDoorZGC
/- Same of updates, votes, configurations and letters, of both (printed by cdgen3.py). -/
namespace Go.Proofs.YtmpedblelnpjdaaGreatDoor
open Go.RowKit
set_option linter.unusedSimpArgs false
set_option linter.unusedVariables false
set_option maxHeartbeats 8000000
set_option maxRecDepth 100000
theorem letUpG_any (x y : Up) (B D : Nat) (w : World) (h1 : UpIn w B x) (h2 : UpIn w D y) (hB : B ≤ w.heap.size) (hD : D ≤ w.heap.size) (hn : x.n ≤ 1000000) :
  Calls Tryz.prog 205 #[x.agg, y.agg] w fun e w' => e = .returned (.bool (decide (x.val = y.val))) ∧ Below w.heap.size w w' := by
 obtain ⟨W0, hW0⟩ : ∃ W0, W0 = (w.alloc (.cells #[.int .u64 x.seq, .int .i64 x.cl, .int .u64 x.num, .int .i64 x.kd, .int .u32 x.key, .int .u64 x.ver, .slice x.A x.n x.c] 145)).alloc (.cells #[.int .u64 y.seq, .int .i64 y.cl, .int .u64 y.num, .int .i64 y.kd, .int .u32 y.key, .int .u64 y.ver, .slice y.A y.n y.c] 145) := ⟨_, rfl⟩
 have hb0 : Below w.heap.size w W0 := by rw [hW0]; exact ((Below.refl _ _).alloc (Nat.le_refl _) _).alloc (by simp) _
 have BX : Blk W0 w.heap.size 145 #[.int .u64 x.seq, .int .i64 x.cl, .int .u64 x.num, .int .i64 x.kd, .int .u32 x.key, .int .u64 x.ver, .slice x.A x.n x.c] := by rw [hW0]; exact (Blk.new _ _ _).alloc _
 have BY : Blk W0 (w.heap.size + 1) 145 #[.int .u64 y.seq, .int .i64 y.cl, .int .u64 y.num, .int .i64 y.kd, .int .u32 y.key, .int .u64 y.ver, .slice y.A y.n y.c] := by rw [hW0]; exact blk_at _ _ _ (w.heap.size + 1) (by simp)
 have x6 : W0.cell? ⟨w.heap.size, 6, none⟩ = some (.slice x.A x.n x.c) := BX.cell 6
 have y6 : W0.cell? ⟨w.heap.size + 1, 6, none⟩ = some (.slice y.A y.n y.c) := BY.cell 6
 have x0 : W0.cell? ⟨w.heap.size, 0, none⟩ = some (.int .u64 x.seq) := BX.cell 0
 have y0 : W0.cell? ⟨w.heap.size + 1, 0, none⟩ = some (.int .u64 y.seq) := BY.cell 0
 have x1 : W0.cell? ⟨w.heap.size, 1, none⟩ = some (.int .i64 x.cl) := BX.cell 1
 have y1 : W0.cell? ⟨w.heap.size + 1, 1, none⟩ = some (.int .i64 y.cl) := BY.cell 1
 have x2 : W0.cell? ⟨w.heap.size, 2, none⟩ = some (.int .u64 x.num) := BX.cell 2
 have y2 : W0.cell? ⟨w.heap.size + 1, 2, none⟩ = some (.int .u64 y.num) := BY.cell 2
 have x3 : W0.cell? ⟨w.heap.size, 3, none⟩ = some (.int .i64 x.kd) := BX.cell 3
 have y3 : W0.cell? ⟨w.heap.size + 1, 3, none⟩ = some (.int .i64 y.kd) := BY.cell 3
 have x4 : W0.cell? ⟨w.heap.size, 4, none⟩ = some (.int .u32 x.key) := BX.cell 4
 have y4 : W0.cell? ⟨w.heap.size + 1, 4, none⟩ = some (.int .u32 y.key) := BY.cell 4
 have x5 : W0.cell? ⟨w.heap.size, 5, none⟩ = some (.int .u64 x.ver) := BX.cell 5
 have y5 : W0.cell? ⟨w.heap.size + 1, 5, none⟩ = some (.int .u64 y.ver) := BY.cell 5
 have lx := BX.lt
 have ly := BY.lt
 have CB := Lib.hid (bytesEqI_any x.A y.A x.n y.n x.c y.c B D x.bs y.bs W0 (h1.rd.below (hb0.mono hB)) (h2.rd.below (hb0.mono hD)) (fun z hz => by have := h1.wf.bs z hz; omega) (fun z hz => by have := h2.wf.bs z hz; omega))
 have HB := Lib.hid hb0
 have HW := Lib.hid hW0
 clear hb0 hW0 BX BY h1 h2
 show Calls Tryz.prog 205 #[.agg #[.int .u64 x.seq, .int .i64 x.cl, .int .u64 x.num, .int .i64 x.kd, .int .u32 x.key, .int .u64 x.ver, .slice x.A x.n x.c], .agg #[.int .u64 y.seq, .int .i64 y.cl, .int .u64 y.num, .int .i64 y.kd, .int .u32 y.key, .int .u64 y.ver, .slice y.A y.n y.c]] w _
 by_cases q0 : x.seq = y.seq
 rotate_left
 ·have e1 : (x.seq == y.seq) = false := by simpa using q0
  have HN : Hid (decide (x.val = y.val) = false) := Lib.hid (decide_eq_false (fun e => q0 (by simp only [Up.val, Prod.mk.injEq] at e; simp only [e])))
  clear q0 CB
  exact rp43
 rw [← q0] at y0
 have Q0 := Lib.hid q0
 clear q0
 by_cases q1 : x.cl = y.cl
 rotate_left
 ·have e1 : (x.cl == y.cl) = false := by simpa using q1
  have HN : Hid (decide (x.val = y.val) = false) := Lib.hid (decide_eq_false (fun e => q1 (by simp only [Up.val, Prod.mk.injEq] at e; simp only [e])))
  clear q1 CB
  exact rp43
 rw [← q1] at y1
 have Q1 := Lib.hid q1
 clear q1
 by_cases q2 : x.num = y.num
 rotate_left
 ·have e1 : (x.num == y.num) = false := by simpa using q2
  have HN : Hid (decide (x.val = y.val) = false) := Lib.hid (decide_eq_false (fun e => q2 (by simp only [Up.val, Prod.mk.injEq] at e; simp only [e])))
  clear q2 CB
  exact rp43
 rw [← q2] at y2
 have Q2 := Lib.hid q2
 clear q2
 by_cases q3 : x.kd = y.kd
 rotate_left
 ·have e1 : (x.kd == y.kd) = false := by simpa using q3
  have HN : Hid (decide (x.val = y.val) = false) := Lib.hid (decide_eq_false (fun e => q3 (by simp only [Up.val, Prod.mk.injEq] at e; simp only [e])))
  clear q3 CB
  exact rp43
 rw [← q3] at y3
 have Q3 := Lib.hid q3
 clear q3
 by_cases q4 : x.key = y.key
 rotate_left
 ·have e1 : (x.key == y.key) = false := by simpa using q4
  have HN : Hid (decide (x.val = y.val) = false) := Lib.hid (decide_eq_false (fun e => q4 (by simp only [Up.val, Prod.mk.injEq] at e; simp only [e])))
  clear q4 CB
  exact rp43
 rw [← q4] at y4
 have Q4 := Lib.hid q4
 clear q4
 by_cases q5 : x.ver = y.ver
 rotate_left
 ·have e1 : (x.ver == y.ver) = false := by simpa using q5
  have HN : Hid (decide (x.val = y.val) = false) := Lib.hid (decide_eq_false (fun e => q5 (by simp only [Up.val, Prod.mk.injEq] at e; simp only [e])))
  clear q5 CB
  exact rp43
 rw [← q5] at y5
 have Q5 := Lib.hid q5
 clear q5
 have HV : Hid (decide (x.val = y.val) = decide (x.bs = y.bs)) := Lib.hid (decide_eq_decide.2 (by simp only [Up.val, Prod.mk.injEq]; exact ⟨fun h => h.2.2.2.2.2.2, fun h => ⟨Q0.out, Q1.out, Q2.out, Q3.out, Q4.out, Q5.out, h⟩⟩))
 generalize decide (x.val = y.val) = b0 at *
 generalize decide (x.bs = y.bs) = b1 at *
 obtain rfl := HV.out
 go_enter Tryz.func205, Tryz.ntmps205
 go_upto_region 1 with (fail)
 rw [← HW.out]
 go_wp2_with (fail)
 refine CB.out.mono ?_
 rintro e w1 ⟨rfl, rfl⟩
 go_wp2_with (fail)
 go_ret
 exact ⟨rfl, HB.out⟩
theorem refUpG_any (x y : Up) (B D : Nat) (w : World) (h1 : UpIn w B x) (h2 : UpIn w D y) (hB : B ≤ w.heap.size) (hD : D ≤ w.heap.size) (hn : x.n ≤ 1000000) :
  Calls Tryz.prog 128 #[x.agg, y.agg] w fun e w' => e = .returned (.bool (decide (x.val = y.val))) ∧ Below w.heap.size w w' := by
 obtain ⟨W0, hW0⟩ : ∃ W0, W0 = (w.alloc (.cells #[.int .u64 x.seq, .int .i64 x.cl, .int .u64 x.num, .int .i64 x.kd, .int .u32 x.key, .int .u64 x.ver, .slice x.A x.n x.c] 145)).alloc (.cells #[.int .u64 y.seq, .int .i64 y.cl, .int .u64 y.num, .int .i64 y.kd, .int .u32 y.key, .int .u64 y.ver, .slice y.A y.n y.c] 145) := ⟨_, rfl⟩
 have hb0 : Below w.heap.size w W0 := by rw [hW0]; exact ((Below.refl _ _).alloc (Nat.le_refl _) _).alloc (by simp) _
 have BX : Blk W0 w.heap.size 145 #[.int .u64 x.seq, .int .i64 x.cl, .int .u64 x.num, .int .i64 x.kd, .int .u32 x.key, .int .u64 x.ver, .slice x.A x.n x.c] := by rw [hW0]; exact (Blk.new _ _ _).alloc _
 have BY : Blk W0 (w.heap.size + 1) 145 #[.int .u64 y.seq, .int .i64 y.cl, .int .u64 y.num, .int .i64 y.kd, .int .u32 y.key, .int .u64 y.ver, .slice y.A y.n y.c] := by rw [hW0]; exact blk_at _ _ _ (w.heap.size + 1) (by simp)
 have x6 : W0.cell? ⟨w.heap.size, 6, none⟩ = some (.slice x.A x.n x.c) := BX.cell 6
 have y6 : W0.cell? ⟨w.heap.size + 1, 6, none⟩ = some (.slice y.A y.n y.c) := BY.cell 6
 have x0 : W0.cell? ⟨w.heap.size, 0, none⟩ = some (.int .u64 x.seq) := BX.cell 0
 have y0 : W0.cell? ⟨w.heap.size + 1, 0, none⟩ = some (.int .u64 y.seq) := BY.cell 0
 have x1 : W0.cell? ⟨w.heap.size, 1, none⟩ = some (.int .i64 x.cl) := BX.cell 1
 have y1 : W0.cell? ⟨w.heap.size + 1, 1, none⟩ = some (.int .i64 y.cl) := BY.cell 1
 have x2 : W0.cell? ⟨w.heap.size, 2, none⟩ = some (.int .u64 x.num) := BX.cell 2
 have y2 : W0.cell? ⟨w.heap.size + 1, 2, none⟩ = some (.int .u64 y.num) := BY.cell 2
 have x3 : W0.cell? ⟨w.heap.size, 3, none⟩ = some (.int .i64 x.kd) := BX.cell 3
 have y3 : W0.cell? ⟨w.heap.size + 1, 3, none⟩ = some (.int .i64 y.kd) := BY.cell 3
 have x4 : W0.cell? ⟨w.heap.size, 4, none⟩ = some (.int .u32 x.key) := BX.cell 4
 have y4 : W0.cell? ⟨w.heap.size + 1, 4, none⟩ = some (.int .u32 y.key) := BY.cell 4
 have x5 : W0.cell? ⟨w.heap.size, 5, none⟩ = some (.int .u64 x.ver) := BX.cell 5
 have y5 : W0.cell? ⟨w.heap.size + 1, 5, none⟩ = some (.int .u64 y.ver) := BY.cell 5
 have lx := BX.lt
 have ly := BY.lt
 have CB := Lib.hid (same_any x.A y.A x.n y.n x.c y.c B D x.bs y.bs W0 (Nat.le_trans hB hb0.size) (Nat.le_trans hD hb0.size) (h1.rd.below (hb0.mono hB)) (h2.rd.below (hb0.mono hD)) (by omega))
 have HB := Lib.hid hb0
 have HW := Lib.hid hW0
 clear hb0 hW0 BX BY h1 h2
 show Calls Tryz.prog 128 #[.agg #[.int .u64 x.seq, .int .i64 x.cl, .int .u64 x.num, .int .i64 x.kd, .int .u32 x.key, .int .u64 x.ver, .slice x.A x.n x.c], .agg #[.int .u64 y.seq, .int .i64 y.cl, .int .u64 y.num, .int .i64 y.kd, .int .u32 y.key, .int .u64 y.ver, .slice y.A y.n y.c]] w _
 by_cases q0 : x.seq = y.seq
 rotate_left
 ·have e1 : (x.seq == y.seq) = false := by simpa using q0
  have HN : Hid (decide (x.val = y.val) = false) := Lib.hid (decide_eq_false (fun e => q0 (by simp only [Up.val, Prod.mk.injEq] at e; simp only [e])))
  clear q0 CB
  exact rp44
 rw [← q0] at y0
 have Q0 := Lib.hid q0
 clear q0
 by_cases q1 : x.cl = y.cl
 rotate_left
 ·have e1 : (x.cl == y.cl) = false := by simpa using q1
  have HN : Hid (decide (x.val = y.val) = false) := Lib.hid (decide_eq_false (fun e => q1 (by simp only [Up.val, Prod.mk.injEq] at e; simp only [e])))
  clear q1 CB
  exact rp44
 rw [← q1] at y1
 have Q1 := Lib.hid q1
 clear q1
 by_cases q2 : x.num = y.num
 rotate_left
 ·have e1 : (x.num == y.num) = false := by simpa using q2
  have HN : Hid (decide (x.val = y.val) = false) := Lib.hid (decide_eq_false (fun e => q2 (by simp only [Up.val, Prod.mk.injEq] at e; simp only [e])))
  clear q2 CB
  exact rp44
 rw [← q2] at y2
 have Q2 := Lib.hid q2
 clear q2
 by_cases q3 : x.kd = y.kd
 rotate_left
 ·have e1 : (x.kd == y.kd) = false := by simpa using q3
  have HN : Hid (decide (x.val = y.val) = false) := Lib.hid (decide_eq_false (fun e => q3 (by simp only [Up.val, Prod.mk.injEq] at e; simp only [e])))
  clear q3 CB
  exact rp44
 rw [← q3] at y3
 have Q3 := Lib.hid q3
 clear q3
 by_cases q4 : x.key = y.key
 rotate_left
 ·have e1 : (x.key == y.key) = false := by simpa using q4
  have HN : Hid (decide (x.val = y.val) = false) := Lib.hid (decide_eq_false (fun e => q4 (by simp only [Up.val, Prod.mk.injEq] at e; simp only [e])))
  clear q4 CB
  exact rp44
 rw [← q4] at y4
 have Q4 := Lib.hid q4
 clear q4
 by_cases q5 : x.ver = y.ver
 rotate_left
 ·have e1 : (x.ver == y.ver) = false := by simpa using q5
  have HN : Hid (decide (x.val = y.val) = false) := Lib.hid (decide_eq_false (fun e => q5 (by simp only [Up.val, Prod.mk.injEq] at e; simp only [e])))
  clear q5 CB
  exact rp44
 rw [← q5] at y5
 have Q5 := Lib.hid q5
 clear q5
 have HV : Hid (decide (x.val = y.val) = decide (x.bs = y.bs)) := Lib.hid (decide_eq_decide.2 (by simp only [Up.val, Prod.mk.injEq]; exact ⟨fun h => h.2.2.2.2.2.2, fun h => ⟨Q0.out, Q1.out, Q2.out, Q3.out, Q4.out, Q5.out, h⟩⟩))
 generalize decide (x.val = y.val) = b0 at *
 generalize decide (x.bs = y.bs) = b1 at *
 obtain rfl := HV.out
 go_enter Tryz.func128, Tryz.ntmps128
 go_upto_region 1 with (fail)
 rw [← HW.out]
 go_wp2_with (fail)
 refine CB.out.mono ?_
 exact rp39
theorem eqIntsG_any (A C : Option Addr) (n m c d B D : Nat) (x y : List Int) (w : World) (hB : B ≤ w.heap.size) (hD : D ≤ w.heap.size) (hx : Reads w B 1 A n (x.map (Value.int .i64))) (hy : Reads w D 1 C m (y.map (Value.int .i64))) (hn : n ≤ 1000000) :
  Calls Tryz.prog 284 #[.slice A n c, .slice C m d] w fun e w' => e = .returned (.bool (decide (x = y))) ∧ Below w.heap.size w w' := by
 have lx : x.length = n := by have := hx.1; simpa using this
 have ly : y.length = m := by have := hy.1; simpa using this
 by_cases hnm : n = m
 ·have hX : Hid (y.length = x.length) := Lib.hid (by omega)
  subst hnm
  have HX := Lib.hid hx
  have HY := Lib.hid hy
  have LX := Lib.hid lx
  have LY := Lib.hid ly
  clear hx hy lx ly
  go_enter Tryz.func284, Tryz.ntmps284
  go_wp2
  go_loopw [13] (fun i wr => ∃ k : Nat, k ≤ n ∧ i = .int .i64 k ∧ Hid (x.take k = y.take k) ∧ Hid (Below w.heap.size w wr)) (fun i _ => n - (intOf i).toNat)
  case atStart => exact ⟨0, by omega, rfl, Lib.hid rfl, Lib.hid (Below.refl _ _)⟩
  case round =>
   exact rp34
 ·have hz : ((n : Int) != (m : Int)) = true := by simpa using fun h => hnm (by omega)
  have hne : Hid (decide (x = y) = false) := Lib.hid (decide_eq_false (fun e => hnm (by rw [← lx, ← ly, e])))
  clear hx hy lx ly hnm
  go_enter Tryz.func284, Tryz.ntmps284
  go_wp2
  go_ret
  exact ⟨ret_bool (by rw [hne.out]), Below.refl _ _⟩
theorem ref04IntsG_any (A C : Option Addr) (n m c d B D : Nat) (x y : List Int) (w : World) (hB : B ≤ w.heap.size) (hD : D ≤ w.heap.size) (hx : Reads w B 1 A n (x.map (Value.int .i64))) (hy : Reads w D 1 C m (y.map (Value.int .i64))) (hn : n ≤ 1000000) :
  Calls Tryz.prog 127 #[.slice A n c, .slice C m d] w fun e w' => e = .returned (.bool (decide (x = y))) ∧ Below w.heap.size w w' := by
 have lx : x.length = n := by have := hx.1; simpa using this
 have ly : y.length = m := by have := hy.1; simpa using this
 by_cases hnm : n = m
 ·have hX : Hid (y.length = x.length) := Lib.hid (by omega)
  subst hnm
  have HX := Lib.hid hx
  have HY := Lib.hid hy
  have LX := Lib.hid lx
  have LY := Lib.hid ly
  clear hx hy lx ly
  go_enter Tryz.func127, Tryz.ntmps127
  go_wp2
  go_loopw [5] (fun i wr => ∃ k : Nat, k ≤ n ∧ i = .int .i64 k ∧ Hid (x.take k = y.take k) ∧ Hid (Below w.heap.size w wr)) (fun i _ => n - (intOf i).toNat)
  case atStart => exact ⟨0, by omega, rfl, Lib.hid rfl, Lib.hid (Below.refl _ _)⟩
  case round =>
   exact rp34
 ·have hz : ((n : Int) != (m : Int)) = true := by simpa using fun h => hnm (by omega)
  have hne : Hid (decide (x = y) = false) := Lib.hid (decide_eq_false (fun e => hnm (by rw [← lx, ← ly, e])))
  clear hx hy lx ly hnm
  go_enter Tryz.func127, Tryz.ntmps127
  go_wp2
  go_ret
  exact ⟨ret_bool (by rw [hne.out]), Below.refl _ _⟩
theorem eqVotesG_any (A C : Option Addr) (n m c d B D : Nat) (x y : List Vt) (w : World) (hB : B ≤ w.heap.size) (hD : D ≤ w.heap.size) (hx : Reads w B 6 A n (x.flatMap Vt.row)) (hy : Reads w D 6 C m (y.flatMap Vt.row)) (hn : n ≤ 1000000) :
  Calls Tryz.prog 203 #[.slice A n c, .slice C m d] w fun e w' => e = .returned (.bool (decide (x = y))) ∧ Below w.heap.size w w' := by
 have lx : x.length = n := flat_len Vt.row Vt.row_len (by omega) hx
 have ly : y.length = m := flat_len Vt.row Vt.row_len (by omega) hy
 by_cases hnm : n = m
 ·have hX : Hid (y.length = x.length) := Lib.hid (by omega)
  subst hnm
  have HX := Lib.hid hx
  have HY := Lib.hid hy
  have LX := Lib.hid lx
  have LY := Lib.hid ly
  clear hx hy lx ly
  go_enter Tryz.func203, Tryz.ntmps203
  go_wp2
  go_loopw [13] (fun i wr => ∃ k : Nat, k ≤ n ∧ i = .int .i64 k ∧ Hid (x.take k = y.take k) ∧ Hid (Below w.heap.size w wr)) (fun i _ => n - (intOf i).toNat)
  case atStart => exact ⟨0, by omega, rfl, Lib.hid rfl, Lib.hid (Below.refl _ _)⟩
  case round =>
   exact rp9
 ·have hz : ((n : Int) != (m : Int)) = true := by simpa using fun h => hnm (by omega)
  have hne : Hid (decide (x = y) = false) := Lib.hid (decide_eq_false (fun e => hnm (by rw [← lx, ← ly, e])))
  clear hx hy lx ly hnm
  go_enter Tryz.func203, Tryz.ntmps203
  go_wp2
  go_ret
  exact ⟨ret_bool (by rw [hne.out]), Below.refl _ _⟩
theorem refVotesG_any (A C : Option Addr) (n m c d B D : Nat) (x y : List Vt) (w : World) (hB : B ≤ w.heap.size) (hD : D ≤ w.heap.size) (hx : Reads w B 6 A n (x.flatMap Vt.row)) (hy : Reads w D 6 C m (y.flatMap Vt.row)) (hn : n ≤ 1000000) :
  Calls Tryz.prog 56 #[.slice A n c, .slice C m d] w fun e w' => e = .returned (.bool (decide (x = y))) ∧ Below w.heap.size w w' := by
 have lx : x.length = n := flat_len Vt.row Vt.row_len (by omega) hx
 have ly : y.length = m := flat_len Vt.row Vt.row_len (by omega) hy
 by_cases hnm : n = m
 ·have hX : Hid (y.length = x.length) := Lib.hid (by omega)
  subst hnm
  have HX := Lib.hid hx
  have HY := Lib.hid hy
  have LX := Lib.hid lx
  have LY := Lib.hid ly
  clear hx hy lx ly
  go_enter Tryz.func56, Tryz.ntmps56
  go_wp2
  go_loopw [5] (fun i wr => ∃ k : Nat, k ≤ n ∧ i = .int .i64 k ∧ Hid (x.take k = y.take k) ∧ Hid (Below w.heap.size w wr)) (fun i _ => n - (intOf i).toNat)
  case atStart => exact ⟨0, by omega, rfl, Lib.hid rfl, Lib.hid (Below.refl _ _)⟩
  case round =>
   exact rp9
 ·have hz : ((n : Int) != (m : Int)) = true := by simpa using fun h => hnm (by omega)
  have hne : Hid (decide (x = y) = false) := Lib.hid (decide_eq_false (fun e => hnm (by rw [← lx, ← ly, e])))
  clear hx hy lx ly hnm
  go_enter Tryz.func56, Tryz.ntmps56
  go_wp2
  go_ret
  exact ⟨ret_bool (by rw [hne.out]), Below.refl _ _⟩
attribute [local go_sem] Up.agg Up.cells
theorem letSameUp_enter : ∀ (args : Array Value) (w : World), (callFunc 205 args).run Tryz.prog w = .ok (.enter 205 args) w :=
 enters_of Tryz.func205 (by kernel_rfl) rfl
theorem eqUpsG_any (A C : Option Addr) (n m c d B D : Nat) (x y : List Up) (w : World) (hB : B ≤ w.heap.size) (hD : D ≤ w.heap.size) (hx : UpsIn w B A n x) (hy : UpsIn w D C m y) (hn : n ≤ 1000000) (hu : ∀ u ∈ x, u.n ≤ 1000000) :
  Calls Tryz.prog 204 #[.slice A n c, .slice C m d, .func (.func 205) #[] #[]] w fun e w' => e = .returned (.bool (decide (x.map Up.val = y.map Up.val))) ∧ Below w.heap.size w w' := by
 have lx := hx.len
 have ly := hy.len
 have hent := letSameUp_enter
 have HNU := Lib.hid hu
 clear hu
 by_cases hnm : n = m
 ·have hX : Hid (y.length = x.length) := Lib.hid (by omega)
  subst hnm
  have HX := Lib.hid hx
  have HY := Lib.hid hy
  have LX := Lib.hid lx
  have LY := Lib.hid ly
  clear hx hy lx ly
  go_enter Tryz.func204, Tryz.ntmps204
  go_wp2
  go_loopw [17] (fun i wr => ∃ k : Nat, k ≤ n ∧ i = .int .i64 k ∧ Hid ((x.take k).map Up.val = (y.take k).map Up.val) ∧ Hid (Below w.heap.size w wr)) (fun i _ => n - (intOf i).toNat)
  case atStart => exact ⟨0, by omega, rfl, Lib.hid rfl, Lib.hid (Below.refl _ _)⟩
  case round =>
   obtain ⟨k, hk, rfl, hT, hb⟩ := hrel
   by_cases hlt : k < n
   ·obtain ⟨b1, o1, u, rfl, hb1, hz1, hi1, u0, u1, u2, u3, u4, u5, u6⟩ := (HX.out.below (hb.out.mono hB)).at_ hlt
    obtain ⟨b2, o2, v, rfl, hb2, hz2, hi2, v0, v1, v2, v3, v4, v5, v6⟩ := (HY.out.below (hb.out.mono hD)).at_ hlt
    have Z1 := Lib.hid hz1
    have Z2 := Lib.hid hz2
    have I1 := Lib.hid hi1
    have I2 := Lib.hid hi2
    have hlu := HNU.out u (List.mem_of_getElem? hz1)
    have hbw1 : b1 < wr.heap.size := Nat.lt_of_lt_of_le hb1 (Nat.le_trans hB hb.out.size)
    have hbw2 : b2 < wr.heap.size := Nat.lt_of_lt_of_le hb2 (Nat.le_trans hD hb.out.size)
    clear hz1 hz2 hi1 hi2 hb1 hb2
    obtain ⟨W2, hW2⟩ : ∃ W2, W2 = (wr.alloc (.cells u.cells 145)).alloc (.cells v.cells 145) := ⟨_, rfl⟩
    have hb2w : Below wr.heap.size wr W2 := by rw [hW2]; exact ((Below.refl _ _).alloc (Nat.le_refl _) _).alloc (by simp) _
    have B2 := Lib.hid (hb.out.trans (hb2w.mono hb.out.size))
    have SL := Lib.hid (letUpG_any u v B D W2 (I1.out.below (hb2w.mono (Nat.le_trans hB hb.out.size))) (I2.out.below (hb2w.mono (Nat.le_trans hD hb.out.size))) (Nat.le_trans hB B2.out.size) (Nat.le_trans hD B2.out.size) hlu)
    have HW2 := Lib.hid hW2
    have BU : Hid (Blk W2 wr.heap.size 145 u.cells) := Lib.hid (by rw [hW2]; exact (Blk.new _ _ _).alloc _)
    have BV : Hid (Blk W2 (wr.heap.size + 1) 145 v.cells) := Lib.hid (by rw [hW2]; exact blk_at _ _ _ (wr.heap.size + 1) (by simp))
    clear hW2 hb2w
    go_upto_region 7 with (fail)
    have e0 := HW2.out
    simp only [Up.cells] at e0
    rw [← e0]
    clear e0 u0 u1 u2 u3 u4 u5 u6 v0 v1 v2 v3 v4 v5 v6
    obtain ⟨u0, u1, u2, u3, u4, u5, u6⟩ := cellsu7 BU.out
    obtain ⟨v0, v1, v2, v3, v4, v5, v6⟩ := cellsu7 BV.out
    have lu := BU.out.lt
    have lv := BV.out.lt
    by_cases hv : u.val = v.val
    ·have QV := Lib.hid hv
     rw [decide_eq_true hv] at SL
     clear hv
     go_wp2_with (fail)
     refine SL.out.mono ?_
     rintro e w1 ⟨rfl, h⟩
     have B3 := Lib.hid (B2.out.trans (h.mono B2.out.size))
     clear h u0 u1 u2 u3 u4 u5 u6 v0 v1 v2 v3 v4 v5 v6
     go_wp2_with (fail)
     go_roundw
     case rel =>
      refine ⟨k + 1, by omega, by go_num, Lib.hid ?_, Lib.hid B3.out⟩
      rw [List.take_add_one, List.take_add_one, Z1.out, Z2.out, List.map_append, List.map_append, hT.out]
      simp only [Option.toList_some, List.map_cons, List.map_nil, QV.out]
     case measure => simp [intOf]; omega
    ·have QV := Lib.hid hv
     rw [decide_eq_false hv] at SL
     clear hv
     go_wp2_with (fail)
     refine SL.out.mono ?_
     rintro e w1 ⟨rfl, h⟩
     have B3 := Lib.hid (B2.out.trans (h.mono B2.out.size))
     clear h u0 u1 u2 u3 u4 u5 u6 v0 v1 v2 v3 v4 v5 v6
     go_wp2_with (fail)
     go_ret
     refine ⟨ret_bool ?_, B3.out⟩
     rw [decide_eq_false]
     intro h
     have h1 := congrArg (fun l => l[k]?) h
     simp only [List.getElem?_map, Z1.out, Z2.out, Option.map_some, Option.some.injEq] at h1
     exact QV.out h1
   ·exact rp36
 ·have hz : ((n : Int) != (m : Int)) = true := by simpa using fun h => hnm (by omega)
  have hne : Hid (decide (x.map Up.val = y.map Up.val) = false) := Lib.hid (decide_eq_false (fun e => hnm (by have h := congrArg List.length e; simp only [List.length_map] at h; omega)))
  clear hx hy lx ly hnm
  go_enter Tryz.func204, Tryz.ntmps204
  go_wp2
  go_ret
  exact ⟨ret_bool (by rw [hne.out]), Below.refl _ _⟩
theorem refUpsG_any (A C : Option Addr) (n m c d B D : Nat) (x y : List Up) (w : World) (hB : B ≤ w.heap.size) (hD : D ≤ w.heap.size) (hx : UpsIn w B A n x) (hy : UpsIn w D C m y) (hn : n ≤ 1000000) (hu : ∀ u ∈ x, u.n ≤ 1000000) :
  Calls Tryz.prog 57 #[.slice A n c, .slice C m d] w fun e w' => e = .returned (.bool (decide (x.map Up.val = y.map Up.val))) ∧ Below w.heap.size w w' := by
 have lx := hx.len
 have ly := hy.len
 have HNU := Lib.hid hu
 clear hu
 by_cases hnm : n = m
 ·have hX : Hid (y.length = x.length) := Lib.hid (by omega)
  subst hnm
  have HX := Lib.hid hx
  have HY := Lib.hid hy
  have LX := Lib.hid lx
  have LY := Lib.hid ly
  clear hx hy lx ly
  go_enter Tryz.func57, Tryz.ntmps57
  go_wp2
  go_loopw [5] (fun i wr => ∃ k : Nat, k ≤ n ∧ i = .int .i64 k ∧ Hid ((x.take k).map Up.val = (y.take k).map Up.val) ∧ Hid (Below w.heap.size w wr)) (fun i _ => n - (intOf i).toNat)
  case atStart => exact ⟨0, by omega, rfl, Lib.hid rfl, Lib.hid (Below.refl _ _)⟩
  case round =>
   obtain ⟨k, hk, rfl, hT, hb⟩ := hrel
   by_cases hlt : k < n
   ·obtain ⟨b1, o1, u, rfl, hb1, hz1, hi1, u0, u1, u2, u3, u4, u5, u6⟩ := (HX.out.below (hb.out.mono hB)).at_ hlt
    obtain ⟨b2, o2, v, rfl, hb2, hz2, hi2, v0, v1, v2, v3, v4, v5, v6⟩ := (HY.out.below (hb.out.mono hD)).at_ hlt
    have Z1 := Lib.hid hz1
    have Z2 := Lib.hid hz2
    have I1 := Lib.hid hi1
    have I2 := Lib.hid hi2
    have hlu := HNU.out u (List.mem_of_getElem? hz1)
    have hbw1 : b1 < wr.heap.size := Nat.lt_of_lt_of_le hb1 (Nat.le_trans hB hb.out.size)
    have hbw2 : b2 < wr.heap.size := Nat.lt_of_lt_of_le hb2 (Nat.le_trans hD hb.out.size)
    clear hz1 hz2 hi1 hi2 hb1 hb2
    have SL := Lib.hid (fun X (h9 : Below wr.heap.size wr X) => refUpG_any u v B D X (I1.out.below (h9.mono (Nat.le_trans hB hb.out.size))) (I2.out.below (h9.mono (Nat.le_trans hD hb.out.size))) (Nat.le_trans hB (Nat.le_trans hb.out.size h9.size)) (Nat.le_trans hD (Nat.le_trans hb.out.size h9.size)) hlu)
    have hbx : Below wr.heap.size wr wr.drew := (Below.refl _ _).drew
    have CU : Hid (Up7 wr b1 (o1 + k * 7) u) := Lib.hid ⟨u0, u1, u2, u3, u4, u5, u6⟩
    have CV : Hid (Up7 wr b2 (o2 + k * 7) v) := Lib.hid ⟨v0, v1, v2, v3, v4, v5, v6⟩
    by_cases hv : u.val = v.val
    ·have QV := Lib.hid hv
     rw [decide_eq_true hv] at SL
     clear hv
     go_wp2_with (fail)
     go_region_held3 (fun w' => (w'.cell? ⟨b1, o1 + k * 7, none⟩ = some (.int .u64 u.seq) ∧ w'.cell? ⟨b1, o1 + k * 7 + 1, none⟩ = some (.int .i64 u.cl) ∧ w'.cell? ⟨b1, o1 + k * 7 + 2, none⟩ = some (.int .u64 u.num) ∧ w'.cell? ⟨b1, o1 + k * 7 + 3, none⟩ = some (.int .i64 u.kd) ∧ w'.cell? ⟨b1, o1 + k * 7 + 4, none⟩ = some (.int .u32 u.key) ∧ w'.cell? ⟨b1, o1 + k * 7 + 5, none⟩ = some (.int .u64 u.ver) ∧ w'.cell? ⟨b1, o1 + k * 7 + 6, none⟩ = some (.slice u.A u.n u.c)) ∧ w'.cell? ⟨b2, o2 + k * 7, none⟩ = some (.int .u64 v.seq) ∧ w'.cell? ⟨b2, o2 + k * 7 + 1, none⟩ = some (.int .i64 v.cl) ∧ w'.cell? ⟨b2, o2 + k * 7 + 2, none⟩ = some (.int .u64 v.num) ∧ w'.cell? ⟨b2, o2 + k * 7 + 3, none⟩ = some (.int .i64 v.kd) ∧ w'.cell? ⟨b2, o2 + k * 7 + 4, none⟩ = some (.int .u32 v.key) ∧ w'.cell? ⟨b2, o2 + k * 7 + 5, none⟩ = some (.int .u64 v.ver) ∧ w'.cell? ⟨b2, o2 + k * 7 + 6, none⟩ = some (.slice v.A v.n v.c)) (go_keep) (first
      | (go_at_call 128; refine (SL.out _ hbx).mono ?_; rintro e w1 ⟨rfl, h⟩; replace hbx := hbx.trans (h.mono hbx.size); obtain ⟨u0, u1, u2, u3, u4, u5, u6⟩ := up7_below hbw1 hbx CU.out; obtain ⟨v0, v1, v2, v3, v4, v5, v6⟩ := up7_below hbw2 hbx CV.out; clear h)
      | fail)
     all_goals
      clear u0 u1 u2 u3 u4 u5 u6 v0 v1 v2 v3 v4 v5 v6
      go_wp2_with (fail)
      go_roundw
      case rel =>
       refine ⟨k + 1, by omega, by go_num, Lib.hid ?_, Lib.hid (hb.out.trans (hbx.mono hb.out.size))⟩
       rw [List.take_add_one, List.take_add_one, Z1.out, Z2.out, List.map_append, List.map_append, hT.out]
       simp only [Option.toList_some, List.map_cons, List.map_nil, QV.out]
      case measure => simp [intOf]; omega
    ·have QV := Lib.hid hv
     rw [decide_eq_false hv] at SL
     clear hv
     go_wp2_with (fail)
     go_region_held3 (fun w' => (w'.cell? ⟨b1, o1 + k * 7, none⟩ = some (.int .u64 u.seq) ∧ w'.cell? ⟨b1, o1 + k * 7 + 1, none⟩ = some (.int .i64 u.cl) ∧ w'.cell? ⟨b1, o1 + k * 7 + 2, none⟩ = some (.int .u64 u.num) ∧ w'.cell? ⟨b1, o1 + k * 7 + 3, none⟩ = some (.int .i64 u.kd) ∧ w'.cell? ⟨b1, o1 + k * 7 + 4, none⟩ = some (.int .u32 u.key) ∧ w'.cell? ⟨b1, o1 + k * 7 + 5, none⟩ = some (.int .u64 u.ver) ∧ w'.cell? ⟨b1, o1 + k * 7 + 6, none⟩ = some (.slice u.A u.n u.c)) ∧ w'.cell? ⟨b2, o2 + k * 7, none⟩ = some (.int .u64 v.seq) ∧ w'.cell? ⟨b2, o2 + k * 7 + 1, none⟩ = some (.int .i64 v.cl) ∧ w'.cell? ⟨b2, o2 + k * 7 + 2, none⟩ = some (.int .u64 v.num) ∧ w'.cell? ⟨b2, o2 + k * 7 + 3, none⟩ = some (.int .i64 v.kd) ∧ w'.cell? ⟨b2, o2 + k * 7 + 4, none⟩ = some (.int .u32 v.key) ∧ w'.cell? ⟨b2, o2 + k * 7 + 5, none⟩ = some (.int .u64 v.ver) ∧ w'.cell? ⟨b2, o2 + k * 7 + 6, none⟩ = some (.slice v.A v.n v.c)) (go_keep) (first
      | (go_at_call 128; refine (SL.out _ hbx).mono ?_; rintro e w1 ⟨rfl, h⟩; replace hbx := hbx.trans (h.mono hbx.size); obtain ⟨u0, u1, u2, u3, u4, u5, u6⟩ := up7_below hbw1 hbx CU.out; obtain ⟨v0, v1, v2, v3, v4, v5, v6⟩ := up7_below hbw2 hbx CV.out; clear h)
      | fail)
     all_goals
      clear u0 u1 u2 u3 u4 u5 u6 v0 v1 v2 v3 v4 v5 v6
      go_wp2_with (fail)
      go_ret
      refine ⟨ret_bool ?_, (hb.out.trans (hbx.mono hb.out.size))⟩
      rw [decide_eq_false]
      intro h
      have h1 := congrArg (fun l => l[k]?) h
      simp only [List.getElem?_map, Z1.out, Z2.out, Option.map_some, Option.some.injEq] at h1
      exact QV.out h1
   ·exact rp36
 ·have hz : ((n : Int) != (m : Int)) = true := by simpa using fun h => hnm (by omega)
  have hne : Hid (decide (x.map Up.val = y.map Up.val) = false) := Lib.hid (decide_eq_false (fun e => hnm (by have h := congrArg List.length e; simp only [List.length_map] at h; omega)))
  clear hx hy lx ly hnm
  go_enter Tryz.func57, Tryz.ntmps57
  go_wp2
  go_ret
  exact ⟨ret_bool (by rw [hne.out]), Below.refl _ _⟩
end Go.Proofs.YtmpedblelnpjdaaGreatDoor
/- Same of configurations and letters, of both (printed by cdgen3.py). -/
namespace Go.Proofs.YtmpedblelnpjdaaGreatDoor
open Go.RowKit
set_option linter.unusedSimpArgs false
set_option linter.unusedVariables false
set_option maxHeartbeats 8000000
set_option maxRecDepth 100000
def cvalB (x y : LV) : Bool := decide (x.l.fc = y.l.fc ∧ x.l.fe = y.l.fe ∧ x.l.ff = y.l.ff ∧ x.l.fj = y.l.fj ∧ x.ns = y.ns)
theorem confSameG_any (x y : LV) (B D : Nat) (w : World) (hx : Reads w B 1 x.l.fA x.l.fn (x.ns.map (Value.int .i64))) (hy : Reads w D 1 y.l.fA y.l.fn (y.ns.map (Value.int .i64))) (hB : B ≤ w.heap.size) (hD : D ≤ w.heap.size) (hn : x.l.fn ≤ 1000000) :
  Calls Tryz.prog 202 #[.agg #[.int .i64 x.l.fc, .int .u64 x.l.fe, .slice x.l.fA x.l.fn x.l.fp, .bool x.l.ff, .int .i64 x.l.fj], .agg #[.int .i64 y.l.fc, .int .u64 y.l.fe, .slice y.l.fA y.l.fn y.l.fp, .bool y.l.ff, .int .i64 y.l.fj]] w fun e w' => e = .returned (.bool (cvalB x y)) ∧ Below w.heap.size w w' := by
 obtain ⟨W0, hW0⟩ : ∃ W0, W0 = (w.alloc (.cells #[.int .i64 x.l.fc, .int .u64 x.l.fe, .slice x.l.fA x.l.fn x.l.fp, .bool x.l.ff, .int .i64 x.l.fj] 33)).alloc (.cells #[.int .i64 y.l.fc, .int .u64 y.l.fe, .slice y.l.fA y.l.fn y.l.fp, .bool y.l.ff, .int .i64 y.l.fj] 33) := ⟨_, rfl⟩
 have hb0 : Below w.heap.size w W0 := by rw [hW0]; exact ((Below.refl _ _).alloc (Nat.le_refl _) _).alloc (by simp) _
 have BX : Blk W0 w.heap.size 33 #[.int .i64 x.l.fc, .int .u64 x.l.fe, .slice x.l.fA x.l.fn x.l.fp, .bool x.l.ff, .int .i64 x.l.fj] := by rw [hW0]; exact (Blk.new _ _ _).alloc _
 have BY : Blk W0 (w.heap.size + 1) 33 #[.int .i64 y.l.fc, .int .u64 y.l.fe, .slice y.l.fA y.l.fn y.l.fp, .bool y.l.ff, .int .i64 y.l.fj] := by rw [hW0]; exact blk_at _ _ _ (w.heap.size + 1) (by simp)
 have x2 : W0.cell? ⟨w.heap.size, 2, none⟩ = some (.slice x.l.fA x.l.fn x.l.fp) := BX.cell 2
 have y2 : W0.cell? ⟨w.heap.size + 1, 2, none⟩ = some (.slice y.l.fA y.l.fn y.l.fp) := BY.cell 2
 have x0 : W0.cell? ⟨w.heap.size, 0, none⟩ = some (.int .i64 x.l.fc) := BX.cell 0
 have y0 : W0.cell? ⟨w.heap.size + 1, 0, none⟩ = some (.int .i64 y.l.fc) := BY.cell 0
 have x1 : W0.cell? ⟨w.heap.size, 1, none⟩ = some (.int .u64 x.l.fe) := BX.cell 1
 have y1 : W0.cell? ⟨w.heap.size + 1, 1, none⟩ = some (.int .u64 y.l.fe) := BY.cell 1
 have x3 : W0.cell? ⟨w.heap.size, 3, none⟩ = some (.bool x.l.ff) := BX.cell 3
 have y3 : W0.cell? ⟨w.heap.size + 1, 3, none⟩ = some (.bool y.l.ff) := BY.cell 3
 have x4 : W0.cell? ⟨w.heap.size, 4, none⟩ = some (.int .i64 x.l.fj) := BX.cell 4
 have y4 : W0.cell? ⟨w.heap.size + 1, 4, none⟩ = some (.int .i64 y.l.fj) := BY.cell 4
 have lx := BX.lt
 have ly := BY.lt
 have CB := Lib.hid (eqIntsG_any x.l.fA y.l.fA x.l.fn y.l.fn x.l.fp y.l.fp B D x.ns y.ns W0 (Nat.le_trans hB hb0.size) (Nat.le_trans hD hb0.size) (hx.below (hb0.mono hB)) (hy.below (hb0.mono hD)) hn)
 have HB := Lib.hid hb0
 have HW := Lib.hid hW0
 clear hb0 hW0 BX BY hx hy
 by_cases q0 : x.l.fc = y.l.fc
 rotate_left
 ·have e1 : (x.l.fc == y.l.fc) = false := by simpa using q0
  have HN : Hid (cvalB x y = false) := Lib.hid (decide_eq_false (fun e => q0 (by simp only [e])))
  clear q0 CB
  exact rp59
 rw [← q0] at y0
 have Q0 := Lib.hid q0
 clear q0
 by_cases q1 : x.l.fe = y.l.fe
 rotate_left
 ·have e1 : (x.l.fe == y.l.fe) = false := by simpa using q1
  have HN : Hid (cvalB x y = false) := Lib.hid (decide_eq_false (fun e => q1 (by simp only [e])))
  clear q1 CB
  exact rp59
 rw [← q1] at y1
 have Q1 := Lib.hid q1
 clear q1
 by_cases q3 : x.l.ff = y.l.ff
 rotate_left
 ·have e1 : (x.l.ff == y.l.ff) = false := by simpa using q3
  have HN : Hid (cvalB x y = false) := Lib.hid (decide_eq_false (fun e => q3 (by simp only [e])))
  clear q3 CB
  exact rp59
 rw [← q3] at y3
 have Q3 := Lib.hid q3
 clear q3
 by_cases q4 : x.l.fj = y.l.fj
 rotate_left
 ·have e1 : (x.l.fj == y.l.fj) = false := by simpa using q4
  have HN : Hid (cvalB x y = false) := Lib.hid (decide_eq_false (fun e => q4 (by simp only [e])))
  clear q4 CB
  exact rp59
 rw [← q4] at y4
 have Q4 := Lib.hid q4
 clear q4
 have HV : Hid (cvalB x y = decide (x.ns = y.ns)) := Lib.hid (decide_eq_decide.2 ⟨fun h => h.2.2.2.2, fun h => ⟨Q0.out, Q1.out, Q3.out, Q4.out, h⟩⟩)
 generalize cvalB x y = b0 at *
 generalize decide (x.ns = y.ns) = b1 at *
 obtain rfl := HV.out
 go_enter Tryz.func202, Tryz.ntmps202
 go_upto_region 1 with (fail)
 rw [← HW.out]
 go_wp2_with (fail)
 refine CB.out.mono ?_
 exact rp39
theorem ref09SameG_any (x y : LV) (B D : Nat) (w : World) (hx : Reads w B 1 x.l.fA x.l.fn (x.ns.map (Value.int .i64))) (hy : Reads w D 1 y.l.fA y.l.fn (y.ns.map (Value.int .i64))) (hB : B ≤ w.heap.size) (hD : D ≤ w.heap.size) (hn : x.l.fn ≤ 1000000) :
  Calls Tryz.prog 55 #[.agg #[.int .i64 x.l.fc, .int .u64 x.l.fe, .slice x.l.fA x.l.fn x.l.fp, .bool x.l.ff, .int .i64 x.l.fj], .agg #[.int .i64 y.l.fc, .int .u64 y.l.fe, .slice y.l.fA y.l.fn y.l.fp, .bool y.l.ff, .int .i64 y.l.fj]] w fun e w' => e = .returned (.bool (cvalB x y)) ∧ Below w.heap.size w w' := by
 obtain ⟨W0, hW0⟩ : ∃ W0, W0 = (w.alloc (.cells #[.int .i64 x.l.fc, .int .u64 x.l.fe, .slice x.l.fA x.l.fn x.l.fp, .bool x.l.ff, .int .i64 x.l.fj] 33)).alloc (.cells #[.int .i64 y.l.fc, .int .u64 y.l.fe, .slice y.l.fA y.l.fn y.l.fp, .bool y.l.ff, .int .i64 y.l.fj] 33) := ⟨_, rfl⟩
 have hb0 : Below w.heap.size w W0 := by rw [hW0]; exact ((Below.refl _ _).alloc (Nat.le_refl _) _).alloc (by simp) _
 have BX : Blk W0 w.heap.size 33 #[.int .i64 x.l.fc, .int .u64 x.l.fe, .slice x.l.fA x.l.fn x.l.fp, .bool x.l.ff, .int .i64 x.l.fj] := by rw [hW0]; exact (Blk.new _ _ _).alloc _
 have BY : Blk W0 (w.heap.size + 1) 33 #[.int .i64 y.l.fc, .int .u64 y.l.fe, .slice y.l.fA y.l.fn y.l.fp, .bool y.l.ff, .int .i64 y.l.fj] := by rw [hW0]; exact blk_at _ _ _ (w.heap.size + 1) (by simp)
 have x2 : W0.cell? ⟨w.heap.size, 2, none⟩ = some (.slice x.l.fA x.l.fn x.l.fp) := BX.cell 2
 have y2 : W0.cell? ⟨w.heap.size + 1, 2, none⟩ = some (.slice y.l.fA y.l.fn y.l.fp) := BY.cell 2
 have x0 : W0.cell? ⟨w.heap.size, 0, none⟩ = some (.int .i64 x.l.fc) := BX.cell 0
 have y0 : W0.cell? ⟨w.heap.size + 1, 0, none⟩ = some (.int .i64 y.l.fc) := BY.cell 0
 have x1 : W0.cell? ⟨w.heap.size, 1, none⟩ = some (.int .u64 x.l.fe) := BX.cell 1
 have y1 : W0.cell? ⟨w.heap.size + 1, 1, none⟩ = some (.int .u64 y.l.fe) := BY.cell 1
 have x3 : W0.cell? ⟨w.heap.size, 3, none⟩ = some (.bool x.l.ff) := BX.cell 3
 have y3 : W0.cell? ⟨w.heap.size + 1, 3, none⟩ = some (.bool y.l.ff) := BY.cell 3
 have x4 : W0.cell? ⟨w.heap.size, 4, none⟩ = some (.int .i64 x.l.fj) := BX.cell 4
 have y4 : W0.cell? ⟨w.heap.size + 1, 4, none⟩ = some (.int .i64 y.l.fj) := BY.cell 4
 have lx := BX.lt
 have ly := BY.lt
 have CB := Lib.hid (ref04IntsG_any x.l.fA y.l.fA x.l.fn y.l.fn x.l.fp y.l.fp B D x.ns y.ns W0 (Nat.le_trans hB hb0.size) (Nat.le_trans hD hb0.size) (hx.below (hb0.mono hB)) (hy.below (hb0.mono hD)) hn)
 have HB := Lib.hid hb0
 have HW := Lib.hid hW0
 clear hb0 hW0 BX BY hx hy
 by_cases q0 : x.l.fc = y.l.fc
 rotate_left
 ·have e1 : (x.l.fc == y.l.fc) = false := by simpa using q0
  have HN : Hid (cvalB x y = false) := Lib.hid (decide_eq_false (fun e => q0 (by simp only [e])))
  clear q0 CB
  exact rp60
 rw [← q0] at y0
 have Q0 := Lib.hid q0
 clear q0
 by_cases q1 : x.l.fe = y.l.fe
 rotate_left
 ·have e1 : (x.l.fe == y.l.fe) = false := by simpa using q1
  have HN : Hid (cvalB x y = false) := Lib.hid (decide_eq_false (fun e => q1 (by simp only [e])))
  clear q1 CB
  exact rp60
 rw [← q1] at y1
 have Q1 := Lib.hid q1
 clear q1
 by_cases q3 : x.l.ff = y.l.ff
 rotate_left
 ·have e1 : (x.l.ff == y.l.ff) = false := by simpa using q3
  have HN : Hid (cvalB x y = false) := Lib.hid (decide_eq_false (fun e => q3 (by simp only [e])))
  clear q3 CB
  exact rp60
 rw [← q3] at y3
 have Q3 := Lib.hid q3
 clear q3
 by_cases q4 : x.l.fj = y.l.fj
 rotate_left
 ·have e1 : (x.l.fj == y.l.fj) = false := by simpa using q4
  have HN : Hid (cvalB x y = false) := Lib.hid (decide_eq_false (fun e => q4 (by simp only [e])))
  clear q4 CB
  exact rp60
 rw [← q4] at y4
 have Q4 := Lib.hid q4
 clear q4
 have HV : Hid (cvalB x y = decide (x.ns = y.ns)) := Lib.hid (decide_eq_decide.2 ⟨fun h => h.2.2.2.2, fun h => ⟨Q0.out, Q1.out, Q3.out, Q4.out, h⟩⟩)
 generalize cvalB x y = b0 at *
 generalize decide (x.ns = y.ns) = b1 at *
 obtain rfl := HV.out
 go_enter Tryz.func55, Tryz.ntmps55
 go_upto_region 1 with (fail)
 rw [← HW.out]
 go_wp2_with (fail)
 refine CB.out.mono ?_
 exact rp39
noncomputable def sameB (x y : LV) : Bool := decide (x.val = y.val)
theorem sameB_false {x y : LV} {α : Type} (f : LVal → α) (h : f x.val ≠ f y.val) : sameB x y = false := decide_eq_false (fun e => h (by rw [e]))
theorem LVal.ext' {a b : LVal} (h : a.kd = b.kd ∧ a.fr = b.fr ∧ a.tw = b.tw ∧ a.ch = b.ch ∧ a.ep = b.ep ∧ a.bl = b.bl ∧ a.nu = b.nu ∧ a.sq = b.sq ∧ a.dz = b.dz ∧ a.vr = b.vr ∧ a.sl = b.sl ∧ a.ky = b.ky ∧ a.cd = b.cd ∧ a.qk = b.qk ∧ a.qc = b.qc ∧ a.qe = b.qe ∧ a.qn = b.qn ∧ a.fc = b.fc ∧ a.fe = b.fe ∧ a.ff = b.ff ∧ a.fj = b.fj ∧ a.ns = b.ns ∧ a.vs = b.vs ∧ a.us = b.us ∧ a.ds = b.ds) : a = b := by
 obtain ⟨h0, h1, h2, h3, h4, h5, h6, h7, h8, h9, h10, h11, h12, h13, h14, h15, h16, h17, h18, h19, h20, h21, h22, h23, h24⟩ := h
 cases a
 cases b
 simp_all
theorem letSameG_any (x y : LV) (B D : Nat) (w : World) (h1 : LIn w B x) (h2 : LIn w D y) (hB : B ≤ w.heap.size) (hD : D ≤ w.heap.size) (hn : x.near) :
  Calls Tryz.prog 118 #[x.l.agg, y.l.agg] w fun e w' => e = .returned (.bool (sameB x y)) ∧ Below w.heap.size w w' := by
 obtain ⟨W0, hW0⟩ : ∃ W0, W0 = (w.alloc (.cells #[.int .i64 x.l.kd, .int .i64 x.l.fr, .int .i64 x.l.tw, .int .i64 x.l.ch, .int .u64 x.l.ep, .int .u64 x.l.bl, .int .u64 x.l.nu, .int .u64 x.l.sq, .int .u64 x.l.dz, .int .u64 x.l.vr, .int .i64 x.l.sl, .int .u32 x.l.ky, .int .i64 x.l.cd, .int .i64 x.l.qk, .int .i64 x.l.qc, .int .u64 x.l.qe, .int .i64 x.l.qn, .int .i64 x.l.fc, .int .u64 x.l.fe, .slice x.l.fA x.l.fn x.l.fp, .bool x.l.ff, .int .i64 x.l.fj, .slice x.l.vA x.l.vn x.l.vp, .slice x.l.uA x.l.un x.l.up, .slice x.l.dA x.l.dn x.l.dp] 37)).alloc (.cells #[.int .i64 y.l.kd, .int .i64 y.l.fr, .int .i64 y.l.tw, .int .i64 y.l.ch, .int .u64 y.l.ep, .int .u64 y.l.bl, .int .u64 y.l.nu, .int .u64 y.l.sq, .int .u64 y.l.dz, .int .u64 y.l.vr, .int .i64 y.l.sl, .int .u32 y.l.ky, .int .i64 y.l.cd, .int .i64 y.l.qk, .int .i64 y.l.qc, .int .u64 y.l.qe, .int .i64 y.l.qn, .int .i64 y.l.fc, .int .u64 y.l.fe, .slice y.l.fA y.l.fn y.l.fp, .bool y.l.ff, .int .i64 y.l.fj, .slice y.l.vA y.l.vn y.l.vp, .slice y.l.uA y.l.un y.l.up, .slice y.l.dA y.l.dn y.l.dp] 37) := ⟨_, rfl⟩
 have hb0 : Below w.heap.size w W0 := by rw [hW0]; exact ((Below.refl _ _).alloc (Nat.le_refl _) _).alloc (by simp) _
 have BX : Hid (Blk W0 w.heap.size 37 x.l.cells) := Lib.hid (by rw [hW0]; exact (Blk.new _ _ _).alloc _)
 have BY : Hid (Blk W0 (w.heap.size + 1) 37 y.l.cells) := Lib.hid (by rw [hW0]; exact blk_at _ _ _ (w.heap.size + 1) (by simp))
 have lx := BX.out.lt
 have ly := BY.out.lt
 have H1 := Lib.hid (h1.below (hb0.mono hB))
 have H2 := Lib.hid (h2.below (hb0.mono hD))
 have HNR := Lib.hid hn
 have HSZ : Hid (B ≤ W0.heap.size ∧ D ≤ W0.heap.size) := Lib.hid ⟨Nat.le_trans hB hb0.size, Nat.le_trans hD hb0.size⟩
 have HB := Lib.hid hb0
 have HW := Lib.hid hW0
 clear hb0 hW0 h1 h2 hn
 show Calls Tryz.prog 118 #[.agg #[.int .i64 x.l.kd, .int .i64 x.l.fr, .int .i64 x.l.tw, .int .i64 x.l.ch, .int .u64 x.l.ep, .int .u64 x.l.bl, .int .u64 x.l.nu, .int .u64 x.l.sq, .int .u64 x.l.dz, .int .u64 x.l.vr, .int .i64 x.l.sl, .int .u32 x.l.ky, .int .i64 x.l.cd, .int .i64 x.l.qk, .int .i64 x.l.qc, .int .u64 x.l.qe, .int .i64 x.l.qn, .int .i64 x.l.fc, .int .u64 x.l.fe, .slice x.l.fA x.l.fn x.l.fp, .bool x.l.ff, .int .i64 x.l.fj, .slice x.l.vA x.l.vn x.l.vp, .slice x.l.uA x.l.un x.l.up, .slice x.l.dA x.l.dn x.l.dp], .agg #[.int .i64 y.l.kd, .int .i64 y.l.fr, .int .i64 y.l.tw, .int .i64 y.l.ch, .int .u64 y.l.ep, .int .u64 y.l.bl, .int .u64 y.l.nu, .int .u64 y.l.sq, .int .u64 y.l.dz, .int .u64 y.l.vr, .int .i64 y.l.sl, .int .u32 y.l.ky, .int .i64 y.l.cd, .int .i64 y.l.qk, .int .i64 y.l.qc, .int .u64 y.l.qe, .int .i64 y.l.qn, .int .i64 y.l.fc, .int .u64 y.l.fe, .slice y.l.fA y.l.fn y.l.fp, .bool y.l.ff, .int .i64 y.l.fj, .slice y.l.vA y.l.vn y.l.vp, .slice y.l.uA y.l.un y.l.up, .slice y.l.dA y.l.dn y.l.dp]] w _
 have x0 : W0.cell? ⟨w.heap.size, 0, none⟩ = some (.int .i64 x.l.kd) := BX.out.cell 0
 have y0 : W0.cell? ⟨w.heap.size + 1, 0, none⟩ = some (.int .i64 y.l.kd) := BY.out.cell 0
 have x1 : W0.cell? ⟨w.heap.size, 1, none⟩ = some (.int .i64 x.l.fr) := BX.out.cell 1
 have y1 : W0.cell? ⟨w.heap.size + 1, 1, none⟩ = some (.int .i64 y.l.fr) := BY.out.cell 1
 have x2 : W0.cell? ⟨w.heap.size, 2, none⟩ = some (.int .i64 x.l.tw) := BX.out.cell 2
 have y2 : W0.cell? ⟨w.heap.size + 1, 2, none⟩ = some (.int .i64 y.l.tw) := BY.out.cell 2
 have x3 : W0.cell? ⟨w.heap.size, 3, none⟩ = some (.int .i64 x.l.ch) := BX.out.cell 3
 have y3 : W0.cell? ⟨w.heap.size + 1, 3, none⟩ = some (.int .i64 y.l.ch) := BY.out.cell 3
 have x4 : W0.cell? ⟨w.heap.size, 4, none⟩ = some (.int .u64 x.l.ep) := BX.out.cell 4
 have y4 : W0.cell? ⟨w.heap.size + 1, 4, none⟩ = some (.int .u64 y.l.ep) := BY.out.cell 4
 have x5 : W0.cell? ⟨w.heap.size, 5, none⟩ = some (.int .u64 x.l.bl) := BX.out.cell 5
 have y5 : W0.cell? ⟨w.heap.size + 1, 5, none⟩ = some (.int .u64 y.l.bl) := BY.out.cell 5
 have x6 : W0.cell? ⟨w.heap.size, 6, none⟩ = some (.int .u64 x.l.nu) := BX.out.cell 6
 have y6 : W0.cell? ⟨w.heap.size + 1, 6, none⟩ = some (.int .u64 y.l.nu) := BY.out.cell 6
 have x7 : W0.cell? ⟨w.heap.size, 7, none⟩ = some (.int .u64 x.l.sq) := BX.out.cell 7
 have y7 : W0.cell? ⟨w.heap.size + 1, 7, none⟩ = some (.int .u64 y.l.sq) := BY.out.cell 7
 have x8 : W0.cell? ⟨w.heap.size, 8, none⟩ = some (.int .u64 x.l.dz) := BX.out.cell 8
 have y8 : W0.cell? ⟨w.heap.size + 1, 8, none⟩ = some (.int .u64 y.l.dz) := BY.out.cell 8
 have x9 : W0.cell? ⟨w.heap.size, 9, none⟩ = some (.int .u64 x.l.vr) := BX.out.cell 9
 have y9 : W0.cell? ⟨w.heap.size + 1, 9, none⟩ = some (.int .u64 y.l.vr) := BY.out.cell 9
 have x10 : W0.cell? ⟨w.heap.size, 10, none⟩ = some (.int .i64 x.l.sl) := BX.out.cell 10
 have y10 : W0.cell? ⟨w.heap.size + 1, 10, none⟩ = some (.int .i64 y.l.sl) := BY.out.cell 10
 have x11 : W0.cell? ⟨w.heap.size, 11, none⟩ = some (.int .u32 x.l.ky) := BX.out.cell 11
 have y11 : W0.cell? ⟨w.heap.size + 1, 11, none⟩ = some (.int .u32 y.l.ky) := BY.out.cell 11
 have x12 : W0.cell? ⟨w.heap.size, 12, none⟩ = some (.int .i64 x.l.cd) := BX.out.cell 12
 have y12 : W0.cell? ⟨w.heap.size + 1, 12, none⟩ = some (.int .i64 y.l.cd) := BY.out.cell 12
 have x13 : W0.cell? ⟨w.heap.size, 13, none⟩ = some (.int .i64 x.l.qk) := BX.out.cell 13
 have y13 : W0.cell? ⟨w.heap.size + 1, 13, none⟩ = some (.int .i64 y.l.qk) := BY.out.cell 13
 have x14 : W0.cell? ⟨w.heap.size, 14, none⟩ = some (.int .i64 x.l.qc) := BX.out.cell 14
 have y14 : W0.cell? ⟨w.heap.size + 1, 14, none⟩ = some (.int .i64 y.l.qc) := BY.out.cell 14
 have x15 : W0.cell? ⟨w.heap.size, 15, none⟩ = some (.int .u64 x.l.qe) := BX.out.cell 15
 have y15 : W0.cell? ⟨w.heap.size + 1, 15, none⟩ = some (.int .u64 y.l.qe) := BY.out.cell 15
 have x16 : W0.cell? ⟨w.heap.size, 16, none⟩ = some (.int .i64 x.l.qn) := BX.out.cell 16
 have y16 : W0.cell? ⟨w.heap.size + 1, 16, none⟩ = some (.int .i64 y.l.qn) := BY.out.cell 16
 by_cases q0 : x.l.kd = y.l.kd
 rotate_left
 ·have e1 : (x.l.kd == y.l.kd) = false := by simpa using q0
  have e2 : (x.l.kd != y.l.kd) = true := by simpa using q0
  have HN : Hid (sameB x y = false) := Lib.hid (sameB_false LVal.kd q0)
  clear q0
  exact rp15
 rw [← q0] at y0
 have Q0 := Lib.hid q0
 clear q0
 by_cases q1 : x.l.fr = y.l.fr
 rotate_left
 ·have e1 : (x.l.fr == y.l.fr) = false := by simpa using q1
  have e2 : (x.l.fr != y.l.fr) = true := by simpa using q1
  have HN : Hid (sameB x y = false) := Lib.hid (sameB_false LVal.fr q1)
  clear q1
  exact rp15
 rw [← q1] at y1
 have Q1 := Lib.hid q1
 clear q1
 by_cases q2 : x.l.tw = y.l.tw
 rotate_left
 ·have e1 : (x.l.tw == y.l.tw) = false := by simpa using q2
  have e2 : (x.l.tw != y.l.tw) = true := by simpa using q2
  have HN : Hid (sameB x y = false) := Lib.hid (sameB_false LVal.tw q2)
  clear q2
  exact rp15
 rw [← q2] at y2
 have Q2 := Lib.hid q2
 clear q2
 by_cases q3 : x.l.ch = y.l.ch
 rotate_left
 ·have e1 : (x.l.ch == y.l.ch) = false := by simpa using q3
  have e2 : (x.l.ch != y.l.ch) = true := by simpa using q3
  have HN : Hid (sameB x y = false) := Lib.hid (sameB_false LVal.ch q3)
  clear q3
  exact rp15
 rw [← q3] at y3
 have Q3 := Lib.hid q3
 clear q3
 by_cases q10 : x.l.sl = y.l.sl
 rotate_left
 ·have e1 : (x.l.sl == y.l.sl) = false := by simpa using q10
  have e2 : (x.l.sl != y.l.sl) = true := by simpa using q10
  have HN : Hid (sameB x y = false) := Lib.hid (sameB_false LVal.sl q10)
  clear q10
  exact rp15
 rw [← q10] at y10
 have Q10 := Lib.hid q10
 clear q10
 by_cases q11 : x.l.ky = y.l.ky
 rotate_left
 ·have e1 : (x.l.ky == y.l.ky) = false := by simpa using q11
  have e2 : (x.l.ky != y.l.ky) = true := by simpa using q11
  have HN : Hid (sameB x y = false) := Lib.hid (sameB_false LVal.ky q11)
  clear q11
  exact rp15
 rw [← q11] at y11
 have Q11 := Lib.hid q11
 clear q11
 by_cases q12 : x.l.cd = y.l.cd
 rotate_left
 ·have e1 : (x.l.cd == y.l.cd) = false := by simpa using q12
  have e2 : (x.l.cd != y.l.cd) = true := by simpa using q12
  have HN : Hid (sameB x y = false) := Lib.hid (sameB_false LVal.cd q12)
  clear q12
  exact rp15
 rw [← q12] at y12
 have Q12 := Lib.hid q12
 clear q12
 by_cases q4 : x.l.ep = y.l.ep
 rotate_left
 ·have e1 : (x.l.ep == y.l.ep) = false := by simpa using q4
  have e2 : (x.l.ep != y.l.ep) = true := by simpa using q4
  have HN : Hid (sameB x y = false) := Lib.hid (sameB_false LVal.ep q4)
  clear q4
  exact rp15
 rw [← q4] at y4
 have Q4 := Lib.hid q4
 clear q4
 by_cases q5 : x.l.bl = y.l.bl
 rotate_left
 ·have e1 : (x.l.bl == y.l.bl) = false := by simpa using q5
  have e2 : (x.l.bl != y.l.bl) = true := by simpa using q5
  have HN : Hid (sameB x y = false) := Lib.hid (sameB_false LVal.bl q5)
  clear q5
  exact rp15
 rw [← q5] at y5
 have Q5 := Lib.hid q5
 clear q5
 by_cases q6 : x.l.nu = y.l.nu
 rotate_left
 ·have e1 : (x.l.nu == y.l.nu) = false := by simpa using q6
  have e2 : (x.l.nu != y.l.nu) = true := by simpa using q6
  have HN : Hid (sameB x y = false) := Lib.hid (sameB_false LVal.nu q6)
  clear q6
  exact rp15
 rw [← q6] at y6
 have Q6 := Lib.hid q6
 clear q6
 by_cases q7 : x.l.sq = y.l.sq
 rotate_left
 ·have e1 : (x.l.sq == y.l.sq) = false := by simpa using q7
  have e2 : (x.l.sq != y.l.sq) = true := by simpa using q7
  have HN : Hid (sameB x y = false) := Lib.hid (sameB_false LVal.sq q7)
  clear q7
  exact rp15
 rw [← q7] at y7
 have Q7 := Lib.hid q7
 clear q7
 by_cases q8 : x.l.dz = y.l.dz
 rotate_left
 ·have e1 : (x.l.dz == y.l.dz) = false := by simpa using q8
  have e2 : (x.l.dz != y.l.dz) = true := by simpa using q8
  have HN : Hid (sameB x y = false) := Lib.hid (sameB_false LVal.dz q8)
  clear q8
  exact rp15
 rw [← q8] at y8
 have Q8 := Lib.hid q8
 clear q8
 by_cases q9 : x.l.vr = y.l.vr
 rotate_left
 ·have e1 : (x.l.vr == y.l.vr) = false := by simpa using q9
  have e2 : (x.l.vr != y.l.vr) = true := by simpa using q9
  have HN : Hid (sameB x y = false) := Lib.hid (sameB_false LVal.vr q9)
  clear q9
  exact rp15
 rw [← q9] at y9
 have Q9 := Lib.hid q9
 clear q9
 by_cases q13 : x.l.qk = y.l.qk
 rotate_left
 ·have e1 : (x.l.qk == y.l.qk) = false := by simpa using q13
  have e2 : (x.l.qk != y.l.qk) = true := by simpa using q13
  have HN : Hid (sameB x y = false) := Lib.hid (sameB_false LVal.qk q13)
  clear q13
  exact rp15
 rw [← q13] at y13
 have Q13 := Lib.hid q13
 clear q13
 by_cases q14 : x.l.qc = y.l.qc
 rotate_left
 ·have e1 : (x.l.qc == y.l.qc) = false := by simpa using q14
  have e2 : (x.l.qc != y.l.qc) = true := by simpa using q14
  have HN : Hid (sameB x y = false) := Lib.hid (sameB_false LVal.qc q14)
  clear q14
  exact rp15
 rw [← q14] at y14
 have Q14 := Lib.hid q14
 clear q14
 by_cases q15 : x.l.qe = y.l.qe
 rotate_left
 ·have e1 : (x.l.qe == y.l.qe) = false := by simpa using q15
  have e2 : (x.l.qe != y.l.qe) = true := by simpa using q15
  have HN : Hid (sameB x y = false) := Lib.hid (sameB_false LVal.qe q15)
  clear q15
  exact rp15
 rw [← q15] at y15
 have Q15 := Lib.hid q15
 clear q15
 by_cases q16 : x.l.qn = y.l.qn
 rotate_left
 ·have e1 : (x.l.qn == y.l.qn) = false := by simpa using q16
  have e2 : (x.l.qn != y.l.qn) = true := by simpa using q16
  have HN : Hid (sameB x y = false) := Lib.hid (sameB_false LVal.qn q16)
  clear q16
  exact rp15
 rw [← q16] at y16
 have Q16 := Lib.hid q16
 clear q16
 have HV : Hid (sameB x y = (cvalB x y && (decide (x.vs = y.vs) && (decide (x.us.map Up.val = y.us.map Up.val) && decide (x.ds = y.ds))))) := Lib.hid (by
  unfold sameB cvalB
  rw [← Bool.decide_and, ← Bool.decide_and, ← Bool.decide_and]
  refine decide_eq_decide.2 ⟨fun h => ?_, fun h => ?_⟩
  ·exact ⟨⟨congrArg LVal.fc h, congrArg LVal.fe h, congrArg LVal.ff h, congrArg LVal.fj h, congrArg LVal.ns h⟩, congrArg LVal.vs h, congrArg LVal.us h, congrArg LVal.ds h⟩
  ·exact LVal.ext' ⟨Q0.out, Q1.out, Q2.out, Q3.out, Q4.out, Q5.out, Q6.out, Q7.out, Q8.out, Q9.out, Q10.out, Q11.out, Q12.out, Q13.out, Q14.out, Q15.out, Q16.out, h.1.1, h.1.2.1, h.1.2.2.1, h.1.2.2.2.1, h.1.2.2.2.2, h.2.1, h.2.2.1, h.2.2.2⟩)
 generalize sameB x y = b0 at *
 have CC := Lib.hid (fun X (h9 : Below W0.heap.size W0 X) => confSameG_any x y B D X (H1.out.nd.below (h9.mono HSZ.out.1)) (H2.out.nd.below (h9.mono HSZ.out.2)) (Nat.le_trans HSZ.out.1 h9.size) (Nat.le_trans HSZ.out.2 h9.size) HNR.out.nl)
 have CV := Lib.hid (fun X (h9 : Below W0.heap.size W0 X) => eqVotesG_any x.l.vA y.l.vA x.l.vn y.l.vn x.l.vp y.l.vp B D x.vs y.vs X (Nat.le_trans HSZ.out.1 h9.size) (Nat.le_trans HSZ.out.2 h9.size) (H1.out.vt.below (h9.mono HSZ.out.1)) (H2.out.vt.below (h9.mono HSZ.out.2)) HNR.out.vl)
 have CU := Lib.hid (fun X (h9 : Below W0.heap.size W0 X) => eqUpsG_any x.l.uA y.l.uA x.l.un y.l.un x.l.up y.l.up B D x.us y.us X (Nat.le_trans HSZ.out.1 h9.size) (Nat.le_trans HSZ.out.2 h9.size) (H1.out.up.below (h9.mono HSZ.out.1)) (H2.out.up.below (h9.mono HSZ.out.2)) HNR.out.ul HNR.out.us)
 have CD := Lib.hid (fun X (h9 : Below W0.heap.size W0 X) => bytesEqI_any x.l.dA y.l.dA x.l.dn y.l.dn x.l.dp y.l.dp B D x.ds y.ds X (H1.out.da.below (h9.mono HSZ.out.1)) (H2.out.da.below (h9.mono HSZ.out.2)) H1.out.by_ H2.out.by_)
 generalize cvalB x y = b1 at *
 generalize decide (x.vs = y.vs) = b2 at *
 generalize decide (x.us.map Up.val = y.us.map Up.val) = b3 at *
 generalize decide (x.ds = y.ds) = b4 at *
 have x17 : W0.cell? ⟨w.heap.size, 17, none⟩ = some (.int .i64 x.l.fc) := BX.out.cell 17
 have y17 : W0.cell? ⟨w.heap.size + 1, 17, none⟩ = some (.int .i64 y.l.fc) := BY.out.cell 17
 have x18 : W0.cell? ⟨w.heap.size, 18, none⟩ = some (.int .u64 x.l.fe) := BX.out.cell 18
 have y18 : W0.cell? ⟨w.heap.size + 1, 18, none⟩ = some (.int .u64 y.l.fe) := BY.out.cell 18
 have x19 : W0.cell? ⟨w.heap.size, 19, none⟩ = some (.slice x.l.fA x.l.fn x.l.fp) := BX.out.cell 19
 have y19 : W0.cell? ⟨w.heap.size + 1, 19, none⟩ = some (.slice y.l.fA y.l.fn y.l.fp) := BY.out.cell 19
 have x20 : W0.cell? ⟨w.heap.size, 20, none⟩ = some (.bool x.l.ff) := BX.out.cell 20
 have y20 : W0.cell? ⟨w.heap.size + 1, 20, none⟩ = some (.bool y.l.ff) := BY.out.cell 20
 have x21 : W0.cell? ⟨w.heap.size, 21, none⟩ = some (.int .i64 x.l.fj) := BX.out.cell 21
 have y21 : W0.cell? ⟨w.heap.size + 1, 21, none⟩ = some (.int .i64 y.l.fj) := BY.out.cell 21
 have x22 : W0.cell? ⟨w.heap.size, 22, none⟩ = some (.slice x.l.vA x.l.vn x.l.vp) := BX.out.cell 22
 have y22 : W0.cell? ⟨w.heap.size + 1, 22, none⟩ = some (.slice y.l.vA y.l.vn y.l.vp) := BY.out.cell 22
 have x23 : W0.cell? ⟨w.heap.size, 23, none⟩ = some (.slice x.l.uA x.l.un x.l.up) := BX.out.cell 23
 have y23 : W0.cell? ⟨w.heap.size + 1, 23, none⟩ = some (.slice y.l.uA y.l.un y.l.up) := BY.out.cell 23
 have x24 : W0.cell? ⟨w.heap.size, 24, none⟩ = some (.slice x.l.dA x.l.dn x.l.dp) := BX.out.cell 24
 have y24 : W0.cell? ⟨w.heap.size + 1, 24, none⟩ = some (.slice y.l.dA y.l.dn y.l.dp) := BY.out.cell 24
 go_enter Tryz.func118, Tryz.ntmps118
 go_upto_region 1 with (fail)
 rw [← HW.out]
 go_wp2_with (fail)
 refine (CC.out _ (Below.refl _ _)).mono ?_
 rintro e w1 ⟨rfl, h⟩
 have B1 := Lib.hid h
 have hl1 := h.size
 clear h x0 x1 x2 x3 x4 x5 x6 x7 x8 x9 x10 x11 x12 x13 x14 x15 x16 y0 y1 y2 y3 y4 y5 y6 y7 y8 y9 y10 y11 y12 y13 y14 y15 y16 x17 x18 x19 x20 x21 y17 y18 y19 y20 y21 x22 x23 x24 y22 y23 y24
 cases b1
 ·go_wp2_with (fail)
  go_ret
  exact ⟨by rw [HV.out]; rfl, HB.out.trans (B1.out.mono HB.out.size)⟩
 have x22 : w1.cell? ⟨w.heap.size, 22, none⟩ = some (.slice x.l.vA x.l.vn x.l.vp) := (BX.out.below B1.out lx).cell 22
 have y22 : w1.cell? ⟨w.heap.size + 1, 22, none⟩ = some (.slice y.l.vA y.l.vn y.l.vp) := (BY.out.below B1.out ly).cell 22
 have lx1 := Nat.lt_of_lt_of_le lx hl1
 have ly1 := Nat.lt_of_lt_of_le ly hl1
 go_wp2_with (fail)
 refine (CV.out _ B1.out).mono ?_
 rintro e w2 ⟨rfl, h⟩
 have B2 := Lib.hid (B1.out.trans (h.mono B1.out.size))
 have hl2 := B2.out.size
 clear h x22 y22
 cases b2
 ·go_wp2_with (fail)
  go_ret
  exact ⟨by rw [HV.out]; rfl, HB.out.trans (B2.out.mono HB.out.size)⟩
 have x23 : w2.cell? ⟨w.heap.size, 23, none⟩ = some (.slice x.l.uA x.l.un x.l.up) := (BX.out.below B2.out lx).cell 23
 have y23 : w2.cell? ⟨w.heap.size + 1, 23, none⟩ = some (.slice y.l.uA y.l.un y.l.up) := (BY.out.below B2.out ly).cell 23
 have lx2 := Nat.lt_of_lt_of_le lx hl2
 have ly2 := Nat.lt_of_lt_of_le ly hl2
 go_wp2_with (fail)
 refine (CU.out _ B2.out).mono ?_
 rintro e w3 ⟨rfl, h⟩
 have B3 := Lib.hid (B2.out.trans (h.mono B2.out.size))
 have hl3 := B3.out.size
 clear h x23 y23
 cases b3
 ·go_wp2_with (fail)
  go_ret
  exact ⟨by rw [HV.out]; rfl, HB.out.trans (B3.out.mono HB.out.size)⟩
 have x24 : w3.cell? ⟨w.heap.size, 24, none⟩ = some (.slice x.l.dA x.l.dn x.l.dp) := (BX.out.below B3.out lx).cell 24
 have y24 : w3.cell? ⟨w.heap.size + 1, 24, none⟩ = some (.slice y.l.dA y.l.dn y.l.dp) := (BY.out.below B3.out ly).cell 24
 have lx3 := Nat.lt_of_lt_of_le lx hl3
 have ly3 := Nat.lt_of_lt_of_le ly hl3
 go_wp2_with (fail)
 refine (CD.out _ B3.out).mono ?_
 rintro e w4 ⟨rfl, rfl⟩
 have B4 := Lib.hid B3.out
 go_wp2_with (fail)
 go_ret
 exact ⟨by rw [HV.out]; rfl, HB.out.trans (B4.out.mono HB.out.size)⟩
theorem refSameG_any (x y : LV) (B D : Nat) (w : World) (h1 : LIn w B x) (h2 : LIn w D y) (hB : B ≤ w.heap.size) (hD : D ≤ w.heap.size) (hn : x.near) :
  Calls Tryz.prog 11 #[x.l.agg, y.l.agg] w fun e w' => e = .returned (.bool (sameB x y)) ∧ Below w.heap.size w w' := by
 obtain ⟨W0, hW0⟩ : ∃ W0, W0 = (w.alloc (.cells #[.int .i64 x.l.kd, .int .i64 x.l.fr, .int .i64 x.l.tw, .int .i64 x.l.ch, .int .u64 x.l.ep, .int .u64 x.l.bl, .int .u64 x.l.nu, .int .u64 x.l.sq, .int .u64 x.l.dz, .int .u64 x.l.vr, .int .i64 x.l.sl, .int .u32 x.l.ky, .int .i64 x.l.cd, .int .i64 x.l.qk, .int .i64 x.l.qc, .int .u64 x.l.qe, .int .i64 x.l.qn, .int .i64 x.l.fc, .int .u64 x.l.fe, .slice x.l.fA x.l.fn x.l.fp, .bool x.l.ff, .int .i64 x.l.fj, .slice x.l.vA x.l.vn x.l.vp, .slice x.l.uA x.l.un x.l.up, .slice x.l.dA x.l.dn x.l.dp] 37)).alloc (.cells #[.int .i64 y.l.kd, .int .i64 y.l.fr, .int .i64 y.l.tw, .int .i64 y.l.ch, .int .u64 y.l.ep, .int .u64 y.l.bl, .int .u64 y.l.nu, .int .u64 y.l.sq, .int .u64 y.l.dz, .int .u64 y.l.vr, .int .i64 y.l.sl, .int .u32 y.l.ky, .int .i64 y.l.cd, .int .i64 y.l.qk, .int .i64 y.l.qc, .int .u64 y.l.qe, .int .i64 y.l.qn, .int .i64 y.l.fc, .int .u64 y.l.fe, .slice y.l.fA y.l.fn y.l.fp, .bool y.l.ff, .int .i64 y.l.fj, .slice y.l.vA y.l.vn y.l.vp, .slice y.l.uA y.l.un y.l.up, .slice y.l.dA y.l.dn y.l.dp] 37) := ⟨_, rfl⟩
 have hb0 : Below w.heap.size w W0 := by rw [hW0]; exact ((Below.refl _ _).alloc (Nat.le_refl _) _).alloc (by simp) _
 have BX : Hid (Blk W0 w.heap.size 37 x.l.cells) := Lib.hid (by rw [hW0]; exact (Blk.new _ _ _).alloc _)
 have BY : Hid (Blk W0 (w.heap.size + 1) 37 y.l.cells) := Lib.hid (by rw [hW0]; exact blk_at _ _ _ (w.heap.size + 1) (by simp))
 have lx := BX.out.lt
 have ly := BY.out.lt
 have H1 := Lib.hid (h1.below (hb0.mono hB))
 have H2 := Lib.hid (h2.below (hb0.mono hD))
 have HNR := Lib.hid hn
 have HSZ : Hid (B ≤ W0.heap.size ∧ D ≤ W0.heap.size) := Lib.hid ⟨Nat.le_trans hB hb0.size, Nat.le_trans hD hb0.size⟩
 have HB := Lib.hid hb0
 have HW := Lib.hid hW0
 clear hb0 hW0 h1 h2 hn
 show Calls Tryz.prog 11 #[.agg #[.int .i64 x.l.kd, .int .i64 x.l.fr, .int .i64 x.l.tw, .int .i64 x.l.ch, .int .u64 x.l.ep, .int .u64 x.l.bl, .int .u64 x.l.nu, .int .u64 x.l.sq, .int .u64 x.l.dz, .int .u64 x.l.vr, .int .i64 x.l.sl, .int .u32 x.l.ky, .int .i64 x.l.cd, .int .i64 x.l.qk, .int .i64 x.l.qc, .int .u64 x.l.qe, .int .i64 x.l.qn, .int .i64 x.l.fc, .int .u64 x.l.fe, .slice x.l.fA x.l.fn x.l.fp, .bool x.l.ff, .int .i64 x.l.fj, .slice x.l.vA x.l.vn x.l.vp, .slice x.l.uA x.l.un x.l.up, .slice x.l.dA x.l.dn x.l.dp], .agg #[.int .i64 y.l.kd, .int .i64 y.l.fr, .int .i64 y.l.tw, .int .i64 y.l.ch, .int .u64 y.l.ep, .int .u64 y.l.bl, .int .u64 y.l.nu, .int .u64 y.l.sq, .int .u64 y.l.dz, .int .u64 y.l.vr, .int .i64 y.l.sl, .int .u32 y.l.ky, .int .i64 y.l.cd, .int .i64 y.l.qk, .int .i64 y.l.qc, .int .u64 y.l.qe, .int .i64 y.l.qn, .int .i64 y.l.fc, .int .u64 y.l.fe, .slice y.l.fA y.l.fn y.l.fp, .bool y.l.ff, .int .i64 y.l.fj, .slice y.l.vA y.l.vn y.l.vp, .slice y.l.uA y.l.un y.l.up, .slice y.l.dA y.l.dn y.l.dp]] w _
 have x0 : W0.cell? ⟨w.heap.size, 0, none⟩ = some (.int .i64 x.l.kd) := BX.out.cell 0
 have y0 : W0.cell? ⟨w.heap.size + 1, 0, none⟩ = some (.int .i64 y.l.kd) := BY.out.cell 0
 have x1 : W0.cell? ⟨w.heap.size, 1, none⟩ = some (.int .i64 x.l.fr) := BX.out.cell 1
 have y1 : W0.cell? ⟨w.heap.size + 1, 1, none⟩ = some (.int .i64 y.l.fr) := BY.out.cell 1
 have x2 : W0.cell? ⟨w.heap.size, 2, none⟩ = some (.int .i64 x.l.tw) := BX.out.cell 2
 have y2 : W0.cell? ⟨w.heap.size + 1, 2, none⟩ = some (.int .i64 y.l.tw) := BY.out.cell 2
 have x3 : W0.cell? ⟨w.heap.size, 3, none⟩ = some (.int .i64 x.l.ch) := BX.out.cell 3
 have y3 : W0.cell? ⟨w.heap.size + 1, 3, none⟩ = some (.int .i64 y.l.ch) := BY.out.cell 3
 have x4 : W0.cell? ⟨w.heap.size, 4, none⟩ = some (.int .u64 x.l.ep) := BX.out.cell 4
 have y4 : W0.cell? ⟨w.heap.size + 1, 4, none⟩ = some (.int .u64 y.l.ep) := BY.out.cell 4
 have x5 : W0.cell? ⟨w.heap.size, 5, none⟩ = some (.int .u64 x.l.bl) := BX.out.cell 5
 have y5 : W0.cell? ⟨w.heap.size + 1, 5, none⟩ = some (.int .u64 y.l.bl) := BY.out.cell 5
 have x6 : W0.cell? ⟨w.heap.size, 6, none⟩ = some (.int .u64 x.l.nu) := BX.out.cell 6
 have y6 : W0.cell? ⟨w.heap.size + 1, 6, none⟩ = some (.int .u64 y.l.nu) := BY.out.cell 6
 have x7 : W0.cell? ⟨w.heap.size, 7, none⟩ = some (.int .u64 x.l.sq) := BX.out.cell 7
 have y7 : W0.cell? ⟨w.heap.size + 1, 7, none⟩ = some (.int .u64 y.l.sq) := BY.out.cell 7
 have x8 : W0.cell? ⟨w.heap.size, 8, none⟩ = some (.int .u64 x.l.dz) := BX.out.cell 8
 have y8 : W0.cell? ⟨w.heap.size + 1, 8, none⟩ = some (.int .u64 y.l.dz) := BY.out.cell 8
 have x9 : W0.cell? ⟨w.heap.size, 9, none⟩ = some (.int .u64 x.l.vr) := BX.out.cell 9
 have y9 : W0.cell? ⟨w.heap.size + 1, 9, none⟩ = some (.int .u64 y.l.vr) := BY.out.cell 9
 have x10 : W0.cell? ⟨w.heap.size, 10, none⟩ = some (.int .i64 x.l.sl) := BX.out.cell 10
 have y10 : W0.cell? ⟨w.heap.size + 1, 10, none⟩ = some (.int .i64 y.l.sl) := BY.out.cell 10
 have x11 : W0.cell? ⟨w.heap.size, 11, none⟩ = some (.int .u32 x.l.ky) := BX.out.cell 11
 have y11 : W0.cell? ⟨w.heap.size + 1, 11, none⟩ = some (.int .u32 y.l.ky) := BY.out.cell 11
 have x12 : W0.cell? ⟨w.heap.size, 12, none⟩ = some (.int .i64 x.l.cd) := BX.out.cell 12
 have y12 : W0.cell? ⟨w.heap.size + 1, 12, none⟩ = some (.int .i64 y.l.cd) := BY.out.cell 12
 have x13 : W0.cell? ⟨w.heap.size, 13, none⟩ = some (.int .i64 x.l.qk) := BX.out.cell 13
 have y13 : W0.cell? ⟨w.heap.size + 1, 13, none⟩ = some (.int .i64 y.l.qk) := BY.out.cell 13
 have x14 : W0.cell? ⟨w.heap.size, 14, none⟩ = some (.int .i64 x.l.qc) := BX.out.cell 14
 have y14 : W0.cell? ⟨w.heap.size + 1, 14, none⟩ = some (.int .i64 y.l.qc) := BY.out.cell 14
 have x15 : W0.cell? ⟨w.heap.size, 15, none⟩ = some (.int .u64 x.l.qe) := BX.out.cell 15
 have y15 : W0.cell? ⟨w.heap.size + 1, 15, none⟩ = some (.int .u64 y.l.qe) := BY.out.cell 15
 have x16 : W0.cell? ⟨w.heap.size, 16, none⟩ = some (.int .i64 x.l.qn) := BX.out.cell 16
 have y16 : W0.cell? ⟨w.heap.size + 1, 16, none⟩ = some (.int .i64 y.l.qn) := BY.out.cell 16
 by_cases q0 : x.l.kd = y.l.kd
 rotate_left
 ·have e1 : (x.l.kd == y.l.kd) = false := by simpa using q0
  have e2 : (x.l.kd != y.l.kd) = true := by simpa using q0
  have HN : Hid (sameB x y = false) := Lib.hid (sameB_false LVal.kd q0)
  clear q0
  exact rp16
 rw [← q0] at y0
 have Q0 := Lib.hid q0
 clear q0
 by_cases q1 : x.l.fr = y.l.fr
 rotate_left
 ·have e1 : (x.l.fr == y.l.fr) = false := by simpa using q1
  have e2 : (x.l.fr != y.l.fr) = true := by simpa using q1
  have HN : Hid (sameB x y = false) := Lib.hid (sameB_false LVal.fr q1)
  clear q1
  exact rp16
 rw [← q1] at y1
 have Q1 := Lib.hid q1
 clear q1
 by_cases q2 : x.l.tw = y.l.tw
 rotate_left
 ·have e1 : (x.l.tw == y.l.tw) = false := by simpa using q2
  have e2 : (x.l.tw != y.l.tw) = true := by simpa using q2
  have HN : Hid (sameB x y = false) := Lib.hid (sameB_false LVal.tw q2)
  clear q2
  exact rp16
 rw [← q2] at y2
 have Q2 := Lib.hid q2
 clear q2
 by_cases q3 : x.l.ch = y.l.ch
 rotate_left
 ·have e1 : (x.l.ch == y.l.ch) = false := by simpa using q3
  have e2 : (x.l.ch != y.l.ch) = true := by simpa using q3
  have HN : Hid (sameB x y = false) := Lib.hid (sameB_false LVal.ch q3)
  clear q3
  exact rp16
 rw [← q3] at y3
 have Q3 := Lib.hid q3
 clear q3
 by_cases q4 : x.l.ep = y.l.ep
 rotate_left
 ·have e1 : (x.l.ep == y.l.ep) = false := by simpa using q4
  have e2 : (x.l.ep != y.l.ep) = true := by simpa using q4
  have HN : Hid (sameB x y = false) := Lib.hid (sameB_false LVal.ep q4)
  clear q4
  exact rp16
 rw [← q4] at y4
 have Q4 := Lib.hid q4
 clear q4
 by_cases q5 : x.l.bl = y.l.bl
 rotate_left
 ·have e1 : (x.l.bl == y.l.bl) = false := by simpa using q5
  have e2 : (x.l.bl != y.l.bl) = true := by simpa using q5
  have HN : Hid (sameB x y = false) := Lib.hid (sameB_false LVal.bl q5)
  clear q5
  exact rp16
 rw [← q5] at y5
 have Q5 := Lib.hid q5
 clear q5
 by_cases q6 : x.l.nu = y.l.nu
 rotate_left
 ·have e1 : (x.l.nu == y.l.nu) = false := by simpa using q6
  have e2 : (x.l.nu != y.l.nu) = true := by simpa using q6
  have HN : Hid (sameB x y = false) := Lib.hid (sameB_false LVal.nu q6)
  clear q6
  exact rp16
 rw [← q6] at y6
 have Q6 := Lib.hid q6
 clear q6
 by_cases q7 : x.l.sq = y.l.sq
 rotate_left
 ·have e1 : (x.l.sq == y.l.sq) = false := by simpa using q7
  have e2 : (x.l.sq != y.l.sq) = true := by simpa using q7
  have HN : Hid (sameB x y = false) := Lib.hid (sameB_false LVal.sq q7)
  clear q7
  exact rp16
 rw [← q7] at y7
 have Q7 := Lib.hid q7
 clear q7
 by_cases q8 : x.l.dz = y.l.dz
 rotate_left
 ·have e1 : (x.l.dz == y.l.dz) = false := by simpa using q8
  have e2 : (x.l.dz != y.l.dz) = true := by simpa using q8
  have HN : Hid (sameB x y = false) := Lib.hid (sameB_false LVal.dz q8)
  clear q8
  exact rp16
 rw [← q8] at y8
 have Q8 := Lib.hid q8
 clear q8
 by_cases q9 : x.l.vr = y.l.vr
 rotate_left
 ·have e1 : (x.l.vr == y.l.vr) = false := by simpa using q9
  have e2 : (x.l.vr != y.l.vr) = true := by simpa using q9
  have HN : Hid (sameB x y = false) := Lib.hid (sameB_false LVal.vr q9)
  clear q9
  exact rp16
 rw [← q9] at y9
 have Q9 := Lib.hid q9
 clear q9
 by_cases q10 : x.l.sl = y.l.sl
 rotate_left
 ·have e1 : (x.l.sl == y.l.sl) = false := by simpa using q10
  have e2 : (x.l.sl != y.l.sl) = true := by simpa using q10
  have HN : Hid (sameB x y = false) := Lib.hid (sameB_false LVal.sl q10)
  clear q10
  exact rp16
 rw [← q10] at y10
 have Q10 := Lib.hid q10
 clear q10
 by_cases q11 : x.l.ky = y.l.ky
 rotate_left
 ·have e1 : (x.l.ky == y.l.ky) = false := by simpa using q11
  have e2 : (x.l.ky != y.l.ky) = true := by simpa using q11
  have HN : Hid (sameB x y = false) := Lib.hid (sameB_false LVal.ky q11)
  clear q11
  exact rp16
 rw [← q11] at y11
 have Q11 := Lib.hid q11
 clear q11
 by_cases q12 : x.l.cd = y.l.cd
 rotate_left
 ·have e1 : (x.l.cd == y.l.cd) = false := by simpa using q12
  have e2 : (x.l.cd != y.l.cd) = true := by simpa using q12
  have HN : Hid (sameB x y = false) := Lib.hid (sameB_false LVal.cd q12)
  clear q12
  exact rp16
 rw [← q12] at y12
 have Q12 := Lib.hid q12
 clear q12
 by_cases q13 : x.l.qk = y.l.qk
 rotate_left
 ·have e1 : (x.l.qk == y.l.qk) = false := by simpa using q13
  have e2 : (x.l.qk != y.l.qk) = true := by simpa using q13
  have HN : Hid (sameB x y = false) := Lib.hid (sameB_false LVal.qk q13)
  clear q13
  exact rp16
 rw [← q13] at y13
 have Q13 := Lib.hid q13
 clear q13
 by_cases q14 : x.l.qc = y.l.qc
 rotate_left
 ·have e1 : (x.l.qc == y.l.qc) = false := by simpa using q14
  have e2 : (x.l.qc != y.l.qc) = true := by simpa using q14
  have HN : Hid (sameB x y = false) := Lib.hid (sameB_false LVal.qc q14)
  clear q14
  exact rp16
 rw [← q14] at y14
 have Q14 := Lib.hid q14
 clear q14
 by_cases q15 : x.l.qe = y.l.qe
 rotate_left
 ·have e1 : (x.l.qe == y.l.qe) = false := by simpa using q15
  have e2 : (x.l.qe != y.l.qe) = true := by simpa using q15
  have HN : Hid (sameB x y = false) := Lib.hid (sameB_false LVal.qe q15)
  clear q15
  exact rp16
 rw [← q15] at y15
 have Q15 := Lib.hid q15
 clear q15
 by_cases q16 : x.l.qn = y.l.qn
 rotate_left
 ·have e1 : (x.l.qn == y.l.qn) = false := by simpa using q16
  have e2 : (x.l.qn != y.l.qn) = true := by simpa using q16
  have HN : Hid (sameB x y = false) := Lib.hid (sameB_false LVal.qn q16)
  clear q16
  exact rp16
 rw [← q16] at y16
 have Q16 := Lib.hid q16
 clear q16
 have HV : Hid (sameB x y = (cvalB x y && (decide (x.vs = y.vs) && (decide (x.us.map Up.val = y.us.map Up.val) && decide (x.ds = y.ds))))) := Lib.hid (by
  unfold sameB cvalB
  rw [← Bool.decide_and, ← Bool.decide_and, ← Bool.decide_and]
  refine decide_eq_decide.2 ⟨fun h => ?_, fun h => ?_⟩
  ·exact ⟨⟨congrArg LVal.fc h, congrArg LVal.fe h, congrArg LVal.ff h, congrArg LVal.fj h, congrArg LVal.ns h⟩, congrArg LVal.vs h, congrArg LVal.us h, congrArg LVal.ds h⟩
  ·exact LVal.ext' ⟨Q0.out, Q1.out, Q2.out, Q3.out, Q4.out, Q5.out, Q6.out, Q7.out, Q8.out, Q9.out, Q10.out, Q11.out, Q12.out, Q13.out, Q14.out, Q15.out, Q16.out, h.1.1, h.1.2.1, h.1.2.2.1, h.1.2.2.2.1, h.1.2.2.2.2, h.2.1, h.2.2.1, h.2.2.2⟩)
 generalize sameB x y = b0 at *
 have CC := Lib.hid (fun X (h9 : Below W0.heap.size W0 X) => ref09SameG_any x y B D X (H1.out.nd.below (h9.mono HSZ.out.1)) (H2.out.nd.below (h9.mono HSZ.out.2)) (Nat.le_trans HSZ.out.1 h9.size) (Nat.le_trans HSZ.out.2 h9.size) HNR.out.nl)
 have CV := Lib.hid (fun X (h9 : Below W0.heap.size W0 X) => refVotesG_any x.l.vA y.l.vA x.l.vn y.l.vn x.l.vp y.l.vp B D x.vs y.vs X (Nat.le_trans HSZ.out.1 h9.size) (Nat.le_trans HSZ.out.2 h9.size) (H1.out.vt.below (h9.mono HSZ.out.1)) (H2.out.vt.below (h9.mono HSZ.out.2)) HNR.out.vl)
 have CU := Lib.hid (fun X (h9 : Below W0.heap.size W0 X) => refUpsG_any x.l.uA y.l.uA x.l.un y.l.un x.l.up y.l.up B D x.us y.us X (Nat.le_trans HSZ.out.1 h9.size) (Nat.le_trans HSZ.out.2 h9.size) (H1.out.up.below (h9.mono HSZ.out.1)) (H2.out.up.below (h9.mono HSZ.out.2)) HNR.out.ul HNR.out.us)
 have CD := Lib.hid (fun X (h9 : Below W0.heap.size W0 X) => same_any x.l.dA y.l.dA x.l.dn y.l.dn x.l.dp y.l.dp B D x.ds y.ds X (Nat.le_trans HSZ.out.1 h9.size) (Nat.le_trans HSZ.out.2 h9.size) (H1.out.da.below (h9.mono HSZ.out.1)) (H2.out.da.below (h9.mono HSZ.out.2)) (Nat.le_trans HNR.out.dl (by omega)))
 generalize cvalB x y = b1 at *
 generalize decide (x.vs = y.vs) = b2 at *
 generalize decide (x.us.map Up.val = y.us.map Up.val) = b3 at *
 generalize decide (x.ds = y.ds) = b4 at *
 have x17 : W0.cell? ⟨w.heap.size, 17, none⟩ = some (.int .i64 x.l.fc) := BX.out.cell 17
 have y17 : W0.cell? ⟨w.heap.size + 1, 17, none⟩ = some (.int .i64 y.l.fc) := BY.out.cell 17
 have x18 : W0.cell? ⟨w.heap.size, 18, none⟩ = some (.int .u64 x.l.fe) := BX.out.cell 18
 have y18 : W0.cell? ⟨w.heap.size + 1, 18, none⟩ = some (.int .u64 y.l.fe) := BY.out.cell 18
 have x19 : W0.cell? ⟨w.heap.size, 19, none⟩ = some (.slice x.l.fA x.l.fn x.l.fp) := BX.out.cell 19
 have y19 : W0.cell? ⟨w.heap.size + 1, 19, none⟩ = some (.slice y.l.fA y.l.fn y.l.fp) := BY.out.cell 19
 have x20 : W0.cell? ⟨w.heap.size, 20, none⟩ = some (.bool x.l.ff) := BX.out.cell 20
 have y20 : W0.cell? ⟨w.heap.size + 1, 20, none⟩ = some (.bool y.l.ff) := BY.out.cell 20
 have x21 : W0.cell? ⟨w.heap.size, 21, none⟩ = some (.int .i64 x.l.fj) := BX.out.cell 21
 have y21 : W0.cell? ⟨w.heap.size + 1, 21, none⟩ = some (.int .i64 y.l.fj) := BY.out.cell 21
 have x22 : W0.cell? ⟨w.heap.size, 22, none⟩ = some (.slice x.l.vA x.l.vn x.l.vp) := BX.out.cell 22
 have y22 : W0.cell? ⟨w.heap.size + 1, 22, none⟩ = some (.slice y.l.vA y.l.vn y.l.vp) := BY.out.cell 22
 have x23 : W0.cell? ⟨w.heap.size, 23, none⟩ = some (.slice x.l.uA x.l.un x.l.up) := BX.out.cell 23
 have y23 : W0.cell? ⟨w.heap.size + 1, 23, none⟩ = some (.slice y.l.uA y.l.un y.l.up) := BY.out.cell 23
 have x24 : W0.cell? ⟨w.heap.size, 24, none⟩ = some (.slice x.l.dA x.l.dn x.l.dp) := BX.out.cell 24
 have y24 : W0.cell? ⟨w.heap.size + 1, 24, none⟩ = some (.slice y.l.dA y.l.dn y.l.dp) := BY.out.cell 24
 go_enter Tryz.func11, Tryz.ntmps11
 go_upto_region 1 with (fail)
 rw [← HW.out]
 go_wp2_with (fail)
 refine (CC.out _ (Below.refl _ _)).mono ?_
 rintro e w1 ⟨rfl, h⟩
 have B1 := Lib.hid h
 have hl1 := h.size
 clear h x0 x1 x2 x3 x4 x5 x6 x7 x8 x9 x10 x11 x12 x13 x14 x15 x16 y0 y1 y2 y3 y4 y5 y6 y7 y8 y9 y10 y11 y12 y13 y14 y15 y16 x17 x18 x19 x20 x21 y17 y18 y19 y20 y21 x22 x23 x24 y22 y23 y24
 cases b1
 ·go_wp2_with (fail)
  go_ret
  exact ⟨by rw [HV.out]; rfl, HB.out.trans (B1.out.mono HB.out.size)⟩
 have x22 : w1.cell? ⟨w.heap.size, 22, none⟩ = some (.slice x.l.vA x.l.vn x.l.vp) := (BX.out.below B1.out lx).cell 22
 have y22 : w1.cell? ⟨w.heap.size + 1, 22, none⟩ = some (.slice y.l.vA y.l.vn y.l.vp) := (BY.out.below B1.out ly).cell 22
 have lx1 := Nat.lt_of_lt_of_le lx hl1
 have ly1 := Nat.lt_of_lt_of_le ly hl1
 go_wp2_with (fail)
 refine (CV.out _ B1.out).mono ?_
 rintro e w2 ⟨rfl, h⟩
 have B2 := Lib.hid (B1.out.trans (h.mono B1.out.size))
 have hl2 := B2.out.size
 clear h x22 y22
 cases b2
 ·go_wp2_with (fail)
  go_ret
  exact ⟨by rw [HV.out]; rfl, HB.out.trans (B2.out.mono HB.out.size)⟩
 have x23 : w2.cell? ⟨w.heap.size, 23, none⟩ = some (.slice x.l.uA x.l.un x.l.up) := (BX.out.below B2.out lx).cell 23
 have y23 : w2.cell? ⟨w.heap.size + 1, 23, none⟩ = some (.slice y.l.uA y.l.un y.l.up) := (BY.out.below B2.out ly).cell 23
 have lx2 := Nat.lt_of_lt_of_le lx hl2
 have ly2 := Nat.lt_of_lt_of_le ly hl2
 go_wp2_with (fail)
 refine (CU.out _ B2.out).mono ?_
 rintro e w3 ⟨rfl, h⟩
 have B3 := Lib.hid (B2.out.trans (h.mono B2.out.size))
 have hl3 := B3.out.size
 clear h x23 y23
 cases b3
 ·go_wp2_with (fail)
  go_ret
  exact ⟨by rw [HV.out]; rfl, HB.out.trans (B3.out.mono HB.out.size)⟩
 have x24 : w3.cell? ⟨w.heap.size, 24, none⟩ = some (.slice x.l.dA x.l.dn x.l.dp) := (BX.out.below B3.out lx).cell 24
 have y24 : w3.cell? ⟨w.heap.size + 1, 24, none⟩ = some (.slice y.l.dA y.l.dn y.l.dp) := (BY.out.below B3.out ly).cell 24
 have lx3 := Nat.lt_of_lt_of_le lx hl3
 have ly3 := Nat.lt_of_lt_of_le ly hl3
 go_wp2_with (fail)
 refine (CD.out _ B3.out).mono ?_
 rintro e w4 ⟨rfl, h⟩
 have B4 := Lib.hid (B3.out.trans (h.mono B3.out.size))
 clear h
 go_wp2_with (fail)
 go_ret
 exact ⟨by rw [HV.out]; rfl, HB.out.trans (B4.out.mono HB.out.size)⟩
end Go.Proofs.YtmpedblelnpjdaaGreatDoor
