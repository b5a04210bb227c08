import Derived.Test.YtmpedblelnpjdaaGreatDoorZRqA
import Derived.Test.YtmpedblelnpjdaaGreatDoorZTq
import Derived.Test.YtmpedblelnpjdaaGreatDoorZAtlH
section
/- The document's Request (printed by rqbgen.py). -/
namespace Go.Proofs.YtmpedblelnpjdaaGreatDoor
open Go.RowKit
set_option linter.unusedSimpArgs false
set_option linter.unusedVariables false
set_option maxHeartbeats 8000000
set_option maxRecDepth 100000
attribute [local go_sem] Up.agg Up.cells Opn.agg Opn.cells
theorem updE_bad {u : Up} {r : Bool} (hk : u.kd = 2 ∨ u.kd = 3) (hn : ¬ 2048 < u.n) (h : ¬ upOkP u r) : (4 : Int) = updE u r := by
 have hb : writesB u.kd = true := by unfold writesB; simpa using hk
 unfold updE
 rw [if_neg (by rw [hb]; simp), if_neg hn, ← upOk_no h]; rfl
theorem updE_ok {u : Up} {r : Bool} (hk : u.kd = 2 ∨ u.kd = 3) (hn : ¬ 2048 < u.n) (h : upOkP u r) : (0 : Int) = updE u r := by
 have hb : writesB u.kd = true := by unfold writesB; simpa using hk
 unfold updE
 rw [if_neg (by rw [hb]; simp), if_neg hn, ← upOk_yes h]; rfl
theorem refUpdCheck_any (u : Up) (s : Bool) (w : World) (hw : u.wf) (hn : u.n ≤ 1000000) :
  Calls Tryz.prog 239 #[u.agg, .bool s] w fun e w' => e = .returned (.int .i64 (updE u (!s))) ∧ Below w.heap.size w w' := by
 have HB : Hid (Below w.heap.size w (w.alloc (.cells u.cells 145))) := Lib.hid (by repeat (first | with_reducible exact Below.refl _ _ | with_reducible refine Below.setCell ?_ (by first | omega | (simp <;> omega)) _ | with_reducible refine Below.alloc ?_ (by first | omega | (simp <;> omega)) _ | with_reducible refine below_drewN ?_ _ | with_reducible refine Below.drew ?_))
 have hn1 : (u.n : Int) ≤ 1000000 := by omega
 have hsq := hw.seq.1
 have hnm := hw.num.1
 have hvr := hw.ver.1
 clear hn
 by_cases hk : u.kd = 2 ∨ u.kd = 3
 rotate_left
 ·have h2 : (u.kd != 2) = true := by simp; intro e; exact hk (.inl e)
  have h3 : (u.kd != 3) = true := by simp; intro e; exact hk (.inr e)
  have HX : Hid ((1 : Int) = updE u (!s)) := Lib.hid (by unfold updE writesB; rw [if_pos (by simpa using hk)])
  clear hw hk
  exact rp62
 by_cases hl : (2048 : Int) < u.n
 ·have HX : Hid ((6 : Int) = updE u (!s)) := Lib.hid (by unfold updE writesB; rw [if_neg (by simp; omega), if_pos (by omega)])
  rcases hk with hk | hk
  all_goals
   clear hw
   exact rp62
 rcases (show s = true ∨ s = false from by cases s <;> simp) with rfl | rfl
 ·by_cases h1 : u.seq = 0
  ·exact rp21
  have h1p : 0 < u.seq := by omega
  clear h1
  by_cases h2 : u.cl < 1
  ·exact rp21
  by_cases h3 : 6 < u.cl
  ·exact rp21
  by_cases h4 : u.num = 0
  ·exact rp21
  have h4p : (u.num == 0) = false := by simpa using h4
  have hks := hk
  rcases hks with hkk | hkk
  ·by_cases h5 : 0 < u.ver
   ·(have HX := Lib.hid (updE_bad (u := u) (r := false) hk (by omega) (fun h => by unfold upOkP at h; simp at h; omega)); clear hw; go_enter Tryz.func239, Tryz.ntmps239; go_wp2_with (fail); go_ret; exact ⟨by rw [← HX.out]; rfl, by repeat (first | with_reducible exact Below.refl _ _ | with_reducible refine Below.setCell ?_ (by first | omega | (simp <;> omega)) _ | with_reducible refine Below.alloc ?_ (by first | omega | (simp <;> omega)) _ | with_reducible refine below_drewN ?_ _ | with_reducible refine Below.drew ?_)⟩)
   ·exact rp50
  ·exact rp50
 ·by_cases h1 : 0 < u.seq
  ·exact rp22
  have h1p : u.seq ≤ 0 := by omega
  clear h1
  by_cases h2 : u.cl < 1
  ·exact rp22
  by_cases h3 : 6 < u.cl
  ·exact rp22
  by_cases h4 : u.num = 0
  ·exact rp22
  have h4p : (u.num == 0) = false := by simpa using h4
  have hks := hk
  rcases hks with hkk | hkk
  ·by_cases h5 : 0 < u.ver
   ·(have HX := Lib.hid (updE_bad (u := u) (r := true) hk (by omega) (fun h => by unfold upOkP at h; simp at h; omega)); clear hw; go_enter Tryz.func239, Tryz.ntmps239; go_wp2_with (fail); go_ret; exact ⟨by rw [← HX.out]; rfl, by repeat (first | with_reducible exact Below.refl _ _ | with_reducible refine Below.setCell ?_ (by first | omega | (simp <;> omega)) _ | with_reducible refine Below.alloc ?_ (by first | omega | (simp <;> omega)) _ | with_reducible refine below_drewN ?_ _ | with_reducible refine Below.drew ?_)⟩)
   ·exact rp51
  ·exact rp51
theorem refAsked_any (u : Up) (w : World) (hw : u.wf) (hn : u.n ≤ 1000000) :
  Calls Tryz.prog 158 #[u.agg] w fun e w' => e = .returned (.int .i64 (updE u true)) ∧ Below w.heap.size w w' := by
 have HB : Hid (Below w.heap.size w (w.alloc (.cells u.cells 145))) := Lib.hid (by repeat (first | with_reducible exact Below.refl _ _ | with_reducible refine Below.setCell ?_ (by first | omega | (simp <;> omega)) _ | with_reducible refine Below.alloc ?_ (by first | omega | (simp <;> omega)) _ | with_reducible refine below_drewN ?_ _ | with_reducible refine Below.drew ?_))
 have C := fun W => Lib.hid (refUpdCheck_any u false W hw hn)
 clear hw
 go_enter Tryz.func158, Tryz.ntmps158
 go_wp2_with (fail)
 refine (C _).out.mono ?_
 rintro e w2 ⟨rfl, h2⟩
 have H3 := Lib.hid (HB.out.trans (h2.mono HB.out.size))
 clear h2
 go_wp2_with (fail)
 go_ret
 exact ⟨rfl, H3.out⟩
theorem refRequest_any (o : Opn) (cl num : Int) (w : World) (hw : o.wf) (hn : o.n ≤ 1000000) (hc : -9223372036854775808 ≤ cl ∧ cl ≤ 9223372036854775807) (hnm : 0 ≤ num ∧ num ≤ 18446744073709551615) :
  Calls Tryz.prog 77 #[o.agg, .int .i64 cl, .int .u64 num] w fun e w' => e = .returned (.tuple #[(reqV (reqE o cl num) (reqU o cl num o.A o.c)).agg, .int .i64 (reqE o cl num)]) ∧ Below w.heap.size w w' := by
 have HWF := Lib.hid (reqU_wf hw hc hnm o.A o.c)
 have CA := Lib.hid (fun W => refAsked_any (reqU o cl num o.A o.c) W HWF.out hn)
 rw [reqE_at] at CA
 clear hw hc hnm
 go_enter Tryz.func77, Tryz.ntmps77
 go_wp2_with (fail)
 obtain ⟨z, hz⟩ : ∃ z, reqE o cl num = z := ⟨_, rfl⟩
 have HZ := Lib.hid hz
 rw [hz] at CA
 clear hz
 refine (CA.out _).mono ?_
 rintro e w9 ⟨rfl, h9⟩
 have H1 : Hid (Below w.heap.size w w9) := Lib.hid ((show Below w.heap.size w (((w.alloc (.cells o.cells 58)).alloc (.cells #[.int .u64 0, .int .i64 0, .int .u64 0, .int .i64 0, .int .u32 0, .int .u64 0, .slice none 0 0] 145)).alloc (.cells (reqU o cl num o.A o.c).cells 145)) from by repeat (first | with_reducible exact Below.refl _ _ | with_reducible refine Below.setCell ?_ (by first | omega | (simp <;> omega)) _ | with_reducible refine Below.alloc ?_ (by first | omega | (simp <;> omega)) _ | with_reducible refine below_drewN ?_ _ | with_reducible refine Below.drew ?_)).trans (h9.mono (by simp <;> omega)))
 have H9R : Hid (Blk w9 (w.heap.size + 1) 145 #[.int .u64 0, .int .i64 0, .int .u64 0, .int .i64 0, .int .u32 0, .int .u64 0, .slice none 0 0]) := Lib.hid (((blk_at7 _ _ _ _ (by simp)).alloc _).below h9 (by simp <;> omega))
 have H9O : Hid (Blk w9 (w.heap.size + 1 + 1) 145 (reqU o cl num o.A o.c).cells) := Lib.hid ((blk_at7 _ _ _ _ (by simp)).below h9 (by simp <;> omega))
 obtain ⟨x0, x1, x2, x3, x4, x5, x6⟩ := up_cells H9O.out
 simp only [reqU] at x0 x1 x2 x3 x4 x5 x6
 obtain ⟨r0, r1, r2, r3, r4, r5, r6⟩ := cells7 H9R.out
 obtain ⟨f0, f1, f2, f3, f4, f5, f6⟩ := frozen7 H9R.out
 clear h9
 by_cases h0 : z = 0
 ·subst h0
  go_wp2_with (fail)
  have HC : Hid (Chg w9 (((((((w9.setCell ⟨w.heap.size + 1, 0, none⟩ (.int .u64 0)).setCell ⟨w.heap.size + 1, 1, none⟩ (.int .i64 cl)).setCell ⟨w.heap.size + 1, 2, none⟩ (.int .u64 num)).setCell ⟨w.heap.size + 1, 3, none⟩ (.int .i64 o.kd)).setCell ⟨w.heap.size + 1, 4, none⟩ (.int .u32 o.key)).setCell ⟨w.heap.size + 1, 5, none⟩ (.int .u64 o.ver)).setCell ⟨w.heap.size + 1, 6, none⟩ (.slice o.A o.n o.c)) (isB (w.heap.size + 1))) := Lib.hid (((((((chg_setB w9 (w.heap.size + 1) (.int .u64 0) 0).trans (chg_setB _ (w.heap.size + 1) (.int .i64 cl) 1) (fun _ _ x => x)).trans (chg_setB _ (w.heap.size + 1) (.int .u64 num) 2) (fun _ _ x => x)).trans (chg_setB _ (w.heap.size + 1) (.int .i64 o.kd) 3) (fun _ _ x => x)).trans (chg_setB _ (w.heap.size + 1) (.int .u32 o.key) 4) (fun _ _ x => x)).trans (chg_setB _ (w.heap.size + 1) (.int .u64 o.ver) 5) (fun _ _ x => x)).trans (chg_setB _ (w.heap.size + 1) (.slice o.A o.n o.c) 6) (fun _ _ x => x))
  have HKB : Hid (Blk (((((((w9.setCell ⟨w.heap.size + 1, 0, none⟩ (.int .u64 0)).setCell ⟨w.heap.size + 1, 1, none⟩ (.int .i64 cl)).setCell ⟨w.heap.size + 1, 2, none⟩ (.int .u64 num)).setCell ⟨w.heap.size + 1, 3, none⟩ (.int .i64 o.kd)).setCell ⟨w.heap.size + 1, 4, none⟩ (.int .u32 o.key)).setCell ⟨w.heap.size + 1, 5, none⟩ (.int .u64 o.ver)).setCell ⟨w.heap.size + 1, 6, none⟩ (.slice o.A o.n o.c)) (w.heap.size + 1) 145 #[.int .u64 0, .int .i64 cl, .int .u64 num, .int .i64 o.kd, .int .u32 o.key, .int .u64 o.ver, .slice o.A o.n o.c]) := Lib.hid (((((((H9R.out.set_ 0 (.int .u64 0)).set_ 1 (.int .i64 cl)).set_ 2 (.int .u64 num)).set_ 3 (.int .i64 o.kd)).set_ 4 (.int .u32 o.key)).set_ 5 (.int .u64 o.ver)).set_ 6 (.slice o.A o.n o.c))
  obtain ⟨wz, hwz⟩ : ∃ wz, wz = (((((((w9.setCell ⟨w.heap.size + 1, 0, none⟩ (.int .u64 0)).setCell ⟨w.heap.size + 1, 1, none⟩ (.int .i64 cl)).setCell ⟨w.heap.size + 1, 2, none⟩ (.int .u64 num)).setCell ⟨w.heap.size + 1, 3, none⟩ (.int .i64 o.kd)).setCell ⟨w.heap.size + 1, 4, none⟩ (.int .u32 o.key)).setCell ⟨w.heap.size + 1, 5, none⟩ (.int .u64 o.ver)).setCell ⟨w.heap.size + 1, 6, none⟩ (.slice o.A o.n o.c)) := ⟨_, rfl⟩
  rw [← hwz] at HC HKB ⊢
  clear hwz r0 r1 r2 r3 r4 r5 r6 f0 f1 f2 f3 f4 f5 f6 x0 x1 x2 x3 x4 x5 x6
  obtain ⟨k0, k1, k2, k3, k4, k5, k6⟩ := cells7 HKB.out
  go_wp2_with (fail)
  refine bodyPost_ret (v := .tuple #[.agg #[.int .u64 0, .int .i64 cl, .int .u64 num, .int .i64 o.kd, .int .u32 o.key, .int .u64 o.ver, .slice o.A o.n o.c], .int .i64 0]) (by simp [results, Tryz.results77, go_sem, k0, k1, k2, k3, k4, k5, k6]) rfl ?_
  exact ⟨by rw [HZ.out]; rfl, H1.out.trans (HC.out.below H1.out.size (fun k hk e => by simp only [isB] at e; omega))⟩
 ·have h0' : (z != 0) = true := by simpa using h0
  have HNZ := Lib.hid h0
  clear h0
  go_wp2_with (fail)
  have HC : Hid (Chg w9 (((((((w9.setCell ⟨w.heap.size + 1, 0, none⟩ (.int .u64 0)).setCell ⟨w.heap.size + 1, 1, none⟩ (.int .i64 0)).setCell ⟨w.heap.size + 1, 2, none⟩ (.int .u64 0)).setCell ⟨w.heap.size + 1, 3, none⟩ (.int .i64 0)).setCell ⟨w.heap.size + 1, 4, none⟩ (.int .u32 0)).setCell ⟨w.heap.size + 1, 5, none⟩ (.int .u64 0)).setCell ⟨w.heap.size + 1, 6, none⟩ (.slice none 0 0)) (isB (w.heap.size + 1))) := Lib.hid (((((((chg_setB w9 (w.heap.size + 1) (.int .u64 0) 0).trans (chg_setB _ (w.heap.size + 1) (.int .i64 0) 1) (fun _ _ x => x)).trans (chg_setB _ (w.heap.size + 1) (.int .u64 0) 2) (fun _ _ x => x)).trans (chg_setB _ (w.heap.size + 1) (.int .i64 0) 3) (fun _ _ x => x)).trans (chg_setB _ (w.heap.size + 1) (.int .u32 0) 4) (fun _ _ x => x)).trans (chg_setB _ (w.heap.size + 1) (.int .u64 0) 5) (fun _ _ x => x)).trans (chg_setB _ (w.heap.size + 1) (.slice none 0 0) 6) (fun _ _ x => x))
  have HKB : Hid (Blk (((((((w9.setCell ⟨w.heap.size + 1, 0, none⟩ (.int .u64 0)).setCell ⟨w.heap.size + 1, 1, none⟩ (.int .i64 0)).setCell ⟨w.heap.size + 1, 2, none⟩ (.int .u64 0)).setCell ⟨w.heap.size + 1, 3, none⟩ (.int .i64 0)).setCell ⟨w.heap.size + 1, 4, none⟩ (.int .u32 0)).setCell ⟨w.heap.size + 1, 5, none⟩ (.int .u64 0)).setCell ⟨w.heap.size + 1, 6, none⟩ (.slice none 0 0)) (w.heap.size + 1) 145 #[.int .u64 0, .int .i64 0, .int .u64 0, .int .i64 0, .int .u32 0, .int .u64 0, .slice none 0 0]) := Lib.hid (((((((H9R.out.set_ 0 (.int .u64 0)).set_ 1 (.int .i64 0)).set_ 2 (.int .u64 0)).set_ 3 (.int .i64 0)).set_ 4 (.int .u32 0)).set_ 5 (.int .u64 0)).set_ 6 (.slice none 0 0))
  obtain ⟨wz, hwz⟩ : ∃ wz, wz = (((((((w9.setCell ⟨w.heap.size + 1, 0, none⟩ (.int .u64 0)).setCell ⟨w.heap.size + 1, 1, none⟩ (.int .i64 0)).setCell ⟨w.heap.size + 1, 2, none⟩ (.int .u64 0)).setCell ⟨w.heap.size + 1, 3, none⟩ (.int .i64 0)).setCell ⟨w.heap.size + 1, 4, none⟩ (.int .u32 0)).setCell ⟨w.heap.size + 1, 5, none⟩ (.int .u64 0)).setCell ⟨w.heap.size + 1, 6, none⟩ (.slice none 0 0)) := ⟨_, rfl⟩
  rw [← hwz] at HC HKB ⊢
  clear hwz r0 r1 r2 r3 r4 r5 r6 f0 f1 f2 f3 f4 f5 f6 x0 x1 x2 x3 x4 x5 x6
  obtain ⟨k0, k1, k2, k3, k4, k5, k6⟩ := cells7 HKB.out
  go_wp2_with (fail)
  refine bodyPost_ret (v := .tuple #[.agg #[.int .u64 0, .int .i64 0, .int .u64 0, .int .i64 0, .int .u32 0, .int .u64 0, .slice none 0 0], .int .i64 z]) (by simp [results, Tryz.results77, go_sem, k0, k1, k2, k3, k4, k5, k6]) rfl ?_
  exact ⟨by rw [HZ.out]; unfold reqV; rw [if_neg HNZ.out]; rfl, H1.out.trans (HC.out.below H1.out.size (fun k hk e => by simp only [isB] at e; omega))⟩
end Go.Proofs.YtmpedblelnpjdaaGreatDoor

end
section
/- catenaryref09.All. -/
namespace Go.Proofs.YtmpedblelnpjdaaGreatDoor
open Go.RowKit
set_option linter.unusedSimpArgs false
set_option linter.unusedVariables false
set_option maxHeartbeats 8000000
set_option maxRecDepth 100000
attribute [local go_sem] Cf.agg Cf.cells
theorem allB_end {l : List Cf} (h2 : Ups l l.length) : (decide (1 ≤ l.length) && (decide (l.length ≤ 4) && unlikeB (l.flatMap Cf.stands))) = allB l := by
 by_cases h1 : 1 ≤ l.length ∧ l.length ≤ 4
 ·rw [allB_tail h1 h2]; simp [h1]
 ·rw [← allB_no (fun h => h1 h.1)]
  by_cases h3 : 1 ≤ l.length
  ·have h4 : ¬ l.length ≤ 4 := fun h => h1 ⟨h3, h⟩
   simp [h4]
  ·simp [h3]
theorem refAll_any (A : Option Addr) (n c B : Nat) (l : List Cf) (w : World) (hl : CfsIn w B A n l) (hB : B ≤ w.heap.size) (hn : n ≤ 1000) :
  Calls Tryz.prog 69 #[.slice A n c] w fun e w' => e = .returned (.bool (allB l)) ∧ Below w.heap.size w w' := by
 obtain ⟨i0, hi, hz0, hz1, hz2⟩ := info_parts i64Info
 have hlen := hl.len
 have HL := Lib.hid hl
 have HN : Hid (l.length = n) := Lib.hid hlen
 clear hl hlen
 go_enter Tryz.func69, Tryz.ntmps69
 go_wp2
 go_loopw [3, 4] (fun v i wr => ∃ (k : Nat) (m : List Int), k ≤ n ∧ i = .int .i64 k ∧ AllRel w l k v m wr) (fun _ i _ => n - (intOf i).toNat)
 case atStart => exact ⟨0, [], by omega, rfl, ⟨World.ownsRow_nil _ _ _ _, rfl, by simp, fun j x hj => by omega, Below.refl _ _⟩⟩
 case round =>
  obtain ⟨k, m, hk, rfl, hrel⟩ := hrel
  have HP := Lib.hid hrel
  have hml := hrel.len
  have hsz := hrel.bel.size
  clear hrel
  by_cases hlt : k < n
  ·obtain ⟨b, off, x, hA, hb, hlx, hxin, q0, q1, q2, q3, q4⟩ := (HL.out.below (HP.out.bel.mono hB)).at_ hlt
   have HLX := Lib.hid hlx
   have HXI := Lib.hid hxin
   clear hlx hxin
   subst hA
   have O := Lib.hid (refRight_any x B wr HXI.out (Nat.le_trans hB hsz))
   cases hR : x.right
   ·have hT := Lib.hid (allB_no (l := l) (fun h => by have := (h.2.1 k x (by rw [HN.out]; exact hlt) HLX.out).2; rw [hR] at this; cases this))
    go_wp2_with (fail)
    refine O.out.mono ?_
    rintro e w1 ⟨rfl, h⟩
    have hb1 := Lib.hid h
    clear h
    go_wp2
    go_ret
    exact ⟨ret_bool hT.out, HP.out.bel.trans (hb1.out.mono hsz)⟩
   ·by_cases hch : x.ch = k
    ·have hch' : (x.ch != (k : Int)) = false := by simp [hch]
     have HC := Lib.hid hch
     clear hch
     go_wp2_with (fail)
     refine O.out.mono ?_
     rintro e w1 ⟨rfl, h⟩
     have hb1 := Lib.hid h
     have hs1 := h.size
     have p0 := (h.cell (p := ⟨b, off + k * 5, none⟩) (by show b < _; omega)).trans q0
     have p1 := (h.cell (p := ⟨b, off + k * 5 + 1, none⟩) (by show b < _; omega)).trans q1
     have p2 := (h.cell (p := ⟨b, off + k * 5 + 2, none⟩) (by show b < _; omega)).trans q2
     have p3 := (h.cell (p := ⟨b, off + k * 5 + 3, none⟩) (by show b < _; omega)).trans q3
     have p4 := (h.cell (p := ⟨b, off + k * 5 + 4, none⟩) (by show b < _; omega)).trans q4
     have H6 := Lib.hid (stands_le HXI.out hR)
     have h5 := (Cf.right_fine hR).1.2.2.1.2
     clear h
     go_wp2_with (fail)
     refine (stands_any x B _ (HXI.out.below (hb1.out.mono (Nat.le_trans hB hsz))) (by omega) (by omega)).mono ?_
     rintro e w2 ⟨v2, rfl, ho2, hb2⟩
     obtain ⟨A2, cc2, rfl, hr2, _, _⟩ := own_slice ho2
     have R2 := Lib.hid hr2
     have B2 := Lib.hid (hb1.out.trans (hb2.mono hs1))
     have hs2 := hb2.size
     have hs6 := H6.out
     have OWN := Lib.hid (HP.out.own.kept (only_of_below B2.out none) (by cases u3.ownBlock <;> simp))
     clear ho2 hr2 hb2
     go_wp2_with (at_builtin; go_must (refine wpList_append_any _ rfl (.tmp 26) (.tmp 31) _ rfl w.heap.size 3 i0 _ 1 8 Tryz.underlying31 hi hz0 hz1 hz2 rfl (by omega) _ _ _ rfl OWN.out w2.heap.size A2 _ cc2 _ rfl R2.out ?c1 ?c2 ?c3 ?c4 ?_))
     case c1 => intro u hu; obtain ⟨z, _, rfl⟩ := List.mem_map.1 hu; rfl
     case c2 => unfold maxLen; omega
     case c3 => omega
     case c4 => omega
     intro v3 w3 hown hg _
     have P := Lib.hid (HP.out.put HLX.out HC.out hR H6.out B2.out hown hg)
     clear hown hg
     go_wp2_with (fail)
     exact ⟨⟨k + 1, _, hlt, rfl, P.out⟩, by simp [intOf]; omega⟩
    ·have hch' : (x.ch != (k : Int)) = true := by simp [hch]
     have hT := Lib.hid (allB_no (l := l) (fun h => hch (h.2.1 k x (by rw [HN.out]; exact hlt) HLX.out).1))
     clear hch
     go_wp2_with (fail)
     refine O.out.mono ?_
     rintro e w1 ⟨rfl, h⟩
     have hb1 := Lib.hid h
     have p0 := (h.cell (p := ⟨b, off + k * 5, none⟩) (by show b < _; omega)).trans q0
     clear h
     go_wp2
     go_ret
     exact ⟨ret_bool hT.out, HP.out.bel.trans (hb1.out.mono hsz)⟩
  ·obtain rfl : k = n := by omega
   obtain ⟨A2, cc2, rfl, hr2, hc2, hm2⟩ := own_slice HP.out.own
   have R2 := Lib.hid hr2
   have hT := Lib.hid (allB_end (l := l) (by rw [HN.out]; exact HP.out.ups))
   have hM : Hid (m = l.flatMap Cf.stands) := Lib.hid (by rw [HP.out.met, ← HN.out, List.take_length])
   clear hr2
   rw [HN.out] at hT
   by_cases h1 : 1 ≤ k ∧ k ≤ 4
   ·have hT2 : Hid (unlikeB m = allB l) := Lib.hid (by rw [← hT.out, hM.out]; simp [h1])
    go_wp2_with (fail)
    refine (refUnlike_any A2 _ cc2 _ m _ R2.out hc2 hm2).mono ?_
    rintro e w1 ⟨rfl, h⟩
    have hb1 := Lib.hid h
    clear h
    go_wp2
    go_ret
    exact ⟨ret_bool hT2.out, HP.out.bel.trans (hb1.out.mono hsz)⟩
   ·have hT2 : Hid (false = allB l) := Lib.hid (allB_no (fun h => h1 (by rw [← HN.out]; exact h.1)))
    by_cases h3 : 1 ≤ k
    ·have h4 : ¬ k ≤ 4 := fun h => h1 ⟨h3, h⟩
     go_wp2
     go_ret
     exact ⟨ret_bool hT2.out, HP.out.bel⟩
    ·go_wp2
     go_ret
     exact ⟨ret_bool hT2.out, HP.out.bel⟩
end Go.Proofs.YtmpedblelnpjdaaGreatDoor

end
section
/- Newer of both; Same. -/
namespace Go.Proofs.YtmpedblelnpjdaaGreatDoor
open Go.RowKit
set_option linter.unusedSimpArgs false
set_option linter.unusedVariables false
set_option maxHeartbeats 8000000
set_option maxRecDepth 100000
attribute [local go_sem] Cf.agg Cf.cells
theorem blk_new_at (w : World) (t : TypeId) (cs : Array Value) (g : Nat) (h : g = w.heap.size) : Blk (w.alloc (.cells cs t)) g t cs := by subst h; exact Blk.new w t cs
theorem box2_belowK {w w1 : World} {o p : Obj} (h : Below ((w.alloc o).alloc p).heap.size ((w.alloc o).alloc p) w1) : Below w.heap.size w w1 := (((Below.refl _ _).alloc (Nat.le_refl _) _).alloc (by simp) _).trans (h.mono (by simp <;> omega))
noncomputable def newerV (o x : Cf) : Bool := x.right && ((o.ch == x.ch) && decide (o.ep < x.ep))
theorem newer_any (o x : Cf) (B : Nat) (w : World) (hx : CfIn w B x) (hB : B ≤ w.heap.size) :
  Calls Tryz.prog 159 #[o.agg, x.agg] w fun e w' => e = .returned (.bool (newerV o x)) ∧ Below w.heap.size w w' := by
 have HX := Lib.hid hx
 clear hx
 have hv : Hid (newerV o x = (x.right && ((o.ch == x.ch) && decide (o.ep < x.ep)))) := Lib.hid rfl
 cases h1 : (o.ch == x.ch)
 all_goals by_cases h2 : o.ep < x.ep
 all_goals cases hR : x.right
 all_goals
  have h1' : (x.ch == o.ch) = (o.ch == x.ch) := by rw [Bool.eq_iff_iff, beq_iff_eq, beq_iff_eq]; exact ⟨Eq.symm, Eq.symm⟩
  rw [h1] at h1'
  rw [hv.out, hR, h1]
  simp only [h2, decide_true, decide_false, Bool.and_true, Bool.and_false]
  clear hv
  go_enter Tryz.func159, Tryz.ntmps159
  go_wp2_with (fail)
  refine (right_any x B _ ((HX.out.alloc hB _).alloc (by simp; omega) _) (by simp; omega)).mono ?_
  exact rp61
theorem refNewer_any (o x : Cf) (B : Nat) (w : World) (hx : CfIn w B x) (hB : B ≤ w.heap.size) :
  Calls Tryz.prog 161 #[o.agg, x.agg] w fun e w' => e = .returned (.bool (newerV o x)) ∧ Below w.heap.size w w' := by
 have HX := Lib.hid hx
 clear hx
 have hv : Hid (newerV o x = (x.right && ((o.ch == x.ch) && decide (o.ep < x.ep)))) := Lib.hid rfl
 cases h1 : (o.ch == x.ch)
 all_goals by_cases h2 : o.ep < x.ep
 all_goals cases hR : x.right
 all_goals
  have h1' : (x.ch == o.ch) = (o.ch == x.ch) := by rw [Bool.eq_iff_iff, beq_iff_eq, beq_iff_eq]; exact ⟨Eq.symm, Eq.symm⟩
  rw [h1] at h1'
  rw [hv.out, hR, h1]
  simp only [h2, decide_true, decide_false, Bool.and_true, Bool.and_false]
  clear hv
  go_enter Tryz.func161, Tryz.ntmps161
  go_wp2_with (fail)
  refine (refRight_any x B _ ((HX.out.alloc hB _).alloc (by simp; omega) _) (by simp; omega)).mono ?_
  exact rp61
theorem same04_any (A B : Option Addr) (n c d : Nat) (zs : List Int) (b1 b2 : Nat) (w : World) (hn : n ≤ 9223372036854775807) (h1 : Reads w b1 1 A n (zs.map (Value.int .i64))) (h2 : Reads w b2 1 B n (zs.map (Value.int .i64))) :
  Calls Tryz.prog 127 #[.slice A n c, .slice B n d] w fun e w' => e = .returned (.bool true) ∧ ∃ m, w' = w.drewN m := by
 have H1 := Lib.hid h1
 have H2 := Lib.hid h2
 clear h1 h2
 go_enter Tryz.func127, Tryz.ntmps127
 go_wp2
 go_loopw [5] (fun i wr => ∃ k m : Nat, k ≤ n ∧ i = .int .i64 k ∧ wr = w.drewN m) (fun i _ => n - (intOf i).toNat)
 case atStart => exact ⟨0, 0, by omega, rfl, rfl⟩
 case round =>
  obtain ⟨k, m, hk, rfl, rfl⟩ := hrel
  by_cases hlt : k < n
  ·obtain ⟨a1, z1, rfl, _, x1, y1⟩ := reads_int H1.out hlt
   obtain ⟨a2, z2, rfl, _, x2, y2⟩ := reads_int H2.out hlt
   obtain rfl : z1 = z2 := Option.some.inj (x1.symm.trans x2)
   have hlt' : (k : Int) < n := by omega
   clear x1 x2
   go_wp2
   go_quiet (fail)
   go_wp2
   go_roundw
   case rel => exact ⟨k + 1, _, by omega, by go_num, rfl⟩
   case measure => simp [intOf]; omega
  ·obtain rfl : k = n := by omega
   go_wp2
   go_ret
   exact ⟨rfl, _, rfl⟩
theorem val_eq {x y : Cf} (h : x.val = y.val) (hx : x.zs.length = x.len) (hy : y.zs.length = y.len) : ∃ A c, y = ⟨x.ch, x.ep, A, x.len, c, x.fr, x.jn, x.zs⟩ := by
 obtain ⟨a1, a2, a3, a4, a5, a6, a7, a8⟩ := x
 obtain ⟨b1, b2, b3, b4, b5, b6, b7, b8⟩ := y
 unfold Cf.val at h
 simp only [Prod.mk.injEq] at h hx hy
 obtain ⟨h1, h2, h3, h4, h5⟩ := h
 have h2' : a2 = b2 := by omega
 subst h1 h2' h3 h4 h5
 subst hx hy
 exact ⟨b3, b5, rfl⟩
theorem atlSame_any (x y : Cf) (B C : Nat) (w : World) (hx : CfIn w B x) (hB : B ≤ w.heap.size) (hy : CfIn w C y) (hC : C ≤ w.heap.size) (hv : x.val = y.val) :
  Calls Tryz.prog 55 #[x.agg, y.agg] w fun e w' => e = .returned (.bool true) ∧ Below w.heap.size w w' := by
 obtain ⟨A2, c2, rfl⟩ := val_eq hv hx.len_eq hy.len_eq
 have HX := Lib.hid hx
 have HY := Lib.hid hy
 have hl : x.len ≤ 9223372036854775807 := by have h1 := hx.hc; have h2 := hx.hm; unfold maxLen at h2; omega
 clear hx hy hv
 go_enter Tryz.func55, Tryz.ntmps55
 go_wp2_with (fail)
 refine (same04_any x.A A2 x.len x.cap c2 x.zs B C _ hl ((HX.out.rd.alloc hB _).alloc (by simp; omega) _) ((HY.out.rd.alloc hC _).alloc (by simp; omega) _)).mono ?_
 rintro e w1 ⟨rfl, m, rfl⟩
 go_wp2
 go_ret
 exact ⟨rfl, below_drewN (((Below.refl _ _).alloc (Nat.le_refl _) _).alloc (by simp) _) _⟩
end Go.Proofs.YtmpedblelnpjdaaGreatDoor

end
section
/- SameAll where they are the same. -/
namespace Go.Proofs.YtmpedblelnpjdaaGreatDoor
open Go.RowKit
set_option linter.unusedSimpArgs false
set_option linter.unusedVariables false
set_option maxHeartbeats 8000000
set_option maxRecDepth 100000
attribute [local go_sem] Cf.agg Cf.cells
theorem sameAll_any (A C : Option Addr) (n c d B D : Nat) (la lb : List Cf) (w : World) (h1 : CfsIn w B A n la) (h2 : CfsIn w D C n lb) (hv : la.map Cf.val = lb.map Cf.val) (hB : B ≤ w.heap.size) (hD : D ≤ w.heap.size) (hn : n ≤ 1000000) :
  Calls Tryz.prog 86 #[.slice A n c, .slice C n d] w fun e w' => e = .returned (.bool true) ∧ Below w.heap.size w w' := by
 have H1 := Lib.hid h1
 have H2 := Lib.hid h2
 have HV := Lib.hid hv
 have hn1 : (n : Int) ≤ 1000000 := by omega
 have HB0 : Hid (Below w.heap.size w w) := Lib.hid (Below.refl _ _)
 clear h1 h2 hv
 go_enter Tryz.func86, Tryz.ntmps86
 go_wp2
 go_loopw [5] (fun i wr => ∃ k : Nat, k ≤ n ∧ i = .int .i64 k ∧ Hid (Below w.heap.size w wr)) (fun i _ => n - (intOf i).toNat)
 case atStart => exact ⟨0, by omega, rfl, HB0⟩
 case round =>
  clear HB0
  obtain ⟨k, hk, rfl, HB⟩ := hrel
  by_cases hlt : k < n
  ·obtain ⟨b1, o1, x, rfl, hb1, hu1, hin1, p0, p1, p2, p3, p4⟩ := (H1.out.below (HB.out.mono hB)).at_ hlt
   obtain ⟨b2, o2, y, rfl, hb2, hu2, hin2, r0, r1, r2, r3, r4⟩ := (H2.out.below (HB.out.mono hD)).at_ hlt
   have hval : x.val = y.val := by
    have h := congrArg (·[k]?) HV.out
    simp only [List.getElem?_map, hu1, hu2, Option.map_some, Option.some.injEq] at h
    exact h
   have HVL := Lib.hid hval
   obtain ⟨A2, c2, rfl⟩ := val_eq hval hin1.len_eq hin2.len_eq
   simp only [] at r0 r1 r2 r3 r4
   have hlt' : (k : Int) < n := by omega
   have HI1 := Lib.hid hin1
   have HI2 := Lib.hid hin2
   have hsz := HB.out.size
   have hb1 : b1 < wr.heap.size := by omega
   have hb2 : b2 < wr.heap.size := by omega
   have hBw : B ≤ wr.heap.size := by omega
   have hDw : D ≤ wr.heap.size := by omega
   clear hin1 hin2 hval hu1 hu2 hsz
   go_wp2_with (fail)
   go_region_held3 (fun w' => w'.cell? ⟨b1, o1 + k * 5, none⟩ = some (.int .i64 x.ch) ∧ w'.cell? ⟨b1, o1 + k * 5 + 1, none⟩ = some (.int .u64 x.ep) ∧ w'.cell? ⟨b1, o1 + k * 5 + 2, none⟩ = some (.slice x.A x.len x.cap) ∧ w'.cell? ⟨b1, o1 + k * 5 + 3, none⟩ = some (.bool x.fr) ∧ w'.cell? ⟨b1, o1 + k * 5 + 4, none⟩ = some (.int .i64 x.jn) ∧ w'.cell? ⟨b2, o2 + k * 5, none⟩ = some (.int .i64 x.ch) ∧ w'.cell? ⟨b2, o2 + k * 5 + 1, none⟩ = some (.int .u64 x.ep) ∧ w'.cell? ⟨b2, o2 + k * 5 + 2, none⟩ = some (.slice A2 x.len c2) ∧ w'.cell? ⟨b2, o2 + k * 5 + 3, none⟩ = some (.bool x.fr) ∧ w'.cell? ⟨b2, o2 + k * 5 + 4, none⟩ = some (.int .i64 x.jn)) (go_keep) (first
    | (go_at_call 55; refine (atlSame_any x ⟨x.ch, x.ep, A2, x.len, c2, x.fr, x.jn, x.zs⟩ B D _ ?_ ?_ ?_ ?_ ?_).mono ?_; (· exact HI1.out.below (Below.mono (by repeat (first | with_reducible exact Below.refl _ _ | with_reducible refine Below.alloc ?_ (by simp <;> omega) _ | with_reducible refine below_drewN ?_ _ | with_reducible refine Below.drew ?_)) hBw)); (· exact hBw); (· exact HI2.out.below (Below.mono (by repeat (first | with_reducible exact Below.refl _ _ | with_reducible refine Below.alloc ?_ (by simp <;> omega) _ | with_reducible refine below_drewN ?_ _ | with_reducible refine Below.drew ?_)) hDw)); (· exact hDw); (· exact HVL.out); rintro e w9 ⟨rfl, h⟩; replace p0 := cell_relay p0 hb1 h (by repeat (first | with_reducible exact Below.refl _ _ | with_reducible refine Below.alloc ?_ (by simp <;> omega) _ | with_reducible refine below_drewN ?_ _ | with_reducible refine Below.drew ?_)); replace p1 := cell_relay p1 hb1 h (by repeat (first | with_reducible exact Below.refl _ _ | with_reducible refine Below.alloc ?_ (by simp <;> omega) _ | with_reducible refine below_drewN ?_ _ | with_reducible refine Below.drew ?_)); replace p2 := cell_relay p2 hb1 h (by repeat (first | with_reducible exact Below.refl _ _ | with_reducible refine Below.alloc ?_ (by simp <;> omega) _ | with_reducible refine below_drewN ?_ _ | with_reducible refine Below.drew ?_)); replace p3 := cell_relay p3 hb1 h (by repeat (first | with_reducible exact Below.refl _ _ | with_reducible refine Below.alloc ?_ (by simp <;> omega) _ | with_reducible refine below_drewN ?_ _ | with_reducible refine Below.drew ?_)); replace p4 := cell_relay p4 hb1 h (by repeat (first | with_reducible exact Below.refl _ _ | with_reducible refine Below.alloc ?_ (by simp <;> omega) _ | with_reducible refine below_drewN ?_ _ | with_reducible refine Below.drew ?_)); replace r0 := cell_relay r0 hb2 h (by repeat (first | with_reducible exact Below.refl _ _ | with_reducible refine Below.alloc ?_ (by simp <;> omega) _ | with_reducible refine below_drewN ?_ _ | with_reducible refine Below.drew ?_)); replace r1 := cell_relay r1 hb2 h (by repeat (first | with_reducible exact Below.refl _ _ | with_reducible refine Below.alloc ?_ (by simp <;> omega) _ | with_reducible refine below_drewN ?_ _ | with_reducible refine Below.drew ?_)); replace r2 := cell_relay r2 hb2 h (by repeat (first | with_reducible exact Below.refl _ _ | with_reducible refine Below.alloc ?_ (by simp <;> omega) _ | with_reducible refine below_drewN ?_ _ | with_reducible refine Below.drew ?_)); replace r3 := cell_relay r3 hb2 h (by repeat (first | with_reducible exact Below.refl _ _ | with_reducible refine Below.alloc ?_ (by simp <;> omega) _ | with_reducible refine below_drewN ?_ _ | with_reducible refine Below.drew ?_)); replace r4 := cell_relay r4 hb2 h (by repeat (first | with_reducible exact Below.refl _ _ | with_reducible refine Below.alloc ?_ (by simp <;> omega) _ | with_reducible refine below_drewN ?_ _ | with_reducible refine Below.drew ?_)); replace HB := Lib.hid (HB.out.trans ((relay h (by repeat (first | with_reducible exact Below.refl _ _ | with_reducible refine Below.alloc ?_ (by simp <;> omega) _ | with_reducible refine below_drewN ?_ _ | with_reducible refine Below.drew ?_))).mono HB.out.size)); clear h)
    | fail)
   all_goals
    go_wp2_with (fail)
    go_roundw
    case rel => first | exact ⟨k + 1, by omega, by go_num, HB⟩ | ((repeat apply Exists.intro); exact ⟨⟨k + 1, by omega, by go_num, HB⟩, rfl⟩)
    case measure => simp [intOf]; omega
  ·obtain rfl : k = n := by omega
   go_wp2
   go_ret
   exact ⟨rfl, HB.out⟩
end Go.Proofs.YtmpedblelnpjdaaGreatDoor

end
