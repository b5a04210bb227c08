/- The document's 'fine' of votes (printed by rckgen.py). -/
import Derived.Test.YtmpedblelnpjdaaGreatDoorZRckC
import Derived.Test.YtmpedblelnpjdaaGreatDoorZTq
import Derived.Test.YtmpedblelnpjdaaGreatDoorZTk
import Derived.Test.YtmpedblelnpjdaaGreatDoorZGN
namespace Go.Proofs.YtmpedblelnpjdaaGreatDoor
open Go.RowKit
set_option linter.unusedSimpArgs false
set_option linter.unusedVariables false
set_option maxHeartbeats 8000000
set_option maxRecDepth 100000
theorem rfine_t (x : LV) (B : Nat) (w : World) (h : LIn w B x) (hB : B ≤ w.heap.size) (hn : x.near) : Calls Tryz.prog 62 #[.agg x.l.cells, .int .u8 116] w fun e w' => e = .returned (.bool (votesB x.vs)) ∧ Below w.heap.size w w' := by
 obtain ⟨W0, hW0, hb0, hbk⟩ := box_all x w; have hl := hbk.lt; have HBB := Lib.hid hb0; have HW := Lib.hid hW0; have BK := Lib.hid hbk; clear hb0 hW0 hbk
 have hsB := HBB.out.size
 have hV := h.vt.below (HBB.out.mono hB)
 have hWF := h.vw
 have hn2 := hn.vl
 have HX22 : Hid (W0.cell? ⟨w.heap.size, 22, none⟩ = some (.slice x.l.vA x.l.vn x.l.vp)) := Lib.hid (BK.out.cell 22)
 clear h hn
 obtain ⟨gL, hgL0⟩ : ∃ gL, gL = w.heap.size := ⟨_, rfl⟩
 generalize x.vs = l at *
 go_enter Tryz.func62, Tryz.ntmps62
 go_upto_region 1 with (fail)
 have e0 := HW.out
 simp only [Lt.cells] at e0
 first | rw [← e0] | rw [← HW.out]
 clear e0
 rw [← hgL0] at hl HX22 ⊢
 have HGL := Lib.hid hgL0
 clear hgL0
 have hll := flat_len Vt.row Vt.row_len (by omega) hV
 generalize x.l.vA = A at *
 generalize x.l.vn = n at *
 generalize x.l.vp = c at *
 have hB0 : B ≤ W0.heap.size := Nat.le_trans hB hsB
 have H := Lib.hid hV
 have HL := Lib.hid hll
 have HWF := Lib.hid hWF
 have HB0 : Hid (Below W0.heap.size W0 W0) := Lib.hid (Below.refl _ _)
 have hn6 : (n : Int) ≤ 1000000 := by omega
 clear hll hWF hV
 go_wp2_with (fail)
 go_loopw [5] (fun iv wr => ∃ k : Nat, k ≤ n ∧ iv = .int .i64 k ∧ Hid (∀ j x, j < k → l[j]? = some x → voteOk l j x) ∧ Hid (Below W0.heap.size W0 wr)) (fun iv _ => n - (intOf iv).toNat)
 case atStart => exact ⟨0, by omega, rfl, Lib.hid (fun j x hj => absurd hj (by omega)), HB0⟩
 case round =>
  clear HB0
  obtain ⟨k, hk, rfl, HO, HB⟩ := hrel
  have x22 : wr.cell? ⟨gL, 22, none⟩ = some (.slice A n c) := (HB.out.cell (p := ⟨gL, 22, none⟩) hl).trans HX22.out
  have hgw : gL < wr.heap.size := Nat.lt_of_lt_of_le hl HB.out.size
  by_cases hlt : k < n
  rotate_left
  ·obtain rfl : k = n := by omega
   by_cases h5 : k ≤ 512
   ·have h5' : (k : Int) ≤ 512 := by omega
    have HV : Hid (votesB l = true) := Lib.hid (votesB_yes (fun j v hv => HO.out j v (by have := (List.getElem?_eq_some_iff.1 hv).1; have := HL.out; omega) hv) (by have := HL.out; omega))
    clear h5
    go_wp2_with (fail)
    go_ret
    exact ⟨by rw [HV.out]; rfl, HBB.out.trans (HB.out.mono hsB)⟩
   ·have h5' : ¬ (k : Int) ≤ 512 := by omega
    have HV : Hid (votesB l = false) := Lib.hid (votesB_long (by have := HL.out; omega))
    clear h5
    go_wp2_with (fail)
    go_ret
    exact ⟨by rw [HV.out]; rfl, HBB.out.trans (HB.out.mono hsB)⟩
  ·have hltZ : (k : Int) < n := by omega
   obtain ⟨b, off, v, rfl, hb, hv, hc⟩ := reads_at Vt.row (fun _ => rfl) (by omega) (H.out.below (HB.out.mono hB0)) hlt
   have p0 := hc 0 _ rfl
   have p1 := hc 1 _ rfl
   have p2 := hc 2 _ rfl
   have p3 := hc 3 _ rfl
   have p4 := hc 4 _ rfl
   have p5 := hc 5 _ rfl
   simp only [Nat.add_zero] at p0
   have hvw := HWF.out v (List.mem_of_getElem? hv)
   have HV := Lib.hid hv
   have IS := Lib.hid (fun W => rkIs_any v.bl W hvw.bl.1 (by have := hvw.bl.2; omega))
   have CE := Lib.hid (fun W => rkCmd_any v.qk v.qc v.qe v.qn hvw.qe.1 W)
   have hbw : b < wr.heap.size := Nat.lt_of_lt_of_le hb (Nat.le_trans hB0 HB.out.size)
   obtain ⟨W1, hW1⟩ : ∃ W1, W1 = wr.alloc (.cells #[.int .i64 v.sl, .int .u64 v.bl, .int .i64 v.qk, .int .i64 v.qc, .int .u64 v.qe, .int .i64 v.qn] 239) := ⟨_, rfl⟩
   have hb1 : Below wr.heap.size wr W1 := by rw [hW1]; exact (Below.refl _ _).alloc (Nat.le_refl _) _
   have HB1 := Lib.hid (HB.out.trans (hb1.mono HB.out.size))
   have BV : Blk W1 wr.heap.size 239 v.cells := by rw [hW1]; exact Blk.new _ _ _
   obtain ⟨c0, c1, c2, c3, c4, c5⟩ := vt_cells BV
   have hgV := BV.lt
   have cL : W1.cell? ⟨gL, 22, none⟩ = some (.slice (some ⟨b, off, none⟩) n c) := (hb1.cell (p := ⟨gL, 22, none⟩) hgw).trans x22
   have hgL : gL < W1.heap.size := Nat.lt_of_lt_of_le hgw hb1.size
   have nLV : gL ≠ wr.heap.size := Nat.ne_of_lt hgw
   have HPU : Hid (∀ u, 0 < k → l[k - 1]? = some u → b < W1.heap.size ∧ W1.cell? ⟨b, off + (k - 1) * 6, none⟩ = some (.int .i64 u.sl)) := Lib.hid (fun u hk0 hu => by
    obtain ⟨b2, off2, u2, e2, hb2, hu2, hc2⟩ := reads_at Vt.row (fun _ => rfl) (by omega) (H.out.below (HB.out.mono hB0)) (k := k - 1) (by omega)
    injection e2 with e2
    injection e2 with e3 e4
    subst e3 e4
    rw [hu] at hu2
    injection hu2 with hu2
    subst hu2
    exact ⟨Nat.lt_of_lt_of_le hbw hb1.size, (hb1.cell hbw).trans (hc2 0 _ rfl)⟩)
   have HLEN := Lib.hid (show k < l.length by have := HL.out; omega)
   have HW1 := Lib.hid hW1
   clear hc hv hb hvw hW1 hb1 BV
   go_upto_region 21 with (fail)
   rw [← HW1.out]
   clear x22
   clear p0 p1 p2 p3 p4 p5
   generalize wr.heap.size = gV at *
   by_cases a0 : v.sl < 0
   ·have HN : Hid (votesB l = false) := Lib.hid (votesB_no HV.out (fun h => by have := h.1.1; omega))
    refine wp_region_held_drew (S := fun w' => (w'.cell? ⟨gV, 0, none⟩ = some (.int .i64 v.sl) ∧ w'.cell? ⟨gV, 1, none⟩ = some (.int .u64 v.bl) ∧ w'.cell? ⟨gV, 2, none⟩ = some (.int .i64 v.qk) ∧ w'.cell? ⟨gV, 3, none⟩ = some (.int .i64 v.qc) ∧ w'.cell? ⟨gV, 4, none⟩ = some (.int .u64 v.qe) ∧ w'.cell? ⟨gV, 5, none⟩ = some (.int .i64 v.qn) ∧ w'.cell? ⟨gL, 22, none⟩ = some (.slice (some ⟨b, off, none⟩) n c)) ∧ True) (by kernel_rfl) ⟨⟨c0, c1, c2, c3, c4, c5, cL⟩, trivial⟩ (fun hHeld => ?_)
    refine tkV 0 rfl ?_
    try simp only [Act.put, pS]
    refine tkV 1 rfl ?_
    try simp only [Act.put, pS]
    refine tkV 2 rfl ?_
    try simp only [Act.put, pS]
    refine tkV 3 rfl ?_
    try simp only [Act.put, pS]
    refine tkU 4 rfl ?_
    try simp only [Act.put, pS]
    refine tkU 5 rfl ?_
    try simp only [Act.put, pS]
    refine tkU 6 rfl ?_
    exact rp81
   by_cases a1 : 512 ≤ v.sl
   ·have HN : Hid (votesB l = false) := Lib.hid (votesB_no HV.out (fun h => by have := h.1.2; omega))
    refine wp_region_held_drew (S := fun w' => (w'.cell? ⟨gV, 0, none⟩ = some (.int .i64 v.sl) ∧ w'.cell? ⟨gV, 1, none⟩ = some (.int .u64 v.bl) ∧ w'.cell? ⟨gV, 2, none⟩ = some (.int .i64 v.qk) ∧ w'.cell? ⟨gV, 3, none⟩ = some (.int .i64 v.qc) ∧ w'.cell? ⟨gV, 4, none⟩ = some (.int .u64 v.qe) ∧ w'.cell? ⟨gV, 5, none⟩ = some (.int .i64 v.qn) ∧ w'.cell? ⟨gL, 22, none⟩ = some (.slice (some ⟨b, off, none⟩) n c)) ∧ True) (by kernel_rfl) ⟨⟨c0, c1, c2, c3, c4, c5, cL⟩, trivial⟩ (fun hHeld => ?_)
    refine tkV 0 rfl ?_
    try simp only [Act.put, pS]
    refine tkV 1 rfl ?_
    try simp only [Act.put, pS]
    refine tkV 2 rfl ?_
    try simp only [Act.put, pS]
    refine tkV 3 rfl ?_
    try simp only [Act.put, pS]
    refine tkV 4 rfl ?_
    try simp only [Act.put, pS]
    refine tkV 5 rfl ?_
    try simp only [Act.put, pS]
    refine tkV 6 rfl ?_
    exact rp81
   by_cases a2 : 0 < k
   ·have a2' : (0 : Int) < (k : Int) := by omega
    have hk1 : k - 1 < l.length := by have := HLEN.out; omega
    obtain ⟨u, hu⟩ : ∃ u, l[k - 1]? = some u := ⟨_, List.getElem?_eq_getElem hk1⟩
    obtain ⟨hbb, pu⟩ := HPU.out u a2 hu
    have HU := Lib.hid hu
    clear hu hk1
    have kz : IntKind.i64.wrap ((k : Int) - 1) = (((k - 1 : Nat)) : Int) := by rw [IntKind.wrap_i64]; omega
    have kz2 : (((k - 1 : Nat)) : Int) < (n : Int) := by omega
    have kz3 : k - 1 < n := by omega
    by_cases a3 : v.sl ≤ u.sl
    ·have HN : Hid (votesB l = false) := Lib.hid (votesB_no HV.out (fun h => by have := h.2.1 u a2 HU.out; omega))
     refine wp_region_held_drew (S := fun w' => (w'.cell? ⟨gV, 0, none⟩ = some (.int .i64 v.sl) ∧ w'.cell? ⟨gV, 1, none⟩ = some (.int .u64 v.bl) ∧ w'.cell? ⟨gV, 2, none⟩ = some (.int .i64 v.qk) ∧ w'.cell? ⟨gV, 3, none⟩ = some (.int .i64 v.qc) ∧ w'.cell? ⟨gV, 4, none⟩ = some (.int .u64 v.qe) ∧ w'.cell? ⟨gV, 5, none⟩ = some (.int .i64 v.qn) ∧ w'.cell? ⟨gL, 22, none⟩ = some (.slice (some ⟨b, off, none⟩) n c)) ∧ w'.cell? ⟨b, off + (k - 1) * 6, none⟩ = some (.int .i64 u.sl)) (by kernel_rfl) ⟨⟨c0, c1, c2, c3, c4, c5, cL⟩, pu⟩ (fun hHeld => ?_)
     refine tkV 0 rfl ?_
     try simp only [Act.put, pS]
     refine tkV 1 rfl ?_
     try simp only [Act.put, pS]
     refine tkV 2 rfl ?_
     try simp only [Act.put, pS]
     refine tkV 3 rfl ?_
     try simp only [Act.put, pS]
     refine tkV 4 rfl ?_
     try simp only [Act.put, pS]
     refine tkV 5 rfl ?_
     try simp only [Act.put, pS]
     refine tkV 6 rfl ?_
     try simp only [Act.put, pS]
     refine tkV 7 rfl ?_
     try simp only [Act.put, pS]
     refine tkV 8 rfl ?_
     try simp only [Act.put, pS]
     refine tkV 9 rfl ?_
     try simp only [Act.put, pS]
     refine tkV 10 rfl ?_
     try simp only [Act.put, pS]
     refine tkV 11 rfl ?_
     try simp only [Act.put, pS]
     refine tkV 12 rfl ?_
     try simp only [Act.put, pS]
     refine tkV 13 rfl ?_
     try simp only [Act.put, pS]
     refine tkV 14 rfl ?_
     try simp only [Act.put, pS]
     refine tkV 15 rfl ?_
     try simp only [Act.put, pS]
     refine tkV 16 rfl ?_
     try simp only [Act.put, pS]
     refine tkV 17 rfl ?_
     try simp only [Act.put, pS]
     refine tkV 18 rfl ?_
     try simp only [Act.put, pS]
     refine tkV 19 rfl ?_
     try simp only [Act.put, pS]
     refine tkV 20 rfl ?_
     try simp only [Act.put, pS]
     refine tkV 21 rfl ?_
     try simp only [Act.put, pS]
     refine tkV 22 rfl ?_
     try simp only [Act.put, pS]
     refine tkV 23 rfl ?_
     try simp only [Act.put, pS]
     refine tkV 24 rfl ?_
     try simp only [Act.put, pS]
     refine tkU 25 rfl ?_
     try simp only [Act.put, pS]
     refine tkU 26 rfl ?_
     try simp only [Act.put, pS]
     refine tkU 27 rfl ?_
     try simp only [Act.put, pS]
     refine tkU 28 rfl ?_
     exact rp17
    cases hi : isBal v.bl with
    | false =>
     have HN : Hid (votesB l = false) := Lib.hid (votesB_no HV.out (fun h => by have := h.2.2.1; rw [hi] at this; cases this))
     rw [hi] at IS
     clear hi
     refine wp_region_held_drew (S := fun w' => (w'.cell? ⟨gV, 0, none⟩ = some (.int .i64 v.sl) ∧ w'.cell? ⟨gV, 1, none⟩ = some (.int .u64 v.bl) ∧ w'.cell? ⟨gV, 2, none⟩ = some (.int .i64 v.qk) ∧ w'.cell? ⟨gV, 3, none⟩ = some (.int .i64 v.qc) ∧ w'.cell? ⟨gV, 4, none⟩ = some (.int .u64 v.qe) ∧ w'.cell? ⟨gV, 5, none⟩ = some (.int .i64 v.qn) ∧ w'.cell? ⟨gL, 22, none⟩ = some (.slice (some ⟨b, off, none⟩) n c)) ∧ w'.cell? ⟨b, off + (k - 1) * 6, none⟩ = some (.int .i64 u.sl)) (by kernel_rfl) ⟨⟨c0, c1, c2, c3, c4, c5, cL⟩, pu⟩ (fun hHeld => ?_)
     refine tkV 0 rfl ?_
     try simp only [Act.put, pS]
     refine tkV 1 rfl ?_
     try simp only [Act.put, pS]
     refine tkV 2 rfl ?_
     try simp only [Act.put, pS]
     refine tkV 3 rfl ?_
     try simp only [Act.put, pS]
     refine tkV 4 rfl ?_
     try simp only [Act.put, pS]
     refine tkV 5 rfl ?_
     try simp only [Act.put, pS]
     refine tkV 6 rfl ?_
     try simp only [Act.put, pS]
     refine tkV 7 rfl ?_
     try simp only [Act.put, pS]
     refine tkV 8 rfl ?_
     try simp only [Act.put, pS]
     refine tkV 9 rfl ?_
     try simp only [Act.put, pS]
     refine tkV 10 rfl ?_
     try simp only [Act.put, pS]
     refine tkV 11 rfl ?_
     try simp only [Act.put, pS]
     refine tkV 12 rfl ?_
     try simp only [Act.put, pS]
     refine tkV 13 rfl ?_
     try simp only [Act.put, pS]
     refine tkV 14 rfl ?_
     try simp only [Act.put, pS]
     refine tkV 15 rfl ?_
     try simp only [Act.put, pS]
     refine tkV 16 rfl ?_
     try simp only [Act.put, pS]
     refine tkV 17 rfl ?_
     try simp only [Act.put, pS]
     refine tkV 18 rfl ?_
     try simp only [Act.put, pS]
     refine tkV 19 rfl ?_
     try simp only [Act.put, pS]
     refine tkV 20 rfl ?_
     try simp only [Act.put, pS]
     refine tkV 21 rfl ?_
     exact rp83
    | true =>
     have HI := Lib.hid hi
     rw [hi] at IS
     clear hi
     by_cases hc : cmdE v.qk v.qc v.qe v.qn = 0
     ·have HVO : Hid (voteOk l k v) := Lib.hid ⟨⟨by omega, by omega⟩, (fun x hx0 hx => by rw [HU.out] at hx; injection hx with hx; subst hx; omega), HI.out, hc⟩
      rw [hc] at CE
      clear hc
      refine wp_region_held_drew (S := fun w' => (w'.cell? ⟨gV, 0, none⟩ = some (.int .i64 v.sl) ∧ w'.cell? ⟨gV, 1, none⟩ = some (.int .u64 v.bl) ∧ w'.cell? ⟨gV, 2, none⟩ = some (.int .i64 v.qk) ∧ w'.cell? ⟨gV, 3, none⟩ = some (.int .i64 v.qc) ∧ w'.cell? ⟨gV, 4, none⟩ = some (.int .u64 v.qe) ∧ w'.cell? ⟨gV, 5, none⟩ = some (.int .i64 v.qn) ∧ w'.cell? ⟨gL, 22, none⟩ = some (.slice (some ⟨b, off, none⟩) n c)) ∧ w'.cell? ⟨b, off + (k - 1) * 6, none⟩ = some (.int .i64 u.sl)) (by kernel_rfl) ⟨⟨c0, c1, c2, c3, c4, c5, cL⟩, pu⟩ (fun hHeld => ?_)
      refine tkV 0 rfl ?_
      try simp only [Act.put, pS]
      refine tkV 1 rfl ?_
      try simp only [Act.put, pS]
      refine tkV 2 rfl ?_
      try simp only [Act.put, pS]
      refine tkV 3 rfl ?_
      try simp only [Act.put, pS]
      refine tkV 4 rfl ?_
      try simp only [Act.put, pS]
      refine tkV 5 rfl ?_
      try simp only [Act.put, pS]
      refine tkV 6 rfl ?_
      try simp only [Act.put, pS]
      refine tkV 7 rfl ?_
      try simp only [Act.put, pS]
      refine tkV 8 rfl ?_
      try simp only [Act.put, pS]
      refine tkV 9 rfl ?_
      try simp only [Act.put, pS]
      refine tkV 10 rfl ?_
      try simp only [Act.put, pS]
      refine tkV 11 rfl ?_
      try simp only [Act.put, pS]
      refine tkV 12 rfl ?_
      try simp only [Act.put, pS]
      refine tkV 13 rfl ?_
      try simp only [Act.put, pS]
      refine tkV 14 rfl ?_
      try simp only [Act.put, pS]
      refine tkV 15 rfl ?_
      try simp only [Act.put, pS]
      refine tkV 16 rfl ?_
      try simp only [Act.put, pS]
      refine tkV 17 rfl ?_
      try simp only [Act.put, pS]
      refine tkV 18 rfl ?_
      try simp only [Act.put, pS]
      refine tkV 19 rfl ?_
      try simp only [Act.put, pS]
      refine tkV 20 rfl ?_
      try simp only [Act.put, pS]
      refine tkV 21 rfl ?_
      try simp only [Act.put, pS]
      refine tkV 22 rfl ?_
      try simp only [Act.put, pS]
      refine tkV 23 rfl ?_
      try simp only [Act.put, pS]
      refine tkV 24 rfl ?_
      try simp only [Act.put, pS]
      refine tkV 25 rfl ?_
      try simp only [Act.put, pS]
      refine tkV 26 rfl ?_
      try simp only [Act.put, pS]
      refine wpAnyH_ready (rs := [27]) (by kernel_rfl) (by simp) ?_
      refine AllReadyH.cons (o := _) rfl (fun K hK => ?_) AllReadyH.nil
      go_simp
      refine (IS.out _).mono ?_; rintro e w2 ⟨rfl, rfl⟩
      (try go_simp)
      refine hK.out _ _ ?_ (fun hHeld => ?_)
      ·go_keep
      clear hK K
      try simp only [Act.put, pS]
      refine tkV 28 rfl ?_
      try simp only [Act.put, pS]
      refine tkV 29 rfl ?_
      try simp only [Act.put, pS]
      refine tkV 30 rfl ?_
      try simp only [Act.put, pS]
      refine tkV 31 rfl ?_
      try simp only [Act.put, pS]
      refine tkV 32 rfl ?_
      try simp only [Act.put, pS]
      refine wpAnyH_ready (rs := [33]) (by kernel_rfl) (by simp) ?_
      refine AllReadyH.cons (o := _) rfl (fun K hK => ?_) AllReadyH.nil
      go_simp
      refine (CE.out _).mono ?_; rintro e w2 ⟨rfl, h⟩; have c0 := (h.cell (p := ⟨gV, 0, none⟩) hgV).trans c0; have c1 := (h.cell (p := ⟨gV, 1, none⟩) hgV).trans c1; have c2 := (h.cell (p := ⟨gV, 2, none⟩) hgV).trans c2; have c3 := (h.cell (p := ⟨gV, 3, none⟩) hgV).trans c3; have c4 := (h.cell (p := ⟨gV, 4, none⟩) hgV).trans c4; have c5 := (h.cell (p := ⟨gV, 5, none⟩) hgV).trans c5; have cL := (h.cell (p := ⟨gL, 22, none⟩) hgL).trans cL; have pu := (h.cell (p := ⟨b, off + (k - 1) * 6, none⟩) hbb).trans pu; have HBE := Lib.hid ((HB1.out.drew).trans (h.mono HB1.out.size)); clear h
      (try go_simp)
      refine hK.out _ _ ?_ (fun hHeld => ?_)
      ·go_keep
      clear hK K
      try simp only [Act.put, pS]
      refine tkV 34 rfl ?_
      try simp only [Act.put, pS]
      refine tkV 35 rfl ?_
      try simp only [Act.put, pS]
      refine wpAnyH_done (by kernel_rfl) ?_ _
      clear hHeld
      clear c0 c1 c2 c3 c4 c5 cL pu
      exact rp38
     ·have HN : Hid (votesB l = false) := Lib.hid (votesB_no HV.out (fun h => hc h.2.2.2))
      have hcb : (cmdE v.qk v.qc v.qe v.qn != 0) = true := by simpa using hc
      clear hc
      generalize cmdE v.qk v.qc v.qe v.qn = ce at *
      refine wp_region_held_drew (S := fun w' => (w'.cell? ⟨gV, 0, none⟩ = some (.int .i64 v.sl) ∧ w'.cell? ⟨gV, 1, none⟩ = some (.int .u64 v.bl) ∧ w'.cell? ⟨gV, 2, none⟩ = some (.int .i64 v.qk) ∧ w'.cell? ⟨gV, 3, none⟩ = some (.int .i64 v.qc) ∧ w'.cell? ⟨gV, 4, none⟩ = some (.int .u64 v.qe) ∧ w'.cell? ⟨gV, 5, none⟩ = some (.int .i64 v.qn) ∧ w'.cell? ⟨gL, 22, none⟩ = some (.slice (some ⟨b, off, none⟩) n c)) ∧ w'.cell? ⟨b, off + (k - 1) * 6, none⟩ = some (.int .i64 u.sl)) (by kernel_rfl) ⟨⟨c0, c1, c2, c3, c4, c5, cL⟩, pu⟩ (fun hHeld => ?_)
      refine tkV 0 rfl ?_
      try simp only [Act.put, pS]
      refine tkV 1 rfl ?_
      try simp only [Act.put, pS]
      refine tkV 2 rfl ?_
      try simp only [Act.put, pS]
      refine tkV 3 rfl ?_
      try simp only [Act.put, pS]
      refine tkV 4 rfl ?_
      try simp only [Act.put, pS]
      refine tkV 5 rfl ?_
      try simp only [Act.put, pS]
      refine tkV 6 rfl ?_
      try simp only [Act.put, pS]
      refine tkV 7 rfl ?_
      try simp only [Act.put, pS]
      refine tkV 8 rfl ?_
      try simp only [Act.put, pS]
      refine tkV 9 rfl ?_
      try simp only [Act.put, pS]
      refine tkV 10 rfl ?_
      try simp only [Act.put, pS]
      refine tkV 11 rfl ?_
      try simp only [Act.put, pS]
      refine tkV 12 rfl ?_
      try simp only [Act.put, pS]
      refine tkV 13 rfl ?_
      try simp only [Act.put, pS]
      refine tkV 14 rfl ?_
      try simp only [Act.put, pS]
      refine tkV 15 rfl ?_
      try simp only [Act.put, pS]
      refine tkV 16 rfl ?_
      try simp only [Act.put, pS]
      refine tkV 17 rfl ?_
      try simp only [Act.put, pS]
      refine tkV 18 rfl ?_
      try simp only [Act.put, pS]
      refine tkV 19 rfl ?_
      try simp only [Act.put, pS]
      refine tkV 20 rfl ?_
      try simp only [Act.put, pS]
      refine tkV 21 rfl ?_
      try simp only [Act.put, pS]
      refine tkV 22 rfl ?_
      try simp only [Act.put, pS]
      refine tkV 23 rfl ?_
      try simp only [Act.put, pS]
      refine tkV 24 rfl ?_
      try simp only [Act.put, pS]
      refine tkV 25 rfl ?_
      try simp only [Act.put, pS]
      refine tkV 26 rfl ?_
      try simp only [Act.put, pS]
      refine wpAnyH_ready (rs := [27]) (by kernel_rfl) (by simp) ?_
      refine AllReadyH.cons (o := _) rfl (fun K hK => ?_) AllReadyH.nil
      go_simp
      refine (IS.out _).mono ?_; rintro e w2 ⟨rfl, rfl⟩
      (try go_simp)
      refine hK.out _ _ ?_ (fun hHeld => ?_)
      ·go_keep
      clear hK K
      try simp only [Act.put, pS]
      refine tkV 28 rfl ?_
      try simp only [Act.put, pS]
      refine tkV 29 rfl ?_
      try simp only [Act.put, pS]
      refine tkV 30 rfl ?_
      try simp only [Act.put, pS]
      refine tkV 31 rfl ?_
      try simp only [Act.put, pS]
      refine tkV 32 rfl ?_
      try simp only [Act.put, pS]
      refine wpAnyH_ready (rs := [33]) (by kernel_rfl) (by simp) ?_
      refine AllReadyH.cons (o := _) rfl (fun K hK => ?_) AllReadyH.nil
      go_simp
      refine (CE.out _).mono ?_; rintro e w2 ⟨rfl, h⟩; have c0 := (h.cell (p := ⟨gV, 0, none⟩) hgV).trans c0; have c1 := (h.cell (p := ⟨gV, 1, none⟩) hgV).trans c1; have c2 := (h.cell (p := ⟨gV, 2, none⟩) hgV).trans c2; have c3 := (h.cell (p := ⟨gV, 3, none⟩) hgV).trans c3; have c4 := (h.cell (p := ⟨gV, 4, none⟩) hgV).trans c4; have c5 := (h.cell (p := ⟨gV, 5, none⟩) hgV).trans c5; have cL := (h.cell (p := ⟨gL, 22, none⟩) hgL).trans cL; have pu := (h.cell (p := ⟨b, off + (k - 1) * 6, none⟩) hbb).trans pu; have HBE := Lib.hid ((HB1.out.drew).trans (h.mono HB1.out.size)); clear h
      exact rp68
   ·have a2' : ¬ (0 : Int) < (k : Int) := by omega
    cases hi : isBal v.bl with
    | false =>
     have HN : Hid (votesB l = false) := Lib.hid (votesB_no HV.out (fun h => by have := h.2.2.1; rw [hi] at this; cases this))
     rw [hi] at IS
     clear hi
     refine wp_region_held_drew (S := fun w' => (w'.cell? ⟨gV, 0, none⟩ = some (.int .i64 v.sl) ∧ w'.cell? ⟨gV, 1, none⟩ = some (.int .u64 v.bl) ∧ w'.cell? ⟨gV, 2, none⟩ = some (.int .i64 v.qk) ∧ w'.cell? ⟨gV, 3, none⟩ = some (.int .i64 v.qc) ∧ w'.cell? ⟨gV, 4, none⟩ = some (.int .u64 v.qe) ∧ w'.cell? ⟨gV, 5, none⟩ = some (.int .i64 v.qn) ∧ w'.cell? ⟨gL, 22, none⟩ = some (.slice (some ⟨b, off, none⟩) n c)) ∧ True) (by kernel_rfl) ⟨⟨c0, c1, c2, c3, c4, c5, cL⟩, trivial⟩ (fun hHeld => ?_)
     refine tkV 0 rfl ?_
     try simp only [Act.put, pS]
     refine tkV 1 rfl ?_
     try simp only [Act.put, pS]
     refine tkV 2 rfl ?_
     try simp only [Act.put, pS]
     refine tkV 3 rfl ?_
     try simp only [Act.put, pS]
     refine tkV 4 rfl ?_
     try simp only [Act.put, pS]
     refine tkV 5 rfl ?_
     try simp only [Act.put, pS]
     refine tkV 6 rfl ?_
     try simp only [Act.put, pS]
     refine tkV 7 rfl ?_
     try simp only [Act.put, pS]
     refine tkV 8 rfl ?_
     try simp only [Act.put, pS]
     refine tkV 9 rfl ?_
     try simp only [Act.put, pS]
     refine tkV 10 rfl ?_
     try simp only [Act.put, pS]
     refine tkV 11 rfl ?_
     try simp only [Act.put, pS]
     refine tkU 12 rfl ?_
     try simp only [Act.put, pS]
     refine tkU 13 rfl ?_
     try simp only [Act.put, pS]
     refine tkU 14 rfl ?_
     try simp only [Act.put, pS]
     refine tkU 15 rfl ?_
     try simp only [Act.put, pS]
     refine tkU 16 rfl ?_
     try simp only [Act.put, pS]
     refine tkU 17 rfl ?_
     try simp only [Act.put, pS]
     refine tkU 18 rfl ?_
     try simp only [Act.put, pS]
     refine tkU 19 rfl ?_
     try simp only [Act.put, pS]
     refine tkU 20 rfl ?_
     try simp only [Act.put, pS]
     refine tkU 21 rfl ?_
     exact rp83
    | true =>
     have HI := Lib.hid hi
     rw [hi] at IS
     clear hi
     by_cases hc : cmdE v.qk v.qc v.qe v.qn = 0
     ·have HVO : Hid (voteOk l k v) := Lib.hid ⟨⟨by omega, by omega⟩, (fun x hx0 hx => absurd hx0 a2), HI.out, hc⟩
      rw [hc] at CE
      clear hc
      refine wp_region_held_drew (S := fun w' => (w'.cell? ⟨gV, 0, none⟩ = some (.int .i64 v.sl) ∧ w'.cell? ⟨gV, 1, none⟩ = some (.int .u64 v.bl) ∧ w'.cell? ⟨gV, 2, none⟩ = some (.int .i64 v.qk) ∧ w'.cell? ⟨gV, 3, none⟩ = some (.int .i64 v.qc) ∧ w'.cell? ⟨gV, 4, none⟩ = some (.int .u64 v.qe) ∧ w'.cell? ⟨gV, 5, none⟩ = some (.int .i64 v.qn) ∧ w'.cell? ⟨gL, 22, none⟩ = some (.slice (some ⟨b, off, none⟩) n c)) ∧ True) (by kernel_rfl) ⟨⟨c0, c1, c2, c3, c4, c5, cL⟩, trivial⟩ (fun hHeld => ?_)
      refine tkV 0 rfl ?_
      try simp only [Act.put, pS]
      refine tkV 1 rfl ?_
      try simp only [Act.put, pS]
      refine tkV 2 rfl ?_
      try simp only [Act.put, pS]
      refine tkV 3 rfl ?_
      try simp only [Act.put, pS]
      refine tkV 4 rfl ?_
      try simp only [Act.put, pS]
      refine tkV 5 rfl ?_
      try simp only [Act.put, pS]
      refine tkV 6 rfl ?_
      try simp only [Act.put, pS]
      refine tkV 7 rfl ?_
      try simp only [Act.put, pS]
      refine tkV 8 rfl ?_
      try simp only [Act.put, pS]
      refine tkV 9 rfl ?_
      try simp only [Act.put, pS]
      refine tkV 10 rfl ?_
      try simp only [Act.put, pS]
      refine tkV 11 rfl ?_
      try simp only [Act.put, pS]
      refine tkU 12 rfl ?_
      try simp only [Act.put, pS]
      refine tkU 13 rfl ?_
      try simp only [Act.put, pS]
      refine tkU 14 rfl ?_
      try simp only [Act.put, pS]
      refine tkU 15 rfl ?_
      try simp only [Act.put, pS]
      refine tkU 16 rfl ?_
      try simp only [Act.put, pS]
      refine tkU 17 rfl ?_
      try simp only [Act.put, pS]
      refine tkU 18 rfl ?_
      try simp only [Act.put, pS]
      refine tkU 19 rfl ?_
      try simp only [Act.put, pS]
      refine tkU 20 rfl ?_
      try simp only [Act.put, pS]
      refine tkU 21 rfl ?_
      try simp only [Act.put, pS]
      refine tkV 22 rfl ?_
      try simp only [Act.put, pS]
      refine tkV 23 rfl ?_
      try simp only [Act.put, pS]
      refine tkV 24 rfl ?_
      try simp only [Act.put, pS]
      refine tkV 25 rfl ?_
      try simp only [Act.put, pS]
      refine tkV 26 rfl ?_
      try simp only [Act.put, pS]
      refine wpAnyH_ready (rs := [27]) (by kernel_rfl) (by simp) ?_
      refine AllReadyH.cons (o := _) rfl (fun K hK => ?_) AllReadyH.nil
      go_simp
      refine (IS.out _).mono ?_; rintro e w2 ⟨rfl, rfl⟩
      (try go_simp)
      refine hK.out _ _ ?_ (fun hHeld => ?_)
      ·go_keep
      clear hK K
      try simp only [Act.put, pS]
      refine tkV 28 rfl ?_
      try simp only [Act.put, pS]
      refine tkV 29 rfl ?_
      try simp only [Act.put, pS]
      refine tkV 30 rfl ?_
      try simp only [Act.put, pS]
      refine tkV 31 rfl ?_
      try simp only [Act.put, pS]
      refine tkV 32 rfl ?_
      try simp only [Act.put, pS]
      refine wpAnyH_ready (rs := [33]) (by kernel_rfl) (by simp) ?_
      refine AllReadyH.cons (o := _) rfl (fun K hK => ?_) AllReadyH.nil
      go_simp
      refine (CE.out _).mono ?_; rintro e w2 ⟨rfl, h⟩; have c0 := (h.cell (p := ⟨gV, 0, none⟩) hgV).trans c0; have c1 := (h.cell (p := ⟨gV, 1, none⟩) hgV).trans c1; have c2 := (h.cell (p := ⟨gV, 2, none⟩) hgV).trans c2; have c3 := (h.cell (p := ⟨gV, 3, none⟩) hgV).trans c3; have c4 := (h.cell (p := ⟨gV, 4, none⟩) hgV).trans c4; have c5 := (h.cell (p := ⟨gV, 5, none⟩) hgV).trans c5; have cL := (h.cell (p := ⟨gL, 22, none⟩) hgL).trans cL; have HBE := Lib.hid ((HB1.out.drew).trans (h.mono HB1.out.size)); clear h
      (try go_simp)
      refine hK.out _ _ ?_ (fun hHeld => ?_)
      ·go_keep
      clear hK K
      try simp only [Act.put, pS]
      refine tkV 34 rfl ?_
      try simp only [Act.put, pS]
      refine tkV 35 rfl ?_
      try simp only [Act.put, pS]
      refine wpAnyH_done (by kernel_rfl) ?_ _
      clear hHeld
      clear c0 c1 c2 c3 c4 c5 cL
      exact rp38
     ·have HN : Hid (votesB l = false) := Lib.hid (votesB_no HV.out (fun h => hc h.2.2.2))
      have hcb : (cmdE v.qk v.qc v.qe v.qn != 0) = true := by simpa using hc
      clear hc
      generalize cmdE v.qk v.qc v.qe v.qn = ce at *
      refine wp_region_held_drew (S := fun w' => (w'.cell? ⟨gV, 0, none⟩ = some (.int .i64 v.sl) ∧ w'.cell? ⟨gV, 1, none⟩ = some (.int .u64 v.bl) ∧ w'.cell? ⟨gV, 2, none⟩ = some (.int .i64 v.qk) ∧ w'.cell? ⟨gV, 3, none⟩ = some (.int .i64 v.qc) ∧ w'.cell? ⟨gV, 4, none⟩ = some (.int .u64 v.qe) ∧ w'.cell? ⟨gV, 5, none⟩ = some (.int .i64 v.qn) ∧ w'.cell? ⟨gL, 22, none⟩ = some (.slice (some ⟨b, off, none⟩) n c)) ∧ True) (by kernel_rfl) ⟨⟨c0, c1, c2, c3, c4, c5, cL⟩, trivial⟩ (fun hHeld => ?_)
      refine tkV 0 rfl ?_
      try simp only [Act.put, pS]
      refine tkV 1 rfl ?_
      try simp only [Act.put, pS]
      refine tkV 2 rfl ?_
      try simp only [Act.put, pS]
      refine tkV 3 rfl ?_
      try simp only [Act.put, pS]
      refine tkV 4 rfl ?_
      try simp only [Act.put, pS]
      refine tkV 5 rfl ?_
      try simp only [Act.put, pS]
      refine tkV 6 rfl ?_
      try simp only [Act.put, pS]
      refine tkV 7 rfl ?_
      try simp only [Act.put, pS]
      refine tkV 8 rfl ?_
      try simp only [Act.put, pS]
      refine tkV 9 rfl ?_
      try simp only [Act.put, pS]
      refine tkV 10 rfl ?_
      try simp only [Act.put, pS]
      refine tkV 11 rfl ?_
      try simp only [Act.put, pS]
      refine tkU 12 rfl ?_
      try simp only [Act.put, pS]
      refine tkU 13 rfl ?_
      try simp only [Act.put, pS]
      refine tkU 14 rfl ?_
      try simp only [Act.put, pS]
      refine tkU 15 rfl ?_
      try simp only [Act.put, pS]
      refine tkU 16 rfl ?_
      try simp only [Act.put, pS]
      refine tkU 17 rfl ?_
      try simp only [Act.put, pS]
      refine tkU 18 rfl ?_
      try simp only [Act.put, pS]
      refine tkU 19 rfl ?_
      try simp only [Act.put, pS]
      refine tkU 20 rfl ?_
      try simp only [Act.put, pS]
      refine tkU 21 rfl ?_
      try simp only [Act.put, pS]
      refine tkV 22 rfl ?_
      try simp only [Act.put, pS]
      refine tkV 23 rfl ?_
      try simp only [Act.put, pS]
      refine tkV 24 rfl ?_
      try simp only [Act.put, pS]
      refine tkV 25 rfl ?_
      try simp only [Act.put, pS]
      refine tkV 26 rfl ?_
      try simp only [Act.put, pS]
      refine wpAnyH_ready (rs := [27]) (by kernel_rfl) (by simp) ?_
      refine AllReadyH.cons (o := _) rfl (fun K hK => ?_) AllReadyH.nil
      go_simp
      refine (IS.out _).mono ?_; rintro e w2 ⟨rfl, rfl⟩
      (try go_simp)
      refine hK.out _ _ ?_ (fun hHeld => ?_)
      ·go_keep
      clear hK K
      try simp only [Act.put, pS]
      refine tkV 28 rfl ?_
      try simp only [Act.put, pS]
      refine tkV 29 rfl ?_
      try simp only [Act.put, pS]
      refine tkV 30 rfl ?_
      try simp only [Act.put, pS]
      refine tkV 31 rfl ?_
      try simp only [Act.put, pS]
      refine tkV 32 rfl ?_
      try simp only [Act.put, pS]
      refine wpAnyH_ready (rs := [33]) (by kernel_rfl) (by simp) ?_
      refine AllReadyH.cons (o := _) rfl (fun K hK => ?_) AllReadyH.nil
      go_simp
      refine (CE.out _).mono ?_; rintro e w2 ⟨rfl, h⟩; have c0 := (h.cell (p := ⟨gV, 0, none⟩) hgV).trans c0; have c1 := (h.cell (p := ⟨gV, 1, none⟩) hgV).trans c1; have c2 := (h.cell (p := ⟨gV, 2, none⟩) hgV).trans c2; have c3 := (h.cell (p := ⟨gV, 3, none⟩) hgV).trans c3; have c4 := (h.cell (p := ⟨gV, 4, none⟩) hgV).trans c4; have c5 := (h.cell (p := ⟨gV, 5, none⟩) hgV).trans c5; have cL := (h.cell (p := ⟨gL, 22, none⟩) hgL).trans cL; have HBE := Lib.hid ((HB1.out.drew).trans (h.mono HB1.out.size)); clear h
      exact rp68
end Go.Proofs.YtmpedblelnpjdaaGreatDoor
