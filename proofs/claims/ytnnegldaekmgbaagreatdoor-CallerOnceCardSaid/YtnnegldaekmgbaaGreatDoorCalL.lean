/- CallerOnce: the law (printed by calgen.py). -/
import Derived.Test.YtnnegldaekmgbaaGreatDoorCalK
namespace Go.Proofs.YtnnegldaekmgbaaGreatDoor
open Go.RowKit
set_option linter.unusedSimpArgs false
set_option linter.unusedVariables false
set_option maxHeartbeats 8000000
set_option maxRecDepth 100000
attribute [local go_sem] Opn.agg Opn.cells

theorem callerOnce_law (o : Opn) (p0 p1 v0 v1 : Int) (w : World) (hK : KindsAt w) (ho : OpIn w w.heap.size o) (hp0 : 0 ≤ p0 ∧ p0 ≤ 255) (hp1 : 0 ≤ p1 ∧ p1 ≤ 255) (hv0 : 0 ≤ v0 ∧ v0 ≤ 255) (hv1 : 0 ≤ v1 ∧ v1 ≤ 255) :
    Calls Tryz.prog 3 #[o.agg, .agg #[.int .u8 p0, .int .u8 p1], .agg #[.int .u8 v0, .int .u8 v1]] w fun e w' => e = .returned (.bool true) ∧ Below w.heap.size w w' := by
  obtain ⟨W1, hW1⟩ : ∃ W1, W1 = ((w.alloc (.cells o.cells 26)).alloc (.cells #[.int .u8 p0, .int .u8 p1] 27)).alloc (.cells #[.int .u8 v0, .int .u8 v1] 27) := ⟨_, rfl⟩
  have hb1 : Below w.heap.size w W1 := by rw [hW1]; exact (((Below.refl _ _).alloc (Nat.le_refl _) _).alloc (by simp) _).alloc (by simp; omega) _
  have hB0 : Blk W1 w.heap.size 26 o.cells := by rw [hW1]; exact ((Blk.new w _ _).alloc _).alloc _
  have hB1 : Blk W1 (w.heap.size + 1) 27 #[.int .u8 p0, .int .u8 p1] := by
    rw [hW1]
    have := (Blk.new (w.alloc (.cells o.cells 26)) 27 #[.int .u8 p0, .int .u8 p1]).alloc (.cells #[.int .u8 v0, .int .u8 v1] 27)
    simpa using this
  have hB2 : Blk W1 (w.heap.size + 2) 27 #[.int .u8 v0, .int .u8 v1] := by
    rw [hW1]
    have := Blk.new ((w.alloc (.cells o.cells 26)).alloc (.cells #[.int .u8 p0, .int .u8 p1] 27)) 27 #[.int .u8 v0, .int .u8 v1]
    simpa using this
  have HK := Lib.hid hK
  have HB1 := Lib.hid hb1
  have H0 := Lib.hid hB0
  have H1 := Lib.hid hB1
  have H2 := Lib.hid hB2
  have HO := Lib.hid (ho.below hb1)
  have HW1 := Lib.hid hW1
  have HBp0 := Lib.hid hp0
  have HBp1 := Lib.hid hp1
  have HBv0 := Lib.hid hv0
  have HBv1 := Lib.hid hv1
  have HOK : Hid (0 ≤ o.key ∧ o.key ≤ 4294967295) := Lib.hid ho.wf.key
  have hl2 := hB2.lt
  have hs1 := hb1.size
  clear hW1 hb1 hB0 hB1 hB2 hK ho
  go_enter Tryz.func3, Tryz.ntmps3
  go_upto_region 1 with (fail)
  rw [show ((w.alloc (.cells #[.int .i64 o.kd, .int .u32 o.key, .int .u64 o.ver, .slice o.A o.n o.c, .int .i64 o.pick] 26)).alloc (.cells #[.int .u8 p0, .int .u8 p1] 27)).alloc (.cells #[.int .u8 v0, .int .u8 v1] 27) = W1 from HW1.out.symm]
  clear HW1
  go_wp2_with (fail)
  refine (begin_any 1 2 _ (by omega) (by omega) (by omega) (by omega)).mono ?_
  rintro e w2 ⟨v, l, rfl, hb⟩
  obtain ⟨A, c, rfl, hr, hr2, hr3⟩ := own_slice hb.own
  have HC := Lib.hid hb.cfs
  have HL : Hid (allB l = true) := Lib.hid (beg_all hb.val (fun x hx => (hb.mem x hx).len_) (by omega) (by omega) (by omega) (by omega))
  have HV := Lib.hid hb.val
  have B2 := Lib.hid (HB1.out.trans (hb.bel.mono hs1))
  have G0 := Lib.hid (H0.out.below hb.bel H0.out.lt)
  have G1 := Lib.hid (H1.out.below hb.bel H1.out.lt)
  have G2 := Lib.hid (H2.out.below hb.bel H2.out.lt)
  have HO2 := Lib.hid (HO.out.below (hb.bel.mono hs1))
  have hs2 := hb.bel.size
  clear hb hr hr2 hr3 H0 H1 H2 HO HB1
  go_wp2_with (fail)
  refine (calNew_any 1 1 A l.length c w2.heap.size l w2 HC.out (Nat.le_refl _)).mono ?_
  rintro e w3 ⟨hb3, ⟨hno, hx1⟩ | ⟨hx1, hx2, g, G, rfl, hcal⟩⟩
  · exact absurd ⟨by omega, HL.out⟩ hno
  rw [HV.out] at hcal
  obtain ⟨lo, hlo⟩ : ∃ lo, lo = w2.heap.size := ⟨_, rfl⟩
  rw [← hlo] at hcal
  have HA : Hid (CalAt w3 lo g G 0 ((List.range 1).map (begV 2)) (Cl.new 1 1)) := Lib.hid hcal
  have hgl : lo ≤ g := hcal.low
  have B3 := Lib.hid (B2.out.trans (hb3.mono B2.out.size))
  have F0 := Lib.hid (G0.out.below hb3 G0.out.lt)
  have F1 := Lib.hid (G1.out.below hb3 G1.out.lt)
  have F2 := Lib.hid (G2.out.below hb3 G2.out.lt)
  have HO3 := Lib.hid (HO2.out.below (hb3.mono B2.out.size))
  have hs3 := hb3.size
  have HLO : Hid (w.heap.size + 2 < lo) := Lib.hid (by omega)
  have HWL : Hid (w.heap.size ≤ lo) := Lib.hid (by omega)
  have hlw : lo ≤ w3.heap.size := by omega
  clear hb3 hcal HC HL HV G0 G1 G2 HO2 B2 hx1 hx2 hlo
  have x3 : w3.cell? ⟨w.heap.size, 3, none⟩ = some (.slice o.A o.n o.c) := F0.out.cell 3
  by_cases h21 : 2100 < o.n
  · have hd : decide (2100 < o.n) = true := decide_eq_true h21
    go_wp2_with (fail)
    refine (awake26_any _ (HK.out.below B3.out)).mono ?_
    rintro e w4 ⟨rfl, hb4⟩
    have HB4 := Lib.hid (B3.out.trans (hb4.mono B3.out.size))
    clear hb4
    go_wp2_with (fail)
    go_ret
    exact ⟨rfl, HB4.out⟩
  have hd : decide (2100 < o.n) = false := decide_eq_false h21
  obtain ⟨k, hk⟩ := Int.eq_ofNat_of_zero_le HOK.out.1
  have BG := Lib.hid (calBegin_any lo g G 0 ((List.range 1).map (begV 2)) (Cl.new 1 1) o k w.heap.size w3 (HK.out.below B3.out) (fun W hW => kinds_chg HK.out B3.out (by have := HWL.out; omega) hW) HA.out HO3.out B3.out.size hlw hk (by omega) (by decide) (by decide))
  have HKK := Lib.hid hk
  clear hk x3
  obtain ⟨x0, x1, x2, x3, x4⟩ := op_cells F0.out
  go_wp2_with (fail)
  refine BG.out.mono ?_
  rintro e w4 (⟨hno, rfl, hcal, hb4⟩ | ⟨hno, h, A7n, qa, A7, ya, yb, AU, rfl, hcal, hq, ho1, ho2, hbk, hch⟩)
  · have HA4 := Lib.hid hcal
    have B4 := Lib.hid (B3.out.trans (hb4.mono B3.out.size))
    have hne : (beginE (Cl.new 1 1) o != 0) = true := by simpa using hno
    have BU : Hid (Calls Tryz.prog 13 #[.pointer (some ⟨g, 0, none⟩)] w4 fun e w' => e = .returned (.bool false) ∧ Below w4.heap.size w4 w') := Lib.hid (calBusy_any _ g G _ _ _ w4 hcal)
    clear hcal hb4 hno BG
    generalize beginE (Cl.new 1 1) o = be at *
    go_wp2_with (fail)
    refine BU.out.mono ?_
    rintro e w5 ⟨rfl, hb5⟩
    have NU : Hid (Calls Tryz.prog 14 #[.pointer (some ⟨g, 0, none⟩)] w5 fun e w' => e = .returned (.int .u64 0) ∧ w5 = w') := Lib.hid (calNum_any _ g G _ _ _ w5 (HA4.out.below hb5))
    have B5 := Lib.hid (B4.out.trans (hb5.mono B4.out.size))
    clear hb5 BU
    go_wp2_with (fail)
    refine NU.out.mono ?_
    rintro e w6 ⟨rfl, rfl⟩
    go_wp2_with (fail)
    refine (awake26_any _ (HK.out.below B5.out)).mono ?_
    rintro e w6 ⟨rfl, hb6⟩
    have HB6 := Lib.hid (B5.out.trans (hb6.mono B5.out.size))
    clear hb6
    go_wp2_with (fail)
    go_ret
    exact ⟨rfl, HB6.out⟩
  obtain ⟨c1, hc1⟩ : ∃ c1, c1 = (Cl.new 1 1).begun o A7 A7n := ⟨_, rfl⟩
  rw [← hc1] at hcal
  have HC1 : Hid (c1.cl = 1 ∧ c1.num = 1 ∧ c1.op.kd = o.kd ∧ c1.op.key = o.key ∧ c1.st = 1 ∧ c1.ms = 1 ∧ c1.op.n = o.n) := Lib.hid (by rw [hc1]; exact ⟨rfl, rfl, rfl, rfl, rfl, rfl, rfl⟩)
  have HI : Hid (OnceI w lo g G h ((List.range 1).map (begV 2)) c1 o w.heap.size p0 p1 v0 v1 w4) := Lib.hid
    ⟨hcal, hch.blk F0.out (fun e => by have := HLO.out; omega), hch.blk F1.out (fun e => by have := HLO.out; omega), hch.blk F2.out (fun e => by have := HLO.out; omega), B3.out.trans (hch.below B3.out.size (fun k hk e => by have := HLO.out; omega))⟩
  clear hc1 hno hcal hq ho1 ho2 hbk hch BG F0 F1 F2 HO3 HA B3 x0 x1 x2 x3 x4 hs1 hs2 hs3 hl2 hlw
  have x0 : w4.cell? ⟨w.heap.size, 0, none⟩ = some (.int .i64 o.kd) := HI.out.opb.cell 0
  have lo0 := HI.out.opb.lt
  have hz := once_hdr
  by_cases hk1 : o.kd = 1
  rotate_left
  · have q1 : (o.kd == 1) = false := by simp [hk1]
    have HK1 := Lib.hid hk1
    clear hk1
    go_wp2_with (fail)
    go_loopw [14] (fun iv wr => ∃ (z : Int) (c : Cl), iv = .int .i64 z ∧ ((z = 0 ∧ c = c1) ∨ ((z = 1 ∨ z = 2) ∧ Hid (OnceZ o c1 c p0 v0))) ∧ Hid (OnceI w lo g G h ((List.range 1).map (begV 2)) c o w.heap.size p0 p1 v0 v1 wr)) (fun iv _ => 2 - (intOf iv).toNat)
    case atStart => exact ⟨0, c1, rfl, .inl ⟨rfl, rfl⟩, HI⟩
    case round =>
      clear HI x0 lo0
      obtain ⟨z, c, rfl, hcase, HI⟩ := hrel
      rcases hcase with ⟨rfl, hc⟩ | ⟨rfl | rfl, HZ⟩
      · have HST : Hid (c.st = 1) := Lib.hid (by rw [hc]; exact HC1.out.2.2.2.2.1)
        have HCC : Hid (c.cl = 1 ∧ c.num = 1 ∧ c.op.kd = o.kd ∧ c.op.key = o.key) := Lib.hid (by rw [hc]; exact ⟨HC1.out.1, HC1.out.2.1, HC1.out.2.2.1, HC1.out.2.2.2.1⟩)
        have HC1 : Hid (c = c1) := Lib.hid hc
        clear hc
        have cv : wr.cell? ⟨w.heap.size + 2, 0, none⟩ = some (.int .u8 v0) := HI.out.vrb.cell 0
        have cp : wr.cell? ⟨w.heap.size + 1, 0, none⟩ = some (.int .u8 p0) := HI.out.cdb.cell 0
        have lv := HI.out.vrb.lt
        have lp := HI.out.cdb.lt
        obtain ⟨W4, hW4⟩ : ∃ W4, W4 = wr.alloc (.cells (Lt.cells { Lt.zero with kd := 18, fr := 1, tw := 201, nu := 1, vr := v0 }) 48) := ⟨_, rfl⟩
        have hb4 : Below wr.heap.size wr W4 := by rw [hW4]; exact (Below.refl _ _).alloc (Nat.le_refl _) _
        have hX4 : Blk W4 wr.heap.size 48 (Lt.cells { Lt.zero with kd := 18, fr := 1, tw := 201, nu := 1, vr := v0 }) := by rw [hW4]; exact Blk.new _ _ _
        have HB4 := Lib.hid hb4
        have HX4 := Lib.hid hX4
        have HW4 := Lib.hid hW4
        have HI4 := Lib.hid (HI.out.below hb4)
        clear hW4 hb4 hX4
        go_upto_region 14 with (fail)
        iterate 28 go_step
        refine wpList_store_fresh rfl 48 (.tmp 15) (.tmp 65) rfl (Lt.cells { Lt.zero with kd := 18, fr := 1, tw := 201, nu := 1, vr := v0 }) 48 Lt.zero.cells rfl rfl ltInfo rfl (lt_all _) ?_
        rw [← HW4.out]
        clear HW4 cv cp lv lp
        generalize hgx : wr.heap.size = gx at *
        have cp : W4.cell? ⟨w.heap.size + 1, 0, none⟩ = some (.int .u8 p0) := HI4.out.cdb.cell 0
        have lp := HI4.out.cdb.lt
        have lx4 := HX4.out.lt
        have s12 : W4.cell? ⟨gx, 12, none⟩ = some (.int .i64 0) := HX4.out.cell 12
        have f12 := HX4.out.frozen 12
        have hcv : IntKind.i64.wrap p0 = p0 := by rw [IntKind.wrap_i64]; omega
        obtain ⟨W5, hW5⟩ : ∃ W5, W5 = W4.setCell ⟨gx, 12, none⟩ (.int .i64 p0) := ⟨_, rfl⟩
        have hX5 : Blk W5 gx 48 (wrLt 1 v0 p0).cells := by rw [hW5]; exact HX4.out.set_ 12 (.int .i64 p0)
        have hb5 : Below gx wr W5 := by rw [hW5]; exact below_put HB4.out (Nat.le_of_lt lx4) (Nat.le_refl _) 12 (.int .i64 p0)
        have HX5 := Lib.hid hX5
        have HW5 := Lib.hid hW5
        have HI5 := Lib.hid (HI.out.below (by rw [hgx]; exact hb5))
        have HLI : Hid (LIn W5 W5.heap.size ⟨wrLt 1 v0 p0, [], [], [], []⟩) := Lib.hid (wr_in _ _ _ _ _ (by omega) HBv0.out HBp0.out)
        have TK := Lib.hid (calTake_mine lo g G h ((List.range 1).map (begV 2)) c ⟨wrLt 1 v0 p0, [], [], [], []⟩ W5.heap.size W5 (HK.out.below HI5.out.bel) HI5.out.cal HLI.out (Nat.le_refl _) (wr_near _ _ _) (by have := HI5.out.bel.size; have := HI5.out.cal.low; have := HI5.out.cal.box.lt; omega) (by rw [HCC.out.1]; decide) (chk_wr 1 v0 p0 (by omega) HBp0.out) (by rw [HCC.out.1]; rfl) (by constructor <;> simp [wrLt]) (by rw [HCC.out.2.1]; rfl) (.inl ⟨rfl, by rw [HCC.out.2.2.1]; exact HK1.out⟩))
        clear hW5 hX5 hb5 HI4 HX4 HB4
        go_upto_region 19 with (fail)
        rw [← HW5.out]
        clear HW5 s12 f12 hcv cp lp
        iterate 4 go_step
        refine wpList_load_row rfl 48 (.tmp 15) rfl gx rfl 48 (wrLt 1 v0 p0).cells (0, 0) _ HX5.out Tryz.underlying48 rfl ltInfo ?_
        go_wp2_with (fail)
        refine TK.out.mono ?_
        rintro e w8 ⟨rfl, h1, h2, hch⟩
        obtain ⟨r, rb, hr1, hr2, hr3, hr4, hcal⟩ := h1 HST.out
        have HZ : Hid (OnceZ o c1 (c.answered r rb) p0 v0) := Lib.hid ⟨r, rb, by rw [HC1.out], hr1.trans (by show (if (18 : Int) = 18 then p0 else 0) = _; rw [if_pos rfl, if_neg HK1.out]), hr2, hr3.trans (by show (if (18 : Int) = 18 then ([] : List Int) else []) = _; rw [if_pos rfl, if_neg HK1.out]), hr4⟩
        have HI8 := Lib.hid (HI5.out.chg hch (fun i e => by rcases e with e | ⟨_, e⟩; have := HI5.out.cal.low; omega; have := (HI5.out.cal.lat (by rw [HST.out]; decide)).1; omega) HLO.out HWL.out hcal)
        clear h1 h2 hch hcal TK hr1 hr2 hr3 hr4 HI5
        go_wp2_with (fail)
        exact ⟨⟨1, c.answered r rb, by simp, .inr ⟨.inl rfl, HZ⟩, HI8⟩, by simp [intOf]⟩
      · have HST : Hid (c.st ≠ 1) := Lib.hid (by obtain ⟨r, rb, hc, _⟩ := HZ.out; rw [hc]; show (2 : Nat) ≠ 1; decide)
        have HCC : Hid (c.cl = 1 ∧ c.num = 1 ∧ c.op.kd = o.kd ∧ c.op.key = o.key) := Lib.hid (by obtain ⟨r, rb, hc, _⟩ := HZ.out; rw [hc]; exact ⟨HC1.out.1, HC1.out.2.1, HC1.out.2.2.1, HC1.out.2.2.2.1⟩)
        have cv : wr.cell? ⟨w.heap.size + 2, 1, none⟩ = some (.int .u8 v1) := HI.out.vrb.cell 1
        have cp : wr.cell? ⟨w.heap.size + 1, 1, none⟩ = some (.int .u8 p1) := HI.out.cdb.cell 1
        have lv := HI.out.vrb.lt
        have lp := HI.out.cdb.lt
        obtain ⟨W4, hW4⟩ : ∃ W4, W4 = wr.alloc (.cells (Lt.cells { Lt.zero with kd := 18, fr := 2, tw := 201, nu := 1, vr := v1 }) 48) := ⟨_, rfl⟩
        have hb4 : Below wr.heap.size wr W4 := by rw [hW4]; exact (Below.refl _ _).alloc (Nat.le_refl _) _
        have hX4 : Blk W4 wr.heap.size 48 (Lt.cells { Lt.zero with kd := 18, fr := 2, tw := 201, nu := 1, vr := v1 }) := by rw [hW4]; exact Blk.new _ _ _
        have HB4 := Lib.hid hb4
        have HX4 := Lib.hid hX4
        have HW4 := Lib.hid hW4
        have HI4 := Lib.hid (HI.out.below hb4)
        clear hW4 hb4 hX4
        go_upto_region 14 with (fail)
        iterate 28 go_step
        refine wpList_store_fresh rfl 48 (.tmp 15) (.tmp 65) rfl (Lt.cells { Lt.zero with kd := 18, fr := 2, tw := 201, nu := 1, vr := v1 }) 48 Lt.zero.cells rfl rfl ltInfo rfl (lt_all _) ?_
        rw [← HW4.out]
        clear HW4 cv cp lv lp
        generalize hgx : wr.heap.size = gx at *
        have cp : W4.cell? ⟨w.heap.size + 1, 1, none⟩ = some (.int .u8 p1) := HI4.out.cdb.cell 1
        have lp := HI4.out.cdb.lt
        have lx4 := HX4.out.lt
        have s12 : W4.cell? ⟨gx, 12, none⟩ = some (.int .i64 0) := HX4.out.cell 12
        have f12 := HX4.out.frozen 12
        have hcv : IntKind.i64.wrap p1 = p1 := by rw [IntKind.wrap_i64]; omega
        obtain ⟨W5, hW5⟩ : ∃ W5, W5 = W4.setCell ⟨gx, 12, none⟩ (.int .i64 p1) := ⟨_, rfl⟩
        have hX5 : Blk W5 gx 48 (wrLt 2 v1 p1).cells := by rw [hW5]; exact HX4.out.set_ 12 (.int .i64 p1)
        have hb5 : Below gx wr W5 := by rw [hW5]; exact below_put HB4.out (Nat.le_of_lt lx4) (Nat.le_refl _) 12 (.int .i64 p1)
        have HX5 := Lib.hid hX5
        have HW5 := Lib.hid hW5
        have HI5 := Lib.hid (HI.out.below (by rw [hgx]; exact hb5))
        have HLI : Hid (LIn W5 W5.heap.size ⟨wrLt 2 v1 p1, [], [], [], []⟩) := Lib.hid (wr_in _ _ _ _ _ (by omega) HBv1.out HBp1.out)
        have TK := Lib.hid (calTake_mine lo g G h ((List.range 1).map (begV 2)) c ⟨wrLt 2 v1 p1, [], [], [], []⟩ W5.heap.size W5 (HK.out.below HI5.out.bel) HI5.out.cal HLI.out (Nat.le_refl _) (wr_near _ _ _) (by have := HI5.out.bel.size; have := HI5.out.cal.low; have := HI5.out.cal.box.lt; omega) (by rw [HCC.out.1]; decide) (chk_wr 2 v1 p1 (by omega) HBp1.out) (by rw [HCC.out.1]; rfl) (by constructor <;> simp [wrLt]) (by rw [HCC.out.2.1]; rfl) (.inl ⟨rfl, by rw [HCC.out.2.2.1]; exact HK1.out⟩))
        clear hW5 hX5 hb5 HI4 HX4 HB4
        go_upto_region 19 with (fail)
        rw [← HW5.out]
        clear HW5 s12 f12 hcv cp lp
        iterate 4 go_step
        refine wpList_load_row rfl 48 (.tmp 15) rfl gx rfl 48 (wrLt 2 v1 p1).cells (0, 0) _ HX5.out Tryz.underlying48 rfl ltInfo ?_
        go_wp2_with (fail)
        refine TK.out.mono ?_
        rintro e w8 ⟨rfl, h1, h2, hch⟩
        have hcal := h2 HST.out
        have HI8 := Lib.hid (HI5.out.chg hch (fun i e => by rcases e with e | ⟨e, _⟩; have := HI5.out.cal.low; omega; exact absurd e HST.out) HLO.out HWL.out hcal)
        clear h1 h2 hch hcal TK HI5
        go_wp2_with (fail)
        exact ⟨⟨2, c, by simp, .inr ⟨.inr rfl, HZ⟩, HI8⟩, by simp [intOf]⟩
      · obtain ⟨r, rb, rfl, hr1, hr2, hr3, hr4⟩ := HZ.out
        rw [if_neg HK1.out] at hr1 hr3
        have RE : Hid (Calls Tryz.prog 16 #[.pointer (some ⟨g, 0, none⟩)] wr fun e w' => ∃ (A7 : Option Addr) (c7 : Nat), e = .returned (.tuple #[.agg #[.int .i64 p0, .int .u64 v0, .slice A7 0 c7], .bool true]) ∧ Below wr.heap.size wr w') := Lib.hid
          ((calReply_any lo g G h _ (c1.answered r rb) wr HI.out.cal (by show (2 : Nat) ≠ 0; decide) (by show r.n ≤ 1000000; rw [hr4, hr3]; decide)).mono (by
            rintro e w' ⟨A7, c7, rfl, _, hb⟩
            refine ⟨A7, c7, ?_, hb⟩
            show Ending.returned (.tuple #[.agg #[.int .i64 r.cd, .int .u64 r.vr, .slice A7 r.n c7], .bool true]) = _
            rw [hr1, hr2, hr4, hr3]
            rfl))
        clear hr1 hr2 hr3 hr4 HZ
        go_wp2_with (fail)
        refine RE.out.mono ?_
        rintro e w9 ⟨A8, c8, rfl, hb9⟩
        obtain ⟨W10, hW10⟩ : ∃ W10, W10 = w9.alloc (.cells #[.int .i64 p0, .int .u64 v0, .slice A8 0 c8] 51) := ⟨_, rfl⟩
        have hb10 : Below wr.heap.size wr W10 := by rw [hW10]; exact hb9.alloc hb9.size _
        have hR10 : Blk W10 w9.heap.size 51 #[.int .i64 p0, .int .u64 v0, .slice A8 0 c8] := by rw [hW10]; exact Blk.new _ _ _
        have HI10 := Lib.hid (HI.out.below hb10)
        have HR10 := Lib.hid hR10
        have HW10 := Lib.hid hW10
        clear hb9 hb10 hR10 hW10 HI RE
        go_upto_region 21 with (fail)
        rw [← HW10.out]
        clear HW10
        generalize w9.heap.size = gr at *
        have BU : Hid (Calls Tryz.prog 13 #[.pointer (some ⟨g, 0, none⟩)] W10 fun e w' => e = .returned (.bool false) ∧ Below W10.heap.size W10 w') := Lib.hid (calBusy_any _ g G _ _ _ W10 HI10.out.cal)
        go_wp2_with (fail)
        refine BU.out.mono ?_
        rintro e w11 ⟨rfl, hb11⟩
        have HI11 := Lib.hid (HI10.out.below hb11)
        have HR11 := Lib.hid (HR10.out.below hb11 HR10.out.lt)
        clear hb11 BU HI10 HR10
        have r1 : w11.cell? ⟨gr, 1, none⟩ = some (.int .u64 v0) := HR11.out.cell 1
        have vv : w11.cell? ⟨w.heap.size + 2, 0, none⟩ = some (.int .u8 v0) := HI11.out.vrb.cell 0
        have lr := HR11.out.lt
        have lv := HI11.out.vrb.lt
        have hcv : IntKind.u64.wrap v0 = v0 := by rw [IntKind.wrap_u64]; omega
        have TK := Lib.hid (calTick_any lo g G h ((List.range 1).map (begV 2)) (c1.answered r rb) k w11 (HK.out.below HI11.out.bel) HI11.out.cal (by have := HI11.out.cal.low; have := HI11.out.cal.box.lt; omega) (fun W hW => kinds_chg HK.out HI11.out.bel (by have := HI11.out.cal.low; have := HWL.out; omega) hW) (by show c1.op.key = _; rw [HC1.out.2.2.2.1]; exact HKK.out) (by show c1.op.n ≤ 1000000; rw [HC1.out.2.2.2.2.2.2]; omega) (by show c1.cl ≤ 6; rw [HC1.out.1]; decide) (by show 1 ≤ c1.ms ∧ c1.ms ≤ 5; rw [HC1.out.2.2.2.2.2.1]; decide) (by show c1.num ≤ 1000000; rw [HC1.out.2.1]; decide))
        go_wp2_with (fail)
        refine TK.out.mono ?_
        rintro e w12 ⟨⟨A4, n4, c4, rfl, h0, _⟩, hcal, hch⟩
        obtain rfl := h0 (by show (2 : Nat) ≠ 1; decide)
        have HI12 := Lib.hid (HI11.out.chg hch (fun i e => by have := HI11.out.cal.low; omega) HLO.out HWL.out hcal)
        have HR12 := Lib.hid (hch.blk HR11.out (fun e => Blk.ne_ HR11.out HI11.out.cal.box (by decide) e))
        clear hcal hch TK HI11 HR11 r1 vv lr lv
        have r0 : w12.cell? ⟨gr, 0, none⟩ = some (.int .i64 p0) := HR12.out.cell 0
        have r2 : w12.cell? ⟨gr, 2, none⟩ = some (.slice A8 0 c8) := HR12.out.cell 2
        have pp : w12.cell? ⟨w.heap.size + 1, 0, none⟩ = some (.int .u8 p0) := HI12.out.cdb.cell 0
        have lr := HR12.out.lt
        have lv := HI12.out.cdb.lt
        have hcp : IntKind.i64.wrap p0 = p0 := by rw [IntKind.wrap_i64]; omega
        go_wp2_with (fail)
        refine (awake26_any _ (HK.out.below HI12.out.bel)).mono ?_
        rintro e w13 ⟨rfl, hb13⟩
        have HB13 := Lib.hid (HI12.out.bel.trans (hb13.mono HI12.out.bel.size))
        clear hb13
        go_wp2_with (fail)
        go_ret
        exact ⟨rfl, HB13.out⟩
  · have q1 : (o.kd == 1) = true := by simp [hk1]
    have HK1 := Lib.hid hk1
    clear hk1
    go_wp2_with (fail)
    go_loopw [14] (fun iv wr => ∃ (z : Int) (c : Cl), iv = .int .i64 z ∧ ((z = 0 ∧ c = c1) ∨ ((z = 1 ∨ z = 2) ∧ Hid (OnceZ o c1 c p0 v0))) ∧ Hid (OnceI w lo g G h ((List.range 1).map (begV 2)) c o w.heap.size p0 p1 v0 v1 wr)) (fun iv _ => 2 - (intOf iv).toNat)
    case atStart => exact ⟨0, c1, rfl, .inl ⟨rfl, rfl⟩, HI⟩
    case round =>
      clear HI x0 lo0
      obtain ⟨z, c, rfl, hcase, HI⟩ := hrel
      rcases hcase with ⟨rfl, hc⟩ | ⟨rfl | rfl, HZ⟩
      · have HST : Hid (c.st = 1) := Lib.hid (by rw [hc]; exact HC1.out.2.2.2.2.1)
        have HCC : Hid (c.cl = 1 ∧ c.num = 1 ∧ c.op.kd = o.kd ∧ c.op.key = o.key) := Lib.hid (by rw [hc]; exact ⟨HC1.out.1, HC1.out.2.1, HC1.out.2.2.1, HC1.out.2.2.2.1⟩)
        have HC1 : Hid (c = c1) := Lib.hid hc
        clear hc
        have cv : wr.cell? ⟨w.heap.size + 2, 0, none⟩ = some (.int .u8 v0) := HI.out.vrb.cell 0
        have cp : wr.cell? ⟨w.heap.size + 1, 0, none⟩ = some (.int .u8 p0) := HI.out.cdb.cell 0
        have lv := HI.out.vrb.lt
        have lp := HI.out.cdb.lt
        obtain ⟨W4, hW4⟩ : ∃ W4, W4 = wr.alloc (.cells (Lt.cells { Lt.zero with kd := 20, fr := 1, tw := 201, nu := 1, vr := v0 }) 48) := ⟨_, rfl⟩
        have hb4 : Below wr.heap.size wr W4 := by rw [hW4]; exact (Below.refl _ _).alloc (Nat.le_refl _) _
        have hX4 : Blk W4 wr.heap.size 48 (Lt.cells { Lt.zero with kd := 20, fr := 1, tw := 201, nu := 1, vr := v0 }) := by rw [hW4]; exact Blk.new _ _ _
        have HB4 := Lib.hid hb4
        have HX4 := Lib.hid hX4
        have HW4 := Lib.hid hW4
        have HI4 := Lib.hid (HI.out.below hb4)
        clear hW4 hb4 hX4
        go_upto_region 14 with (fail)
        iterate 28 go_step
        refine wpList_store_fresh rfl 48 (.tmp 15) (.tmp 65) rfl (Lt.cells { Lt.zero with kd := 20, fr := 1, tw := 201, nu := 1, vr := v0 }) 48 Lt.zero.cells rfl rfl ltInfo rfl (lt_all _) ?_
        rw [← HW4.out]
        clear HW4 cv cp lv lp
        generalize hgx : wr.heap.size = gx at *
        have cp : W4.cell? ⟨w.heap.size + 1, 0, none⟩ = some (.int .u8 p0) := HI4.out.cdb.cell 0
        have lp := HI4.out.cdb.lt
        have lx4 := HX4.out.lt
        obtain ⟨W5, hW5⟩ : ∃ W5, W5 = W4.setCell ⟨gx, 11, none⟩ (.int .u32 o.key) := ⟨_, rfl⟩
        have s11 : W4.cell? ⟨gx, 11, none⟩ = some (.int .u32 0) := HX4.out.cell 11
        have f11 := HX4.out.frozen 11
        have ck : W4.cell? ⟨w.heap.size, 1, none⟩ = some (.int .u32 o.key) := HI4.out.opb.cell 1
        have lo4 := HI4.out.opb.lt
        have hX5 : Blk W5 gx 48 (Lt.cells { Lt.zero with kd := 20, fr := 1, tw := 201, nu := 1, vr := v0, ky := o.key }) := by rw [hW5]; exact HX4.out.set_ 11 (.int .u32 o.key)
        have hb5 : Below gx wr W5 := by rw [hW5]; exact below_put HB4.out (Nat.le_of_lt lx4) (Nat.le_refl _) 11 (.int .u32 o.key)
        have lx5 := hX5.lt
        obtain ⟨q, hq⟩ : ∃ q, q = W5.heap.size := ⟨_, rfl⟩
        obtain ⟨W6, hW6⟩ : ∃ W6, W6 = W5.setCell ⟨gx, 24, none⟩ (.slice (some ⟨q, 0, none⟩) 1 1) := ⟨_, rfl⟩
        have hq6 : W6.heap.size = q := by rw [hW6, hq]; simp [World.setCell]
        have hX6 : Blk W6 gx 48 (gtLt 1 v0 o.key (some ⟨q, 0, none⟩)).cells := by rw [hW6]; exact hX5.set_ 24 (.slice (some ⟨q, 0, none⟩) 1 1)
        have hb6 : Below gx wr W6 := by rw [hW6]; exact below_put hb5 (Nat.le_of_lt lx5) (Nat.le_refl _) 24 (.slice (some ⟨q, 0, none⟩) 1 1)
        obtain ⟨W7, hW7⟩ : ∃ W7, W7 = W6.alloc (.cells #[.int .u8 p0] 5) := ⟨_, rfl⟩
        have hX7 : Blk W7 gx 48 (gtLt 1 v0 o.key (some ⟨q, 0, none⟩)).cells := by rw [hW7]; exact hX6.alloc _
        have hD7 : Blk W7 q 5 #[.int .u8 p0] := by rw [hW7, ← hq6]; exact Blk.new _ _ _
        have hb7 : Below gx wr W7 := by rw [hW7]; exact hb6.alloc (Nat.le_of_lt hX6.lt) _
        have HX5 := Lib.hid hX5
        have HX6 := Lib.hid hX6
        have HX7 := Lib.hid hX7
        have HW5 := Lib.hid hW5
        have HW6 := Lib.hid hW6
        have HW7 := Lib.hid hW7
        have HQ := Lib.hid hq
        have HI5 := Lib.hid (HI.out.below (by rw [hgx]; exact hb5))
        have HI7 := Lib.hid (HI.out.below (by rw [hgx]; exact hb7))
        have HLI : Hid (LIn W7 W7.heap.size ⟨gtLt 1 v0 o.key (some ⟨q, 0, none⟩), [], [], [], [p0]⟩) := Lib.hid (gt_in _ _ _ _ _ _ hD7 (by omega) HBv0.out HOK.out HBp0.out)
        have TK := Lib.hid (calTake_mine lo g G h ((List.range 1).map (begV 2)) c ⟨gtLt 1 v0 o.key (some ⟨q, 0, none⟩), [], [], [], [p0]⟩ W7.heap.size W7 (HK.out.below HI7.out.bel) HI7.out.cal HLI.out (Nat.le_refl _) (gt_near _ _ _ _ _) (by have := HI7.out.bel.size; have := HI7.out.cal.low; have := HI7.out.cal.box.lt; omega) (by rw [HCC.out.1]; decide) (chk_gt 1 v0 o.key (some ⟨q, 0, none⟩) p0 (by omega)) (by rw [HCC.out.1]; rfl) (by constructor <;> simp [gtLt]) (by rw [HCC.out.2.1]; rfl) (.inr ⟨rfl, by rw [HCC.out.2.2.1]; exact HK1.out, by rw [HCC.out.2.2.2]; rfl⟩))
        clear hW5 hX5 hb5 hW6 hX6 hb6 hW7 hX7 hD7 hb7 hq hq6
        go_upto_region 17 with (fail)
        rw [← HW5.out]
        have cp5 : W5.cell? ⟨w.heap.size + 1, 0, none⟩ = some (.int .u8 p0) := HI5.out.cdb.cell 0
        have s24 : W5.cell? ⟨gx, 24, none⟩ = some (.slice none 0 0) := HX5.out.cell 24
        have f24 := HX5.out.frozen 24
        clear HI4 HX4 HB4 HW5
        go_upto_region 19 with (fail)
        rw [← HQ.out, ← HW6.out, ← HW7.out]
        clear HW6 HW7 s11 f11 ck cp5 s24 f24 cp lp lo4
        iterate 4 go_step
        refine wpList_load_row rfl 48 (.tmp 15) rfl gx rfl 48 (gtLt 1 v0 o.key (some ⟨q, 0, none⟩)).cells (0, 0) _ HX7.out Tryz.underlying48 rfl ltInfo ?_
        go_wp2_with (fail)
        refine TK.out.mono ?_
        rintro e w8 ⟨rfl, h1, h2, hch⟩
        obtain ⟨r, rb, hr1, hr2, hr3, hr4, hcal⟩ := h1 HST.out
        have HZ : Hid (OnceZ o c1 (c.answered r rb) p0 v0) := Lib.hid ⟨r, rb, by rw [HC1.out], hr1.trans (by show (if (20 : Int) = 18 then (0 : Int) else 0) = _; rw [if_neg (by decide), if_pos HK1.out]), hr2, hr3.trans (by show (if (20 : Int) = 18 then ([] : List Int) else [p0]) = _; rw [if_neg (by decide), if_pos HK1.out]), hr4⟩
        have HI8 := Lib.hid (HI7.out.chg hch (fun i e => by rcases e with e | ⟨_, e⟩; have := HI7.out.cal.low; omega; have := (HI7.out.cal.lat (by rw [HST.out]; decide)).1; omega) HLO.out HWL.out hcal)
        clear h1 h2 hch hcal TK hr1 hr2 hr3 hr4 HI7
        go_wp2_with (fail)
        exact ⟨⟨1, c.answered r rb, by simp, .inr ⟨.inl rfl, HZ⟩, HI8⟩, by simp [intOf]⟩
      · have HST : Hid (c.st ≠ 1) := Lib.hid (by obtain ⟨r, rb, hc, _⟩ := HZ.out; rw [hc]; show (2 : Nat) ≠ 1; decide)
        have HCC : Hid (c.cl = 1 ∧ c.num = 1 ∧ c.op.kd = o.kd ∧ c.op.key = o.key) := Lib.hid (by obtain ⟨r, rb, hc, _⟩ := HZ.out; rw [hc]; exact ⟨HC1.out.1, HC1.out.2.1, HC1.out.2.2.1, HC1.out.2.2.2.1⟩)
        have cv : wr.cell? ⟨w.heap.size + 2, 1, none⟩ = some (.int .u8 v1) := HI.out.vrb.cell 1
        have cp : wr.cell? ⟨w.heap.size + 1, 1, none⟩ = some (.int .u8 p1) := HI.out.cdb.cell 1
        have lv := HI.out.vrb.lt
        have lp := HI.out.cdb.lt
        obtain ⟨W4, hW4⟩ : ∃ W4, W4 = wr.alloc (.cells (Lt.cells { Lt.zero with kd := 20, fr := 2, tw := 201, nu := 1, vr := v1 }) 48) := ⟨_, rfl⟩
        have hb4 : Below wr.heap.size wr W4 := by rw [hW4]; exact (Below.refl _ _).alloc (Nat.le_refl _) _
        have hX4 : Blk W4 wr.heap.size 48 (Lt.cells { Lt.zero with kd := 20, fr := 2, tw := 201, nu := 1, vr := v1 }) := by rw [hW4]; exact Blk.new _ _ _
        have HB4 := Lib.hid hb4
        have HX4 := Lib.hid hX4
        have HW4 := Lib.hid hW4
        have HI4 := Lib.hid (HI.out.below hb4)
        clear hW4 hb4 hX4
        go_upto_region 14 with (fail)
        iterate 28 go_step
        refine wpList_store_fresh rfl 48 (.tmp 15) (.tmp 65) rfl (Lt.cells { Lt.zero with kd := 20, fr := 2, tw := 201, nu := 1, vr := v1 }) 48 Lt.zero.cells rfl rfl ltInfo rfl (lt_all _) ?_
        rw [← HW4.out]
        clear HW4 cv cp lv lp
        generalize hgx : wr.heap.size = gx at *
        have cp : W4.cell? ⟨w.heap.size + 1, 1, none⟩ = some (.int .u8 p1) := HI4.out.cdb.cell 1
        have lp := HI4.out.cdb.lt
        have lx4 := HX4.out.lt
        obtain ⟨W5, hW5⟩ : ∃ W5, W5 = W4.setCell ⟨gx, 11, none⟩ (.int .u32 o.key) := ⟨_, rfl⟩
        have s11 : W4.cell? ⟨gx, 11, none⟩ = some (.int .u32 0) := HX4.out.cell 11
        have f11 := HX4.out.frozen 11
        have ck : W4.cell? ⟨w.heap.size, 1, none⟩ = some (.int .u32 o.key) := HI4.out.opb.cell 1
        have lo4 := HI4.out.opb.lt
        have hX5 : Blk W5 gx 48 (Lt.cells { Lt.zero with kd := 20, fr := 2, tw := 201, nu := 1, vr := v1, ky := o.key }) := by rw [hW5]; exact HX4.out.set_ 11 (.int .u32 o.key)
        have hb5 : Below gx wr W5 := by rw [hW5]; exact below_put HB4.out (Nat.le_of_lt lx4) (Nat.le_refl _) 11 (.int .u32 o.key)
        have lx5 := hX5.lt
        obtain ⟨q, hq⟩ : ∃ q, q = W5.heap.size := ⟨_, rfl⟩
        obtain ⟨W6, hW6⟩ : ∃ W6, W6 = W5.setCell ⟨gx, 24, none⟩ (.slice (some ⟨q, 0, none⟩) 1 1) := ⟨_, rfl⟩
        have hq6 : W6.heap.size = q := by rw [hW6, hq]; simp [World.setCell]
        have hX6 : Blk W6 gx 48 (gtLt 2 v1 o.key (some ⟨q, 0, none⟩)).cells := by rw [hW6]; exact hX5.set_ 24 (.slice (some ⟨q, 0, none⟩) 1 1)
        have hb6 : Below gx wr W6 := by rw [hW6]; exact below_put hb5 (Nat.le_of_lt lx5) (Nat.le_refl _) 24 (.slice (some ⟨q, 0, none⟩) 1 1)
        obtain ⟨W7, hW7⟩ : ∃ W7, W7 = W6.alloc (.cells #[.int .u8 p1] 5) := ⟨_, rfl⟩
        have hX7 : Blk W7 gx 48 (gtLt 2 v1 o.key (some ⟨q, 0, none⟩)).cells := by rw [hW7]; exact hX6.alloc _
        have hD7 : Blk W7 q 5 #[.int .u8 p1] := by rw [hW7, ← hq6]; exact Blk.new _ _ _
        have hb7 : Below gx wr W7 := by rw [hW7]; exact hb6.alloc (Nat.le_of_lt hX6.lt) _
        have HX5 := Lib.hid hX5
        have HX6 := Lib.hid hX6
        have HX7 := Lib.hid hX7
        have HW5 := Lib.hid hW5
        have HW6 := Lib.hid hW6
        have HW7 := Lib.hid hW7
        have HQ := Lib.hid hq
        have HI5 := Lib.hid (HI.out.below (by rw [hgx]; exact hb5))
        have HI7 := Lib.hid (HI.out.below (by rw [hgx]; exact hb7))
        have HLI : Hid (LIn W7 W7.heap.size ⟨gtLt 2 v1 o.key (some ⟨q, 0, none⟩), [], [], [], [p1]⟩) := Lib.hid (gt_in _ _ _ _ _ _ hD7 (by omega) HBv1.out HOK.out HBp1.out)
        have TK := Lib.hid (calTake_mine lo g G h ((List.range 1).map (begV 2)) c ⟨gtLt 2 v1 o.key (some ⟨q, 0, none⟩), [], [], [], [p1]⟩ W7.heap.size W7 (HK.out.below HI7.out.bel) HI7.out.cal HLI.out (Nat.le_refl _) (gt_near _ _ _ _ _) (by have := HI7.out.bel.size; have := HI7.out.cal.low; have := HI7.out.cal.box.lt; omega) (by rw [HCC.out.1]; decide) (chk_gt 2 v1 o.key (some ⟨q, 0, none⟩) p1 (by omega)) (by rw [HCC.out.1]; rfl) (by constructor <;> simp [gtLt]) (by rw [HCC.out.2.1]; rfl) (.inr ⟨rfl, by rw [HCC.out.2.2.1]; exact HK1.out, by rw [HCC.out.2.2.2]; rfl⟩))
        clear hW5 hX5 hb5 hW6 hX6 hb6 hW7 hX7 hD7 hb7 hq hq6
        go_upto_region 17 with (fail)
        rw [← HW5.out]
        have cp5 : W5.cell? ⟨w.heap.size + 1, 1, none⟩ = some (.int .u8 p1) := HI5.out.cdb.cell 1
        have s24 : W5.cell? ⟨gx, 24, none⟩ = some (.slice none 0 0) := HX5.out.cell 24
        have f24 := HX5.out.frozen 24
        clear HI4 HX4 HB4 HW5
        go_upto_region 19 with (fail)
        rw [← HQ.out, ← HW6.out, ← HW7.out]
        clear HW6 HW7 s11 f11 ck cp5 s24 f24 cp lp lo4
        iterate 4 go_step
        refine wpList_load_row rfl 48 (.tmp 15) rfl gx rfl 48 (gtLt 2 v1 o.key (some ⟨q, 0, none⟩)).cells (0, 0) _ HX7.out Tryz.underlying48 rfl ltInfo ?_
        go_wp2_with (fail)
        refine TK.out.mono ?_
        rintro e w8 ⟨rfl, h1, h2, hch⟩
        have hcal := h2 HST.out
        have HI8 := Lib.hid (HI7.out.chg hch (fun i e => by rcases e with e | ⟨e, _⟩; have := HI7.out.cal.low; omega; exact absurd e HST.out) HLO.out HWL.out hcal)
        clear h1 h2 hch hcal TK HI7
        go_wp2_with (fail)
        exact ⟨⟨2, c, by simp, .inr ⟨.inr rfl, HZ⟩, HI8⟩, by simp [intOf]⟩
      · obtain ⟨r, rb, rfl, hr1, hr2, hr3, hr4⟩ := HZ.out
        rw [if_pos HK1.out] at hr1 hr3
        have RE : Hid (Calls Tryz.prog 16 #[.pointer (some ⟨g, 0, none⟩)] wr fun e w' => ∃ (A7 : Option Addr) (c7 : Nat), e = .returned (.tuple #[.agg #[.int .i64 0, .int .u64 v0, .slice A7 1 c7], .bool true]) ∧ OwnB w' wr.heap.size A7 1 c7 [p0] ∧ Below wr.heap.size wr w') := Lib.hid
          ((calReply_any lo g G h _ (c1.answered r rb) wr HI.out.cal (by show (2 : Nat) ≠ 0; decide) (by show r.n ≤ 1000000; rw [hr4, hr3]; simp)).mono (by
            rintro e w' ⟨A7, c7, rfl, ho, hb⟩
            refine ⟨A7, c7, ?_, ?_, hb⟩
            · show Ending.returned (.tuple #[.agg #[.int .i64 r.cd, .int .u64 r.vr, .slice A7 r.n c7], .bool true]) = _
              rw [hr1, hr2, hr4, hr3]
              rfl
            · have ho2 : OwnB w' wr.heap.size A7 r.n c7 rb := ho
              rw [hr4, hr3] at ho2
              exact ho2))
        clear hr1 hr2 hr3 hr4 HZ
        go_wp2_with (fail)
        refine RE.out.mono ?_
        rintro e w9 ⟨A8, c8, rfl, hob, hb9⟩
        obtain ⟨W10, hW10⟩ : ∃ W10, W10 = w9.alloc (.cells #[.int .i64 0, .int .u64 v0, .slice A8 1 c8] 51) := ⟨_, rfl⟩
        have hb910 : Below w9.heap.size w9 W10 := by rw [hW10]; exact (Below.refl _ _).alloc (Nat.le_refl _) _
        have hb10 : Below wr.heap.size wr W10 := hb9.trans (hb910.mono hb9.size)
        have hR10 : Blk W10 w9.heap.size 51 #[.int .i64 0, .int .u64 v0, .slice A8 1 c8] := by rw [hW10]; exact Blk.new _ _ _
        have HI10 := Lib.hid (HI.out.below hb10)
        have HOB10 := Lib.hid (hob.below hb910)
        have HR10 := Lib.hid hR10
        have HW10 := Lib.hid hW10
        clear hb9 hb10 hb910 hR10 hW10 HI RE hob
        go_upto_region 21 with (fail)
        rw [← HW10.out]
        clear HW10
        generalize w9.heap.size = gr at *
        have BU : Hid (Calls Tryz.prog 13 #[.pointer (some ⟨g, 0, none⟩)] W10 fun e w' => e = .returned (.bool false) ∧ Below W10.heap.size W10 w') := Lib.hid (calBusy_any _ g G _ _ _ W10 HI10.out.cal)
        go_wp2_with (fail)
        refine BU.out.mono ?_
        rintro e w11 ⟨rfl, hb11⟩
        have HI11 := Lib.hid (HI10.out.below hb11)
        have HR11 := Lib.hid (HR10.out.below hb11 HR10.out.lt)
        have HOB11 := Lib.hid (HOB10.out.below hb11)
        clear hb11 BU HI10 HR10 HOB10
        have r1 : w11.cell? ⟨gr, 1, none⟩ = some (.int .u64 v0) := HR11.out.cell 1
        have vv : w11.cell? ⟨w.heap.size + 2, 0, none⟩ = some (.int .u8 v0) := HI11.out.vrb.cell 0
        have lr := HR11.out.lt
        have lv := HI11.out.vrb.lt
        have hcv : IntKind.u64.wrap v0 = v0 := by rw [IntKind.wrap_u64]; omega
        have TK := Lib.hid (calTick_any lo g G h ((List.range 1).map (begV 2)) (c1.answered r rb) k w11 (HK.out.below HI11.out.bel) HI11.out.cal (by have := HI11.out.cal.low; have := HI11.out.cal.box.lt; omega) (fun W hW => kinds_chg HK.out HI11.out.bel (by have := HI11.out.cal.low; have := HWL.out; omega) hW) (by show c1.op.key = _; rw [HC1.out.2.2.2.1]; exact HKK.out) (by show c1.op.n ≤ 1000000; rw [HC1.out.2.2.2.2.2.2]; omega) (by show c1.cl ≤ 6; rw [HC1.out.1]; decide) (by show 1 ≤ c1.ms ∧ c1.ms ≤ 5; rw [HC1.out.2.2.2.2.2.1]; decide) (by show c1.num ≤ 1000000; rw [HC1.out.2.1]; decide))
        go_wp2_with (fail)
        refine TK.out.mono ?_
        rintro e w12 ⟨⟨A4, n4, c4, rfl, h0, _⟩, hcal, hch⟩
        obtain rfl := h0 (by show (2 : Nat) ≠ 1; decide)
        have HI12 := Lib.hid (HI11.out.chg hch (fun i e => by have := HI11.out.cal.low; omega) HLO.out HWL.out hcal)
        have HR12 := Lib.hid (hch.blk HR11.out (fun e => Blk.ne_ HR11.out HI11.out.cal.box (by decide) e))
        have HOB12 := Lib.hid (HOB11.out.chg hch (fun i e => ⟨_, _, e ▸ HI11.out.cal.box, by decide⟩))
        clear hcal hch TK HI11 HR11 HOB11 r1 vv lr lv
        have r0 : w12.cell? ⟨gr, 0, none⟩ = some (.int .i64 0) := HR12.out.cell 0
        have r2 : w12.cell? ⟨gr, 2, none⟩ = some (.slice A8 1 c8) := HR12.out.cell 2
        have pp : w12.cell? ⟨w.heap.size + 1, 0, none⟩ = some (.int .u8 p0) := HI12.out.cdb.cell 0
        have lr := HR12.out.lt
        have lv := HI12.out.cdb.lt
        have SM : Hid (Calls Tryz.prog 18 #[.slice A8 1 c8, .slice (some ⟨w12.heap.size, 0, none⟩) 1 1] (w12.alloc (.cells #[.int .u8 p0] 5)) fun e w' => e = .returned (.bool true) ∧ Below (w12.alloc (.cells #[.int .u8 p0] 5)).heap.size (w12.alloc (.cells #[.int .u8 p0] 5)) w') := Lib.hid (by
          have hD := Blk.new w12 5 #[.int .u8 p0]
          have h5 := same_any A8 (some ⟨w12.heap.size, 0, none⟩) 1 1 c8 1 w12.heap.size (w12.alloc (.cells #[.int .u8 p0] 5)).heap.size [p0] [p0] (w12.alloc (.cells #[.int .u8 p0] 5)) (by simp) (Nat.le_refl _) (HOB12.out.reads.below ((Below.refl _ _).alloc (Nat.le_refl _) _)) ⟨rfl, fun _ => ⟨_, rfl, hD.lt, fun j u hu => by rw [Go.WideShapes.add_plain, hD.cell]; simpa using hu⟩⟩ (by omega)
          rw [decide_eq_true rfl] at h5
          exact h5)
        go_wp2_with (fail)
        refine SM.out.mono ?_
        rintro e w13 ⟨rfl, hb13⟩
        have B13 := Lib.hid ((HI12.out.bel.alloc HI12.out.bel.size (.cells #[.int .u8 p0] 5)).trans (hb13.mono (by have := HI12.out.bel.size; simp; omega)))
        clear hb13 SM
        go_wp2_with (fail)
        refine (awake26_any _ (HK.out.below B13.out)).mono ?_
        rintro e w14 ⟨rfl, hb14⟩
        have HB14 := Lib.hid (B13.out.trans (hb14.mono B13.out.size))
        clear hb14
        go_wp2_with (fail)
        go_ret
        exact ⟨rfl, HB14.out⟩
end Go.Proofs.YtnnegldaekmgbaaGreatDoor
