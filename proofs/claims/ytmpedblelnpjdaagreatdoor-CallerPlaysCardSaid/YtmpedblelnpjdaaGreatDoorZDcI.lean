/- The law's comparison of the two callers (printed by dcigen.py). -/
import Derived.Test.YtmpedblelnpjdaaGreatDoorZCpA
import Derived.Test.YtmpedblelnpjdaaGreatDoorZTk
namespace Go.Proofs.YtmpedblelnpjdaaGreatDoor
open Go.RowKit
set_option linter.unusedSimpArgs false
set_option linter.unusedVariables false
set_option maxHeartbeats 8000000
set_option maxRecDepth 100000
theorem same26_s6 {W : World} {c : Cl} {d : DA} {b0 bx c1 : Nat} {A1 : Option Addr} (h : Blk W b0 62 (c.dcells d)) (k : Blk W bx 60 #[.int .i64 c.rp.cd, .int .u64 c.rp.vr, .slice A1 c.rp.n c1]) : W.cell? ⟨b0, 10, none⟩ = some (.int .i64 c.st) ∧ W.cell? ⟨b0, 2, none⟩ = some (.int .u64 c.num) ∧ W.cell? ⟨b0, 11, none⟩ = some (.int .i64 c.rp.cd) ∧ W.cell? ⟨b0, 12, none⟩ = some (.int .u64 c.rp.vr) ∧ W.cell? ⟨b0, 13, none⟩ = some (.slice d.rA c.rp.n d.rc) ∧ W.cell? ⟨bx, 0, none⟩ = some (.int .i64 c.rp.cd) ∧ W.cell? ⟨bx, 1, none⟩ = some (.int .u64 c.rp.vr) ∧ W.cell? ⟨bx, 2, none⟩ = some (.slice A1 c.rp.n c1) :=
 ⟨h.cell 10, h.cell 2, h.cell 11, h.cell 12, h.cell 13, k.cell 0, k.cell 1, k.cell 2⟩
theorem same26_s8 {W : World} {c : Cl} {d : DA} {b0 bx c2 : Nat} {A2 : Option Addr} (h : Blk W b0 62 (c.dcells d)) (k : Blk W bx 58 #[.int .i64 c.op.kd, .int .u32 c.op.key, .int .u64 c.op.ver, .slice A2 c.op.n c2, .int .i64 c.op.pick]) : W.cell? ⟨b0, 5, none⟩ = some (.int .i64 c.op.kd) ∧ W.cell? ⟨b0, 6, none⟩ = some (.int .u32 c.op.key) ∧ W.cell? ⟨b0, 7, none⟩ = some (.int .u64 c.op.ver) ∧ W.cell? ⟨b0, 8, none⟩ = some (.slice d.oA c.op.n d.oc) ∧ W.cell? ⟨b0, 9, none⟩ = some (.int .i64 c.op.pick) ∧ W.cell? ⟨b0, 4, none⟩ = some (.slice d.lA d.ln d.lc) ∧ W.cell? ⟨bx, 0, none⟩ = some (.int .i64 c.op.kd) ∧ W.cell? ⟨bx, 1, none⟩ = some (.int .u32 c.op.key) ∧ W.cell? ⟨bx, 2, none⟩ = some (.int .u64 c.op.ver) ∧ W.cell? ⟨bx, 3, none⟩ = some (.slice A2 c.op.n c2) ∧ W.cell? ⟨bx, 4, none⟩ = some (.int .i64 c.op.pick) :=
 ⟨h.cell 5, h.cell 6, h.cell 7, h.cell 8, h.cell 9, h.cell 4, k.cell 0, k.cell 1, k.cell 2, k.cell 3, k.cell 4⟩
theorem same26_any (lo g G q hh cB h i B0 : Nat) (vs : List CV) (N c : Cl) (d : DA) (l : List Cf) (w : World) (a : PSt w lo g G q hh cB h vs N c) (s : DSt w B0 q vs N d l) (b : Bnd vs N i) :
  Calls Tryz.prog 28 #[.pointer (some ⟨g, 0, none⟩), .agg (N.dcells d)] w fun e w' => e = .returned (.bool true) ∧ Below w.heap.size w w' := by
 have hn := a.nrm
 subst hn
 rw [dcells_norm]
 obtain ⟨o, hax, hov⟩ := a.atx
 have hnr : c.rp.n ≤ 1000000 := b.rn
 have hno : c.op.n ≤ 1000000 := b.on
 have hny : c.ly.n ≤ 1000000 := b.yn
 have HA := Lib.hid a.cal
 have HAX := Lib.hid hax
 have HOV := Lib.hid hov
 have HD := Lib.hid s
 have HBN := Lib.hid b
 obtain ⟨b0, hb0⟩ : ∃ b0, b0 = w.heap.size := ⟨_, rfl⟩
 obtain ⟨W1, hW1⟩ : ∃ W1, W1 = w.alloc (.cells (c.dcells d) 62) := ⟨_, rfl⟩
 have HB1 : Hid (Below w.heap.size w W1) := Lib.hid (by rw [hW1]; exact (Below.refl _ _).alloc (Nat.le_refl _) _)
 have HX1 : Hid (Blk W1 b0 62 (c.dcells d)) := Lib.hid (by rw [hW1, hb0]; exact Blk.new _ _ _)
 have HW1 := Lib.hid hW1
 have HB0 := Lib.hid hb0
 clear hW1 hb0 a s b hax hov
 have C1 := Lib.hid (calReply2_any lo g G h vs c W1 (HA.out.below HB1.out) hnr)
 go_enter Tryz.func28, Tryz.ntmps28
 go_upto_region 1 with (fail)
 rw [← HW1.out, ← HB0.out]
 clear HW1
 go_wp2_with (fail)
 refine C1.out.mono ?_
 rintro e w2 ⟨A1, c1, rfl, ho1, hb2⟩
 obtain ⟨gx, hgx⟩ : ∃ gx, gx = w2.heap.size := ⟨_, rfl⟩
 obtain ⟨W2, hW2⟩ : ∃ W2, W2 = w2.alloc (.cells #[.int .i64 c.rp.cd, .int .u64 c.rp.vr, .slice A1 c.rp.n c1] 60) := ⟨_, rfl⟩
 have hb2' : Below w2.heap.size w2 W2 := by rw [hW2]; exact (Below.refl _ _).alloc (Nat.le_refl _) _
 have HB2 : Hid (Below w.heap.size w W2) := Lib.hid (HB1.out.trans ((hb2.trans (hb2'.mono hb2.size)).mono HB1.out.size))
 have HX2 : Hid (Blk W2 b0 62 (c.dcells d)) := Lib.hid (HX1.out.below (hb2.trans (hb2'.mono hb2.size)) HX1.out.lt)
 have HR2 : Hid (Blk W2 gx 60 #[.int .i64 c.rp.cd, .int .u64 c.rp.vr, .slice A1 c.rp.n c1]) := Lib.hid (by rw [hW2, hgx]; exact Blk.new _ _ _)
 have HO2 := Lib.hid (ho1.below hb2')
 have HW2 := Lib.hid hW2
 have HGX := Lib.hid hgx
 have C2 := Lib.hid (calOp_any lo g G h vs c W2 (HA.out.below HB2.out) hno)
 clear hb2 hb2' ho1 hW2 hgx C1 HX1 HB1
 go_upto_region 2 with (fail)
 rw [← HW2.out, ← HGX.out]
 clear HW2 HGX
 go_wp2_with (fail)
 refine C2.out.mono ?_
 rintro e w3 ⟨A2, c2, rfl, ho1, hb2⟩
 obtain ⟨go, hgx⟩ : ∃ go, go = w3.heap.size := ⟨_, rfl⟩
 obtain ⟨W3, hW2⟩ : ∃ W3, W3 = w3.alloc (.cells #[.int .i64 c.op.kd, .int .u32 c.op.key, .int .u64 c.op.ver, .slice A2 c.op.n c2, .int .i64 c.op.pick] 58) := ⟨_, rfl⟩
 have hb2' : Below w3.heap.size w3 W3 := by rw [hW2]; exact (Below.refl _ _).alloc (Nat.le_refl _) _
 have hb23 := hb2.trans (hb2'.mono hb2.size)
 have HB3 : Hid (Below w.heap.size w W3) := Lib.hid (HB2.out.trans (hb23.mono HB2.out.size))
 have HX3 := Lib.hid (HX2.out.below hb23 HX2.out.lt)
 have HR3 := Lib.hid (HR2.out.below hb23 HR2.out.lt)
 have HO3 := Lib.hid (HO2.out.below hb23)
 have HP3 : Hid (Blk W3 go 58 #[.int .i64 c.op.kd, .int .u32 c.op.key, .int .u64 c.op.ver, .slice A2 c.op.n c2, .int .i64 c.op.pick]) := Lib.hid (by rw [hW2, hgx]; exact Blk.new _ _ _)
 have HQ3 := Lib.hid (ho1.below hb2')
 have HW2 := Lib.hid hW2
 have HGX := Lib.hid hgx
 have C3 := Lib.hid (calLast_any lo g G h vs c W3 (HA.out.below HB3.out) hny)
 clear hb2 hb2' ho1 hW2 hgx C2 HX2 HB2 HR2 HO2 hb23
 go_upto_region 3 with (fail)
 rw [← HW2.out, ← HGX.out]
 clear HW2 HGX
 go_wp2_with (fail)
 refine C3.out.mono ?_
 rintro e w4 ⟨A3, c3, rfl, ho1, hb2⟩
 obtain ⟨gy, hgx⟩ : ∃ gy, gy = w4.heap.size := ⟨_, rfl⟩
 obtain ⟨W4, hW2⟩ : ∃ W4, W4 = w4.alloc (.cells #[.int .i64 c.ly.cd, .int .u64 c.ly.vr, .slice A3 c.ly.n c3] 60) := ⟨_, rfl⟩
 have hb2' : Below w4.heap.size w4 W4 := by rw [hW2]; exact (Below.refl _ _).alloc (Nat.le_refl _) _
 have hb23 := hb2.trans (hb2'.mono hb2.size)
 have HB4 : Hid (Below w.heap.size w W4) := Lib.hid (HB3.out.trans (hb23.mono HB3.out.size))
 have HX4 := Lib.hid (HX3.out.below hb23 HX3.out.lt)
 have HR4 := Lib.hid (HR3.out.below hb23 HR3.out.lt)
 have HO4 := Lib.hid (HO3.out.below hb23)
 have HP4 := Lib.hid (HP3.out.below hb23 HP3.out.lt)
 have HQ4 := Lib.hid (HQ3.out.below hb23)
 have HY4 : Hid (Blk W4 gy 60 #[.int .i64 c.ly.cd, .int .u64 c.ly.vr, .slice A3 c.ly.n c3]) := Lib.hid (by rw [hW2, hgx]; exact Blk.new _ _ _)
 have HZ4 := Lib.hid (ho1.below hb2')
 have HW2 := Lib.hid hW2
 have HGX := Lib.hid hgx
 clear hb2 hb2' ho1 hW2 hgx C3 HX3 HB3 HR3 HO3 HP3 HQ3 hb23
 have x14 : W4.cell? ⟨b0, 14, none⟩ = some (.int .u64 c.last) := HX4.out.cell 14
 have x15 : W4.cell? ⟨b0, 15, none⟩ = some (.int .i64 c.ly.cd) := HX4.out.cell 15
 have x16 : W4.cell? ⟨b0, 16, none⟩ = some (.int .u64 c.ly.vr) := HX4.out.cell 16
 have x17 : W4.cell? ⟨b0, 17, none⟩ = some (.slice d.yA c.ly.n d.yc) := HX4.out.cell 17
 have y0 : W4.cell? ⟨gy, 0, none⟩ = some (.int .i64 c.ly.cd) := HY4.out.cell 0
 have y1 : W4.cell? ⟨gy, 1, none⟩ = some (.int .u64 c.ly.vr) := HY4.out.cell 1
 have y2 : W4.cell? ⟨gy, 2, none⟩ = some (.slice A3 c.ly.n c3) := HY4.out.cell 2
 have SM := Lib.hid (same_yes A3 d.yA c.ly.n c.ly.n c3 d.yc W4.heap.size B0 c.lb c.lb W4 (Nat.le_refl _) (Nat.le_trans HD.out.lo HB4.out.size) HZ4.out.reads (HD.out.ly.below (HB4.out.mono HD.out.lo)) (by omega) rfl)
 go_upto_region 4 with (fail)
 rw [← HW2.out, ← HGX.out]
 clear HW2 HGX
 go_wp2_with (fail)
 refine SM.out.mono ?_
 rintro e w5 ⟨rfl, hb5⟩
 go_upto_region 6 with (fail)
 have HB5 := Lib.hid (HB4.out.trans (hb5.mono HB4.out.size))
 have HX5 := Lib.hid (HX4.out.below hb5 HX4.out.lt)
 have HR5 := Lib.hid (HR4.out.below hb5 HR4.out.lt)
 have HO5 := Lib.hid (HO4.out.below hb5)
 have HP5 := Lib.hid (HP4.out.below hb5 HP4.out.lt)
 have HQ5 := Lib.hid (HQ4.out.below hb5)
 clear x14 x15 x16 x17 y0 y1 y2 SM HX4 HR4 HO4 HP4 HQ4 HY4 HZ4 hb5 HB4
 obtain ⟨b1, hb1⟩ : ∃ b1, b1 = (c.st == 1) := ⟨_, rfl⟩
 obtain ⟨b2, hb2⟩ : ∃ b2, b2 = (c.st == 2) := ⟨_, rfl⟩
 have q1 : ((c.st : Int) == 1) = b1 := by rw [hb1, Bool.eq_iff_iff, beq_iff_eq, beq_iff_eq]; omega
 have q2 : ((c.st : Int) == 2) = b2 := by rw [hb2, Bool.eq_iff_iff, beq_iff_eq, beq_iff_eq]; omega
 have q3 : (b1 != b1) = false := by simp
 have q4 : (b2 != b2) = false := by simp
 have hlen : o.length = d.ln := by
  have h1 := HD.out.din.cf.len
  have h2 := congrArg List.length HOV.out
  have h3 := HD.out.ll
  simp only [List.length_map] at h2
  omega
 have BU : Hid (∀ W, Below w5.heap.size w5 W → Calls Tryz.prog 66 #[.pointer (some ⟨g, 0, none⟩)] W fun e w' => e = .returned (.bool b1) ∧ Below W.heap.size W w') := Lib.hid (fun W hb => by rw [hb1]; exact calBusy_any lo g G h vs c W (HA.out.below (HB5.out.trans (hb.mono HB5.out.size))))
 have NU : Hid (∀ W, Below w5.heap.size w5 W → Calls Tryz.prog 67 #[.pointer (some ⟨g, 0, none⟩)] W fun e w' => e = .returned (.int .u64 c.num) ∧ W = w') := Lib.hid (fun W hb => calNum_any lo g G h vs c W (HA.out.below (HB5.out.trans (hb.mono HB5.out.size))))
 have AU : Hid (∀ W, Below w5.heap.size w5 W → Calls Tryz.prog 87 #[.pointer (some ⟨g, 0, none⟩)] W fun e w' => e = .returned (.pointer (some ⟨G, 0, none⟩)) ∧ W = w') := Lib.hid (fun W hb => calAtlas_any lo g G h vs c W (HA.out.below (HB5.out.trans (hb.mono HB5.out.size))))
 have SR : Hid (∀ W, Below w5.heap.size w5 W → Calls Tryz.prog 13 #[.slice A1 c.rp.n c1, .slice d.rA c.rp.n d.rc] W fun e w' => e = .returned (.bool true) ∧ Below W.heap.size W w') := Lib.hid (fun W hb => by
  have hb' := HB5.out.trans (hb.mono HB5.out.size)
  exact same_yes A1 d.rA c.rp.n c.rp.n c1 d.rc W.heap.size B0 c.rb c.rb W (Nat.le_refl _) (Nat.le_trans HD.out.lo hb'.size) (HO5.out.below hb).reads (HD.out.rp.below (hb'.mono HD.out.lo)) (by omega) rfl)
 have SO : Hid (∀ W, Below w5.heap.size w5 W → Calls Tryz.prog 13 #[.slice A2 c.op.n c2, .slice d.oA c.op.n d.oc] W fun e w' => e = .returned (.bool true) ∧ Below W.heap.size W w') := Lib.hid (fun W hb => by
  have hb' := HB5.out.trans (hb.mono HB5.out.size)
  exact same_yes A2 d.oA c.op.n c.op.n c2 d.oc W.heap.size B0 c.op.bs c.op.bs W (Nat.le_refl _) (Nat.le_trans HD.out.lo hb'.size) (HQ5.out.below hb).reads (HD.out.op.rd.below (hb'.mono HD.out.lo)) (by omega) rfl)
 have CF : Hid (∀ W, Below w5.heap.size w5 W → Calls Tryz.prog 88 #[.pointer (some ⟨G, 0, none⟩)] W fun e w' => ∃ (gq : Nat) (o2 : List Cf), e = .returned (.slice (some ⟨gq, 0, none⟩) d.ln d.ln) ∧ CfsIn w' w'.heap.size (some ⟨gq, 0, none⟩) d.ln o2 ∧ o2.map Cf.val = vs ∧ Below W.heap.size W w') := Lib.hid (fun W hb => by
  refine (confs_any lo G q hh cB o W (HAX.out.below (HB5.out.trans (hb.mono HB5.out.size)))).mono ?_
  rintro e w' ⟨o2, he, hcp⟩
  have h1 := hcp.cfs
  rw [hlen] at h1 he
  exact ⟨W.heap.size, o2, he, h1, by rw [hcp.val, List.take_length]; exact HOV.out, hcp.bel⟩)
 have SA : Hid (∀ (W : World) (gq : Nat) (o2 : List Cf), Below w5.heap.size w5 W → CfsIn W W.heap.size (some ⟨gq, 0, none⟩) d.ln o2 → o2.map Cf.val = vs → Calls Tryz.prog 86 #[.slice (some ⟨gq, 0, none⟩) d.ln d.ln, .slice d.lA d.ln d.lc] W fun e w' => e = .returned (.bool true) ∧ Below W.heap.size W w') := Lib.hid (fun W gq o2 hb hc ho => by
  have hb' := HB5.out.trans (hb.mono HB5.out.size)
  have h3 := HD.out.ll
  have h4 := HBN.out.l4
  have h1 := HD.out.din.cf.len
  exact sameAll_any _ d.lA d.ln d.ln d.lc W.heap.size w.heap.size o2 l W hc (HD.out.din.cf.below hb') (by rw [ho, HD.out.val]) (Nat.le_refl _) hb'.size (by omega))
 rw [← hb2]
 clear hb1 hb2 HO5 HQ5 HAX HOV HBN hlen
 refine wp_region_held_drew (S := fun wq => wq.cell? ⟨b0, 10, none⟩ = some (.int .i64 c.st) ∧ wq.cell? ⟨b0, 2, none⟩ = some (.int .u64 c.num) ∧ wq.cell? ⟨b0, 11, none⟩ = some (.int .i64 c.rp.cd) ∧ wq.cell? ⟨b0, 12, none⟩ = some (.int .u64 c.rp.vr) ∧ wq.cell? ⟨b0, 13, none⟩ = some (.slice d.rA c.rp.n d.rc) ∧ wq.cell? ⟨gx, 0, none⟩ = some (.int .i64 c.rp.cd) ∧ wq.cell? ⟨gx, 1, none⟩ = some (.int .u64 c.rp.vr) ∧ wq.cell? ⟨gx, 2, none⟩ = some (.slice A1 c.rp.n c1)) (by kernel_rfl) (same26_s6 HX5.out HR5.out) (fun hHeld => ?_)
 have HBV : Hid (Below w5.heap.size w5 w5.drew) := Lib.hid (Below.refl _ _).drew
 generalize w5.drew = Vd at HBV hHeld ⊢
 refine tkT 0 rfl (v := ?_) ?_ ?_
 rotate_left 1
 ·(intro wq hSw; (try dsimp only at hSw); go_simp; (try with_reducible rfl))
 try simp only [Act.put, pS]
 refine tkT 2 rfl (v := ?_) ?_ ?_
 rotate_left 1
 ·(intro wq hSw; (try dsimp only at hSw); go_simp; (try with_reducible rfl))
 try simp only [Act.put, pS]
 refine tkT 3 rfl (v := ?_) ?_ ?_
 rotate_left 1
 ·(intro wq hSw; (try dsimp only at hSw); go_simp; (try with_reducible rfl))
 try simp only [Act.put, pS]
 refine tkT 4 rfl (v := ?_) ?_ ?_
 rotate_left 1
 ·(intro wq hSw; (try dsimp only at hSw); go_simp; (try with_reducible rfl))
 try simp only [Act.put, pS]
 refine wpAnyH_ready (rs := [1]) (by kernel_rfl) (by simp) ?_
 refine (AllReadyH.cons rfl (fun K hK => ?_) AllReadyH.nil)
 go_simp
 refine (BU.out _ HBV.out).mono ?_
 rintro e x1 ⟨rfl, hb⟩
 replace HBV := Lib.hid (HBV.out.trans (hb.mono HBV.out.size))
 have HS : x1.cell? ⟨b0, 10, none⟩ = some (.int .i64 c.st) ∧ x1.cell? ⟨b0, 2, none⟩ = some (.int .u64 c.num) ∧ x1.cell? ⟨b0, 11, none⟩ = some (.int .i64 c.rp.cd) ∧ x1.cell? ⟨b0, 12, none⟩ = some (.int .u64 c.rp.vr) ∧ x1.cell? ⟨b0, 13, none⟩ = some (.slice d.rA c.rp.n d.rc) ∧ x1.cell? ⟨gx, 0, none⟩ = some (.int .i64 c.rp.cd) ∧ x1.cell? ⟨gx, 1, none⟩ = some (.int .u64 c.rp.vr) ∧ x1.cell? ⟨gx, 2, none⟩ = some (.slice A1 c.rp.n c1) := same26_s6 (HX5.out.below HBV.out HX5.out.lt) (HR5.out.below HBV.out HR5.out.lt)
 clear hb
 refine hK.out _ _ ?_ (fun hHeld => ?_)
 ·first | exact HS | go_keep
 clear hK K
 try simp only [Act.put, pS]
 refine tkT 5 rfl (v := ?_) ?_ ?_
 rotate_left 1
 ·(intro wq hSw; (try dsimp only at hSw); go_simp; (try with_reducible rfl))
 try simp only [Act.put, pS]
 refine tkT 6 rfl (v := ?_) ?_ ?_
 rotate_left 1
 ·(intro wq hSw; (try dsimp only at hSw); go_simp; (try with_reducible rfl))
 try simp only [Act.put, pS]
 refine tkT 7 rfl (v := ?_) ?_ ?_
 rotate_left 1
 ·(intro wq hSw; (try dsimp only at hSw); go_simp; (try with_reducible rfl))
 try simp only [Act.put, pS]
 refine tkT 8 rfl (v := ?_) ?_ ?_
 rotate_left 1
 ·(intro wq hSw; (try dsimp only at hSw); go_simp; (try with_reducible rfl))
 try simp only [Act.put, pS]
 refine tkT 9 rfl (v := ?_) ?_ ?_
 rotate_left 1
 ·(intro wq hSw; (try dsimp only at hSw); go_simp; (try with_reducible rfl))
 try simp only [Act.put, pS]
 refine tkT 10 rfl (v := ?_) ?_ ?_
 rotate_left 1
 ·(intro wq hSw; (try dsimp only at hSw); go_simp; (try with_reducible rfl))
 try simp only [Act.put, pS]
 refine tkT 11 rfl (v := ?_) ?_ ?_
 rotate_left 1
 ·(intro wq hSw; (try dsimp only at hSw); go_simp; (try with_reducible rfl))
 try simp only [Act.put, pS]
 refine tkT 12 rfl (v := ?_) ?_ ?_
 rotate_left 1
 ·(intro wq hSw; (try dsimp only at hSw); go_simp; (try with_reducible rfl))
 try simp only [Act.put, pS]
 refine tkT 13 rfl (v := ?_) ?_ ?_
 rotate_left 1
 ·(intro wq hSw; (try dsimp only at hSw); go_simp; (try with_reducible rfl))
 try simp only [Act.put, pS]
 refine tkT 14 rfl (v := ?_) ?_ ?_
 rotate_left 1
 ·(intro wq hSw; (try dsimp only at hSw); go_simp; (try with_reducible rfl))
 try simp only [Act.put, pS]
 refine tkT 16 rfl (v := ?_) ?_ ?_
 rotate_left 1
 ·(intro wq hSw; (try dsimp only at hSw); go_simp; (try with_reducible rfl))
 try simp only [Act.put, pS]
 refine tkT 17 rfl (v := ?_) ?_ ?_
 rotate_left 1
 ·(intro wq hSw; (try dsimp only at hSw); go_simp; (try with_reducible rfl))
 try simp only [Act.put, pS]
 refine wpAnyH_ready (rs := [15]) (by kernel_rfl) (by simp) ?_
 refine (AllReadyH.cons rfl (fun K hK => ?_) AllReadyH.nil)
 go_simp
 refine (NU.out _ HBV.out).mono ?_
 rintro e x9 ⟨rfl, rfl⟩
 have HS := hHeld
 refine hK.out _ _ ?_ (fun hHeld => ?_)
 ·first | exact HS | go_keep
 clear hK K
 try simp only [Act.put, pS]
 refine tkT 18 rfl (v := ?_) ?_ ?_
 rotate_left 1
 ·(intro wq hSw; (try dsimp only at hSw); go_simp; (try with_reducible rfl))
 try simp only [Act.put, pS]
 refine tkT 19 rfl (v := ?_) ?_ ?_
 rotate_left 1
 ·(intro wq hSw; (try dsimp only at hSw); go_simp; (try with_reducible rfl))
 try simp only [Act.put, pS]
 refine tkT 20 rfl (v := ?_) ?_ ?_
 rotate_left 1
 ·(intro wq hSw; (try dsimp only at hSw); go_simp; (try with_reducible rfl))
 try simp only [Act.put, pS]
 refine tkT 21 rfl (v := ?_) ?_ ?_
 rotate_left 1
 ·(intro wq hSw; (try dsimp only at hSw); go_simp; (try with_reducible rfl))
 try simp only [Act.put, pS]
 refine tkT 22 rfl (v := ?_) ?_ ?_
 rotate_left 1
 ·(intro wq hSw; (try dsimp only at hSw); go_simp; (try with_reducible rfl))
 try simp only [Act.put, pS]
 refine tkT 23 rfl (v := ?_) ?_ ?_
 rotate_left 1
 ·(intro wq hSw; (try dsimp only at hSw); go_simp; (try with_reducible rfl))
 try simp only [Act.put, pS]
 refine tkT 24 rfl (v := ?_) ?_ ?_
 rotate_left 1
 ·(intro wq hSw; (try dsimp only at hSw); go_simp; (try with_reducible rfl))
 try simp only [Act.put, pS]
 refine tkT 25 rfl (v := ?_) ?_ ?_
 rotate_left 1
 ·(intro wq hSw; (try dsimp only at hSw); go_simp; (try with_reducible rfl))
 try simp only [Act.put, pS]
 refine tkT 26 rfl (v := ?_) ?_ ?_
 rotate_left 1
 ·(intro wq hSw; (try dsimp only at hSw); go_simp; (try with_reducible rfl))
 try simp only [Act.put, pS]
 refine tkT 27 rfl (v := ?_) ?_ ?_
 rotate_left 1
 ·(intro wq hSw; (try dsimp only at hSw); go_simp; (try with_reducible rfl))
 try simp only [Act.put, pS]
 refine tkT 28 rfl (v := ?_) ?_ ?_
 rotate_left 1
 ·(intro wq hSw; (try dsimp only at hSw); go_simp; (try with_reducible rfl))
 try simp only [Act.put, pS]
 refine tkT 29 rfl (v := ?_) ?_ ?_
 rotate_left 1
 ·(intro wq hSw; (try dsimp only at hSw); go_simp; (try with_reducible rfl))
 try simp only [Act.put, pS]
 refine tkT 30 rfl (v := ?_) ?_ ?_
 rotate_left 1
 ·(intro wq hSw; (try dsimp only at hSw); go_simp; (try with_reducible rfl))
 try simp only [Act.put, pS]
 refine tkT 31 rfl (v := ?_) ?_ ?_
 rotate_left 1
 ·(intro wq hSw; (try dsimp only at hSw); go_simp; (try with_reducible rfl))
 try simp only [Act.put, pS]
 refine tkT 32 rfl (v := ?_) ?_ ?_
 rotate_left 1
 ·(intro wq hSw; (try dsimp only at hSw); go_simp; (try with_reducible rfl))
 try simp only [Act.put, pS]
 refine tkT 33 rfl (v := ?_) ?_ ?_
 rotate_left 1
 ·(intro wq hSw; (try dsimp only at hSw); go_simp; (try with_reducible rfl))
 try simp only [Act.put, pS]
 refine tkT 34 rfl (v := ?_) ?_ ?_
 rotate_left 1
 ·(intro wq hSw; (try dsimp only at hSw); go_simp; (try with_reducible rfl))
 try simp only [Act.put, pS]
 refine tkT 35 rfl (v := ?_) ?_ ?_
 rotate_left 1
 ·(intro wq hSw; (try dsimp only at hSw); go_simp; (try with_reducible rfl))
 try simp only [Act.put, pS]
 refine tkT 36 rfl (v := ?_) ?_ ?_
 rotate_left 1
 ·(intro wq hSw; (try dsimp only at hSw); go_simp; (try with_reducible rfl))
 try simp only [Act.put, pS]
 refine tkT 37 rfl (v := ?_) ?_ ?_
 rotate_left 1
 ·(intro wq hSw; (try dsimp only at hSw); go_simp; (try with_reducible rfl))
 try simp only [Act.put, pS]
 refine tkT 38 rfl (v := ?_) ?_ ?_
 rotate_left 1
 ·(intro wq hSw; (try dsimp only at hSw); go_simp; (try with_reducible rfl))
 try simp only [Act.put, pS]
 refine tkT 39 rfl (v := ?_) ?_ ?_
 rotate_left 1
 ·(intro wq hSw; (try dsimp only at hSw); go_simp; (try with_reducible rfl))
 try simp only [Act.put, pS]
 refine tkT 40 rfl (v := ?_) ?_ ?_
 rotate_left 1
 ·(intro wq hSw; (try dsimp only at hSw); go_simp; (try with_reducible rfl))
 try simp only [Act.put, pS]
 refine tkT 41 rfl (v := ?_) ?_ ?_
 rotate_left 1
 ·(intro wq hSw; (try dsimp only at hSw); go_simp; (try with_reducible rfl))
 try simp only [Act.put, pS]
 refine wpAnyH_ready (rs := [42]) (by kernel_rfl) (by simp) ?_
 refine (AllReadyH.cons rfl (fun K hK => ?_) AllReadyH.nil)
 go_simp
 refine (SR.out _ HBV.out).mono ?_
 rintro e w6 ⟨rfl, hb⟩
 replace HBV := Lib.hid (HBV.out.trans (hb.mono HBV.out.size))
 have HS : w6.cell? ⟨b0, 10, none⟩ = some (.int .i64 c.st) ∧ w6.cell? ⟨b0, 2, none⟩ = some (.int .u64 c.num) ∧ w6.cell? ⟨b0, 11, none⟩ = some (.int .i64 c.rp.cd) ∧ w6.cell? ⟨b0, 12, none⟩ = some (.int .u64 c.rp.vr) ∧ w6.cell? ⟨b0, 13, none⟩ = some (.slice d.rA c.rp.n d.rc) ∧ w6.cell? ⟨gx, 0, none⟩ = some (.int .i64 c.rp.cd) ∧ w6.cell? ⟨gx, 1, none⟩ = some (.int .u64 c.rp.vr) ∧ w6.cell? ⟨gx, 2, none⟩ = some (.slice A1 c.rp.n c1) := same26_s6 (HX5.out.below HBV.out HX5.out.lt) (HR5.out.below HBV.out HR5.out.lt)
 clear hb
 refine hK.out _ _ ?_ (fun hHeld => ?_)
 ·first | exact HS | go_keep
 clear hK K
 try simp only [Act.put, pS]
 refine tkT 43 rfl (v := ?_) ?_ ?_
 rotate_left 1
 ·(intro wq hSw; (try dsimp only at hSw); go_simp; (try with_reducible rfl))
 try simp only [Act.put, pS]
 refine tkT 44 rfl (v := ?_) ?_ ?_
 rotate_left 1
 ·(intro wq hSw; (try dsimp only at hSw); go_simp; (try with_reducible rfl))
 try simp only [Act.put, pS]
 refine wpAnyH_done (by kernel_rfl) ?_ _
 skip
 clear hHeld BU NU SR
 go_upto_region 8 with (fail)
 refine wp_region_held_drew (S := fun wq => wq.cell? ⟨b0, 5, none⟩ = some (.int .i64 c.op.kd) ∧ wq.cell? ⟨b0, 6, none⟩ = some (.int .u32 c.op.key) ∧ wq.cell? ⟨b0, 7, none⟩ = some (.int .u64 c.op.ver) ∧ wq.cell? ⟨b0, 8, none⟩ = some (.slice d.oA c.op.n d.oc) ∧ wq.cell? ⟨b0, 9, none⟩ = some (.int .i64 c.op.pick) ∧ wq.cell? ⟨b0, 4, none⟩ = some (.slice d.lA d.ln d.lc) ∧ wq.cell? ⟨go, 0, none⟩ = some (.int .i64 c.op.kd) ∧ wq.cell? ⟨go, 1, none⟩ = some (.int .u32 c.op.key) ∧ wq.cell? ⟨go, 2, none⟩ = some (.int .u64 c.op.ver) ∧ wq.cell? ⟨go, 3, none⟩ = some (.slice A2 c.op.n c2) ∧ wq.cell? ⟨go, 4, none⟩ = some (.int .i64 c.op.pick)) (by kernel_rfl) (same26_s8 (W := w6) (HX5.out.below HBV.out HX5.out.lt) (HP5.out.below HBV.out HP5.out.lt)) (fun hHeld => ?_)
 have HBV2 : Hid (Below w5.heap.size w5 w6.drew) := Lib.hid HBV.out.drew
 clear HBV
 generalize w6.drew = Ve at HBV2 hHeld ⊢
 refine tkT 0 rfl (v := ?_) ?_ ?_
 rotate_left 1
 ·(intro wq hSw; (try dsimp only at hSw); go_simp; (try with_reducible rfl))
 try simp only [Act.put, pS]
 refine tkT 1 rfl (v := ?_) ?_ ?_
 rotate_left 1
 ·(intro wq hSw; (try dsimp only at hSw); go_simp; (try with_reducible rfl))
 try simp only [Act.put, pS]
 refine tkT 2 rfl (v := ?_) ?_ ?_
 rotate_left 1
 ·(intro wq hSw; (try dsimp only at hSw); go_simp; (try with_reducible rfl))
 try simp only [Act.put, pS]
 refine tkT 3 rfl (v := ?_) ?_ ?_
 rotate_left 1
 ·(intro wq hSw; (try dsimp only at hSw); go_simp; (try with_reducible rfl))
 try simp only [Act.put, pS]
 refine tkT 4 rfl (v := ?_) ?_ ?_
 rotate_left 1
 ·(intro wq hSw; (try dsimp only at hSw); go_simp; (try with_reducible rfl))
 try simp only [Act.put, pS]
 refine tkT 5 rfl (v := ?_) ?_ ?_
 rotate_left 1
 ·(intro wq hSw; (try dsimp only at hSw); go_simp; (try with_reducible rfl))
 try simp only [Act.put, pS]
 refine tkT 6 rfl (v := ?_) ?_ ?_
 rotate_left 1
 ·(intro wq hSw; (try dsimp only at hSw); go_simp; (try with_reducible rfl))
 try simp only [Act.put, pS]
 refine tkT 7 rfl (v := ?_) ?_ ?_
 rotate_left 1
 ·(intro wq hSw; (try dsimp only at hSw); go_simp; (try with_reducible rfl))
 try simp only [Act.put, pS]
 refine tkT 8 rfl (v := ?_) ?_ ?_
 rotate_left 1
 ·(intro wq hSw; (try dsimp only at hSw); go_simp; (try with_reducible rfl))
 try simp only [Act.put, pS]
 refine tkT 9 rfl (v := ?_) ?_ ?_
 rotate_left 1
 ·(intro wq hSw; (try dsimp only at hSw); go_simp; (try with_reducible rfl))
 try simp only [Act.put, pS]
 refine tkT 10 rfl (v := ?_) ?_ ?_
 rotate_left 1
 ·(intro wq hSw; (try dsimp only at hSw); go_simp; (try with_reducible rfl))
 try simp only [Act.put, pS]
 refine tkT 11 rfl (v := ?_) ?_ ?_
 rotate_left 1
 ·(intro wq hSw; (try dsimp only at hSw); go_simp; (try with_reducible rfl))
 try simp only [Act.put, pS]
 refine tkT 12 rfl (v := ?_) ?_ ?_
 rotate_left 1
 ·(intro wq hSw; (try dsimp only at hSw); go_simp; (try with_reducible rfl))
 try simp only [Act.put, pS]
 refine tkT 13 rfl (v := ?_) ?_ ?_
 rotate_left 1
 ·(intro wq hSw; (try dsimp only at hSw); go_simp; (try with_reducible rfl))
 try simp only [Act.put, pS]
 refine tkT 14 rfl (v := ?_) ?_ ?_
 rotate_left 1
 ·(intro wq hSw; (try dsimp only at hSw); go_simp; (try with_reducible rfl))
 try simp only [Act.put, pS]
 refine tkT 15 rfl (v := ?_) ?_ ?_
 rotate_left 1
 ·(intro wq hSw; (try dsimp only at hSw); go_simp; (try with_reducible rfl))
 try simp only [Act.put, pS]
 refine tkT 16 rfl (v := ?_) ?_ ?_
 rotate_left 1
 ·(intro wq hSw; (try dsimp only at hSw); go_simp; (try with_reducible rfl))
 try simp only [Act.put, pS]
 refine tkT 17 rfl (v := ?_) ?_ ?_
 rotate_left 1
 ·(intro wq hSw; (try dsimp only at hSw); go_simp; (try with_reducible rfl))
 try simp only [Act.put, pS]
 refine tkT 18 rfl (v := ?_) ?_ ?_
 rotate_left 1
 ·(intro wq hSw; (try dsimp only at hSw); go_simp; (try with_reducible rfl))
 try simp only [Act.put, pS]
 refine tkT 19 rfl (v := ?_) ?_ ?_
 rotate_left 1
 ·(intro wq hSw; (try dsimp only at hSw); go_simp; (try with_reducible rfl))
 try simp only [Act.put, pS]
 refine tkT 20 rfl (v := ?_) ?_ ?_
 rotate_left 1
 ·(intro wq hSw; (try dsimp only at hSw); go_simp; (try with_reducible rfl))
 try simp only [Act.put, pS]
 refine tkT 21 rfl (v := ?_) ?_ ?_
 rotate_left 1
 ·(intro wq hSw; (try dsimp only at hSw); go_simp; (try with_reducible rfl))
 try simp only [Act.put, pS]
 refine tkT 22 rfl (v := ?_) ?_ ?_
 rotate_left 1
 ·(intro wq hSw; (try dsimp only at hSw); go_simp; (try with_reducible rfl))
 try simp only [Act.put, pS]
 refine tkT 23 rfl (v := ?_) ?_ ?_
 rotate_left 1
 ·(intro wq hSw; (try dsimp only at hSw); go_simp; (try with_reducible rfl))
 try simp only [Act.put, pS]
 refine tkT 24 rfl (v := ?_) ?_ ?_
 rotate_left 1
 ·(intro wq hSw; (try dsimp only at hSw); go_simp; (try with_reducible rfl))
 try simp only [Act.put, pS]
 refine tkT 25 rfl (v := ?_) ?_ ?_
 rotate_left 1
 ·(intro wq hSw; (try dsimp only at hSw); go_simp; (try with_reducible rfl))
 try simp only [Act.put, pS]
 refine tkT 26 rfl (v := ?_) ?_ ?_
 rotate_left 1
 ·(intro wq hSw; (try dsimp only at hSw); go_simp; (try with_reducible rfl))
 try simp only [Act.put, pS]
 refine tkT 27 rfl (v := ?_) ?_ ?_
 rotate_left 1
 ·(intro wq hSw; (try dsimp only at hSw); go_simp; (try with_reducible rfl))
 try simp only [Act.put, pS]
 refine tkT 28 rfl (v := ?_) ?_ ?_
 rotate_left 1
 ·(intro wq hSw; (try dsimp only at hSw); go_simp; (try with_reducible rfl))
 try simp only [Act.put, pS]
 refine tkT 29 rfl (v := ?_) ?_ ?_
 rotate_left 1
 ·(intro wq hSw; (try dsimp only at hSw); go_simp; (try with_reducible rfl))
 try simp only [Act.put, pS]
 refine tkT 30 rfl (v := ?_) ?_ ?_
 rotate_left 1
 ·(intro wq hSw; (try dsimp only at hSw); go_simp; (try with_reducible rfl))
 try simp only [Act.put, pS]
 refine tkT 31 rfl (v := ?_) ?_ ?_
 rotate_left 1
 ·(intro wq hSw; (try dsimp only at hSw); go_simp; (try with_reducible rfl))
 try simp only [Act.put, pS]
 refine tkT 32 rfl (v := ?_) ?_ ?_
 rotate_left 1
 ·(intro wq hSw; (try dsimp only at hSw); go_simp; (try with_reducible rfl))
 try simp only [Act.put, pS]
 refine tkT 33 rfl (v := ?_) ?_ ?_
 rotate_left 1
 ·(intro wq hSw; (try dsimp only at hSw); go_simp; (try with_reducible rfl))
 try simp only [Act.put, pS]
 refine tkT 34 rfl (v := ?_) ?_ ?_
 rotate_left 1
 ·(intro wq hSw; (try dsimp only at hSw); go_simp; (try with_reducible rfl))
 try simp only [Act.put, pS]
 refine tkT 35 rfl (v := ?_) ?_ ?_
 rotate_left 1
 ·(intro wq hSw; (try dsimp only at hSw); go_simp; (try with_reducible rfl))
 try simp only [Act.put, pS]
 refine wpAnyH_ready (rs := [36]) (by kernel_rfl) (by simp) ?_
 refine (AllReadyH.cons rfl (fun K hK => ?_) AllReadyH.nil)
 go_simp
 refine (SO.out _ HBV2.out).mono ?_
 rintro e x1 ⟨rfl, hb⟩
 replace HBV2 := Lib.hid (HBV2.out.trans (hb.mono HBV2.out.size))
 have HS : x1.cell? ⟨b0, 5, none⟩ = some (.int .i64 c.op.kd) ∧ x1.cell? ⟨b0, 6, none⟩ = some (.int .u32 c.op.key) ∧ x1.cell? ⟨b0, 7, none⟩ = some (.int .u64 c.op.ver) ∧ x1.cell? ⟨b0, 8, none⟩ = some (.slice d.oA c.op.n d.oc) ∧ x1.cell? ⟨b0, 9, none⟩ = some (.int .i64 c.op.pick) ∧ x1.cell? ⟨b0, 4, none⟩ = some (.slice d.lA d.ln d.lc) ∧ x1.cell? ⟨go, 0, none⟩ = some (.int .i64 c.op.kd) ∧ x1.cell? ⟨go, 1, none⟩ = some (.int .u32 c.op.key) ∧ x1.cell? ⟨go, 2, none⟩ = some (.int .u64 c.op.ver) ∧ x1.cell? ⟨go, 3, none⟩ = some (.slice A2 c.op.n c2) ∧ x1.cell? ⟨go, 4, none⟩ = some (.int .i64 c.op.pick) := same26_s8 (HX5.out.below HBV2.out HX5.out.lt) (HP5.out.below HBV2.out HP5.out.lt)
 clear hb
 refine hK.out _ _ ?_ (fun hHeld => ?_)
 ·first | exact HS | go_keep
 clear hK K
 try simp only [Act.put, pS]
 refine tkT 37 rfl (v := ?_) ?_ ?_
 rotate_left 1
 ·(intro wq hSw; (try dsimp only at hSw); go_simp; (try with_reducible rfl))
 try simp only [Act.put, pS]
 refine tkT 38 rfl (v := ?_) ?_ ?_
 rotate_left 1
 ·(intro wq hSw; (try dsimp only at hSw); go_simp; (try with_reducible rfl))
 try simp only [Act.put, pS]
 refine tkT 39 rfl (v := ?_) ?_ ?_
 rotate_left 1
 ·(intro wq hSw; (try dsimp only at hSw); go_simp; (try with_reducible rfl))
 try simp only [Act.put, pS]
 refine tkT 42 rfl (v := ?_) ?_ ?_
 rotate_left 1
 ·(intro wq hSw; (try dsimp only at hSw); go_simp; (try with_reducible rfl))
 try simp only [Act.put, pS]
 refine tkT 43 rfl (v := ?_) ?_ ?_
 rotate_left 1
 ·(intro wq hSw; (try dsimp only at hSw); go_simp; (try with_reducible rfl))
 try simp only [Act.put, pS]
 refine wpAnyH_ready (rs := [40]) (by kernel_rfl) (by simp) ?_
 refine (AllReadyH.cons rfl (fun K hK => ?_) AllReadyH.nil)
 go_simp
 refine (AU.out _ HBV2.out).mono ?_
 rintro e x9 ⟨rfl, rfl⟩
 have HS := hHeld
 refine hK.out _ _ ?_ (fun hHeld => ?_)
 ·first | exact HS | go_keep
 clear hK K
 try simp only [Act.put, pS]
 refine wpAnyH_ready (rs := [41]) (by kernel_rfl) (by simp) ?_
 refine (AllReadyH.cons rfl (fun K hK => ?_) AllReadyH.nil)
 go_simp
 refine (CF.out _ HBV2.out).mono ?_
 rintro e x2 ⟨gq, o2, rfl, hc2, hv2, hb⟩
 replace HBV2 := Lib.hid (HBV2.out.trans (hb.mono HBV2.out.size))
 have HC2 := Lib.hid hc2
 have HV2 := Lib.hid hv2
 have HS : x2.cell? ⟨b0, 5, none⟩ = some (.int .i64 c.op.kd) ∧ x2.cell? ⟨b0, 6, none⟩ = some (.int .u32 c.op.key) ∧ x2.cell? ⟨b0, 7, none⟩ = some (.int .u64 c.op.ver) ∧ x2.cell? ⟨b0, 8, none⟩ = some (.slice d.oA c.op.n d.oc) ∧ x2.cell? ⟨b0, 9, none⟩ = some (.int .i64 c.op.pick) ∧ x2.cell? ⟨b0, 4, none⟩ = some (.slice d.lA d.ln d.lc) ∧ x2.cell? ⟨go, 0, none⟩ = some (.int .i64 c.op.kd) ∧ x2.cell? ⟨go, 1, none⟩ = some (.int .u32 c.op.key) ∧ x2.cell? ⟨go, 2, none⟩ = some (.int .u64 c.op.ver) ∧ x2.cell? ⟨go, 3, none⟩ = some (.slice A2 c.op.n c2) ∧ x2.cell? ⟨go, 4, none⟩ = some (.int .i64 c.op.pick) := same26_s8 (HX5.out.below HBV2.out HX5.out.lt) (HP5.out.below HBV2.out HP5.out.lt)
 clear hb hc2 hv2
 refine hK.out _ _ ?_ (fun hHeld => ?_)
 ·first | exact HS | go_keep
 clear hK K
 try simp only [Act.put, pS]
 refine wpAnyH_ready (rs := [44]) (by kernel_rfl) (by simp) ?_
 refine (AllReadyH.cons rfl (fun K hK => ?_) AllReadyH.nil)
 go_simp
 refine (SA.out _ gq o2 HBV2.out HC2.out HV2.out).mono ?_
 rintro e x3 ⟨rfl, hb⟩
 replace HBV2 := Lib.hid (HBV2.out.trans (hb.mono HBV2.out.size))
 have HS : x3.cell? ⟨b0, 5, none⟩ = some (.int .i64 c.op.kd) ∧ x3.cell? ⟨b0, 6, none⟩ = some (.int .u32 c.op.key) ∧ x3.cell? ⟨b0, 7, none⟩ = some (.int .u64 c.op.ver) ∧ x3.cell? ⟨b0, 8, none⟩ = some (.slice d.oA c.op.n d.oc) ∧ x3.cell? ⟨b0, 9, none⟩ = some (.int .i64 c.op.pick) ∧ x3.cell? ⟨b0, 4, none⟩ = some (.slice d.lA d.ln d.lc) ∧ x3.cell? ⟨go, 0, none⟩ = some (.int .i64 c.op.kd) ∧ x3.cell? ⟨go, 1, none⟩ = some (.int .u32 c.op.key) ∧ x3.cell? ⟨go, 2, none⟩ = some (.int .u64 c.op.ver) ∧ x3.cell? ⟨go, 3, none⟩ = some (.slice A2 c.op.n c2) ∧ x3.cell? ⟨go, 4, none⟩ = some (.int .i64 c.op.pick) := same26_s8 (HX5.out.below HBV2.out HX5.out.lt) (HP5.out.below HBV2.out HP5.out.lt)
 clear hb
 refine hK.out _ _ ?_ (fun hHeld => ?_)
 ·first | exact HS | go_keep
 clear hK K
 try simp only [Act.put, pS]
 refine tkT 45 rfl (v := ?_) ?_ ?_
 rotate_left 1
 ·(intro wq hSw; (try dsimp only at hSw); go_simp; (try with_reducible rfl))
 try simp only [Act.put, pS]
 refine tkT 46 rfl (v := ?_) ?_ ?_
 rotate_left 1
 ·(intro wq hSw; (try dsimp only at hSw); go_simp; (try with_reducible rfl))
 try simp only [Act.put, pS]
 refine wpAnyH_done (by kernel_rfl) ?_ _
 skip
 go_wp2_with (fail)
 go_ret
 exact ⟨rfl, HB5.out.trans (HBV2.out.mono HB5.out.size)⟩
end Go.Proofs.YtmpedblelnpjdaaGreatDoor
