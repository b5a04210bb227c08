/- The walk of RoleChain. -/
import Derived.Test.YthahcpanekdbaaaRolH
import Derived.Laws.StructEq
namespace Go.Proofs.Ythahcpanekdbaaa
open Go.RowKit
set_option linter.unusedSimpArgs false
set_option linter.unusedVariables false
attribute [local go_sem] Cf.agg Cf.cells Rl.agg Rl.cells

set_option maxHeartbeats 40000000 in
set_option maxRecDepth 100000 in
theorem roleChain_law (x : Cf) (w : World) (hx : CfIn w w.heap.size x) :
    Calls Try.prog 3 #[x.agg] w fun e w' => e = .returned (.bool true) ∧ Below w.heap.size w w' := by
  obtain ⟨B, hBe⟩ : ∃ B, B = w.heap.size := ⟨_, rfl⟩
  have hB : B ≤ w.heap.size := by omega
  have HX : Hid (CfIn w B x) := Lib.hid (by rw [hBe]; exact hx)
  have hl := hx.len_eq
  clear hx hBe
  have O1 : ∀ (r : Rl) {n : Int}, x.role n = r → ∀ w, CfIn w B x → B ≤ w.heap.size → Calls Try.prog 7 #[x.agg, .int .i64 n] w fun e w' => e = .returned r.agg ∧ Below w.heap.size w w' := fun r n h w a b => by
    rw [← h]; exact of_any x n B w a b
  have O3 : ∀ (r : Rl) {n : Int}, x.role n = r → ∀ (v : Value), v = x.agg → ∀ w, CfIn w B x → B ≤ w.heap.size → Calls Try.prog 7 #[v, .int .i64 n] w fun e w' => e = .returned r.agg ∧ Below w.heap.size w w' := fun r n h v hv w a b => by
    rw [← h, hv]; exact of_any x n B w a b
  cases hR : x.right
  · have hz : Hid (x.role 1 = ⟨false, false, false, false, false, 0, 0, 0⟩) := Lib.hid (by rw [Cf.role, if_neg (by simp [hR])]; rfl)
    go_enter Try.func3, Try.ntmps3
    go_wp2_with (fail)
    refine (refRight_any x B _ (HX.out.alloc hB _) (by simp; omega)).mono ?_
    rintro e w1 ⟨rfl, h⟩
    have HB := Lib.hid (box_below h)
    have HBX := Lib.hid ((Blk.new w 25 x.cells).below h (by simp))
    clear h
    obtain ⟨c0, c1, c2, c3, c4⟩ := cf_cells (x := x) HBX.out
    go_wp2_with (fail)
    refine (O1 _ hz.out _ (HX.out.below (HB.out.mono hB)) (Nat.le_trans hB HB.out.size)).mono ?_
    rintro e w2 ⟨rfl, h⟩
    have HB2 := Lib.hid (HB.out.trans (h.mono HB.out.size))
    clear h c0 c1 c2 c3 c4
    go_wp2_with (fail)
    refine (awake_any _).mono ?_
    rintro e w6 ⟨rfl, h⟩
    have H6 := Lib.hid (HB2.out.trans (h.mono HB2.out.size))
    clear h
    go_wp2
    go_ret
    exact ⟨rfl, H6.out⟩
  have hf := Cf.right_fine hR
  have hlen := hf.1.2.2.1
  have HF := Lib.hid hf.2
  have HL := Lib.hid hl
  have fd5 : ∀ (a b c d e : Bool) (p q s : Int) (w : World), (Instr.field 28 (.agg #[.bool a, .bool b, .bool c, .bool d, .bool e, .int .i64 p, .int .i64 q, .int .i64 s]) 5).run Try.prog w = .ok (.int .i64 p) w := fun _ _ _ _ _ _ _ _ _ => by kernel_rfl
  have fd6 : ∀ (a b c d e : Bool) (p q s : Int) (w : World), (Instr.field 28 (.agg #[.bool a, .bool b, .bool c, .bool d, .bool e, .int .i64 p, .int .i64 q, .int .i64 s]) 6).run Try.prog w = .ok (.int .i64 q) w := fun _ _ _ _ _ _ _ _ _ => by kernel_rfl
  have fd7 : ∀ (a b c d e : Bool) (p q s : Int) (w : World), (Instr.field 28 (.agg #[.bool a, .bool b, .bool c, .bool d, .bool e, .int .i64 p, .int .i64 q, .int .i64 s]) 7).run Try.prog w = .ok (.int .i64 s) w := fun _ _ _ _ _ _ _ _ _ => by kernel_rfl
  go_enter Try.func3, Try.ntmps3
  go_wp2_with (fail)
  refine (refRight_any x B _ (HX.out.alloc hB _) (by simp; omega)).mono ?_
  rintro e w1 ⟨rfl, h⟩
  have HB := Lib.hid (box_below h)
  have HBX := Lib.hid ((Blk.new w 25 x.cells).below h (by simp))
  have HR := Lib.hid hR
  clear h hf hl
  go_wp2_with (fail)
  go_loopw [3, 4, 5, 6, 7] (fun ha ta ia na _ wr => ∃ (k : Nat) (a b c : Int), k ≤ 24 ∧ (0 ≤ a ∧ a ≤ k) ∧ (0 ≤ b ∧ b ≤ k) ∧ (0 ≤ c ∧ c ≤ k) ∧ na = .int .i64 (k + 1) ∧ ha = .int .i64 a ∧ ta = .int .i64 b ∧ ia = .int .i64 c ∧
    Hid (a = cnt1 (x.zs.getD 0 0) k) ∧ Hid (b = cnt1 x.last k) ∧ Hid (c = cntI x.zs k) ∧ Hid (Below w.heap.size w wr) ∧ Hid (Blk wr w.heap.size 25 x.cells)) (fun _ _ _ na _ _ => 30 - (intOf na).toNat)
  case atStart =>
    refine ⟨0, 0, 0, 0, by omega, by omega, by omega, by omega, rfl, rfl, rfl, rfl, Lib.hid ?_, Lib.hid ?_, Lib.hid ?_, HB, HBX⟩
    · have := (nodeB_iff _).1 (unl_at HF.out (i := 0) (by rw [HL.out]; omega))
      unfold cnt1; rw [if_neg (by show ¬ _ ≤ (0 : Int); omega)]; rfl
    · have := (nodeB_iff _).1 (unl_at HF.out (i := x.len - 1) (by rw [HL.out]; omega))
      unfold cnt1 Cf.last; rw [if_neg (by show ¬ _ ≤ (0 : Int); omega)]; rfl
    · rw [cnt_zero _ (fun z hz => (unl_mem HF.out hz).1)]; rfl
  case round =>
    clear HB HBX
    obtain ⟨k, a, b, c, hk, hab, hbb, hcb, rfl, rfl, rfl, rfl, hca, hcb2, hcc, HB, HBX⟩ := hrel
    obtain ⟨c0, c1, c2, c3, c4⟩ := cf_cells (x := x) HBX.out
    have q5 := HBX.out.lt
    by_cases hlt : k < 24
    · have hlt' : (k : Int) + 1 ≤ 24 := by omega
      have S1 := cnt1_step (x.zs.getD 0 0) k
      have S2 := cnt1_step x.last k
      have S3 := cnt_step x.zs k (unl_nodup HF.out)
      have hz0 : x.zs.getD 0 0 ∈ x.zs := (unl_idx HF.out (by rw [HL.out]; omega)).1
      have hzl : x.last ∈ x.zs := (unl_idx HF.out (i := x.len - 1) (by rw [HL.out]; omega)).1
      rcases role_cases HR.out HL.out ((k : Int) + 1) (by omega) with ⟨hn, hj, hr⟩ | ⟨hn, hj, hr, hu, hps⟩ | ⟨i, p, s, hi, hn, hr, hp, hs, hps, hss⟩
      · have ha1 : Hid (a = cnt1 (x.zs.getD 0 0) (k + 1)) := Lib.hid (by rw [S1, if_neg (fun e => hn (by rw [e]; exact hz0)), Nat.add_zero]; exact hca.out)
        have hb1 : Hid (b = cnt1 x.last (k + 1)) := Lib.hid (by rw [S2, if_neg (fun e => hn (by rw [e]; exact hzl)), Nat.add_zero]; exact hcb2.out)
        have hc1 : Hid (c = cntI x.zs (k + 1)) := Lib.hid (by rw [S3, if_neg hn, Nat.add_zero]; exact hcc.out)
        have hr : x.role ((k : Int) + 1) = ⟨false, false, false, false, false, 0, 0, 0⟩ := hr
        clear S1 S2 S3 hz0 hzl hn hj hca hcb2 hcc
        go_wp2_with (fail)
        refine (O1 (⟨false, false, false, false, false, 0, 0, 0⟩) hr _ (HX.out.below (HB.out.mono hB)) (Nat.le_trans hB HB.out.size)).mono ?_
        rintro e w2 ⟨rfl, h⟩
        have HB2 := Lib.hid (HB.out.trans (h.mono HB.out.size))
        have HBX2 := Lib.hid (HBX.out.below h HBX.out.lt)
        clear h c0 c1 c2 c3 c4 q5
        obtain ⟨c0, c1, c2, c3, c4⟩ := cf_cells (x := x) HBX2.out
        have q5 := HBX2.out.lt
        go_wp2_with (fail)
        go_roundw
        case rel => exact ⟨k + 1, _, _, _, by omega, by omega, by omega, by omega, by go_num, rfl, rfl, rfl, ha1, hb1, hc1, Lib.hid (HB2.out.alloc HB2.out.size _), Lib.hid (HBX2.out.alloc _)⟩
        case measure => simp [intOf]; omega
      · have ha1 : Hid (a = cnt1 (x.zs.getD 0 0) (k + 1)) := Lib.hid (by rw [S1, if_neg (fun e => hn (by rw [e]; exact hz0)), Nat.add_zero]; exact hca.out)
        have hb1 : Hid (b = cnt1 x.last (k + 1)) := Lib.hid (by rw [S2, if_neg (fun e => hn (by rw [e]; exact hzl)), Nat.add_zero]; exact hcb2.out)
        have hc1 : Hid (c = cntI x.zs (k + 1)) := Lib.hid (by rw [S3, if_neg hn, Nat.add_zero]; exact hcc.out)
        clear S1 S2 S3 hz0 hzl hn hj hca hcb2 hcc
        generalize x.last = u at *
        have hu' : (u != 0) = true := by simpa using hu
        have hps' : ((x.role u).succ != (k : Int) + 1) = false := by simpa using hps
        have HRR := Lib.hid hr
        clear hr hu hps
        have hr := HRR.out
        clear HRR
        have HRR := Lib.hid hr
        clear hr
        go_wp2_with (fail)
        refine (O1 (⟨false, true, false, false, true, 0, u, 0⟩) HRR.out _ (HX.out.below (HB.out.mono hB)) (Nat.le_trans hB HB.out.size)).mono ?_
        rintro e w2 ⟨rfl, h⟩
        have HB2 := Lib.hid (HB.out.trans (h.mono HB.out.size))
        have HBX2 := Lib.hid (HBX.out.below h HBX.out.lt)
        clear h c0 c1 c2 c3 c4 q5
        obtain ⟨c0, c1, c2, c3, c4⟩ := cf_cells (x := x) HBX2.out
        have q5 := HBX2.out.lt
        go_wp2_with (fail)
        refine (of_any x u B _ ((HX.out.below (HB2.out.mono hB)).alloc (Nat.le_trans hB HB2.out.size) _) (Nat.le_trans (Nat.le_trans hB HB2.out.size) (by simp))).mono ?_
        rintro e w3 ⟨rfl, h⟩
        have HB3 := Lib.hid (HB2.out.trans ((box_below h).mono HB2.out.size))
        have HBX3 := Lib.hid (HBX2.out.below (box_below h) HBX2.out.lt)
        have HRB := Lib.hid ((Blk.new w2 28 (Rl.cells (⟨false, true, false, false, true, 0, u, 0⟩))).below h (by simp))
        have hg2 := HRB.out.lt
        clear h c0 c1 c2 c3 c4 q5
        obtain ⟨c0, c1, c2, c3, c4⟩ := cf_cells (x := x) HBX3.out
        obtain ⟨s0, s1, s2, s3, s4, s5, s6, s7⟩ := rl_cells HRB.out
        dsimp only at s0 s1 s2 s3 s4 s5 s6 s7
        have q5 := HBX3.out.lt
        go_wp2_with (fail)
        go_roundw
        case rel => exact ⟨k + 1, _, _, _, by omega, by omega, by omega, by omega, by go_num, rfl, rfl, rfl, ha1, hb1, hc1, Lib.hid (HB3.out), Lib.hid (HBX3.out)⟩
        case measure => simp [intOf]; omega
      · have hmem : ((k : Int) + 1) ∈ x.zs := by rw [hn]; exact (unl_idx HF.out (by rw [HL.out]; exact hi)).1
        generalize (decide (i + 1 = x.len) && x.fr) = wt at hr
        by_cases h0 : i = 0
        · have hd1 : decide (i = 0) = true := by simp [h0]
          have hp0 : p = 0 := hp.2 h0
          have hz0' : (k : Int) + 1 = x.zs.getD 0 0 := by rw [hn, h0]
          by_cases ht : i + 1 = x.len
          · have tl1 : decide (i + 1 = x.len) = true := by simp [ht]
            have hzl' : (k : Int) + 1 = x.last := by rw [hn, Cf.last, ← ht, Nat.add_sub_cancel]
            by_cases hs0 : s = 0
            · skip
              have HRR : Hid (x.role ((k : Int) + 1) = ⟨true, false, true, true, wt, i, 0, 0⟩) := Lib.hid (by rw [hr, hd1, tl1, hp0, hs0])
              have hsj : ((0 : Int) == x.jn) = true := by rw [← hs0]; simp [hs, ht]
              have ha1 : Hid (a + 1 = ((cnt1 (x.zs.getD 0 0) (k + 1) : Nat) : Int)) := Lib.hid (by have := hca.out; rw [S1, if_pos hz0']; push_cast; omega)
              have hb1 : Hid (b + 1 = ((cnt1 x.last (k + 1) : Nat) : Int)) := Lib.hid (by have := hcb2.out; rw [S2, if_pos hzl']; push_cast; omega)
              have hc1 : Hid (c + 1 = ((cntI x.zs (k + 1) : Nat) : Int)) := Lib.hid (by have := hcc.out; rw [S3, if_pos hmem]; push_cast; omega)
              clear S1 S2 S3 hz0 hzl hca hcb2 hcc hmem hz0' hzl' hr hd1 tl1 hp hs hps hss hn hi h0 ht hp0 hs0
              go_wp2_with (fail)
              refine (O1 (⟨true, false, true, true, wt, i, 0, 0⟩) HRR.out _ (HX.out.below (HB.out.mono hB)) (Nat.le_trans hB HB.out.size)).mono ?_
              rintro e w2 ⟨rfl, h⟩
              have HB2 := Lib.hid (HB.out.trans (h.mono HB.out.size))
              have HBX2 := Lib.hid (HBX.out.below h HBX.out.lt)
              clear h c0 c1 c2 c3 c4 q5
              obtain ⟨c0, c1, c2, c3, c4⟩ := cf_cells (x := x) HBX2.out
              have q5 := HBX2.out.lt
              go_wp2_with (fail)
              go_roundw
              case rel => exact ⟨k + 1, _, _, _, by omega, by omega, by omega, by omega, by go_num, rfl, rfl, rfl, ha1, hb1, hc1, Lib.hid (HB2.out.alloc HB2.out.size _), Lib.hid (HBX2.out.alloc _)⟩
              case measure => simp [intOf]; omega
            · skip
              have HRR : Hid (x.role ((k : Int) + 1) = ⟨true, false, true, true, wt, i, 0, s⟩) := Lib.hid (by rw [hr, hd1, tl1, hp0])
              have hs' : (s != 0) = true := by simpa using hs0
              have hss' : ((x.role s).pred != (k : Int) + 1) = false := by simpa using hss hs0
              have hsj : (s == x.jn) = true := by simp [hs, ht]
              have ha1 : Hid (a + 1 = ((cnt1 (x.zs.getD 0 0) (k + 1) : Nat) : Int)) := Lib.hid (by have := hca.out; rw [S1, if_pos hz0']; push_cast; omega)
              have hb1 : Hid (b + 1 = ((cnt1 x.last (k + 1) : Nat) : Int)) := Lib.hid (by have := hcb2.out; rw [S2, if_pos hzl']; push_cast; omega)
              have hc1 : Hid (c + 1 = ((cntI x.zs (k + 1) : Nat) : Int)) := Lib.hid (by have := hcc.out; rw [S3, if_pos hmem]; push_cast; omega)
              clear S1 S2 S3 hz0 hzl hca hcb2 hcc hmem hz0' hzl' hr hd1 tl1 hp hs hps hss hn hi h0 ht hp0 hs0
              go_wp2_with (fail)
              refine (O1 (⟨true, false, true, true, wt, i, 0, s⟩) HRR.out _ (HX.out.below (HB.out.mono hB)) (Nat.le_trans hB HB.out.size)).mono ?_
              rintro e w2 ⟨rfl, h⟩
              have HB2 := Lib.hid (HB.out.trans (h.mono HB.out.size))
              have HBX2 := Lib.hid (HBX.out.below h HBX.out.lt)
              clear h c0 c1 c2 c3 c4 q5
              obtain ⟨c0, c1, c2, c3, c4⟩ := cf_cells (x := x) HBX2.out
              have q5 := HBX2.out.lt
              go_wp2_with (fail)
              refine (of_any x s B _ ((HX.out.below (HB2.out.mono hB)).alloc (Nat.le_trans hB HB2.out.size) _) (Nat.le_trans (Nat.le_trans hB HB2.out.size) (by simp))).mono ?_
              rintro e w3 ⟨rfl, h⟩
              have HB3 := Lib.hid (HB2.out.trans ((box_below h).mono HB2.out.size))
              have HBX3 := Lib.hid (HBX2.out.below (box_below h) HBX2.out.lt)
              have HRB := Lib.hid ((Blk.new w2 28 (Rl.cells (⟨true, false, true, true, wt, i, 0, s⟩))).below h (by simp))
              have hg2 := HRB.out.lt
              clear h c0 c1 c2 c3 c4 q5
              obtain ⟨c0, c1, c2, c3, c4⟩ := cf_cells (x := x) HBX3.out
              obtain ⟨s0, s1, s2, s3, s4, s5, s6, s7⟩ := rl_cells HRB.out
              dsimp only at s0 s1 s2 s3 s4 s5 s6 s7
              have q5 := HBX3.out.lt
              go_wp2_with (fail)
              go_roundw
              case rel => exact ⟨k + 1, _, _, _, by omega, by omega, by omega, by omega, by go_num, rfl, rfl, rfl, ha1, hb1, hc1, Lib.hid (HB3.out), Lib.hid (HBX3.out)⟩
              case measure => simp [intOf]; omega
          · have tl1 : decide (i + 1 = x.len) = false := by simp [ht]
            have hzl' : ¬ (k : Int) + 1 = x.last := by
              rw [hn, Cf.last]
              exact unl_zs HF.out (getD_some _ (by rw [HL.out]; exact hi)) (getD_some _ (by rw [HL.out]; omega)) (by omega)
            by_cases hs0 : s = 0
            · skip
              have HRR : Hid (x.role ((k : Int) + 1) = ⟨true, false, true, false, wt, i, 0, 0⟩) := Lib.hid (by rw [hr, hd1, tl1, hp0, hs0])
              have hsj : ((0 : Int) == x.jn) = false := by rw [← hs0]; simp [hs, ht]
              have ha1 : Hid (a + 1 = ((cnt1 (x.zs.getD 0 0) (k + 1) : Nat) : Int)) := Lib.hid (by have := hca.out; rw [S1, if_pos hz0']; push_cast; omega)
              have hb1 : Hid (b = ((cnt1 x.last (k + 1) : Nat) : Int)) := Lib.hid (by have := hcb2.out; rw [S2, if_neg hzl']; push_cast; omega)
              have hc1 : Hid (c + 1 = ((cntI x.zs (k + 1) : Nat) : Int)) := Lib.hid (by have := hcc.out; rw [S3, if_pos hmem]; push_cast; omega)
              clear S1 S2 S3 hz0 hzl hca hcb2 hcc hmem hz0' hzl' hr hd1 tl1 hp hs hps hss hn hi h0 ht hp0 hs0
              go_wp2_with (fail)
              refine (O1 (⟨true, false, true, false, wt, i, 0, 0⟩) HRR.out _ (HX.out.below (HB.out.mono hB)) (Nat.le_trans hB HB.out.size)).mono ?_
              rintro e w2 ⟨rfl, h⟩
              have HB2 := Lib.hid (HB.out.trans (h.mono HB.out.size))
              have HBX2 := Lib.hid (HBX.out.below h HBX.out.lt)
              clear h c0 c1 c2 c3 c4 q5
              obtain ⟨c0, c1, c2, c3, c4⟩ := cf_cells (x := x) HBX2.out
              have q5 := HBX2.out.lt
              go_wp2_with (fail)
              go_roundw
              case rel => exact ⟨k + 1, _, _, _, by omega, by omega, by omega, by omega, by go_num, rfl, rfl, rfl, ha1, hb1, hc1, Lib.hid (HB2.out.alloc HB2.out.size _), Lib.hid (HBX2.out.alloc _)⟩
              case measure => simp [intOf]; omega
            · skip
              have HRR : Hid (x.role ((k : Int) + 1) = ⟨true, false, true, false, wt, i, 0, s⟩) := Lib.hid (by rw [hr, hd1, tl1, hp0])
              have hs' : (s != 0) = true := by simpa using hs0
              have hss' : ((x.role s).pred != (k : Int) + 1) = false := by simpa using hss hs0
              have hsj : (s == x.jn) = false := by simp [hs, ht]
              have ha1 : Hid (a + 1 = ((cnt1 (x.zs.getD 0 0) (k + 1) : Nat) : Int)) := Lib.hid (by have := hca.out; rw [S1, if_pos hz0']; push_cast; omega)
              have hb1 : Hid (b = ((cnt1 x.last (k + 1) : Nat) : Int)) := Lib.hid (by have := hcb2.out; rw [S2, if_neg hzl']; push_cast; omega)
              have hc1 : Hid (c + 1 = ((cntI x.zs (k + 1) : Nat) : Int)) := Lib.hid (by have := hcc.out; rw [S3, if_pos hmem]; push_cast; omega)
              clear S1 S2 S3 hz0 hzl hca hcb2 hcc hmem hz0' hzl' hr hd1 tl1 hp hs hps hss hn hi h0 ht hp0 hs0
              go_wp2_with (fail)
              refine (O1 (⟨true, false, true, false, wt, i, 0, s⟩) HRR.out _ (HX.out.below (HB.out.mono hB)) (Nat.le_trans hB HB.out.size)).mono ?_
              rintro e w2 ⟨rfl, h⟩
              have HB2 := Lib.hid (HB.out.trans (h.mono HB.out.size))
              have HBX2 := Lib.hid (HBX.out.below h HBX.out.lt)
              clear h c0 c1 c2 c3 c4 q5
              obtain ⟨c0, c1, c2, c3, c4⟩ := cf_cells (x := x) HBX2.out
              have q5 := HBX2.out.lt
              go_wp2_with (fail)
              refine (of_any x s B _ ((HX.out.below (HB2.out.mono hB)).alloc (Nat.le_trans hB HB2.out.size) _) (Nat.le_trans (Nat.le_trans hB HB2.out.size) (by simp))).mono ?_
              rintro e w3 ⟨rfl, h⟩
              have HB3 := Lib.hid (HB2.out.trans ((box_below h).mono HB2.out.size))
              have HBX3 := Lib.hid (HBX2.out.below (box_below h) HBX2.out.lt)
              have HRB := Lib.hid ((Blk.new w2 28 (Rl.cells (⟨true, false, true, false, wt, i, 0, s⟩))).below h (by simp))
              have hg2 := HRB.out.lt
              clear h c0 c1 c2 c3 c4 q5
              obtain ⟨c0, c1, c2, c3, c4⟩ := cf_cells (x := x) HBX3.out
              obtain ⟨s0, s1, s2, s3, s4, s5, s6, s7⟩ := rl_cells HRB.out
              dsimp only at s0 s1 s2 s3 s4 s5 s6 s7
              have q5 := HBX3.out.lt
              go_wp2_with (fail)
              go_roundw
              case rel => exact ⟨k + 1, _, _, _, by omega, by omega, by omega, by omega, by go_num, rfl, rfl, rfl, ha1, hb1, hc1, Lib.hid (HB3.out), Lib.hid (HBX3.out)⟩
              case measure => simp [intOf]; omega
        · have hd1 : decide (i = 0) = false := by simp [h0]
          have hp0 : ¬ p = 0 := fun e => h0 (hp.1 e)
          have hz0' : ¬ (k : Int) + 1 = x.zs.getD 0 0 := by
            rw [hn]
            exact (unl_zs HF.out (getD_some _ (by rw [HL.out]; omega)) (getD_some _ (by rw [HL.out]; exact hi)) (by omega)).symm
          by_cases ht : i + 1 = x.len
          · have tl1 : decide (i + 1 = x.len) = true := by simp [ht]
            have hzl' : (k : Int) + 1 = x.last := by rw [hn, Cf.last, ← ht, Nat.add_sub_cancel]
            by_cases hs0 : s = 0
            · skip
              have HRR : Hid (x.role ((k : Int) + 1) = ⟨true, false, false, true, wt, i, p, 0⟩) := Lib.hid (by rw [hr, hd1, tl1, hs0])
              have hp' : (p != 0) = true := by simpa using hp0
              have hp'' : (p == 0) = false := by simpa using hp0
              have hps' : ((x.role p).succ != (k : Int) + 1) = false := by simpa using hps hp0
              have hsj : ((0 : Int) == x.jn) = true := by rw [← hs0]; simp [hs, ht]
              have ha1 : Hid (a = ((cnt1 (x.zs.getD 0 0) (k + 1) : Nat) : Int)) := Lib.hid (by have := hca.out; rw [S1, if_neg hz0']; push_cast; omega)
              have hb1 : Hid (b + 1 = ((cnt1 x.last (k + 1) : Nat) : Int)) := Lib.hid (by have := hcb2.out; rw [S2, if_pos hzl']; push_cast; omega)
              have hc1 : Hid (c + 1 = ((cntI x.zs (k + 1) : Nat) : Int)) := Lib.hid (by have := hcc.out; rw [S3, if_pos hmem]; push_cast; omega)
              clear S1 S2 S3 hz0 hzl hca hcb2 hcc hmem hz0' hzl' hr hd1 tl1 hp hs hps hss hn hi h0 ht hp0 hs0
              go_wp2_with (fail)
              refine (O1 (⟨true, false, false, true, wt, i, p, 0⟩) HRR.out _ (HX.out.below (HB.out.mono hB)) (Nat.le_trans hB HB.out.size)).mono ?_
              rintro e w2 ⟨rfl, h⟩
              have HB2 := Lib.hid (HB.out.trans (h.mono HB.out.size))
              have HBX2 := Lib.hid (HBX.out.below h HBX.out.lt)
              clear h c0 c1 c2 c3 c4 q5
              obtain ⟨c0, c1, c2, c3, c4⟩ := cf_cells (x := x) HBX2.out
              have q5 := HBX2.out.lt
              go_wp2_with (fail)
              refine (of_any x p B _ ((HX.out.below (HB2.out.mono hB)).alloc (Nat.le_trans hB HB2.out.size) _) (Nat.le_trans (Nat.le_trans hB HB2.out.size) (by simp))).mono ?_
              rintro e w3 ⟨rfl, h⟩
              have HB3 := Lib.hid (HB2.out.trans ((box_below h).mono HB2.out.size))
              have HBX3 := Lib.hid (HBX2.out.below (box_below h) HBX2.out.lt)
              have HRB := Lib.hid ((Blk.new w2 28 (Rl.cells (⟨true, false, false, true, wt, i, p, 0⟩))).below h (by simp))
              have hg2 := HRB.out.lt
              clear h c0 c1 c2 c3 c4 q5
              obtain ⟨c0, c1, c2, c3, c4⟩ := cf_cells (x := x) HBX3.out
              obtain ⟨s0, s1, s2, s3, s4, s5, s6, s7⟩ := rl_cells HRB.out
              dsimp only at s0 s1 s2 s3 s4 s5 s6 s7
              have q5 := HBX3.out.lt
              go_wp2_with (fail)
              go_roundw
              case rel => exact ⟨k + 1, _, _, _, by omega, by omega, by omega, by omega, by go_num, rfl, rfl, rfl, ha1, hb1, hc1, Lib.hid (HB3.out), Lib.hid (HBX3.out)⟩
              case measure => simp [intOf]; omega
            · skip
              have HRR : Hid (x.role ((k : Int) + 1) = ⟨true, false, false, true, wt, i, p, s⟩) := Lib.hid (by rw [hr, hd1, tl1])
              have hp' : (p != 0) = true := by simpa using hp0
              have hp'' : (p == 0) = false := by simpa using hp0
              have hps' : ((x.role p).succ != (k : Int) + 1) = false := by simpa using hps hp0
              have hs' : (s != 0) = true := by simpa using hs0
              have hss' : ((x.role s).pred != (k : Int) + 1) = false := by simpa using hss hs0
              have hsj : (s == x.jn) = true := by simp [hs, ht]
              have ha1 : Hid (a = ((cnt1 (x.zs.getD 0 0) (k + 1) : Nat) : Int)) := Lib.hid (by have := hca.out; rw [S1, if_neg hz0']; push_cast; omega)
              have hb1 : Hid (b + 1 = ((cnt1 x.last (k + 1) : Nat) : Int)) := Lib.hid (by have := hcb2.out; rw [S2, if_pos hzl']; push_cast; omega)
              have hc1 : Hid (c + 1 = ((cntI x.zs (k + 1) : Nat) : Int)) := Lib.hid (by have := hcc.out; rw [S3, if_pos hmem]; push_cast; omega)
              clear S1 S2 S3 hz0 hzl hca hcb2 hcc hmem hz0' hzl' hr hd1 tl1 hp hs hps hss hn hi h0 ht hp0 hs0
              go_wp2_with (fail)
              refine (O1 (⟨true, false, false, true, wt, i, p, s⟩) HRR.out _ (HX.out.below (HB.out.mono hB)) (Nat.le_trans hB HB.out.size)).mono ?_
              rintro e w2 ⟨rfl, h⟩
              have HB2 := Lib.hid (HB.out.trans (h.mono HB.out.size))
              have HBX2 := Lib.hid (HBX.out.below h HBX.out.lt)
              clear h c0 c1 c2 c3 c4 q5
              obtain ⟨c0, c1, c2, c3, c4⟩ := cf_cells (x := x) HBX2.out
              have q5 := HBX2.out.lt
              go_wp2_with (fail)
              refine (of_any x p B _ ((HX.out.below (HB2.out.mono hB)).alloc (Nat.le_trans hB HB2.out.size) _) (Nat.le_trans (Nat.le_trans hB HB2.out.size) (by simp))).mono ?_
              rintro e w3 ⟨rfl, h⟩
              have HB3 := Lib.hid (HB2.out.trans ((box_below h).mono HB2.out.size))
              have HBX3 := Lib.hid (HBX2.out.below (box_below h) HBX2.out.lt)
              have HRB := Lib.hid ((Blk.new w2 28 (Rl.cells (⟨true, false, false, true, wt, i, p, s⟩))).below h (by simp))
              have hg2 := HRB.out.lt
              clear h c0 c1 c2 c3 c4 q5
              obtain ⟨c0, c1, c2, c3, c4⟩ := cf_cells (x := x) HBX3.out
              obtain ⟨s0, s1, s2, s3, s4, s5, s6, s7⟩ := rl_cells HRB.out
              dsimp only at s0 s1 s2 s3 s4 s5 s6 s7
              have q5 := HBX3.out.lt
              go_wp2_with (fail)
              refine (of_any x s B _ (HX.out.below (HB3.out.mono hB)) (Nat.le_trans hB HB3.out.size)).mono ?_
              rintro e w4 ⟨rfl, h⟩
              have HB4 := Lib.hid (HB3.out.trans (h.mono HB3.out.size))
              have HBX4 := Lib.hid (HBX3.out.below h HBX3.out.lt)
              have HRB4 := Lib.hid (HRB.out.below h HRB.out.lt)
              clear h c0 c1 c2 c3 c4 q5 s0 s1 s2 s3 s4 s5 s6 s7 hg2
              obtain ⟨c0, c1, c2, c3, c4⟩ := cf_cells (x := x) HBX4.out
              obtain ⟨s0, s1, s2, s3, s4, s5, s6, s7⟩ := rl_cells HRB4.out
              dsimp only at s0 s1 s2 s3 s4 s5 s6 s7
              have q5 := HBX4.out.lt
              have hg2 := HRB4.out.lt
              go_wp2_with (fail)
              go_roundw
              case rel => exact ⟨k + 1, _, _, _, by omega, by omega, by omega, by omega, by go_num, rfl, rfl, rfl, ha1, hb1, hc1, Lib.hid (HB4.out), Lib.hid (HBX4.out)⟩
              case measure => simp [intOf]; omega
          · have tl1 : decide (i + 1 = x.len) = false := by simp [ht]
            have hzl' : ¬ (k : Int) + 1 = x.last := by
              rw [hn, Cf.last]
              exact unl_zs HF.out (getD_some _ (by rw [HL.out]; exact hi)) (getD_some _ (by rw [HL.out]; omega)) (by omega)
            by_cases hs0 : s = 0
            · skip
              have HRR : Hid (x.role ((k : Int) + 1) = ⟨true, false, false, false, wt, i, p, 0⟩) := Lib.hid (by rw [hr, hd1, tl1, hs0])
              have hp' : (p != 0) = true := by simpa using hp0
              have hp'' : (p == 0) = false := by simpa using hp0
              have hps' : ((x.role p).succ != (k : Int) + 1) = false := by simpa using hps hp0
              have hsj : ((0 : Int) == x.jn) = false := by rw [← hs0]; simp [hs, ht]
              have ha1 : Hid (a = ((cnt1 (x.zs.getD 0 0) (k + 1) : Nat) : Int)) := Lib.hid (by have := hca.out; rw [S1, if_neg hz0']; push_cast; omega)
              have hb1 : Hid (b = ((cnt1 x.last (k + 1) : Nat) : Int)) := Lib.hid (by have := hcb2.out; rw [S2, if_neg hzl']; push_cast; omega)
              have hc1 : Hid (c + 1 = ((cntI x.zs (k + 1) : Nat) : Int)) := Lib.hid (by have := hcc.out; rw [S3, if_pos hmem]; push_cast; omega)
              clear S1 S2 S3 hz0 hzl hca hcb2 hcc hmem hz0' hzl' hr hd1 tl1 hp hs hps hss hn hi h0 ht hp0 hs0
              go_wp2_with (fail)
              refine (O1 (⟨true, false, false, false, wt, i, p, 0⟩) HRR.out _ (HX.out.below (HB.out.mono hB)) (Nat.le_trans hB HB.out.size)).mono ?_
              rintro e w2 ⟨rfl, h⟩
              have HB2 := Lib.hid (HB.out.trans (h.mono HB.out.size))
              have HBX2 := Lib.hid (HBX.out.below h HBX.out.lt)
              clear h c0 c1 c2 c3 c4 q5
              obtain ⟨c0, c1, c2, c3, c4⟩ := cf_cells (x := x) HBX2.out
              have q5 := HBX2.out.lt
              go_wp2_with (fail)
              refine (of_any x p B _ ((HX.out.below (HB2.out.mono hB)).alloc (Nat.le_trans hB HB2.out.size) _) (Nat.le_trans (Nat.le_trans hB HB2.out.size) (by simp))).mono ?_
              rintro e w3 ⟨rfl, h⟩
              have HB3 := Lib.hid (HB2.out.trans ((box_below h).mono HB2.out.size))
              have HBX3 := Lib.hid (HBX2.out.below (box_below h) HBX2.out.lt)
              have HRB := Lib.hid ((Blk.new w2 28 (Rl.cells (⟨true, false, false, false, wt, i, p, 0⟩))).below h (by simp))
              have hg2 := HRB.out.lt
              clear h c0 c1 c2 c3 c4 q5
              obtain ⟨c0, c1, c2, c3, c4⟩ := cf_cells (x := x) HBX3.out
              obtain ⟨s0, s1, s2, s3, s4, s5, s6, s7⟩ := rl_cells HRB.out
              dsimp only at s0 s1 s2 s3 s4 s5 s6 s7
              have q5 := HBX3.out.lt
              go_wp2_with (fail)
              go_roundw
              case rel => exact ⟨k + 1, _, _, _, by omega, by omega, by omega, by omega, by go_num, rfl, rfl, rfl, ha1, hb1, hc1, Lib.hid (HB3.out), Lib.hid (HBX3.out)⟩
              case measure => simp [intOf]; omega
            · skip
              have HRR : Hid (x.role ((k : Int) + 1) = ⟨true, false, false, false, wt, i, p, s⟩) := Lib.hid (by rw [hr, hd1, tl1])
              have hp' : (p != 0) = true := by simpa using hp0
              have hp'' : (p == 0) = false := by simpa using hp0
              have hps' : ((x.role p).succ != (k : Int) + 1) = false := by simpa using hps hp0
              have hs' : (s != 0) = true := by simpa using hs0
              have hss' : ((x.role s).pred != (k : Int) + 1) = false := by simpa using hss hs0
              have hsj : (s == x.jn) = false := by simp [hs, ht]
              have ha1 : Hid (a = ((cnt1 (x.zs.getD 0 0) (k + 1) : Nat) : Int)) := Lib.hid (by have := hca.out; rw [S1, if_neg hz0']; push_cast; omega)
              have hb1 : Hid (b = ((cnt1 x.last (k + 1) : Nat) : Int)) := Lib.hid (by have := hcb2.out; rw [S2, if_neg hzl']; push_cast; omega)
              have hc1 : Hid (c + 1 = ((cntI x.zs (k + 1) : Nat) : Int)) := Lib.hid (by have := hcc.out; rw [S3, if_pos hmem]; push_cast; omega)
              clear S1 S2 S3 hz0 hzl hca hcb2 hcc hmem hz0' hzl' hr hd1 tl1 hp hs hps hss hn hi h0 ht hp0 hs0
              go_wp2_with (fail)
              refine (O1 (⟨true, false, false, false, wt, i, p, s⟩) HRR.out _ (HX.out.below (HB.out.mono hB)) (Nat.le_trans hB HB.out.size)).mono ?_
              rintro e w2 ⟨rfl, h⟩
              have HB2 := Lib.hid (HB.out.trans (h.mono HB.out.size))
              have HBX2 := Lib.hid (HBX.out.below h HBX.out.lt)
              clear h c0 c1 c2 c3 c4 q5
              obtain ⟨c0, c1, c2, c3, c4⟩ := cf_cells (x := x) HBX2.out
              have q5 := HBX2.out.lt
              go_wp2_with (fail)
              refine (of_any x p B _ ((HX.out.below (HB2.out.mono hB)).alloc (Nat.le_trans hB HB2.out.size) _) (Nat.le_trans (Nat.le_trans hB HB2.out.size) (by simp))).mono ?_
              rintro e w3 ⟨rfl, h⟩
              have HB3 := Lib.hid (HB2.out.trans ((box_below h).mono HB2.out.size))
              have HBX3 := Lib.hid (HBX2.out.below (box_below h) HBX2.out.lt)
              have HRB := Lib.hid ((Blk.new w2 28 (Rl.cells (⟨true, false, false, false, wt, i, p, s⟩))).below h (by simp))
              have hg2 := HRB.out.lt
              clear h c0 c1 c2 c3 c4 q5
              obtain ⟨c0, c1, c2, c3, c4⟩ := cf_cells (x := x) HBX3.out
              obtain ⟨s0, s1, s2, s3, s4, s5, s6, s7⟩ := rl_cells HRB.out
              dsimp only at s0 s1 s2 s3 s4 s5 s6 s7
              have q5 := HBX3.out.lt
              go_wp2_with (fail)
              refine (of_any x s B _ (HX.out.below (HB3.out.mono hB)) (Nat.le_trans hB HB3.out.size)).mono ?_
              rintro e w4 ⟨rfl, h⟩
              have HB4 := Lib.hid (HB3.out.trans (h.mono HB3.out.size))
              have HBX4 := Lib.hid (HBX3.out.below h HBX3.out.lt)
              have HRB4 := Lib.hid (HRB.out.below h HRB.out.lt)
              clear h c0 c1 c2 c3 c4 q5 s0 s1 s2 s3 s4 s5 s6 s7 hg2
              obtain ⟨c0, c1, c2, c3, c4⟩ := cf_cells (x := x) HBX4.out
              obtain ⟨s0, s1, s2, s3, s4, s5, s6, s7⟩ := rl_cells HRB4.out
              dsimp only at s0 s1 s2 s3 s4 s5 s6 s7
              have q5 := HBX4.out.lt
              have hg2 := HRB4.out.lt
              go_wp2_with (fail)
              go_roundw
              case rel => exact ⟨k + 1, _, _, _, by omega, by omega, by omega, by omega, by go_num, rfl, rfl, rfl, ha1, hb1, hc1, Lib.hid (HB4.out), Lib.hid (HBX4.out)⟩
              case measure => simp [intOf]; omega
    · obtain rfl : k = 24 := by omega
      have ha : a = 1 := by
        rw [hca.out, cnt1, if_pos]
        · rfl
        · have := (nodeB_iff _).1 (unl_at HF.out (i := 0) (by rw [HL.out]; omega)); exact this.2
      have hb' : b = 1 := by
        rw [hcb2.out, cnt1, if_pos]
        · rfl
        · have := (nodeB_iff _).1 (unl_at HF.out (i := x.len - 1) (by rw [HL.out]; omega)); exact this.2
      have hc' : c = (x.len : Int) := by rw [hcc.out, cnt_all _ (fun z hz => (unl_mem HF.out hz).2), HL.out]
      subst ha hb' hc'
      clear hca hcb2 hcc hab hbb hcb hlt hk
      have HHV : Hid (x.headV = x.zs.getD 0 0) := Lib.hid (by rw [Cf.headV, HR.out, if_pos rfl])
      have hl63 : (x.len : Int) ≤ 5 := by omega
      go_wp2_with (fail)
      refine (head_any x B _ (HX.out.below (HB.out.mono hB)) (Nat.le_trans hB HB.out.size)).mono ?_
      rw [HHV.out]
      rintro e w2 ⟨rfl, h⟩
      have HB2 := Lib.hid (HB.out.trans (h.mono HB.out.size))
      have HBX2 := Lib.hid (HBX.out.below h HBX.out.lt)
      clear h c0 c1 c2 c3 c4 q5 HB HBX
      go_wp2_with (fail)
      go_loopw [8, 9] (fun va vi wr => ∃ (j : Nat) (v : Int), j ≤ x.len ∧ vi = .int .i64 j ∧ va = .int .i64 v ∧ Hid (v = if j < x.len then x.zs.getD j 0 else x.jn) ∧ Hid (Below w.heap.size w wr) ∧ Hid (Blk wr w.heap.size 25 x.cells)) (fun _ vi _ => 30 - (intOf vi).toNat)
      case atStart => exact ⟨0, _, by omega, rfl, rfl, Lib.hid (by rw [if_pos (by omega), List.getD_eq_getElem?_getD]), HB2, HBX2⟩
      case round =>
        clear HB2 HBX2
        obtain ⟨j, v, hj, rfl, rfl, hv, HB, HBX⟩ := hrel
        obtain ⟨c0, c1, c2, c3, c4⟩ := cf_cells (x := x) HBX.out
        have q5 := HBX.out.lt
        by_cases hlt : j < x.len
        · have hlt' : (j : Int) < x.len := by omega
          obtain ⟨bb, off, hA, hb, hcs⟩ := cf_at2 (HX.out.below (HB.out.mono hB)) (by omega)
          have hbw : bb < w.heap.size := by omega
          have hcell := hcs j hlt
          have hvz : x.zs.getD j 0 = v := by have := hv.out; rw [if_pos hlt] at this; exact this.symm
          rw [hvz] at hcell
          have hrole : x.role v = x.roleAt j := by rw [← hvz]; exact role_zs HR.out (by rw [HL.out]; exact hlt)
          obtain ⟨u, hu⟩ : ∃ u, u = if j + 1 < x.len then x.zs.getD (j + 1) 0 else x.jn := ⟨_, rfl⟩
          have hu' : (if j + 1 = x.len then x.jn else x.zs.getD (j + 1) 0) = u := by
            rw [hu]
            by_cases h1 : j + 1 = x.len
            · rw [if_pos h1, if_neg (by omega)]
            · rw [if_neg h1, if_pos (by omega)]
          have HRR : Hid (∃ (a1 a2 a3 a4 a5 : Bool) (a6 : Int), x.role v = ⟨a1, a2, a3, a4, a5, j, a6, u⟩) := Lib.hid ⟨true, false, decide (j = 0), decide (j + 1 = x.len), decide (j + 1 = x.len) && x.fr, (if j = 0 then 0 else x.zs.getD (j - 1) 0), by rw [hrole, Cf.roleAt, hu']⟩
          clear hu'
          have HU := Lib.hid hu
          clear hcs hvz hrole hu hv
          obtain ⟨a1, a2, a3, a4, a5, a6, hrr⟩ := HRR.out
          have HRQ := Lib.hid hrr
          clear hrr HRR
          go_wp2_with (fail)
          refine (O3 _ HRQ.out _ (by simp [Cf.agg, hA]) _ (HX.out.below (HB.out.mono hB)) (Nat.le_trans hB HB.out.size)).mono ?_
          rintro e w2 ⟨rfl, h⟩
          have HB2 := Lib.hid (HB.out.trans (h.mono HB.out.size))
          have HBX2 := Lib.hid (HBX.out.below h HBX.out.lt)
          clear h c0 c1 c2 c3 c4 q5 hcell
          obtain ⟨c0, c1, c2, c3, c4⟩ := cf_cells (x := x) HBX2.out
          have q5 := HBX2.out.lt
          go_wp2_with (fail)
          refine (O3 _ HRQ.out _ (by simp [Cf.agg, hA]) _ (HX.out.below (HB2.out.mono hB)) (Nat.le_trans hB HB2.out.size)).mono ?_
          rintro e w3 ⟨rfl, h⟩
          have HB3 := Lib.hid (HB2.out.trans (h.mono HB2.out.size))
          have HBX3 := Lib.hid (HBX2.out.below h HBX2.out.lt)
          clear h c0 c1 c2 c3 c4 q5
          go_wp2_with (fail)
          rw [← hA]
          go_roundw
          case rel => first | exact ⟨j + 1, _, by omega, by go_num, rfl, HU, HB3, HBX3⟩ | ((repeat apply Exists.intro); exact ⟨⟨j + 1, _, by omega, by go_num, rfl, HU, HB3, HBX3⟩, rfl⟩)
          case measure => simp [intOf]; omega
        · obtain rfl : j = x.len := by omega
          have hvj : v = x.jn := by have := hv.out; rwa [if_neg hlt] at this
          subst hvj
          clear hv hlt
          go_wp2_with (fail)
          refine (awake_any _).mono ?_
          rintro e w6 ⟨rfl, h⟩
          have H6 := Lib.hid (HB.out.trans (h.mono HB.out.size))
          clear h
          go_wp2
          go_ret
          exact ⟨rfl, H6.out⟩
end Go.Proofs.Ythahcpanekdbaaa
