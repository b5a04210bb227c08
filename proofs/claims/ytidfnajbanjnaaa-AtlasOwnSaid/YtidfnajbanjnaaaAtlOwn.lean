/- The walk of AtlasOwn, to its end. -/
import Derived.Test.YtidfnajbanjnaaaAtlZ
namespace Go.Proofs.Ytidfnajbanjnaaa
open Go.RowKit
set_option linter.unusedSimpArgs false
set_option linter.unusedVariables false
set_option maxHeartbeats 1000000
set_option maxRecDepth 100000
attribute [local go_sem] Cf.agg Cf.cells

theorem atlasOwn_law (m per : Int) (k : Nat) (hk : k < 4294967296) (w : World) :
    Calls Try.prog 5 #[.int .i64 m, .int .i64 per, .int .u32 k] w fun e w' => e = .returned (.bool true) ∧ Below w.heap.size w w' := by
  have AW := awake_any
  by_cases hfit : m < 1 ∨ 4 < m ∨ per < 1 ∨ 5 < per
  · have BN := Lib.hid (begin_no m per w hfit)
    clear hfit
    go_enter Try.func5, Try.ntmps5
    go_wp2_with (first | (go_at_call 22; refine BN.out.mono ?_; rintro e w' ⟨rfl, rfl⟩) | fail)
    refine (AW _).mono ?_
    rintro e w12 ⟨rfl, h1⟩
    have HB12 := Lib.hid h1
    clear h1
    go_wp2_with (fail)
    go_ret
    exact ⟨rfl, HB12.out⟩
  obtain ⟨m, rfl⟩ := Int.eq_ofNat_of_zero_le (show 0 ≤ m by omega)
  obtain ⟨p, rfl⟩ := Int.eq_ofNat_of_zero_le (show 0 ≤ per by omega)
  have hm1 : 1 ≤ m := by omega
  have hm4 : m ≤ 4 := by omega
  have hp1 : 1 ≤ p := by omega
  have hp5 : p ≤ 5 := by omega
  have hm0 : (0 : Int) < m := by omega
  clear hfit
  have fd2 : ∀ (a b f j : Value) (v : Value) (w : World), (Instr.field 35 (.agg #[a, b, v, f, j]) 2).run Try.prog w = .ok v w := fun _ _ _ _ _ _ => rfl
  go_enter Try.func5, Try.ntmps5
  go_wp2_with (fail)
  refine (begin_any m p w hm1 hm4 hp1 hp5).mono ?_
  rintro e w1 ⟨v1, l, rfl, hb1⟩
  obtain ⟨A, c, rfl, _, _, _⟩ := own_slice hb1.own
  have HLL := Lib.hid hb1.len
  have HB1 := Lib.hid hb1
  have hs1 := hb1.bel.size
  clear hb1
  go_wp2_with (fail)
  refine (begin_any m p w1 hm1 hm4 hp1 hp5).mono ?_
  rintro e w2 ⟨v2, lk, rfl, hb2⟩
  obtain ⟨K, ck, rfl, _, _, _⟩ := own_slice hb2.own
  have hlk := hb2.len
  have HB2 := Lib.hid hb2
  have BE2 := Lib.hid (HB1.out.bel.trans (hb2.bel.mono hs1))
  have hs2 := hb2.bel.size
  have HCl : Hid (CfsIn w2 w1.heap.size A l.length l) := Lib.hid (HB1.out.cfs.below hb2.bel)
  have HLK := Lib.hid hlk
  have HAL : Hid (allB l = true) := Lib.hid (beg_all HB1.out.val (fun x hx => (HB1.out.mem x hx).len_) hm1 hm4 hp1 hp5)
  clear hb2 hlk
  have hl0 : (0 : Int) < (l.length : Int) := by rw [HLL.out]; exact hm0
  have hlk0 : (0 : Int) < (lk.length : Int) := by rw [HLK.out]; exact hm0
  go_wp2_with (fail)
  refine (new_any A l.length c w1.heap.size l w2 HCl.out hs2).mono ?_
  rintro e w3 ⟨hb3, ⟨hno, _⟩ | ⟨_, G, rfl, hat⟩⟩
  · rw [HAL.out] at hno; cases hno
  obtain ⟨q, h, cB, o, hx, hov⟩ := hat
  have hol : o.length = m := by have := congrArg List.length hov; simpa [HLL.out] using this
  have hlt := hx.lt
  have hb0 := hx.b0
  have AX3 := Lib.hid hx
  have HOV := Lib.hid hov
  have HOL := Lib.hid hol
  have hw1 := HB1.out.bel.size
  have BE3 := Lib.hid (BE2.out.trans (hb3.mono (Nat.le_trans hw1 hs2)))
  have hs3 := hb3.size
  have K3 := Lib.hid (HB2.out.cfs.below hb3)
  obtain ⟨b1, f1, x0, hA, _, hx0, _, _, _, d2, _, _⟩ := (HCl.out.below (hb3.mono hs2)).at_ (k := 0) (by rw [HLL.out]; exact hm1)
  cases hA
  have OW1 := Lib.hid (HB1.out.mem x0 (List.mem_of_getElem? hx0))
  have OW3 := Lib.hid ((OW1.out.later HB2.out.bel (Nat.le_refl _)).later hb3 (Nat.le_refl _))
  have hxl : x0.len ≤ 5 := by rw [beg_len HB1.out.val (fun x hx => (HB1.out.mem x hx).len_) x0 (List.mem_of_getElem? hx0)]; exact hp5
  simp only [Nat.zero_mul, Nat.add_zero] at d2
  clear hx hov hol hb3 hx0
  go_wp2_with (fail)
  refine (spoil_any x0.len w.heap.size (.slice x0.A x0.len x0.cap) x0.zs w3 OW3.out (by omega)).mono ?_
  rintro e w4 ⟨rfl, hc4⟩
  have hS : ∀ i, (Value.slice x0.A x0.len x0.cap).ownBlock = some i → w.heap.size ≤ i ∧ i < w1.heap.size := fun i e => OW1.out.lt i e
  have AX4 := Lib.hid (AX3.out.chg hc4 (fun i hi e => by have := (hS i e).2; omega))
  have K4 : Hid (CfsIn w4 w2.heap.size K lk.length lk) := Lib.hid (
    K3.out.chg hc4 hs3 (fun ad h0 hA e => by have := (own_addr HB2.out.own ad h0 hA).1; have := (hS _ e).2; omega)
      (fun x hx ad h0 hA e => by have := (own_addr (HB2.out.mem x hx) ad h0 hA).1; have := (hS _ e).2; omega))
  have BE4 := Lib.hid (BE3.out.trans (hc4.below BE3.out.size (fun i hi e => by have := (hS i e).1; omega)))
  have hs4 := Nat.le_trans hs3 hc4.size
  have hw4 := BE4.out.size
  clear hc4 d2 AX3 K3 OW3 hxl
  go_wp2_with (fail)
  refine (of_any w2.heap.size G q h cB o k hk w4 AX4.out).mono ?_
  rintro e w5 ⟨y, rfl, hy, hyo, hb5⟩
  have hyl := few_y (fun x hx => (AX4.out.own x hx).len_) AX4.out.few.2 hy hyo.len_
  have HYO := Lib.hid hyo
  have HB5 := Lib.hid hb5
  clear hy hyo hb5
  go_wp2_with (fail)
  refine (spoil_any y.len w4.heap.size (.slice y.A y.len y.cap) y.zs w5 HYO.out hyl).mono ?_
  rintro e w6 ⟨rfl, hc6⟩
  have hb6 := spoil_below HB5.out HYO.out (Nat.le_refl _) hc6
  have AX6 := Lib.hid (AX4.out.below hb6)
  have K6 := Lib.hid (K4.out.below (hb6.mono hs4))
  have BE6 := Lib.hid (BE4.out.trans (hb6.mono hw4))
  have hs6 := Nat.le_trans hs4 hb6.size
  have hw6 := BE6.out.size
  clear hc6 hb6 AX4 K4 HYO HB5
  go_wp2_with (fail)
  have CF := confs_any w2.heap.size G q h cB o w6 AX6.out
  rw [HOL.out] at CF
  refine CF.mono ?_
  rintro e w7 ⟨o2, rfl, hcp⟩
  have HCP := Lib.hid hcp
  have hs7 : w6.heap.size ≤ w7.heap.size := hcp.bel.size
  obtain ⟨b7, f7, y0, hA, _, hy0, _, _, _, d2, _, _⟩ := hcp.cfs.at_ (k := 0) hm1
  cases hA
  simp only [Nat.zero_mul, Nat.add_zero, Nat.zero_add] at d2
  have hyl2 := few_of hcp.val (fun x hx => (hcp.own x hx).len_) (fun x hx => (AX6.out.own x hx).len_) AX6.out.few.2 y0 (List.mem_of_getElem? hy0)
  have HYO := Lib.hid (hcp.own y0 (List.mem_of_getElem? hy0))
  clear CF hcp hy0
  go_wp2_with (fail)
  refine (spoil_any y0.len (w6.heap.size + 1) (.slice y0.A y0.len y0.cap) y0.zs w7 HYO.out hyl2).mono ?_
  rintro e w8 ⟨rfl, hc8⟩
  have hb8 := spoil_below HCP.out.bel HYO.out (Nat.le_succ _) hc8
  have AX8 := Lib.hid (AX6.out.below hb8)
  have K8 := Lib.hid (K6.out.below (hb8.mono hs6))
  have BE8 := Lib.hid (BE6.out.trans (hb8.mono hw6))
  have hs8 := Nat.le_trans hs6 hb8.size
  have hw8 := BE8.out.size
  clear hc8 hb8 AX6 K6 HYO HCP d2
  have LA : Hid (Calls Try.prog 24 #[.pointer (some ⟨G, 0, none⟩), .int .i64 0] w8 fun e w' => ∃ v gO vs W, e = .returned v ∧ w'.ownsRow W.heap.size 3 1 v (lowL o.length 0 256).length ((lowL o.length 0 256).map (Value.int .i64)) ∧ KeysB W h cB o.length gO vs ∧ Chg w8 W (fun k => k = h) ∧ Below W.heap.size W w') :=
    Lib.hid (lowA_any w2.heap.size G q h cB 0 o w8 AX8.out.aty AX8.out.keysA (by rw [HOL.out]; exact hm1))
  go_wp2_with (fail)
  refine LA.out.mono ?_
  rintro e w9 ⟨v9, gO, vs, W9, rfl, ho9, hk9, hcW, hb9⟩
  obtain ⟨A9, c9, rfl, _, _, _⟩ := own_slice ho9
  have AYW := Lib.hid (AX8.out.aty.chg AX8.out.keys hcW (fun i _ e => e))
  have HKW := Lib.hid hk9
  have hbW := hcW.below (B := w2.heap.size) hs8 (fun i hi e => by omega)
  have KW := Lib.hid (K8.out.below hbW)
  have BEW := Lib.hid (BE8.out.trans (hbW.mono (Nat.le_trans hw1 hs2)))
  have hsW := Nat.le_trans hs8 hcW.size
  have HO9 := Lib.hid ho9
  have HB9 := Lib.hid hb9
  have hll := lowL_len o.length 0 256
  clear LA ho9 hk9 hcW hb9 hbW AX8 K8
  go_wp2_with (fail)
  refine (spoil_any _ W9.heap.size _ _ w9 HO9.out (by omega)).mono ?_
  rintro e w10 ⟨rfl, hc10⟩
  have hb10 := spoil_below HB9.out HO9.out (Nat.le_refl _) hc10
  have AY := Lib.hid (AYW.out.below hb10)
  have KB := Lib.hid (HKW.out.below hb10)
  have KK := Lib.hid (KW.out.below (hb10.mono hsW))
  have BE := Lib.hid (BEW.out.trans (hb10.mono BEW.out.size))
  have hs10 := Nat.le_trans hsW hb10.size
  clear hc10 hb10 AYW HKW KW HO9 HB9
  obtain ⟨b8, f8, xk, hA, hb8w, hxk, _, d0, d1, d2, d3, d4⟩ := KK.out.at_ (k := 0) (by rw [HLK.out]; exact hm1)
  cases hA
  simp only [Nat.zero_mul, Nat.add_zero] at d0 d1 d2 d3 d4
  have hch : xk.ch = 0 := by
    have h1 := congrArg (·[0]?) HB2.out.val
    simp only [List.getElem?_map, hxk, Option.map_some, List.getElem?_range hm1, Option.some.injEq] at h1
    exact congrArg (·.1) h1
  have hb : Below w10.heap.size w10 w10 := Below.refl _ _
  have HV : Hid (o.map Cf.val = lk.map Cf.val) := Lib.hid (by rw [HOV.out, HB1.out.val, HB2.out.val])
  have HCH := Lib.hid hch
  clear hxk hch
  go_wp2_with (fail)
  refine (learnN xk HCH.out _).mono ?_
  rintro e w11 ⟨rfl, hb6⟩
  replace hb := Lib.hid (hb.trans (hb6.mono hb.size))
  clear hb6
  go_wp2_with (fail)
  refine (ofN _ _).mono ?_
  rintro e w12 ⟨rfl, hb6⟩
  replace hb := Lib.hid (hb.out.trans (hb6.mono hb.out.size))
  clear hb6
  have ZS := Lib.hid (same_any Cf.zero Cf.zero w12.heap.size w12.heap.size w12 (Cf.zero_in _ _) (Nat.le_refl _) (Cf.zero_in _ _) (Nat.le_refl _) rfl)
  go_wp2_with (fail)
  refine ZS.out.mono ?_
  rintro e w13 ⟨rfl, hb6⟩
  replace hb := Lib.hid (hb.out.trans (hb6.mono hb.out.size))
  clear hb6 ZS
  go_wp2_with (fail)
  refine (headN _ _).mono ?_
  rintro e w14 ⟨rfl, hb6⟩
  replace hb := Lib.hid (hb.out.trans (hb6.mono hb.out.size))
  clear hb6
  go_wp2_with (fail)
  refine (readerN _ _).mono ?_
  rintro e w15 ⟨rfl, hb6⟩
  replace hb := Lib.hid (hb.out.trans (hb6.mono hb.out.size))
  clear hb6
  go_wp2_with (fail)
  refine (chainsN _).mono ?_
  rintro e w16 ⟨rfl, rfl⟩
  go_wp2_with (fail)
  refine (confsN _).mono ?_
  rintro e w17 ⟨rfl, rfl⟩
  go_wp2_with (fail)
  refine (lowN _).mono ?_
  rintro e w18 ⟨rfl, rfl⟩
  go_wp2_with (fail)
  refine (tablesN _).mono ?_
  rintro e w19 ⟨rfl, rfl⟩
  go_wp2_with (fail)
  have AYC := Lib.hid (AY.out.below hb.out)
  have CF := confsY w2.heap.size G q h o w15 AYC.out
  rw [HOL.out] at CF
  have CFH := Lib.hid CF
  clear CF
  refine CFH.out.mono ?_
  rintro e w20 ⟨o3, rfl, hcp⟩
  have HCP := Lib.hid hcp
  have hb15 := hb.out.size
  have hs20 : w15.heap.size ≤ w20.heap.size := hcp.bel.size
  replace hb := Lib.hid (hb.out.trans (hcp.bel.mono hb15))
  clear hcp CFH
  have C3 : Hid (CfsIn w20 w20.heap.size (some ⟨w15.heap.size, 0, none⟩) m o3) := Lib.hid HCP.out.cfs
  have K5 : Hid (CfsIn w20 w2.heap.size (some ⟨b8, f8, none⟩) m lk) := Lib.hid (by have := KK.out.below (hb.out.mono hs10); rwa [HLK.out] at this)
  have hv3 : o3.map Cf.val = lk.map Cf.val := by
    have := HCP.out.val
    rw [show o.take m = o from by rw [← HOL.out, List.take_length]] at this
    rw [this, HV.out]
  have hs202 : w2.heap.size ≤ w20.heap.size := Nat.le_trans hs10 hb.out.size
  have SA := Lib.hid (sameAll_any (some ⟨w15.heap.size, 0, none⟩) (some ⟨b8, f8, none⟩) m m ck w20.heap.size w2.heap.size o3 lk w20 C3.out K5.out hv3 (Nat.le_refl _) hs202 (by omega))
  rw [show (Value.slice (some ⟨b8, f8, none⟩) lk.length ck) = Value.slice (some ⟨b8, f8, none⟩) m ck from by rw [HLK.out]]
  clear hv3
  go_wp2_with (fail)
  refine SA.out.mono ?_
  rintro e w21 ⟨rfl, h21⟩
  replace hb := Lib.hid (hb.out.trans (h21.mono hb.out.size))
  clear h21 SA
  have AY2 := Lib.hid (AY.out.below hb.out)
  have KB2 := Lib.hid (KB.out.below hb.out)
  go_wp2_with (fail)
  refine (lowB_any w2.heap.size G q h cB 0 gO vs o w21 AY2.out KB2.out (by rw [HOL.out]; exact hm1)).mono ?_
  rintro e w22 ⟨v22, rfl, ho22, h22⟩
  obtain ⟨A22, c22, rfl, hr22, _, _⟩ := own_slice ho22
  replace hb := Lib.hid (hb.out.trans (h22.mono hb.out.size))
  have R22 := Lib.hid hr22
  clear h22 ho22 hr22
  go_wp2_with (fail)
  refine (refLow_any m 0 w22 hm4 hm1).mono ?_
  rintro e w23 ⟨v23, rfl, ho23, h23⟩
  obtain ⟨A23, c23, rfl, hr23, _, _⟩ := own_slice ho23
  replace hb := Lib.hid (hb.out.trans (h23.mono hb.out.size))
  have R23 := Lib.hid hr23
  have R22' := Lib.hid (R22.out.below h23)
  clear h23 ho23 hr23
  go_wp2_with (fail)
  rw [HOL.out] at R22' ⊢
  refine (same04_any A22 A23 (lowL m 0 256).length c22 c23 (lowL m 0 256) _ _ w23 (by have := lowL_len m 0 256; omega) R22'.out R23.out).mono ?_
  rintro e w24 ⟨rfl, mm, rfl⟩
  replace hb := Lib.hid (below_drewN hb.out mm)
  clear R22 R22' R23 AY2 KB2
  go_wp2_with (fail)
  refine (AW _).mono ?_
  rintro e w25 ⟨rfl, h25⟩
  replace hb := Lib.hid (hb.out.trans (h25.mono hb.out.size))
  clear h25
  go_wp2_with (fail)
  go_ret
  exact ⟨rfl, BE.out.trans (hb.out.mono BE.out.size)⟩
end Go.Proofs.Ytidfnajbanjnaaa
