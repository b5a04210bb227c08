/- The reference's bytes of rows: the contract. -/
import Derived.Test.YtcmaekkfeilclaaSesI
namespace Go.Proofs.Ytcmaekkfeilclaa
open Go.RowKit
set_option linter.unusedSimpArgs false
set_option linter.unusedVariables false
set_option maxHeartbeats 2000000
set_option maxRecDepth 100000
attribute [local go_sem] Rw.agg Rw.cells

theorem u8_keep {z : Int} (h : 0 ≤ z ∧ z < 256) : IntKind.u8.wrap z = z := by rw [IntKind.wrap_u8]; omega
theorem big_one' (z : Int) (h : 0 ≤ z ∧ z < 256) : big z.toNat 1 = [z] := by simp [big, digit]; omega
theorem refBytes_any (A : Option Addr) (n c B : Nat) (l : List Rw) (w : World) (hB : B ≤ w.heap.size) (h : Reads w B 5 A n (l.flatMap Rw.vals)) (hn : n ≤ 6) (hsm : ∀ x ∈ l, x.small) :
    Calls Try.prog 24 #[.slice A n c] w fun e w' => ∃ v, e = .returned v ∧ w'.ownsRow w.heap.size 5 1 v (1 + n * 26) ((rowsB l).map (Value.int .u8)) ∧ Below w.heap.size w w' := by
  obtain ⟨i0, hi, hz0, hz1, hz2⟩ := info_parts byteInfo
  have hll : l.length = n := rows_len h
  have HLL := Lib.hid hll
  have HR := Lib.hid h
  have HSM := Lib.hid hsm
  have e1 : IntKind.u8.wrap (n : Int) = n := u8_keep (by omega)
  have hO1 := own_lit1 w (n : Int) w.heap.size (Nat.le_refl _)
  have HO1 := Lib.hid hO1
  clear h hsm hll hO1
  go_enter Try.func24, Try.ntmps24
  go_wp2_with (fail)
  go_loopw [3, 4] (fun v i wr => ∃ k : Nat, k ≤ n ∧ i = .int .i64 k ∧ Hid (wr.ownsRow w.heap.size 5 1 v (1 + k * 26) ((big n 1 ++ (l.take k).flatMap rowB).map (Value.int .u8))) ∧ Hid (Below w.heap.size w wr)) (fun _ i _ => n - (intOf i).toNat)
  case atStart =>
    refine ⟨0, Nat.zero_le _, rfl, Lib.hid ?_, Lib.hid ((Below.refl _ _).alloc (Nat.le_refl _) _)⟩
    have := HO1.out
    rw [← big_one' n (by omega)] at this
    simpa using this
  case round =>
    obtain ⟨k, hk, rfl, HO, HB⟩ := hrel
    by_cases hlt : k < n
    · obtain ⟨ba, oa, x, hA, hba, hx, hc⟩ := rows_at HR.out hlt
      cases hA
      obtain ⟨c0, c1, c2, c3, c4⟩ := hc.keep (w' := wr) (fun p hp => HB.out.cell (by omega))
      have hsx := HSM.out x (List.mem_of_getElem? hx)
      have f0 : IntKind.u8.wrap x.c = x.c := u8_keep hsx.c
      have f3 : IntKind.u8.wrap x.k = x.k := u8_keep hsx.k
      have HSX := Lib.hid hsx
      have HTK : Hid ((big n 1 ++ (l.take k).flatMap rowB) ++ rowB x = big n 1 ++ (l.take (k + 1)).flatMap rowB) := Lib.hid (by
        rw [List.append_assoc]
        congr 1
        have hlt' := (List.getElem?_eq_some_iff.1 hx).1
        rw [List.take_succ_eq_append_getElem hlt', List.flatMap_append, (List.getElem?_eq_some_iff.1 hx).2]
        simp)
      obtain ⟨q, hq⟩ : ∃ q, q = big n 1 ++ (l.take k).flatMap rowB := ⟨_, rfl⟩
      rw [← hq] at HO HTK
      have hc0 := Lib.hid hc
      clear hq hx hsx hc
      have hsz := HB.out.size
      have hbw : ba < w.heap.size := by omega
      have hkn : (k : Int) < n := by omega
      obtain ⟨A0, q0, rfl, _, _, _⟩ := own_slice HO.out
      have OL := own_lit1 wr x.c w.heap.size HB.out.size
      have HOL := Lib.hid (Reads.of_own OL)
      have HOA := Lib.hid (HO.out.alloc (.cells #[.int .u8 x.c] 5))
      have HBA := Lib.hid (HB.out.alloc HB.out.size (.cells #[.int .u8 x.c] 5))
      clear OL
      go_wp2_with (at_builtin; go_must (refine wpList_append_any _ rfl (.tmp 15) (.tmp 22) _ rfl w.heap.size 5 i0 _ 1 1 Try.underlying51 hi hz0 hz1 hz2 rfl (by omega) _ _ _ rfl HOA.out _ _ 1 1 ([x.c].map (Value.int .u8)) rfl HOL.out ?c1 ?c2 ?c3 ?c4 ?_))
      case c1 => exact u8_one _
      case c2 => unfold maxLen; omega
      case c3 => omega
      case c4 => exact HBA.out.size
      intro v1 y1 hown hg _
      replace HB := Lib.hid (HBA.out.grown hg HBA.out.size (fun k hk => (HOA.out.lt k hk).1))
      have HO := Lib.hid (show y1.ownsRow w.heap.size 5 1 v1 (1 + k * 26 + 1) ((q ++ [x.c]).map (Value.int .u8)) from by simpa using hown)
      obtain ⟨A1, q1, rfl, _, _, _⟩ := own_slice HO.out
      clear hown hg HOL HOA HBA c0 c1 c2 c3 c4
      obtain ⟨c0, c1, c2, c3, c4⟩ := hc0.out.keep (w' := y1) (fun p hp => HB.out.cell (by omega))
      go_wp2_with (fail)
      refine (refBig_any x.n.toNat 8 x.n (by have := HSX.out.n; omega) (by have := HSX.out.n; omega) (by omega) (by omega) (by rw [fitsB, decide_eq_true_eq]; have := HSX.out.n; omega) _).mono ?_
      rintro e z2 ⟨ub, rfl, ho, hb⟩
      obtain ⟨A9, c9, rfl, hr9, _, _⟩ := own_slice ho
      have HOL := Lib.hid hr9
      have HOA := Lib.hid ((Chg.of_below hb (fun _ => False)).own HO.out (fun _ _ h => h))
      have HBA := Lib.hid (HB.out.trans (hb.mono HB.out.size))
      clear ho hr9 hb
      go_wp2_with (at_builtin; go_must (refine wpList_append_any _ rfl (.tmp 24) (.tmp 30) _ rfl w.heap.size 5 i0 _ 1 1 Try.underlying51 hi hz0 hz1 hz2 rfl (by omega) _ _ _ rfl HOA.out _ A9 8 c9 ((big x.n.toNat 8).map (Value.int .u8)) rfl HOL.out ?c1 ?c2 ?c3 ?c4 ?_))
      case c1 => exact u8_one _
      case c2 => unfold maxLen; omega
      case c3 => omega
      case c4 => exact HBA.out.size
      intro v2 y2 hown hg _
      replace HB := Lib.hid (HBA.out.grown hg HBA.out.size (fun k hk => (HOA.out.lt k hk).1))
      have HO := Lib.hid (show y2.ownsRow w.heap.size 5 1 v2 (1 + k * 26 + 1 + 8) (((q ++ [x.c]) ++ big x.n.toNat 8).map (Value.int .u8)) from by simpa using hown)
      obtain ⟨A2, q2, rfl, _, _, _⟩ := own_slice HO.out
      clear hown hg HOL HOA HBA c0 c1 c2 c3 c4
      obtain ⟨c0, c1, c2, c3, c4⟩ := hc0.out.keep (w' := y2) (fun p hp => HB.out.cell (by omega))
      go_wp2_with (fail)
      refine (refBig_any x.s.toNat 8 x.s (by have := HSX.out.s; omega) (by have := HSX.out.s; omega) (by omega) (by omega) (by rw [fitsB, decide_eq_true_eq]; have := HSX.out.s; omega) _).mono ?_
      rintro e z3 ⟨ub, rfl, ho, hb⟩
      obtain ⟨A9, c9, rfl, hr9, _, _⟩ := own_slice ho
      have HOL := Lib.hid hr9
      have HOA := Lib.hid ((Chg.of_below hb (fun _ => False)).own HO.out (fun _ _ h => h))
      have HBA := Lib.hid (HB.out.trans (hb.mono HB.out.size))
      clear ho hr9 hb
      go_wp2_with (at_builtin; go_must (refine wpList_append_any _ rfl (.tmp 32) (.tmp 38) _ rfl w.heap.size 5 i0 _ 1 1 Try.underlying51 hi hz0 hz1 hz2 rfl (by omega) _ _ _ rfl HOA.out _ A9 8 c9 ((big x.s.toNat 8).map (Value.int .u8)) rfl HOL.out ?c1 ?c2 ?c3 ?c4 ?_))
      case c1 => exact u8_one _
      case c2 => unfold maxLen; omega
      case c3 => omega
      case c4 => exact HBA.out.size
      intro v3 y3 hown hg _
      replace HB := Lib.hid (HBA.out.grown hg HBA.out.size (fun k hk => (HOA.out.lt k hk).1))
      have HO := Lib.hid (show y3.ownsRow w.heap.size 5 1 v3 (1 + k * 26 + 1 + 8 + 8) ((((q ++ [x.c]) ++ big x.n.toNat 8) ++ big x.s.toNat 8).map (Value.int .u8)) from by simpa using hown)
      obtain ⟨A3, q3, rfl, _, _, _⟩ := own_slice HO.out
      clear hown hg HOL HOA HBA c0 c1 c2 c3 c4
      obtain ⟨c0, c1, c2, c3, c4⟩ := hc0.out.keep (w' := y3) (fun p hp => HB.out.cell (by omega))
      have OL := own_lit1 y3 x.k w.heap.size HB.out.size
      have HOL := Lib.hid (Reads.of_own OL)
      have HOA := Lib.hid (HO.out.alloc (.cells #[.int .u8 x.k] 5))
      have HBA := Lib.hid (HB.out.alloc HB.out.size (.cells #[.int .u8 x.k] 5))
      clear OL
      go_wp2_with (at_builtin; go_must (refine wpList_append_any _ rfl (.tmp 40) (.tmp 47) _ rfl w.heap.size 5 i0 _ 1 1 Try.underlying51 hi hz0 hz1 hz2 rfl (by omega) _ _ _ rfl HOA.out _ _ 1 1 ([x.k].map (Value.int .u8)) rfl HOL.out ?c1 ?c2 ?c3 ?c4 ?_))
      case c1 => exact u8_one _
      case c2 => unfold maxLen; omega
      case c3 => omega
      case c4 => exact HBA.out.size
      intro v4 y4 hown hg _
      replace HB := Lib.hid (HBA.out.grown hg HBA.out.size (fun k hk => (HOA.out.lt k hk).1))
      have HO := Lib.hid (show y4.ownsRow w.heap.size 5 1 v4 (1 + k * 26 + 1 + 8 + 8 + 1) (((((q ++ [x.c]) ++ big x.n.toNat 8) ++ big x.s.toNat 8) ++ [x.k]).map (Value.int .u8)) from by simpa using hown)
      obtain ⟨A4, q4, rfl, _, _, _⟩ := own_slice HO.out
      clear hown hg HOL HOA HBA c0 c1 c2 c3 c4
      obtain ⟨c0, c1, c2, c3, c4⟩ := hc0.out.keep (w' := y4) (fun p hp => HB.out.cell (by omega))
      go_wp2_with (fail)
      refine (refBig_any x.v.toNat 8 x.v (by have := HSX.out.v; omega) (by have := HSX.out.v; omega) (by omega) (by omega) (by rw [fitsB, decide_eq_true_eq]; have := HSX.out.v; omega) _).mono ?_
      rintro e z5 ⟨ub, rfl, ho, hb⟩
      obtain ⟨A9, c9, rfl, hr9, _, _⟩ := own_slice ho
      have HOL := Lib.hid hr9
      have HOA := Lib.hid ((Chg.of_below hb (fun _ => False)).own HO.out (fun _ _ h => h))
      have HBA := Lib.hid (HB.out.trans (hb.mono HB.out.size))
      clear ho hr9 hb
      go_wp2_with (at_builtin; go_must (refine wpList_append_any _ rfl (.tmp 49) (.tmp 55) _ rfl w.heap.size 5 i0 _ 1 1 Try.underlying51 hi hz0 hz1 hz2 rfl (by omega) _ _ _ rfl HOA.out _ A9 8 c9 ((big x.v.toNat 8).map (Value.int .u8)) rfl HOL.out ?c1 ?c2 ?c3 ?c4 ?_))
      case c1 => exact u8_one _
      case c2 => unfold maxLen; omega
      case c3 => omega
      case c4 => exact HBA.out.size
      intro v5 y5 hown hg _
      replace HB := Lib.hid (HBA.out.grown hg HBA.out.size (fun k hk => (HOA.out.lt k hk).1))
      have HO := Lib.hid (show y5.ownsRow w.heap.size 5 1 v5 (1 + k * 26 + 1 + 8 + 8 + 1 + 8) ((((((q ++ [x.c]) ++ big x.n.toNat 8) ++ big x.s.toNat 8) ++ [x.k]) ++ big x.v.toNat 8).map (Value.int .u8)) from by simpa using hown)
      obtain ⟨A5, q5, rfl, _, _, _⟩ := own_slice HO.out
      go_wp2_with (fail)
      go_roundw
      case rel =>
        have HO' := HO.out
        have hq5 : (((((q ++ [x.c]) ++ big x.n.toNat 8) ++ big x.s.toNat 8) ++ [x.k]) ++ big x.v.toNat 8) = q ++ rowB x := by
          rw [rowB, big_one' x.c HSX.out.c, big_one' x.k HSX.out.k]
          simp only [List.append_assoc]
        rw [hq5, HTK.out] at HO'
        exact ⟨k + 1, by omega, by go_num, Lib.hid (by rw [show 1 + (k + 1) * 26 = 1 + k * 26 + 1 + 8 + 8 + 1 + 8 from by omega]; exact HO'), HB⟩
      case measure => simp [intOf]; omega
    · obtain rfl : k = n := by omega
      go_wp2_with (fail)
      go_ret
      refine ⟨_, rfl, ?_, HB.out⟩
      have := HO.out
      rw [← HLL.out, List.take_length, HLL.out] at this
      rw [rowsB, HLL.out]
      exact this
end Go.Proofs.Ytcmaekkfeilclaa
