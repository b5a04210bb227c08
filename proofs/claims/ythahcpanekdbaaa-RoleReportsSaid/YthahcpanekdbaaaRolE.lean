/- Contract: the reference's Of. -/
import Derived.Test.YthahcpanekdbaaaRolD
namespace Go.Proofs.Ythahcpanekdbaaa
open Go.RowKit
set_option linter.unusedSimpArgs false
set_option linter.unusedVariables false
set_option maxHeartbeats 1000000
attribute [local go_sem] Cf.agg Cf.cells Rl.agg

theorem take_mem_step (l : List Int) (k : Nat) (h : k < l.length) (x : Int) (hn : x ∉ l.take k) (hne : l.getD k 0 ≠ x) : x ∉ l.take (k + 1) := by
  have hz : l[k]? = some (l.getD k 0) := by rw [List.getD_eq_getElem?_getD, List.getElem?_eq_getElem h]; rfl
  exact idx_step l k _ x hz hn hne
theorem idx_at (l : List Int) (k : Nat) (h : k < l.length) (x : Int) (hn : x ∉ l.take k) (he : l.getD k 0 = x) : x ∈ l ∧ l.idxOf x = k := by
  have hz : l[k]? = some x := by rw [← he, List.getD_eq_getElem?_getD, List.getElem?_eq_getElem h]; rfl
  have hm : x ∈ l := by rw [List.mem_iff_getElem?]; exact ⟨k, hz⟩
  have := idx_found l k x hz hn
  rw [idxOf, if_pos hm] at this
  exact ⟨hm, by omega⟩








set_option maxHeartbeats 8000000 in
set_option maxRecDepth 100000 in
theorem refOf_any (x : Cf) (node : Int) (B : Nat) (w : World) (hx : CfIn w B x) (hB : B ≤ w.heap.size) :
    Calls Try.prog 10 #[x.agg, .int .i64 node] w fun e w' => e = .returned (x.role node).agg ∧ Below w.heap.size w w' := by
  have HX := Lib.hid hx
  have HL := Lib.hid hx.len_eq
  have hc63 : (x.len : Int) ≤ 9223372036854775807 := by have h1 := hx.hc; have h2 := hx.hm; unfold maxLen at h2; omega
  have HC := Lib.hid hc63
  clear hx
  cases hR : x.right
  · have hV : Hid (x.role node = Rl.zero) := Lib.hid (by rw [Cf.role, if_neg (by simp [hR])])
    go_enter Try.func10, Try.ntmps10; go_wp2_with (fail); refine (refRight_any x B _ ((HX.out.alloc hB _).alloc (by simp; omega) _) (by simp; omega)).mono ?_; rintro e w1 ⟨rfl, h⟩; have HBX := Lib.hid (((Blk.new w 25 x.cells).alloc (.cells Rl.zero.cells 32)).below h (by simp <;> omega)); have HRS := Lib.hid ((blk_new_at (w.alloc (.cells x.cells 25)) 32 Rl.zero.cells (w.heap.size + 1) (by simp)).below h (by simp)); obtain ⟨c0, c1, c2, c3, c4⟩ := cf_cells (x := x) HBX.out; have q5 := HBX.out.lt; have q6 := HRS.out.lt; have H1 := Lib.hid (box2_below h); have HX1 := Lib.hid (HX.out.below (H1.out.mono hB)); have hBw := Nat.le_trans hB H1.out.size; clear h; obtain ⟨r0, r1, r2, r3, r4, r5, r6, r7⟩ := rl_cells HRS.out; obtain ⟨f0, f1, f2, f3, f4, f5, f6, f7⟩ := rl_frozen HRS.out; simp only [Rl.zero] at r0 r1 r2 r3 r4 r5 r6 r7
    go_wp2; refine bodyPost_ret (v := Rl.zero.agg) (by simp [results, Try.results10, go_sem, Rl.agg, Rl.zero, *]) rfl ⟨?_, ?_⟩; (· exact congrArg (fun r => Ending.returned (Rl.agg r)) hV.out.symm); (· repeat (first | with_reducible exact H1.out | with_reducible refine Below.setCell ?_ (by simp <;> omega) _ | with_reducible refine Below.alloc ?_ (by first | omega | (simp; omega)) _ | with_reducible refine below_drewN ?_ _ | with_reducible refine Below.drew ?_))
  by_cases hz : node = 0
  · have hV : Hid (x.role node = Rl.zero) := Lib.hid (by rw [Cf.role, if_neg (by simp [hz])])
    have hz' : (node == 0) = true := by simp [hz]
    clear hz
    go_enter Try.func10, Try.ntmps10; go_wp2_with (fail); refine (refRight_any x B _ ((HX.out.alloc hB _).alloc (by simp; omega) _) (by simp; omega)).mono ?_; rintro e w1 ⟨rfl, h⟩; have HBX := Lib.hid (((Blk.new w 25 x.cells).alloc (.cells Rl.zero.cells 32)).below h (by simp <;> omega)); have HRS := Lib.hid ((blk_new_at (w.alloc (.cells x.cells 25)) 32 Rl.zero.cells (w.heap.size + 1) (by simp)).below h (by simp)); obtain ⟨c0, c1, c2, c3, c4⟩ := cf_cells (x := x) HBX.out; have q5 := HBX.out.lt; have q6 := HRS.out.lt; have H1 := Lib.hid (box2_below h); have HX1 := Lib.hid (HX.out.below (H1.out.mono hB)); have hBw := Nat.le_trans hB H1.out.size; clear h; obtain ⟨r0, r1, r2, r3, r4, r5, r6, r7⟩ := rl_cells HRS.out; obtain ⟨f0, f1, f2, f3, f4, f5, f6, f7⟩ := rl_frozen HRS.out; simp only [Rl.zero] at r0 r1 r2 r3 r4 r5 r6 r7
    go_wp2; refine bodyPost_ret (v := Rl.zero.agg) (by simp [results, Try.results10, go_sem, Rl.agg, Rl.zero, *]) rfl ⟨?_, ?_⟩; (· exact congrArg (fun r => Ending.returned (Rl.agg r)) hV.out.symm); (· repeat (first | with_reducible exact H1.out | with_reducible refine Below.setCell ?_ (by simp <;> omega) _ | with_reducible refine Below.alloc ?_ (by first | omega | (simp; omega)) _ | with_reducible refine below_drewN ?_ _ | with_reducible refine Below.drew ?_))
  have hz' : (node == 0) = false := by simp [hz]
  obtain ⟨m, hm⟩ : ∃ m, x.len = m + 1 := ⟨x.len - 1, by have := (Cf.right_fine hR).1.2.2.1; omega⟩
  have HM := Lib.hid hm
  have hm63 : (m : Int) ≤ 9223372036854775806 := by omega
  clear hm hc63
  by_cases hj : node = x.jn
  · obtain ⟨p, hp⟩ : ∃ p, x.zs.getD m 0 = p := ⟨_, rfl⟩
    have hE : Hid ((x.role node).agg = .agg #[.bool false, .bool true, .bool false, .bool false, .bool true, .int .i64 0, .int .i64 p, .int .i64 0]) := Lib.hid (by rw [Cf.role, if_pos ⟨hR, hz⟩, if_pos hj, Rl.agg, Cf.last, HM.out, Nat.add_sub_cancel, hp])
    have HP := Lib.hid hp
    have hj' : (x.jn == node) = true := by simp [hj]
    clear hz hj hp
    go_enter Try.func10, Try.ntmps10; go_wp2_with (fail); refine (refRight_any x B _ ((HX.out.alloc hB _).alloc (by simp; omega) _) (by simp; omega)).mono ?_; rintro e w1 ⟨rfl, h⟩; have HBX := Lib.hid (((Blk.new w 25 x.cells).alloc (.cells Rl.zero.cells 32)).below h (by simp <;> omega)); have HRS := Lib.hid ((blk_new_at (w.alloc (.cells x.cells 25)) 32 Rl.zero.cells (w.heap.size + 1) (by simp)).below h (by simp)); obtain ⟨c0, c1, c2, c3, c4⟩ := cf_cells (x := x) HBX.out; have q5 := HBX.out.lt; have q6 := HRS.out.lt; have H1 := Lib.hid (box2_below h); have HX1 := Lib.hid (HX.out.below (H1.out.mono hB)); have hBw := Nat.le_trans hB H1.out.size; clear h; obtain ⟨r0, r1, r2, r3, r4, r5, r6, r7⟩ := rl_cells HRS.out; obtain ⟨f0, f1, f2, f3, f4, f5, f6, f7⟩ := rl_frozen HRS.out; simp only [Rl.zero] at r0 r1 r2 r3 r4 r5 r6 r7
    obtain ⟨b, off, hA, hb, hcs⟩ := cf_at2 HX1.out (by rw [HM.out]; omega)
    have hbw : b < w.heap.size := by omega
    have hbw1 : b < w1.heap.size := by omega
    have hcell := hcs m (by rw [HM.out]; omega)
    rw [HP.out] at hcell
    rw [hA, HM.out] at c2
    clear hA hcs
    go_wp2
    refine bodyPost_ret (v := .agg #[.bool false, .bool true, .bool false, .bool false, .bool true, .int .i64 0, .int .i64 p, .int .i64 0])  (by simp [results, Try.results10, go_sem, *]) rfl ⟨?_, ?_⟩; (· exact congrArg Ending.returned hE.out.symm); (· repeat (first | with_reducible exact H1.out | with_reducible refine Below.setCell ?_ (by simp <;> omega) _ | with_reducible refine Below.alloc ?_ (by first | omega | (simp; omega)) _ | with_reducible refine below_drewN ?_ _ | with_reducible refine Below.drew ?_))
  have hj' : (x.jn == node) = false := by simp; exact fun e => hj e.symm
  have HZ := Lib.hid hz
  have HJ := Lib.hid hj
  clear hz hj
  go_enter Try.func10, Try.ntmps10; go_wp2_with (fail); refine (refRight_any x B _ ((HX.out.alloc hB _).alloc (by simp; omega) _) (by simp; omega)).mono ?_; rintro e w1 ⟨rfl, h⟩; have HBX := Lib.hid (((Blk.new w 25 x.cells).alloc (.cells Rl.zero.cells 32)).below h (by simp <;> omega)); have HRS := Lib.hid ((blk_new_at (w.alloc (.cells x.cells 25)) 32 Rl.zero.cells (w.heap.size + 1) (by simp)).below h (by simp)); obtain ⟨c0, c1, c2, c3, c4⟩ := cf_cells (x := x) HBX.out; have q5 := HBX.out.lt; have q6 := HRS.out.lt; have H1 := Lib.hid (box2_below h); have HX1 := Lib.hid (HX.out.below (H1.out.mono hB)); have hBw := Nat.le_trans hB H1.out.size; clear h; obtain ⟨r0, r1, r2, r3, r4, r5, r6, r7⟩ := rl_cells HRS.out; obtain ⟨f0, f1, f2, f3, f4, f5, f6, f7⟩ := rl_frozen HRS.out; simp only [Rl.zero] at r0 r1 r2 r3 r4 r5 r6 r7
  obtain ⟨b, off, hA, hb, hcs⟩ := cf_at2 HX1.out (by rw [HM.out]; omega)
  have hbw : b < w.heap.size := by omega
  have hbw1 : b < w1.heap.size := by omega
  have HCS := Lib.hid hcs
  rw [hA, HM.out] at c2
  clear hA hcs
  go_wp2
  go_loop [6] (fun i => ∃ k : Nat, k ≤ m + 1 ∧ i = .int .i64 k ∧ Hid (node ∉ x.zs.take k)) (fun i => m + 1 - (intOf i).toNat)
  case atStart => exact ⟨0, by omega, rfl, Lib.hid (by simp)⟩
  case round =>
    obtain ⟨k, hk, rfl, hno⟩ := hrel
    by_cases hlt : k < m + 1
    · have hlt' : (k : Int) ≤ m := by omega
      obtain ⟨p, hp⟩ : ∃ p, x.zs.getD k 0 = p := ⟨_, rfl⟩
      have hcell := HCS.out k (by rw [HM.out]; omega)
      rw [hp] at hcell
      have hkl : k < x.zs.length := by rw [HL.out, HM.out]; exact hlt
      have hkx : (k : Int) < (m : Int) + 1 := by omega
      by_cases he : p = node
      · have he' : (p != node) = false := by simp [he]
        obtain ⟨hmem, hix⟩ := idx_at x.zs k hkl node hno.out (by rw [hp, he])
        have hV : x.role node = x.roleAt k := by rw [Cf.role, if_pos ⟨hR, HZ.out⟩, if_neg HJ.out, if_pos hmem, hix]
        clear hp hmem hix hno
        clear he hkl
        by_cases h0 : k = 0
        · subst h0
          rw [Nat.add_zero] at hcell
          by_cases ht : m = 0
          · have hE : Hid ((x.role node).agg = .agg #[.bool true, .bool false, .bool true, .bool true, .bool x.fr, .int .i64 0, .int .i64 0, .int .i64 x.jn]) := Lib.hid (by
              have hl : 0 + 1 = x.len := by rw [HM.out, ht]
              rw [hV, Rl.agg, Cf.roleAt, decide_eq_true hl, if_pos hl]; simp)
            clear hV
            subst ht
            go_wp2
            refine bodyPost_ret (v := .agg #[.bool true, .bool false, .bool true, .bool true, .bool x.fr, .int .i64 0, .int .i64 0, .int .i64 x.jn])  (by simp [results, Try.results10, go_sem, *]) rfl ⟨?_, ?_⟩; (· exact congrArg Ending.returned hE.out.symm); (· repeat (first | with_reducible exact H1.out | with_reducible refine Below.setCell ?_ (by simp <;> omega) _ | with_reducible refine Below.alloc ?_ (by first | omega | (simp; omega)) _ | with_reducible refine below_drewN ?_ _ | with_reducible refine Below.drew ?_))
          · obtain ⟨q, hq⟩ : ∃ q, x.zs.getD 1 0 = q := ⟨_, rfl⟩
            have hcell2 := HCS.out 1 (by rw [HM.out]; omega)
            rw [hq] at hcell2
            have hE : Hid ((x.role node).agg = .agg #[.bool true, .bool false, .bool true, .bool false, .bool false, .int .i64 0, .int .i64 0, .int .i64 q]) := Lib.hid (by
              have hl : ¬ 0 + 1 = x.len := by rw [HM.out]; omega
              rw [List.getD_eq_getElem?_getD] at hq
              rw [hV, Rl.agg, Cf.roleAt, decide_eq_false hl, if_neg hl]; simp [hq])
            have ht1 : (0 : Int) < m := by omega
            have ht2 : ((0 : Int) == m) = false := by simp; omega
            have ht3 : (1 : Int) < (m : Int) + 1 := by omega
            clear hV hq ht
            go_wp2
            refine bodyPost_ret (v := .agg #[.bool true, .bool false, .bool true, .bool false, .bool false, .int .i64 0, .int .i64 0, .int .i64 q])  (by simp [results, Try.results10, go_sem, *]) rfl ⟨?_, ?_⟩; (· exact congrArg Ending.returned hE.out.symm); (· repeat (first | with_reducible exact H1.out | with_reducible refine Below.setCell ?_ (by simp <;> omega) _ | with_reducible refine Below.alloc ?_ (by first | omega | (simp; omega)) _ | with_reducible refine below_drewN ?_ _ | with_reducible refine Below.drew ?_))
        · obtain ⟨j, rfl⟩ : ∃ j, k = j + 1 := ⟨k - 1, by omega⟩
          obtain ⟨u, hu⟩ : ∃ u, x.zs.getD j 0 = u := ⟨_, rfl⟩
          have hcell3 := HCS.out j (by rw [HM.out]; omega)
          rw [hu] at hcell3
          have hj1 : ((j : Int) + 1 == 0) = false := by simp; omega
          have hj2 : (0 : Int) < (j : Int) + 1 := by omega
          clear h0
          by_cases ht : m = j + 1
          · have hE : Hid ((x.role node).agg = .agg #[.bool true, .bool false, .bool false, .bool true, .bool x.fr, .int .i64 (j + 1), .int .i64 u, .int .i64 x.jn]) := Lib.hid (by
              have hl : j + 1 + 1 = x.len := by rw [HM.out, ht]
              rw [List.getD_eq_getElem?_getD] at hu
              rw [hV, Rl.agg, Cf.roleAt, decide_eq_true hl, if_pos hl]; simp [hu])
            have hEQ : ((j : Int) + 1 == m) = true := by simp; omega
            have hNL : ((j : Int) + 1 < m) = False := by simp; omega
            clear hV hu ht
            go_wp2
            refine bodyPost_ret (v := .agg #[.bool true, .bool false, .bool false, .bool true, .bool x.fr, .int .i64 (j + 1), .int .i64 u, .int .i64 x.jn])  (by simp [results, Try.results10, go_sem, *]) rfl ⟨?_, ?_⟩; (· exact congrArg Ending.returned hE.out.symm); (· repeat (first | with_reducible exact H1.out | with_reducible refine Below.setCell ?_ (by simp <;> omega) _ | with_reducible refine Below.alloc ?_ (by first | omega | (simp; omega)) _ | with_reducible refine below_drewN ?_ _ | with_reducible refine Below.drew ?_))
          · obtain ⟨q, hq⟩ : ∃ q, x.zs.getD (j + 2) 0 = q := ⟨_, rfl⟩
            have hcell2 := HCS.out (j + 2) (by rw [HM.out]; omega)
            rw [hq] at hcell2
            have hE : Hid ((x.role node).agg = .agg #[.bool true, .bool false, .bool false, .bool false, .bool false, .int .i64 (j + 1), .int .i64 u, .int .i64 q]) := Lib.hid (by
              have hl : ¬ j + 1 + 1 = x.len := by rw [HM.out]; omega
              rw [List.getD_eq_getElem?_getD] at hq hu
              rw [hV, Rl.agg, Cf.roleAt, decide_eq_false hl, if_neg hl]; simp [hq, hu])
            have hEQ : ((j : Int) + 1 == m) = false := by simp; omega
            have hNL : (j : Int) + 1 < m := by omega
            clear hV hu hq ht
            go_wp2
            refine bodyPost_ret (v := .agg #[.bool true, .bool false, .bool false, .bool false, .bool false, .int .i64 (j + 1), .int .i64 u, .int .i64 q])  (by simp [results, Try.results10, go_sem, *]) rfl ⟨?_, ?_⟩; (· exact congrArg Ending.returned hE.out.symm); (· repeat (first | with_reducible exact H1.out | with_reducible refine Below.setCell ?_ (by simp <;> omega) _ | with_reducible refine Below.alloc ?_ (by first | omega | (simp; omega)) _ | with_reducible refine below_drewN ?_ _ | with_reducible refine Below.drew ?_))
      · have he' : (p != node) = true := by simp [he]
        have hs := Lib.hid (take_mem_step x.zs k hkl node hno.out (by rw [hp]; exact he))
        clear he hkl hp
        go_wp2
        go_round
        case rel => exact ⟨k + 1, by omega, by go_num, hs⟩
        case measure => simp [intOf]; omega
    · have hV : Hid (x.role node = Rl.zero) := Lib.hid (by
        have := hno.out
        rw [List.take_of_length_le (by rw [HL.out, HM.out]; omega)] at this
        rw [Cf.role, if_pos ⟨hR, HZ.out⟩, if_neg HJ.out, if_neg this])
      have hlt' : (m : Int) < k := by omega
      go_wp2; refine bodyPost_ret (v := Rl.zero.agg) (by simp [results, Try.results10, go_sem, Rl.agg, Rl.zero, *]) rfl ⟨?_, ?_⟩; (· exact congrArg (fun r => Ending.returned (Rl.agg r)) hV.out.symm); (· repeat (first | with_reducible exact H1.out | with_reducible refine Below.setCell ?_ (by simp <;> omega) _ | with_reducible refine Below.alloc ?_ (by first | omega | (simp; omega)) _ | with_reducible refine below_drewN ?_ _ | with_reducible refine Below.drew ?_))
end Go.Proofs.Ythahcpanekdbaaa
