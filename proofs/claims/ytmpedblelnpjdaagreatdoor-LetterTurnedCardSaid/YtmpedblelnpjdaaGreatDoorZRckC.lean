/- The document's 'fine' of updates. -/
import Derived.Test.YtmpedblelnpjdaaGreatDoorZRckB
import Derived.Test.YtmpedblelnpjdaaGreatDoorZTk
namespace Go.Proofs.YtmpedblelnpjdaaGreatDoor
open Go.RowKit
set_option linter.unusedSimpArgs false
set_option linter.unusedVariables false
set_option maxHeartbeats 8000000
set_option maxRecDepth 100000

attribute [local go_sem] Up.agg Up.cells
theorem upsOk_all {l : List Up} {r : Bool} (h : ∀ (i : Nat) (u : Up), l[i]? = some u → upOkB u r = true) : upsOk l r = true := by
  unfold upsOk
  refine List.all_eq_true.2 (fun u hu => ?_)
  obtain ⟨i, hi⟩ := List.getElem?_of_mem hu
  exact h i u hi
theorem upsOk_not {l : List Up} {r : Bool} {i : Nat} {u : Up} (hu : l[i]? = some u) (h : upOkB u r = false) : upsOk l r = false := by
  unfold upsOk
  refine Bool.eq_false_iff.2 (fun e => ?_)
  have := List.all_eq_true.1 e u (List.mem_of_getElem? hu)
  rw [h] at this
  cases this
theorem rfine_u (x : LV) (B : Nat) (w : World) (h : LIn w B x) (hB : B ≤ w.heap.size) (hn : x.near) : Calls Tryz.prog 62 #[.agg x.l.cells, .int .u8 117] w fun e w' => e = .returned (.bool (updsB x.l.kd x.us)) ∧ Below w.heap.size w w' := by
  obtain ⟨W0, hW0, hb0, hbk⟩ := box_all x w; have hl := hbk.lt; have HB := Lib.hid hb0; have HW := Lib.hid hW0; have BK := Lib.hid hbk; clear hb0 hW0 hbk
  have HX := Lib.hid (h.up.below (HB.out.mono hB))
  have HN := Lib.hid hn
  have HLN : Hid (x.us.length = x.l.un) := Lib.hid h.up.len
  obtain ⟨rb, hrb⟩ : ∃ rb : Bool, rb = (x.l.kd == 17) := ⟨_, rfl⟩
  have q17 : (x.l.kd == 17) = rb := hrb.symm
  have HRB : Hid (decide (x.l.kd = 17) = rb) := Lib.hid (by rw [hrb]; by_cases e : x.l.kd = 17 <;> simp [e])
  have hB0 := Nat.le_trans hB HB.out.size
  clear h hn hrb
  go_enter Tryz.func62, Tryz.ntmps62
  go_upto_region 1 with (fail)
  have e0 := HW.out
  simp only [Lt.cells] at e0
  first | rw [← e0] | rw [← HW.out]
  clear e0
  go_wp2_with (fail)
  go_loopw [7] (fun iv wr => ∃ j : Nat, j ≤ x.l.un ∧ iv = .int .i64 j ∧ Hid (Below W0.heap.size W0 wr ∧ ∀ (i : Nat) (u : Up), i < j → x.us[i]? = some u → upOkB u rb = true)) (fun iv _ => x.l.un - (intOf iv).toNat)
  case atStart => exact ⟨0, Nat.zero_le _, rfl, Lib.hid ⟨Below.refl _ _, fun i u hi => absurd hi (Nat.not_lt_zero _)⟩⟩
  case round =>
    obtain ⟨j, hj, rfl, HE⟩ := hrel
    have hul : (x.l.un : Int) ≤ 1000000 := by have := HN.out.ul; omega
    have hbk2 := BK.out.below HE.out.1 hl
    have x0 : wr.cell? ⟨w.heap.size, 0, none⟩ = some (.int .i64 x.l.kd) := hbk2.cell 0
    have x23 : wr.cell? ⟨w.heap.size, 23, none⟩ = some (.slice x.l.uA x.l.un x.l.up) := hbk2.cell 23
    have lw := hbk2.lt
    have hsz := HE.out.1.size
    have HBK2 := Lib.hid hbk2
    clear hbk2
    by_cases hlt : j < x.l.un
    · have hltZ : (j : Int) < x.l.un := by omega
      obtain ⟨b, off, u, e1, hb, hu, hui, c0, c1, c2, c3, c4, c5, c6⟩ := (HX.out.below (HE.out.1.mono hB0)).at_ hlt
      have HU := Lib.hid hu
      have UP := Lib.hid (refUpdate10_any u rb wr.drew hui.wf (HN.out.us u (List.mem_of_getElem? hu)))
      have hbn : b ≠ w.heap.size := by omega
      clear hu hui
      rw [e1] at x23
      obtain ⟨bo, hbo⟩ : ∃ bo, bo = upOkB u rb := ⟨_, rfl⟩
      rw [← hbo] at UP
      have HBO := Lib.hid hbo
      clear hbo
      go_upto_region 28 with (fail)
      refine wp_region_held_drew (S := fun wq => wq.cell? ⟨w.heap.size, 0, none⟩ = some (.int .i64 x.l.kd) ∧ wq.cell? ⟨w.heap.size, 23, none⟩ = some (.slice (some ⟨b, off, none⟩) x.l.un x.l.up) ∧ wq.cell? ⟨b, off + j * 7, none⟩ = some (.int .u64 u.seq) ∧ wq.cell? ⟨b, off + j * 7 + 1, none⟩ = some (.int .i64 u.cl) ∧ wq.cell? ⟨b, off + j * 7 + 2, none⟩ = some (.int .u64 u.num) ∧ wq.cell? ⟨b, off + j * 7 + 3, none⟩ = some (.int .i64 u.kd) ∧ wq.cell? ⟨b, off + j * 7 + 4, none⟩ = some (.int .u32 u.key) ∧ wq.cell? ⟨b, off + j * 7 + 5, none⟩ = some (.int .u64 u.ver) ∧ wq.cell? ⟨b, off + j * 7 + 6, none⟩ = some (.slice u.A u.n u.c)) (by kernel_rfl) ⟨x0, x23, c0, c1, c2, c3, c4, c5, c6⟩ (fun hHeld => ?_)
      refine wpAnyH_take (i := 0) (v := ?_) rfl (by kernel_rfl) (by kernel_rfl) (by kernel_rfl) (fun _ _ _ h => h) (Or.inl ⟨by rfl, ?_⟩) (by assumption) ?_
      rotate_left 1
      · (intro wq hSw; (try dsimp only at hSw); go_simp; (try with_reducible rfl))
      try simp only [Act.put, pS]
      refine wpAnyH_take (i := 1) (v := ?_) rfl (by kernel_rfl) (by kernel_rfl) (by kernel_rfl) (fun _ _ _ h => h) (Or.inl ⟨by rfl, ?_⟩) (by assumption) ?_
      rotate_left 1
      · (intro wq hSw; (try dsimp only at hSw); go_simp; (try with_reducible rfl))
      try simp only [Act.put, pS]
      refine wpAnyH_take (i := 2) (v := ?_) rfl (by kernel_rfl) (by kernel_rfl) (by kernel_rfl) (fun _ _ _ h => h) (Or.inl ⟨by rfl, ?_⟩) (by assumption) ?_
      rotate_left 1
      · (intro wq hSw; (try dsimp only at hSw); go_simp; (try with_reducible rfl))
      try simp only [Act.put, pS]
      refine wpAnyH_take (i := 3) (v := ?_) rfl (by kernel_rfl) (by kernel_rfl) (by kernel_rfl) (fun _ _ _ h => h) (Or.inl ⟨by rfl, ?_⟩) (by assumption) ?_
      rotate_left 1
      · (intro wq hSw; (try dsimp only at hSw); go_simp; (try with_reducible rfl))
      try simp only [Act.put, pS]
      refine wpAnyH_take (i := 4) (v := ?_) rfl (by kernel_rfl) (by kernel_rfl) (by kernel_rfl) (fun _ _ _ h => h) (Or.inl ⟨by rfl, ?_⟩) (by assumption) ?_
      rotate_left 1
      · (intro wq hSw; (try dsimp only at hSw); go_simp; (try with_reducible rfl))
      try simp only [Act.put, pS]
      refine wpAnyH_take (i := 5) (v := ?_) rfl (by kernel_rfl) (by kernel_rfl) (by kernel_rfl) (fun _ _ _ h => h) (Or.inl ⟨by rfl, ?_⟩) (by assumption) ?_
      rotate_left 1
      · (intro wq hSw; (try dsimp only at hSw); go_simp; (try with_reducible rfl))
      try simp only [Act.put, pS]
      refine wpAnyH_take (i := 6) (v := ?_) rfl (by kernel_rfl) (by kernel_rfl) (by kernel_rfl) (fun _ _ _ h => h) (Or.inl ⟨by rfl, ?_⟩) (by assumption) ?_
      rotate_left 1
      · (intro wq hSw; (try dsimp only at hSw); go_simp; (try with_reducible rfl))
      try simp only [Act.put, pS]
      refine wpAnyH_take (i := 7) (v := ?_) rfl (by kernel_rfl) (by kernel_rfl) (by kernel_rfl) (fun _ _ _ h => h) (Or.inl ⟨by rfl, ?_⟩) (by assumption) ?_
      rotate_left 1
      · (intro wq hSw; (try dsimp only at hSw); go_simp; (try with_reducible rfl))
      try simp only [Act.put, pS]
      refine wpAnyH_ready (rs := [8]) (by kernel_rfl) (by simp) ?_
      refine (AllReadyH.cons rfl (fun K hK => ?_) AllReadyH.nil)
      go_simp
      refine UP.out.mono ?_
      rintro e w8 ⟨rfl, h8⟩
      have hb8 : Below wr.heap.size wr w8 := (Below.refl _ _).drew.trans h8
      have bb : b < wr.heap.size := by omega
      have HS : w8.cell? ⟨w.heap.size, 0, none⟩ = some (.int .i64 x.l.kd) ∧ w8.cell? ⟨w.heap.size, 23, none⟩ = some (.slice (some ⟨b, off, none⟩) x.l.un x.l.up) ∧ w8.cell? ⟨b, off + j * 7, none⟩ = some (.int .u64 u.seq) ∧ w8.cell? ⟨b, off + j * 7 + 1, none⟩ = some (.int .i64 u.cl) ∧ w8.cell? ⟨b, off + j * 7 + 2, none⟩ = some (.int .u64 u.num) ∧ w8.cell? ⟨b, off + j * 7 + 3, none⟩ = some (.int .i64 u.kd) ∧ w8.cell? ⟨b, off + j * 7 + 4, none⟩ = some (.int .u32 u.key) ∧ w8.cell? ⟨b, off + j * 7 + 5, none⟩ = some (.int .u64 u.ver) ∧ w8.cell? ⟨b, off + j * 7 + 6, none⟩ = some (.slice u.A u.n u.c) :=
        ⟨(hb8.cell (p := ⟨w.heap.size, 0, none⟩) lw).trans x0, (hb8.cell (p := ⟨w.heap.size, 23, none⟩) lw).trans x23, (hb8.cell (p := ⟨b, off + j * 7, none⟩) bb).trans c0, (hb8.cell (p := ⟨b, off + j * 7 + 1, none⟩) bb).trans c1, (hb8.cell (p := ⟨b, off + j * 7 + 2, none⟩) bb).trans c2, (hb8.cell (p := ⟨b, off + j * 7 + 3, none⟩) bb).trans c3, (hb8.cell (p := ⟨b, off + j * 7 + 4, none⟩) bb).trans c4, (hb8.cell (p := ⟨b, off + j * 7 + 5, none⟩) bb).trans c5, (hb8.cell (p := ⟨b, off + j * 7 + 6, none⟩) bb).trans c6⟩
      have H8 := Lib.hid (HE.out.1.trans (hb8.mono hsz))
      clear h8 hb8
      refine hK.out _ _ ?_ (fun hHeld => ?_)
      · first | exact HS | go_keep
      clear hK K
      try simp only [Act.put, pS]
      refine wpAnyH_take (i := 9) (v := ?_) rfl (by kernel_rfl) (by kernel_rfl) (by kernel_rfl) (fun _ _ _ h => h) (Or.inl ⟨by rfl, ?_⟩) (by assumption) ?_
      rotate_left 1
      · (intro wq hSw; (try dsimp only at hSw); go_simp; (try with_reducible rfl))
      try simp only [Act.put, pS]
      refine wpAnyH_done (by kernel_rfl) ?_ _
      skip
      clear HS hHeld x0 x23 c0 c1 c2 c3 c4 c5 c6 UP
      cases bo
      · go_wp2_with (fail)
        go_ret
        refine ⟨ret_bool ?_, HB.out.trans (H8.out.mono HB.out.size)⟩
        unfold updsB
        rw [HRB.out, upsOk_not HU.out HBO.out.symm, Bool.and_false]
      · go_wp2_with (fail)
        refine ⟨⟨j + 1, hlt, by simp, Lib.hid ⟨H8.out, fun i v hi hv => ?_⟩⟩, by simp [intOf]; omega⟩
        rcases Nat.lt_or_ge i j with hij | hij
        · exact HE.out.2 i v hij hv
        · obtain rfl : i = j := by omega
          have := HU.out
          rw [hv] at this
          injection this with this
          rw [this]
          exact HBO.out.symm
    · obtain rfl : j = x.l.un := by omega
      have HALL : Hid (upsOk x.us rb = true) := Lib.hid (upsOk_all (fun i v hv => HE.out.2 i v (by have := (List.getElem?_eq_some_iff.1 hv).1; have := HLN.out; omega) hv))
      have h17 := HRB.out
      have q17n : (x.l.kd != 17) = !rb := by rw [← q17]; rfl
      have HAL := HALL
      clear HALL
      by_cases h4 : x.l.un ≤ 4
      · have d4 : decide (x.l.un ≤ 4) = true := decide_eq_true h4
        cases rb
        · have HFIN : Hid (updsB x.l.kd x.us = true) := Lib.hid (by
            unfold updsB
            rw [HRB.out, HAL.out, HLN.out]
            have : ¬ x.l.kd = 17 := of_decide_eq_false h17
            simp [this, h4])
          clear HAL h17
          go_wp2_with (fail)
          go_ret
          exact ⟨ret_bool HFIN.out.symm, HB.out.trans (HE.out.1.mono HB.out.size)⟩
        · by_cases h1 : x.l.un = 1
          · have d1 : ((x.l.un : Int) == 1) = true := by simp [h1]
            have HFIN : Hid (updsB x.l.kd x.us = true) := Lib.hid (by
              unfold updsB
              rw [HRB.out, HAL.out, HLN.out]
              simp [h1])
            clear HAL h17 h1
            go_wp2_with (fail)
            go_ret
            exact ⟨ret_bool HFIN.out.symm, HB.out.trans (HE.out.1.mono HB.out.size)⟩
          · have d1 : ((x.l.un : Int) == 1) = false := by simp; omega
            have HFIN : Hid (updsB x.l.kd x.us = false) := Lib.hid (by
              unfold updsB
              rw [HRB.out, HAL.out, HLN.out]
              have : x.l.kd = 17 := of_decide_eq_true h17
              simp [this, h1])
            clear HAL h17 h1
            go_wp2_with (fail)
            go_ret
            exact ⟨ret_bool HFIN.out.symm, HB.out.trans (HE.out.1.mono HB.out.size)⟩
      · have d4 : decide (x.l.un ≤ 4) = false := decide_eq_false h4
        have HFIN : Hid (updsB x.l.kd x.us = false) := Lib.hid (by
          unfold updsB
          rw [HLN.out]
          simp [h4])
        clear HAL h17
        go_wp2_with (fail)
        go_ret
        exact ⟨ret_bool HFIN.out.symm, HB.out.trans (HE.out.1.mono HB.out.size)⟩
end Go.Proofs.YtmpedblelnpjdaaGreatDoor
