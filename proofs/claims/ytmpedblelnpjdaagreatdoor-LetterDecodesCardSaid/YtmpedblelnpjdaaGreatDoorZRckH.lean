/- The document's Check of a letter. -/
import Derived.Test.YtmpedblelnpjdaaGreatDoorZRckG
import Derived.Test.YtmpedblelnpjdaaGreatDoorZTq
import Derived.Test.YtmpedblelnpjdaaGreatDoorZTk
import Derived.Test.YtmpedblelnpjdaaGreatDoorZGN
namespace Go.Proofs.YtmpedblelnpjdaaGreatDoor
open Go.RowKit
set_option linter.unusedSimpArgs false
set_option linter.unusedVariables false
set_option maxHeartbeats 8000000
set_option maxRecDepth 100000
theorem rkNode_any (a : Int) (w : World) : Calls Tryz.prog 82 #[.int .i64 a] w fun e w' => e = .returned (.bool (decide (1 ≤ a ∧ a ≤ 24))) ∧ w = w' := by
 by_cases h1 : 1 ≤ a
 all_goals by_cases h2 : a ≤ 24
 all_goals
  go_enter Tryz.func82, Tryz.ntmps82
  go_wp2_with (fail)
  go_ret
  exact ⟨ret_bool (by first | (simp [h1, h2]; done) | (simp [h1, h2]; omega)), rfl⟩
theorem rkMaster_any (a : Int) (w : World) : Calls Tryz.prog 140 #[.int .i64 a] w fun e w' => e = .returned (.bool (decide (100 < a ∧ a ≤ 105))) ∧ w = w' := by
 by_cases h1 : 101 ≤ a
 all_goals by_cases h2 : a ≤ 105
 all_goals
  go_enter Tryz.func140, Tryz.ntmps140
  go_wp2_with (fail)
  go_ret
  exact ⟨ret_bool (by first | (simp [h1, h2]; done) | (simp [h1, h2]; omega)), rfl⟩
theorem rkClient_any (a : Int) (w : World) : Calls Tryz.prog 141 #[.int .i64 a] w fun e w' => e = .returned (.bool (decide (200 < a ∧ a ≤ 206))) ∧ w = w' := by
 by_cases h1 : 201 ≤ a
 all_goals by_cases h2 : a ≤ 206
 all_goals
  go_enter Tryz.func141, Tryz.ntmps141
  go_wp2_with (fail)
  go_ret
  exact ⟨ret_bool (by first | (simp [h1, h2]; done) | (simp [h1, h2]; omega)), rfl⟩
theorem rkAddress_any (a : Int) (w : World) : Calls Tryz.prog 63 #[.int .i64 a] w fun e w' => e = .returned (.bool (addrB a)) ∧ w = w' := by
 have N1 := Lib.hid (fun W => rkNode_any a W)
 have N2 := Lib.hid (fun W => rkMaster_any a W)
 have N3 := Lib.hid (fun W => rkClient_any a W)
 unfold addrB
 generalize decide (1 ≤ a ∧ a ≤ 24) = b1 at *
 generalize decide (100 < a ∧ a ≤ 105) = b2 at *
 generalize decide (200 < a ∧ a ≤ 206) = b3 at *
 cases b1
 ·cases b2
  ·go_enter Tryz.func63, Tryz.ntmps63
   go_wp2_with (fail)
   refine (N1.out _).mono ?_
   rintro e w1 ⟨rfl, rfl⟩
   go_wp2_with (fail)
   refine (N2.out _).mono ?_
   rintro e w1 ⟨rfl, rfl⟩
   go_wp2_with (fail)
   refine (N3.out _).mono ?_
   rintro e w1 ⟨rfl, rfl⟩
   go_wp2_with (fail)
   go_ret
   exact ⟨by first | rfl | simp, rfl⟩
  ·go_enter Tryz.func63, Tryz.ntmps63
   go_wp2_with (fail)
   refine (N1.out _).mono ?_
   rintro e w1 ⟨rfl, rfl⟩
   go_wp2_with (fail)
   refine (N2.out _).mono ?_
   rintro e w1 ⟨rfl, rfl⟩
   go_wp2_with (fail)
   go_ret
   exact ⟨by first | rfl | simp, rfl⟩
 ·go_enter Tryz.func63, Tryz.ntmps63
  go_wp2_with (fail)
  refine (N1.out _).mono ?_
  rintro e w1 ⟨rfl, rfl⟩
  go_wp2_with (fail)
  go_ret
  exact ⟨by first | rfl | simp, rfl⟩
theorem refCheck10_any (x : LV) (B : Nat) (w : World) (h : LIn w B x) (hB : B ≤ w.heap.size) (hn : x.near) : Calls Tryz.prog 15 #[.agg x.l.cells] w fun e w' => e = .returned (.int .i64 (chkX x)) ∧ Below w.heap.size w w' := by
 obtain ⟨W0, hW0, hb0, hbk⟩ := box_all x w; have hl := hbk.lt; have HB := Lib.hid hb0; have HW := Lib.hid hW0; have BK := Lib.hid hbk; clear hb0 hW0 hbk
 have x0 : W0.cell? ⟨w.heap.size, 0, none⟩ = some (.int .i64 x.l.kd) := BK.out.cell 0
 by_cases k1 : x.l.kd < 1
 ·have hd : decide (x.l.kd < 1) = true := decide_eq_true k1
  have HC : Hid (chkX x = 1) := Lib.hid (by unfold chkX; rw [if_pos (.inl k1)])
  clear k1
  go_enter Tryz.func15, Tryz.ntmps15
  go_upto_region 1 with (fail)
  have e0 := HW.out
  simp only [Lt.cells] at e0
  first | rw [← e0] | rw [← HW.out]
  clear e0
  go_wp2_with (fail)
  go_ret
  exact ⟨by rw [HC.out]; rfl, HB.out⟩
 have d1 : decide (x.l.kd < 1) = false := decide_eq_false k1
 by_cases k2 : 20 < x.l.kd
 ·have hd : decide (20 < x.l.kd) = true := decide_eq_true k2
  have HC : Hid (chkX x = 1) := Lib.hid (by unfold chkX; rw [if_pos (.inr k2)])
  clear k1 k2
  go_enter Tryz.func15, Tryz.ntmps15
  go_upto_region 1 with (fail)
  have e0 := HW.out
  simp only [Lt.cells] at e0
  first | rw [← e0] | rw [← HW.out]
  clear e0
  go_wp2_with (fail)
  go_ret
  exact ⟨by rw [HC.out]; rfl, HB.out⟩
 have d2 : decide (20 < x.l.kd) = false := decide_eq_false k2
 obtain ⟨k, hkd⟩ := Int.eq_ofNat_of_zero_le (show 0 ≤ x.l.kd by omega)
 have hk : 1 ≤ k ∧ k ≤ 20 := by omega
 obtain ⟨is, his⟩ : ∃ is, is = partsI k := ⟨_, rfl⟩
 obtain ⟨sv, hsv⟩ : ∃ sv, sv = partsS k := ⟨_, rfl⟩
 have HLEN : Hid (sv.size = is.length) := Lib.hid (by rw [hsv, his]; exact len_parts k)
 have h6 : is.length ≤ 6 := by rw [his]; exact parts_len6 k (by omega)
 have HLT : Hid (∀ i ∈ is, i < 15) := Lib.hid (by rw [his]; exact parts_lt k (by omega))
 have HIDX : Hid (∀ (j i : Nat) (w : World), is[j]? = some i → (Instr.index 9 (.string sv) (.int .i64 (j : Int))).run Tryz.prog w = .ok (.int .u8 ((chI i : Nat) : Int)) w) := Lib.hid (fun j i w h => by rw [hsv]; exact idx_parts k j i (by omega) (by rw [← his]; exact h) w)
 have PT : Hid (∀ W, Calls Tryz.prog 52 #[.int .i64 (k : Int)] W fun e w' => e = .returned (.string sv) ∧ Below W.heap.size W w') := Lib.hid (fun W => by rw [hsv]; exact refParts_any k hk W)
 obtain ⟨bs, hbs⟩ : ∃ bs, bs = sameB x (x.mask (partF k 15)) := ⟨_, rfl⟩
 have HCX : Hid (chkX x = if addrB x.l.fr = true ∧ addrB x.l.tw = true ∧ bs = true ∧ is.all (fineB x) = true then 0 else 4) := Lib.hid (by
  unfold chkX
  rw [if_neg (by omega), hbs, his, show x.l.kd.toNat = k by rw [hkd]; rfl])
 have HX := Lib.hid (h.below (HB.out.mono hB))
 have hB0 := Nat.le_trans hB HB.out.size
 obtain ⟨L, hL⟩ : ∃ L : Value, L = .agg x.l.cells := ⟨_, rfl⟩
 have HLA := Lib.hid hL
 obtain ⟨M, hM⟩ : ∃ M : Value, M = .agg (Lt.cells (x.l.mask (partF k 15))) := ⟨_, rfl⟩
 have BR : Hid (∀ W, Calls Tryz.prog 64 #[L] W fun e w' => e = .returned M ∧ Below W.heap.size W w') := Lib.hid (fun W => by rw [hL, hM]; exact refBare_any x.l k hk hkd W)
 have SM : Hid (∀ W, Below W0.heap.size W0 W → Calls Tryz.prog 11 #[L, M] W fun e w' => e = .returned (.bool bs) ∧ Below W.heap.size W w') := Lib.hid (fun W h9 => by
  rw [hbs, hL, hM]
  exact refSameG_any x (x.mask (partF k 15)) B B W (HX.out.below (h9.mono hB0)) ((HX.out.below (h9.mono hB0)).mask _) (Nat.le_trans hB0 h9.size) (Nat.le_trans hB0 h9.size) hn)
 have HN := Lib.hid hn
 have hLD : ∀ wq, Blk wq w.heap.size 37 x.l.cells → (loadVar 37 ⟨w.heap.size, 0, none⟩).run Tryz.prog wq = .ok L wq := fun wq h => by rw [HLA.out]; exact load_lt x.l _ wq h
 have x0k : W0.cell? ⟨w.heap.size, 0, none⟩ = some (.int .i64 (k : Int)) := by rw [x0, hkd]
 have dk1 : decide (k < 1) = false := decide_eq_false (by omega)
 have dk2 : decide (20 < k) = false := decide_eq_false (by omega)
 have FP : Hid (∀ (i : Nat) (W : World), i < 15 → Below W0.heap.size W0 W → Calls Tryz.prog 62 #[L, .int .u8 ((chI i : Nat) : Int)] W fun e w' => e = .returned (.bool (fineB x i)) ∧ Below W.heap.size W w') := Lib.hid (fun i W hi h9 => by
  rw [hL]
  exact refFine10_any x i hi B W (HX.out.below (h9.mono hB0)) (Nat.le_trans hB0 h9.size) hn)
 have A1 : Hid (∀ W, Calls Tryz.prog 63 #[.int .i64 x.l.fr] W fun e w' => e = .returned (.bool (addrB x.l.fr)) ∧ W = w') := Lib.hid (fun W => rkAddress_any _ W)
 have A2 : Hid (∀ W, Calls Tryz.prog 63 #[.int .i64 x.l.tw] W fun e w' => e = .returned (.bool (addrB x.l.tw)) ∧ W = w') := Lib.hid (fun W => rkAddress_any _ W)
 have HKD := Lib.hid hkd
 clear hL hM his hsv hbs hkd x0 d1 d2 k1 k2 h hn
 go_enter Tryz.func15, Tryz.ntmps15
 go_upto_region 1 with (fail)
 have e0 := HW.out
 simp only [Lt.cells] at e0
 first | rw [← e0] | rw [← HW.out]
 clear e0
 go_wp2_with (fail)
 refine (PT.out _).mono ?_
 rintro e w2 ⟨rfl, hb2⟩
 have HI2 := Lib.hid hb2
 clear hb2 PT x0k
 go_wp2_with (fail)
 go_loopw [4] (fun iv wr => ∃ j : Nat, j ≤ is.length ∧ iv = .int .i64 j ∧ Hid (Below W0.heap.size W0 wr ∧ ∀ (j' i : Nat), j' < j → is[j']? = some i → fineB x i = true)) (fun iv _ => is.length - (intOf iv).toNat)
 case atStart => exact ⟨0, Nat.zero_le _, rfl, Lib.hid ⟨HI2.out, fun j' i h0 => absurd h0 (Nat.not_lt_zero _)⟩⟩
 case round =>
  clear HI2
  obtain ⟨j, hj, rfl, HE⟩ := hrel
  have hlen := HLEN.out
  have HB1 := Lib.hid (BK.out.below HE.out.1 hl)
  have lw1 := HB1.out.lt
  have hbs := HE.out.1.size
  have hsB := HB.out.size
  by_cases hlt : j < is.length
  ·have hd : decide (j < is.length) = true := decide_eq_true hlt
   obtain ⟨i, hi⟩ : ∃ i, is[j]? = some i := ⟨_, List.getElem?_eq_getElem hlt⟩
   have hix : ∀ w, (Instr.index 9 (.string sv) (.int .i64 (j : Int))).run Tryz.prog w = .ok (.int .u8 ((chI i : Nat) : Int)) w := fun w => HIDX.out j i w hi
   have FP1 := FP.out i wr.drew (HLT.out i (List.mem_of_getElem? hi)) HE.out.1.drew
   obtain ⟨cb, hcb⟩ : ∃ cb : Int, cb = ((chI i : Nat) : Int) := ⟨_, rfl⟩
   rw [← hcb] at FP1 hix
   obtain ⟨bf, hbf⟩ : ∃ bf, bf = fineB x i := ⟨_, rfl⟩
   rw [← hbf] at FP1
   have FPH := Lib.hid FP1
   have HBF := Lib.hid hbf
   have HII := Lib.hid hi
   clear FP1 hcb hbf hi
   have b1 := HB1.out
   go_upto_region 7 with (fail)
   refine wp_region_held_drew (S := fun wq => Blk wq w.heap.size 37 x.l.cells) (by kernel_rfl) b1 (fun hHeld => ?_)
   refine tkT 0 rfl (v := L) ?_ ?_
   ·exact fun wq hSw => exec_load_row rfl _ rfl (hLD wq hSw)
   try simp only [Act.put, pS]
   refine tkT 1 rfl (v := ?_) ?_ ?_
   rotate_left 1
   ·(intro wq hSw; (try dsimp only at hSw); go_simp; (try with_reducible rfl))
   try simp only [Act.put, pS]
   refine tkT 2 rfl (v := ?_) ?_ ?_
   rotate_left 1
   ·(intro wq hSw; (try dsimp only at hSw); go_simp; (try with_reducible rfl))
   try simp only [Act.put, pS]
   refine tkT 3 rfl (v := ?_) ?_ ?_
   rotate_left 1
   ·(intro wq hSw; (try dsimp only at hSw); go_simp; (try with_reducible rfl))
   try simp only [Act.put, pS]
   refine wpAnyH_ready (rs := [4]) (by kernel_rfl) (by simp) ?_
   refine (AllReadyH.cons rfl (fun K hK => ?_) AllReadyH.nil)
   go_simp
   refine FPH.out.mono ?_
   rintro e w4 ⟨rfl, h4⟩
   have hb4 : Below wr.heap.size wr w4 := (Below.refl _ _).drew.trans h4
   have HS : Blk w4 w.heap.size 37 x.l.cells := HB1.out.below hb4 lw1
   have H4 := Lib.hid (HE.out.1.trans (hb4.mono hbs))
   clear h4 hb4
   refine hK.out _ _ ?_ (fun hHeld => ?_)
   ·first | exact HS | go_keep
   clear hK K
   try simp only [Act.put, pS]
   refine tkT 5 rfl (v := ?_) ?_ ?_
   rotate_left 1
   ·(intro wq hSw; (try dsimp only at hSw); go_simp; (try with_reducible rfl))
   try simp only [Act.put, pS]
   refine wpAnyH_done (by kernel_rfl) ?_ _
   skip
   clear HS hHeld b1 FPH
   cases bf
   ·go_wp2_with (fail)
    go_ret
    refine ⟨?_, HB.out.trans (H4.out.mono hsB)⟩
    rw [HCX.out, if_neg (fun h => by have := List.all_eq_true.1 h.2.2.2 i (List.mem_of_getElem? HII.out); rw [← HBF.out] at this; cases this)]
    rfl
   ·go_wp2_with (fail)
    refine ⟨⟨j + 1, hlt, by simp, Lib.hid ⟨H4.out, fun j' i' h0 h1 => ?_⟩⟩, by simp [intOf]; omega⟩
    rcases Nat.lt_or_ge j' j with h2 | h2
    ·exact HE.out.2 j' i' h2 h1
    ·obtain rfl : j' = j := by omega
     have h3 := HII.out
     rw [h1] at h3
     injection h3 with h3
     rw [h3]
     exact HBF.out.symm
  ·obtain rfl : j = is.length := by omega
   have HALL : Hid (is.all (fineB x) = true) := Lib.hid (List.all_eq_true.2 (fun i hi => by
    obtain ⟨j', hj'⟩ := List.getElem?_of_mem hi
    exact HE.out.2 j' i (List.getElem?_eq_some_iff.1 hj').1 hj'))
   have HCF : Hid (chkX x = if addrB x.l.fr = true ∧ addrB x.l.tw = true ∧ bs = true then 0 else 4) := Lib.hid (by
    rw [HCX.out]
    have := HALL.out
    simp only [this, and_true])
   have b1 := HB1.out
   have x1 : wr.cell? ⟨w.heap.size, 1, none⟩ = some (.int .i64 x.l.fr) := HB1.out.cell 1
   have x2 : wr.cell? ⟨w.heap.size, 2, none⟩ = some (.int .i64 x.l.tw) := HB1.out.cell 2
   clear HALL HCX FP
   generalize addrB x.l.fr = a1 at *
   generalize addrB x.l.tw = a2 at *
   cases a1
   ·clear A2 BR SM
    go_upto_region 9 with (fail)
    have HQ : Hid (Below wr.heap.size wr wr.drew) := Lib.hid (Below.refl _ _).drew
    refine wp_region_held_drew (S := fun wq => Blk wq w.heap.size 37 x.l.cells ∧ wq.cell? ⟨w.heap.size, 1, none⟩ = some (.int .i64 x.l.fr) ∧ wq.cell? ⟨w.heap.size, 2, none⟩ = some (.int .i64 x.l.tw)) (by kernel_rfl) ⟨b1, x1, x2⟩ (fun hHeld => ?_)
    refine tkT 0 rfl (v := ?_) ?_ ?_
    rotate_left 1
    ·(intro wq hSw; (try dsimp only at hSw); go_simp; (try with_reducible rfl))
    try simp only [Act.put, pS]
    refine tkT 1 rfl (v := ?_) ?_ ?_
    rotate_left 1
    ·(intro wq hSw; (try dsimp only at hSw); go_simp; (try with_reducible rfl))
    try simp only [Act.put, pS]
    refine wpAnyH_ready (rs := [2]) (by kernel_rfl) (by simp) ?_
    refine (AllReadyH.cons rfl (fun K hK => ?_) AllReadyH.nil)
    go_simp
    refine (A1.out _).mono ?_
    rintro e w3 ⟨rfl, rfl⟩
    have HS : Blk wr.drew w.heap.size 37 x.l.cells ∧ wr.drew.cell? ⟨w.heap.size, 1, none⟩ = some (.int .i64 x.l.fr) ∧ wr.drew.cell? ⟨w.heap.size, 2, none⟩ = some (.int .i64 x.l.tw) := ⟨HB1.out.below HQ.out lw1, (HB1.out.below HQ.out lw1).cell 1, (HB1.out.below HQ.out lw1).cell 2⟩
    refine hK.out _ _ ?_ (fun hHeld => ?_)
    ·first | exact HS | go_keep
    clear hK K
    try simp only [Act.put, pS]
    refine tkT 3 rfl (v := ?_) ?_ ?_
    rotate_left 1
    ·(intro wq hSw; (try dsimp only at hSw); go_simp; (try with_reducible rfl))
    try simp only [Act.put, pS]
    refine tkT 4 rfl (v := ?_) ?_ ?_
    rotate_left 1
    ·(intro wq hSw; (try dsimp only at hSw); go_simp; (try with_reducible rfl))
    try simp only [Act.put, pS]
    refine wpAnyH_take (i := 5) (v := undef) rfl (by kernel_rfl) (by kernel_rfl) (by kernel_rfl) (fun _ _ _ h => h) (Or.inr ⟨by rfl, rfl⟩) (by assumption) ?_
    try simp only [Act.put, pS]
    refine wpAnyH_take (i := 6) (v := undef) rfl (by kernel_rfl) (by kernel_rfl) (by kernel_rfl) (fun _ _ _ h => h) (Or.inr ⟨by rfl, rfl⟩) (by assumption) ?_
    try simp only [Act.put, pS]
    refine wpAnyH_take (i := 7) (v := undef) rfl (by kernel_rfl) (by kernel_rfl) (by kernel_rfl) (fun _ _ _ h => h) (Or.inr ⟨by rfl, rfl⟩) (by assumption) ?_
    try simp only [Act.put, pS]
    refine wpAnyH_take (i := 8) (v := undef) rfl (by kernel_rfl) (by kernel_rfl) (by kernel_rfl) (fun _ _ _ h => h) (Or.inr ⟨by rfl, rfl⟩) (by assumption) ?_
    exact rp18
   ·cases a2
    ·clear BR SM
     go_upto_region 9 with (fail)
     have HQ : Hid (Below wr.heap.size wr wr.drew) := Lib.hid (Below.refl _ _).drew
     refine wp_region_held_drew (S := fun wq => Blk wq w.heap.size 37 x.l.cells ∧ wq.cell? ⟨w.heap.size, 1, none⟩ = some (.int .i64 x.l.fr) ∧ wq.cell? ⟨w.heap.size, 2, none⟩ = some (.int .i64 x.l.tw)) (by kernel_rfl) ⟨b1, x1, x2⟩ (fun hHeld => ?_)
     refine tkT 0 rfl (v := ?_) ?_ ?_
     rotate_left 1
     ·(intro wq hSw; (try dsimp only at hSw); go_simp; (try with_reducible rfl))
     try simp only [Act.put, pS]
     refine tkT 1 rfl (v := ?_) ?_ ?_
     rotate_left 1
     ·(intro wq hSw; (try dsimp only at hSw); go_simp; (try with_reducible rfl))
     try simp only [Act.put, pS]
     refine wpAnyH_ready (rs := [2]) (by kernel_rfl) (by simp) ?_
     refine (AllReadyH.cons rfl (fun K hK => ?_) AllReadyH.nil)
     go_simp
     refine (A1.out _).mono ?_
     rintro e w3 ⟨rfl, rfl⟩
     have HS : Blk wr.drew w.heap.size 37 x.l.cells ∧ wr.drew.cell? ⟨w.heap.size, 1, none⟩ = some (.int .i64 x.l.fr) ∧ wr.drew.cell? ⟨w.heap.size, 2, none⟩ = some (.int .i64 x.l.tw) := ⟨HB1.out.below HQ.out lw1, (HB1.out.below HQ.out lw1).cell 1, (HB1.out.below HQ.out lw1).cell 2⟩
     refine hK.out _ _ ?_ (fun hHeld => ?_)
     ·first | exact HS | go_keep
     clear hK K
     try simp only [Act.put, pS]
     refine tkT 3 rfl (v := ?_) ?_ ?_
     rotate_left 1
     ·(intro wq hSw; (try dsimp only at hSw); go_simp; (try with_reducible rfl))
     try simp only [Act.put, pS]
     refine tkT 4 rfl (v := ?_) ?_ ?_
     rotate_left 1
     ·(intro wq hSw; (try dsimp only at hSw); go_simp; (try with_reducible rfl))
     try simp only [Act.put, pS]
     refine tkT 5 rfl (v := ?_) ?_ ?_
     rotate_left 1
     ·(intro wq hSw; (try dsimp only at hSw); go_simp; (try with_reducible rfl))
     try simp only [Act.put, pS]
     refine tkT 6 rfl (v := ?_) ?_ ?_
     rotate_left 1
     ·(intro wq hSw; (try dsimp only at hSw); go_simp; (try with_reducible rfl))
     try simp only [Act.put, pS]
     refine wpAnyH_ready (rs := [7]) (by kernel_rfl) (by simp) ?_
     refine (AllReadyH.cons rfl (fun K hK => ?_) AllReadyH.nil)
     go_simp
     refine (A2.out _).mono ?_
     rintro e w3 ⟨rfl, rfl⟩
     have HS : Blk wr.drew w.heap.size 37 x.l.cells ∧ wr.drew.cell? ⟨w.heap.size, 1, none⟩ = some (.int .i64 x.l.fr) ∧ wr.drew.cell? ⟨w.heap.size, 2, none⟩ = some (.int .i64 x.l.tw) := ⟨HB1.out.below HQ.out lw1, (HB1.out.below HQ.out lw1).cell 1, (HB1.out.below HQ.out lw1).cell 2⟩
     refine hK.out _ _ ?_ (fun hHeld => ?_)
     ·first | exact HS | go_keep
     clear hK K
     try simp only [Act.put, pS]
     refine tkT 8 rfl (v := ?_) ?_ ?_
     rotate_left 1
     ·(intro wq hSw; (try dsimp only at hSw); go_simp; (try with_reducible rfl))
     exact rp18
    ·cases bs
     ·skip
      exact rp5
     ·skip
      exact rp5
end Go.Proofs.YtmpedblelnpjdaaGreatDoor
