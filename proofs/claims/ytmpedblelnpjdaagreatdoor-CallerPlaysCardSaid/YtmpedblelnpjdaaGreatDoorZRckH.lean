import Derived.Test.YtmpedblelnpjdaaGreatDoorZRckE
import Derived.Test.YtmpedblelnpjdaaGreatDoorZTq
import Derived.Test.YtmpedblelnpjdaaGreatDoorZGN
import Derived.Test.YtmpedblelnpjdaaGreatDoorZTk
import Derived.Test.YtmpedblelnpjdaaGreatDoorZAsC
section
/- The document's Parts; fine and copied of any part. -/
namespace Go.Proofs.YtmpedblelnpjdaaGreatDoor
open Go.RowKit
set_option linter.unusedSimpArgs false
set_option linter.unusedVariables false
set_option maxHeartbeats 8000000
set_option maxRecDepth 100000
def chI (i : Nat) : Nat := [99, 101, 98, 115, 100, 108, 110, 111, 107, 118, 109, 102, 116, 117, 97].getD i 97
def partsS (k : Nat) : ByteArray := ⟨((partsI k).map (fun i => UInt8.ofNat (chI i))).toArray⟩
theorem parts_lt : ∀ k, k < 21 → ∀ i ∈ partsI k, i < 15 := by decide +kernel
theorem parts_len6 : ∀ k, k < 21 → (partsI k).length ≤ 6 := by decide +kernel
theorem refFine10_any (x : LV) (i : Nat) (hi : i < 15) (B : Nat) (w : World) (h : LIn w B x) (hB : B ≤ w.heap.size) (hn : x.near) : Calls Tryz.prog 62 #[.agg x.l.cells, .int .u8 ((chI i : Nat) : Int)] w fun e w' => e = .returned (.bool (fineB x i)) ∧ Below w.heap.size w w' := by
 have hbl := h.wf.bl
 match i, hi with
 | 0, _ => exact rfine_c x w
 | 1, _ => exact rfine_e x h.wf.ep.1 w
 | 2, _ => exact rfine_b x ⟨hbl.1, by omega⟩ w
 | 3, _ => exact rfine_s x w
 | 4, _ => exact rfine_d x w
 | 5, _ => exact rfine_l x w
 | 6, _ => exact rfine_n x w
 | 7, _ => exact rfine_o x w
 | 8, _ => exact rfine_k x w
 | 9, _ => exact rfine_v x w
 | 10, _ => exact rfine_m x h.wf.qe.1 w
 | 11, _ => exact rfine_f x B w h hB hn
 | 12, _ => exact rfine_t x B w h hB hn
 | 13, _ => exact rfine_u x B w h hB hn
 | 14, _ => exact rfine_a x w
theorem refCopied_any (a b : Lt) (i : Nat) (hi : i < 15) (w : World) : Calls Tryz.prog 142 #[.agg a.cells, .agg b.cells, .int .u8 ((chI i : Nat) : Int)] w fun e w' => e = .returned (.agg (Lt.cells (cpy i a b))) ∧ Below w.heap.size w w' := by
 match i, hi with
 | 0, _ => exact copied_c a b w
 | 1, _ => exact copied_e a b w
 | 2, _ => exact copied_b a b w
 | 3, _ => exact copied_s a b w
 | 4, _ => exact copied_d a b w
 | 5, _ => exact copied_l a b w
 | 6, _ => exact copied_n a b w
 | 7, _ => exact copied_o a b w
 | 8, _ => exact copied_k a b w
 | 9, _ => exact copied_v a b w
 | 10, _ => exact copied_m a b w
 | 11, _ => exact copied_f a b w
 | 12, _ => exact copied_t a b w
 | 13, _ => exact copied_u a b w
 | 14, _ => exact copied_a a b w
theorem refParts_any (k : Nat) (hk : 1 ≤ k ∧ k ≤ 20) (w : World) : Calls Tryz.prog 52 #[.int .i64 (k : Int)] w fun e w' => e = .returned (.string (partsS k)) ∧ Below w.heap.size w w' := by
 have hk2 : k = 1 ∨ k = 2 ∨ k = 3 ∨ k = 4 ∨ k = 5 ∨ k = 6 ∨ k = 7 ∨ k = 8 ∨ k = 9 ∨ k = 10 ∨ k = 11 ∨ k = 12 ∨ k = 13 ∨ k = 14 ∨ k = 15 ∨ k = 16 ∨ k = 17 ∨ k = 18 ∨ k = 19 ∨ k = 20 := by omega
 rcases hk2 with rfl | rfl | rfl | rfl | rfl | rfl | rfl | rfl | rfl | rfl | rfl | rfl | rfl | rfl | rfl | rfl | rfl | rfl | rfl | rfl
 all_goals
  clear hk
  go_enter Tryz.func52, Tryz.ntmps52
  go_wp2_with (fail)
  go_ret
  exact ⟨by first | rfl | decide, (Below.refl _ _).alloc (Nat.le_refl _) _⟩
theorem len_parts (k : Nat) : (partsS k).size = (partsI k).length := by simp [partsS, ByteArray.size]
theorem idx_parts (k j i : Nat) (hk : k < 21) (h : (partsI k)[j]? = some i) (w : World) : (Instr.index 9 (.string (partsS k)) (.int .i64 (j : Int))).run Tryz.prog w = .ok (.int .u8 ((chI i : Nat) : Int)) w := by
 obtain ⟨hj, hi⟩ : j < (partsI k).length ∧ i = (partsI k).getD j 0 := by
  obtain ⟨h1, h2⟩ := List.getElem?_eq_some_iff.1 h
  exact ⟨h1, by rw [List.getD_eq_getElem?_getD, h]; rfl⟩
 subst hi
 clear h
 have hj6 : j < 6 := Nat.lt_of_lt_of_le hj (parts_len6 k hk)
 have hk2 : k = 0 ∨ k = 1 ∨ k = 2 ∨ k = 3 ∨ k = 4 ∨ k = 5 ∨ k = 6 ∨ k = 7 ∨ k = 8 ∨ k = 9 ∨ k = 10 ∨ k = 11 ∨ k = 12 ∨ k = 13 ∨ k = 14 ∨ k = 15 ∨ k = 16 ∨ k = 17 ∨ k = 18 ∨ k = 19 ∨ k = 20 := by omega
 have hj2 : j = 0 ∨ j = 1 ∨ j = 2 ∨ j = 3 ∨ j = 4 ∨ j = 5 := by omega
 clear hk hj6
 rcases hk2 with rfl | rfl | rfl | rfl | rfl | rfl | rfl | rfl | rfl | rfl | rfl | rfl | rfl | rfl | rfl | rfl | rfl | rfl | rfl | rfl | rfl
 all_goals
  rcases hj2 with rfl | rfl | rfl | rfl | rfl | rfl
  all_goals first | exact absurd hj (by decide) | rfl
end Go.Proofs.YtmpedblelnpjdaaGreatDoor

end
section
/- The document's Bare. -/
namespace Go.Proofs.YtmpedblelnpjdaaGreatDoor
open Go.RowKit
set_option linter.unusedSimpArgs false
set_option linter.unusedVariables false
set_option maxHeartbeats 8000000
set_option maxRecDepth 100000
theorem cpy_mask (l : Lt) (f : Nat → Bool) (i : Nat) (hi : i < 15) : cpy i (l.mask f) l = l.mask (updF f i) := by
 match i, hi with
 | 0, _ => rfl
 | 1, _ => rfl
 | 2, _ => rfl
 | 3, _ => rfl
 | 4, _ => rfl
 | 5, _ => rfl
 | 6, _ => rfl
 | 7, _ => rfl
 | 8, _ => rfl
 | 9, _ => rfl
 | 10, _ => rfl
 | 11, _ => rfl
 | 12, _ => rfl
 | 13, _ => rfl
 | 14, _ => rfl
theorem mask_same (l : Lt) {f g : Nat → Bool} (h : ∀ j, j < 15 → f j = g j) : l.mask f = l.mask g := by
 simp only [Lt.mask, h 0 (by decide), h 1 (by decide), h 2 (by decide), h 3 (by decide), h 4 (by decide), h 5 (by decide), h 6 (by decide), h 7 (by decide), h 8 (by decide), h 9 (by decide), h 10 (by decide), h 11 (by decide), h 12 (by decide), h 13 (by decide), h 14 (by decide)]
def fJ (is : List Nat) (j : Nat) : Nat → Bool := (is.take j).foldl updF (fun _ => false)
theorem fJ_succ {is : List Nat} {j i : Nat} (h : is[j]? = some i) : fJ is (j + 1) = updF (fJ is j) i := by
 unfold fJ
 rw [List.take_add_one, h, List.foldl_append]
 rfl
theorem fJ_all : ∀ k, k < 21 → ∀ j, j < 15 → fJ (partsI k) (partsI k).length j = partF k 15 j := by decide +kernel
structure BareI (l : Lt) (is : List Nat) (w : World) (j : Nat) (wr : World) : Prop where
 b1 : Blk wr w.heap.size 37 l.cells
 b2 : Blk wr (w.heap.size + 1) 37 ZL
 b3 : Blk wr (w.heap.size + 2) 37 (l.mask (fJ is j)).cells
 bel : Below w.heap.size w wr
theorem refBare_any (l : Lt) (k : Nat) (hk : 1 ≤ k ∧ k ≤ 20) (hkd : l.kd = (k : Int)) (w : World) :
  Calls Tryz.prog 64 #[.agg l.cells] w fun e w' => e = .returned (.agg (Lt.cells (l.mask (partF k 15)))) ∧ Below w.heap.size w w' := by
 obtain ⟨W0, hW0⟩ : ∃ W0, W0 = (w.alloc (.cells l.cells 37)).alloc (.cells ZL 37) := ⟨_, rfl⟩
 have H1 : Hid (Blk W0 w.heap.size 37 l.cells) := Lib.hid (by rw [hW0]; exact (Blk.new w _ _).alloc _)
 have H2 : Hid (Blk W0 (w.heap.size + 1) 37 ZL) := Lib.hid (by
  rw [hW0]
  have := Blk.new (w.alloc (.cells l.cells 37)) 37 ZL
  simpa using this)
 have hsz : W0.heap.size = w.heap.size + 2 := by rw [hW0]; simp
 have HB : Hid (Below w.heap.size w W0) := Lib.hid (by rw [hW0]; exact ((Below.refl _ _).alloc (Nat.le_refl _) _).alloc (by simp) _)
 have HW := Lib.hid hW0
 obtain ⟨is, his⟩ : ∃ is, is = partsI k := ⟨_, rfl⟩
 obtain ⟨sv, hsv⟩ : ∃ sv, sv = partsS k := ⟨_, rfl⟩
 have HLEN : Hid (sv.size = is.length) := Lib.hid (by rw [hsv, his]; exact len_parts k)
 have h6 : is.length ≤ 6 := by rw [his]; exact parts_len6 k (by omega)
 have HLT : Hid (∀ i ∈ is, i < 15) := Lib.hid (by rw [his]; exact parts_lt k (by omega))
 have HIDX : Hid (∀ (j i : Nat) (w : World), is[j]? = some i → (Instr.index 9 (.string sv) (.int .i64 (j : Int))).run Tryz.prog w = .ok (.int .u8 ((chI i : Nat) : Int)) w) := Lib.hid (fun j i w h => by rw [hsv]; exact idx_parts k j i (by omega) (by rw [← his]; exact h) w)
 have HALL : Hid (∀ j, j < 15 → fJ is is.length j = partF k 15 j) := Lib.hid (by rw [his]; exact fJ_all k (by omega))
 have PT : Hid (∀ W, Calls Tryz.prog 52 #[.int .i64 (k : Int)] W fun e w' => e = .returned (.string sv) ∧ Below W.heap.size W w') := Lib.hid (fun W => by rw [hsv]; exact refParts_any k hk W)
 have c0 : W0.cell? ⟨w.heap.size, 0, none⟩ = some (.int .i64 (k : Int)) := (H1.out.cell 0).trans (by rw [← hkd]; rfl)
 have c1 : W0.cell? ⟨w.heap.size, 1, none⟩ = some (.int .i64 l.fr) := H1.out.cell 1
 have c2 : W0.cell? ⟨w.heap.size, 2, none⟩ = some (.int .i64 l.tw) := H1.out.cell 2
 have hz := bare_hdr
 have HKD := Lib.hid hkd
 clear hW0 his hsv hkd
 go_enter Tryz.func64, Tryz.ntmps64
 go_upto_region 1 with (fail)
 rw [← HW.out]
 clear HW
 iterate 25 go_step
 have HA : Hid (Blk (W0.alloc (.cells ZL 37)) (w.heap.size + 2) 37 ZL) := Lib.hid (by have := Blk.new W0 37 ZL; rw [hsz] at this; exact this)
 refine wpList_store_row rfl 37 (.tmp 3) (.tmp 12) rfl (w.heap.size + 2) (Lt.cells { Lt.zero with kd := (k : Int), fr := l.fr, tw := l.tw }) rfl rfl 37 ZL HA.out ltInfo rfl (lt_all _) ?_
 obtain ⟨W1, hW1⟩ : ∃ W1, W1 = (W0.alloc (.cells ZL 37)).setRow (w.heap.size + 2) (Lt.cells { Lt.zero with kd := (k : Int), fr := l.fr, tw := l.tw }) := ⟨_, rfl⟩
 rw [← hW1]
 have hs0 : Below W0.heap.size W0 W1 := by rw [hW1]; exact below_setRow ((Below.refl _ _).alloc (Nat.le_refl _) _) (by omega) _
 have HI : Hid (BareI l is w 0 W1) := Lib.hid ⟨H1.out.below hs0 H1.out.lt, H2.out.below hs0 H2.out.lt, by
  rw [hW1]
  have h3 := setRow_heap _ _ _ (Lt.cells { Lt.zero with kd := (k : Int), fr := l.fr, tw := l.tw }) _ _ HA.out
  have e : l.mask (fJ is 0) = { Lt.zero with kd := (k : Int), fr := l.fr, tw := l.tw } := by rw [← HKD.out]; rfl
  rw [e]
  exact h3, HB.out.trans (hs0.mono HB.out.size)⟩
 clear hW1 hs0 HA H1 H2 HB hsz c0 c1 c2 hz
 have c0 : W1.cell? ⟨w.heap.size, 0, none⟩ = some (.int .i64 (k : Int)) := (HI.out.b1.cell 0).trans (by rw [← HKD.out]; rfl)
 go_wp2_with (fail)
 refine (PT.out _).mono ?_
 rintro e w2 ⟨rfl, hb2⟩
 have HI2 : Hid (BareI l is w 0 w2) := Lib.hid ⟨HI.out.b1.below hb2 HI.out.b1.lt, HI.out.b2.below hb2 HI.out.b2.lt, HI.out.b3.below hb2 HI.out.b3.lt, HI.out.bel.trans (hb2.mono HI.out.bel.size)⟩
 clear hb2 HI PT c0
 go_wp2_with (fail)
 go_loopw [5] (fun iv wr => ∃ j : Nat, j ≤ is.length ∧ iv = .int .i64 j ∧ Hid (BareI l is w j wr)) (fun iv _ => is.length - (intOf iv).toNat)
 case atStart => exact ⟨0, Nat.zero_le _, rfl, HI2⟩
 case round =>
  clear HI2
  obtain ⟨j, hj, rfl, HI⟩ := hrel
  have hlen := HLEN.out
  have HB1 := Lib.hid HI.out.b1
  have HB2 := Lib.hid HI.out.b2
  have HB3 := Lib.hid HI.out.b3
  have lw1 := HI.out.b1.lt
  have lw2 := HI.out.b2.lt
  have lw3 := HI.out.b3.lt
  have hbs := HI.out.bel.size
  by_cases hlt : j < is.length
  ·have hd : decide (j < is.length) = true := decide_eq_true hlt
   obtain ⟨i, hi⟩ : ∃ i, is[j]? = some i := ⟨_, List.getElem?_eq_getElem hlt⟩
   have hix : ∀ w, (Instr.index 9 (.string sv) (.int .i64 (j : Int))).run Tryz.prog w = .ok (.int .u8 ((chI i : Nat) : Int)) w := fun w => HIDX.out j i w hi
   have hi15 := HLT.out i (List.mem_of_getElem? hi)
   obtain ⟨m, hm⟩ : ∃ m, m = l.mask (fJ is j) := ⟨_, rfl⟩
   rw [← hm] at HB3
   obtain ⟨r, hr⟩ : ∃ r, r = cpy i m l := ⟨_, rfl⟩
   have CP0 := refCopied_any m l i hi15 wr.drew
   rw [← hr] at CP0
   have CP := Lib.hid CP0
   have HR : Hid (r = l.mask (fJ is (j + 1))) := Lib.hid (by rw [hr, hm, fJ_succ hi]; exact cpy_mask l _ i hi15)
   obtain ⟨cb, hcb⟩ : ∃ cb : Int, cb = ((chI i : Nat) : Int) := ⟨_, rfl⟩
   rw [← hcb] at CP hix
   clear CP0 hr hm hi hi15 hcb
   have b1 := HB1.out
   have b3 := HB3.out
   go_upto_region 6 with (fail)
   refine wp_region_k 6 (S := fun wq => Blk wq (w.heap.size + 2) 37 m.cells ∧ Blk wq w.heap.size 37 l.cells) (by kernel_rfl) ⟨b3, b1⟩ (fun hHeld => ?_)
   refine wpAnyK_take (n := 12) (i := 0) (oi := _) (v := m.agg) rfl (by kernel_rfl) (by kernel_rfl) (by kernel_rfl) (by kernel_rfl) (by kernel_rfl) (by kernel_rfl) (fun _ _ _ h => h) (Or.inl ⟨by rfl, ?_⟩) (by assumption) ?_
   ·exact fun wq hSw => exec_load_row rfl _ rfl (load_lt m _ wq hSw.1)
   try simp only [Act.put, List.setIfInBounds_toArray, List.set_cons_zero, List.set_cons_succ, List.getElem_toArray, List.getElem_cons_zero, List.getElem_cons_succ]
   refine wpAnyK_take (n := 12) (i := 1) (oi := _) (v := l.agg) rfl (by kernel_rfl) (by kernel_rfl) (by kernel_rfl) (by kernel_rfl) (by kernel_rfl) (by kernel_rfl) (fun _ _ _ h => h) (Or.inl ⟨by rfl, ?_⟩) (by assumption) ?_
   ·exact fun wq hSw => exec_load_row rfl _ rfl (load_lt l _ wq hSw.2)
   try simp only [Act.put, List.setIfInBounds_toArray, List.set_cons_zero, List.set_cons_succ, List.getElem_toArray, List.getElem_cons_zero, List.getElem_cons_succ]
   refine wpAnyK_take (n := 12) (i := 2) (oi := _) (v := ?_) rfl (by kernel_rfl) (by kernel_rfl) (by kernel_rfl) (by kernel_rfl) (by kernel_rfl) (by kernel_rfl) (fun _ _ _ h => h) (Or.inl ⟨by rfl, ?_⟩) (by assumption) ?_
   rotate_left 1
   ·(intro wq hSw; (try dsimp only at hSw); go_simp; (try with_reducible rfl))
   try simp only [Act.put, List.setIfInBounds_toArray, List.set_cons_zero, List.set_cons_succ, List.getElem_toArray, List.getElem_cons_zero, List.getElem_cons_succ]
   refine wpAnyK_take (n := 12) (i := 3) (oi := _) (v := ?_) rfl (by kernel_rfl) (by kernel_rfl) (by kernel_rfl) (by kernel_rfl) (by kernel_rfl) (by kernel_rfl) (fun _ _ _ h => h) (Or.inl ⟨by rfl, ?_⟩) (by assumption) ?_
   rotate_left 1
   ·(intro wq hSw; (try dsimp only at hSw); go_simp; (try with_reducible rfl))
   try simp only [Act.put, List.setIfInBounds_toArray, List.set_cons_zero, List.set_cons_succ, List.getElem_toArray, List.getElem_cons_zero, List.getElem_cons_succ]
   refine wpAnyK_take (n := 12) (i := 4) (oi := _) (v := ?_) rfl (by kernel_rfl) (by kernel_rfl) (by kernel_rfl) (by kernel_rfl) (by kernel_rfl) (by kernel_rfl) (fun _ _ _ h => h) (Or.inl ⟨by rfl, ?_⟩) (by assumption) ?_
   rotate_left 1
   ·(intro wq hSw; (try dsimp only at hSw); go_simp; (try with_reducible rfl))
   try simp only [Act.put, List.setIfInBounds_toArray, List.set_cons_zero, List.set_cons_succ, List.getElem_toArray, List.getElem_cons_zero, List.getElem_cons_succ]
   refine wpAnyK_ready (rs := [5]) (by kernel_rfl) (by simp) ?_
   refine AllReadyK.cons (o := _) rfl (fun K hK => ?_) AllReadyK.nil
   go_simp
   refine CP.out.mono ?_; rintro e w6 ⟨rfl, h6b⟩; have hbw := (show Below wr.heap.size wr w6 from (Below.refl _ _).drew.trans h6b); have HX6 := Lib.hid (HB3.out.below hbw lw3); have HS := And.intro HX6.out (HB1.out.below hbw lw1); have HBW := Lib.hid hbw; clear h6b hbw
   (try go_simp)
   refine hK.out _ _ ?_ (fun hHeld => ?_)
   ·first | exact HS | go_keep
   clear hK K
   try simp only [Act.put, List.setIfInBounds_toArray, List.set_cons_zero, List.set_cons_succ, List.getElem_toArray, List.getElem_cons_zero, List.getElem_cons_succ]
   refine wpAnyK_ready (rs := [6]) (by kernel_rfl) (by simp) ?_
   refine AllReadyK.last (o := _) rfl (by kernel_rfl) (fun K hK => ?_) AllReadyK.nil
   refine step_store_row rfl 37 (.tmp 3) (.tmp 27) rfl (w.heap.size + 2) r.cells rfl rfl 37 m.cells HX6.out ltInfo rfl (lt_all _) ?_
   (try go_simp)
   refine hK.out _ _ ?_
   clear hK K
   try simp only [Act.put, List.setIfInBounds_toArray, List.set_cons_zero, List.set_cons_succ, List.getElem_toArray, List.getElem_cons_zero, List.getElem_cons_succ]
   refine wpAnyK_done (by kernel_rfl) ?_ _
   have HN : Hid (BareI l is w (j + 1) (w6.setRow (w.heap.size + 2) r.cells)) := Lib.hid (by
    have hq := below_setRow (Below.refl (w.heap.size + 2) w6) (Nat.le_refl _) r.cells
    have hs6 := HBW.out.size
    refine ⟨(HB1.out.below HBW.out lw1).below hq (by omega), (HB2.out.below HBW.out lw2).below hq (by omega), ?_, (HI.out.bel.trans (HBW.out.mono hbs)).trans (hq.mono (by omega))⟩
    rw [← HR.out]
    exact setRow_heap _ _ _ _ _ _ HX6.out)
   clear HS hHeld b1 b3 CP HX6 HB1 HB2 HB3
   generalize w6.setRow (w.heap.size + 2) r.cells = W9 at *
   go_wp2_with (fail)
   exact ⟨⟨j + 1, hlt, by simp, HN⟩, by simp [intOf]; omega⟩
  ·obtain rfl : j = is.length := by omega
   obtain ⟨r, hr⟩ : ∃ r, r = l.mask (partF k 15) := ⟨_, rfl⟩
   have HX : Hid (Blk wr (w.heap.size + 2) 37 r.cells) := Lib.hid (by
    rw [hr, ← mask_same l HALL.out]
    exact HB3.out)
   have HRR := Lib.hid hr
   have HBEL := Lib.hid HI.out.bel
   clear hr HB3 HI
   go_upto_region 7 with (fail)
   iterate 1 go_step
   refine wpList_load_row rfl 37 (.tmp 3) rfl (w.heap.size + 2) rfl 37 r.cells (0, 0) _ HX.out Tryz.underlying37 rfl ltInfo ?_
   refine wpList_store_row rfl 37 (.tmp 2) (.tmp 28) rfl (w.heap.size + 1) r.cells rfl rfl 37 ZL HB2.out ltInfo rfl (lt_all _) ?_
   go_wp2_with (fail)
   refine bodyPost_ret_by (v := .agg r.cells) (results_cell_row Tryz.results64 _ _ (w.heap.size + 1) 37 r.cells (0, 0) _ rfl (setRow_heap _ _ _ _ _ _ HB2.out) Tryz.underlying37 rfl ltInfo) rfl ?_
   exact ⟨by rw [HRR.out], below_setRow HBEL.out (by omega) _⟩
end Go.Proofs.YtmpedblelnpjdaaGreatDoor

end
section
/- The document's Check of a letter. -/
namespace Go.Proofs.YtmpedblelnpjdaaGreatDoor
open Go.RowKit
set_option linter.unusedSimpArgs false
set_option linter.unusedVariables false
set_option maxHeartbeats 8000000
set_option maxRecDepth 100000
theorem rkNode_any (a : Int) (w : World) : Calls Tryz.prog 82 #[.int .i64 a] w fun e w' => e = .returned (.bool (decide (1 ≤ a ∧ a ≤ 24))) ∧ w = w' := by
 by_cases h1 : 1 ≤ a
 all_goals by_cases h2 : a ≤ 24
 all_goals
  go_enter Tryz.func82, Tryz.ntmps82
  go_wp2_with (fail)
  go_ret
  exact ⟨ret_bool (by first | (simp [h1, h2]; done) | (simp [h1, h2]; omega)), rfl⟩
theorem rkMaster_any (a : Int) (w : World) : Calls Tryz.prog 140 #[.int .i64 a] w fun e w' => e = .returned (.bool (decide (100 < a ∧ a ≤ 105))) ∧ w = w' := by
 by_cases h1 : 101 ≤ a
 all_goals by_cases h2 : a ≤ 105
 all_goals
  go_enter Tryz.func140, Tryz.ntmps140
  go_wp2_with (fail)
  go_ret
  exact ⟨ret_bool (by first | (simp [h1, h2]; done) | (simp [h1, h2]; omega)), rfl⟩
theorem rkClient_any (a : Int) (w : World) : Calls Tryz.prog 141 #[.int .i64 a] w fun e w' => e = .returned (.bool (decide (200 < a ∧ a ≤ 206))) ∧ w = w' := by
 by_cases h1 : 201 ≤ a
 all_goals by_cases h2 : a ≤ 206
 all_goals
  go_enter Tryz.func141, Tryz.ntmps141
  go_wp2_with (fail)
  go_ret
  exact ⟨ret_bool (by first | (simp [h1, h2]; done) | (simp [h1, h2]; omega)), rfl⟩
theorem rkAddress_any (a : Int) (w : World) : Calls Tryz.prog 63 #[.int .i64 a] w fun e w' => e = .returned (.bool (addrB a)) ∧ w = w' := by
 have N1 := Lib.hid (fun W => rkNode_any a W)
 have N2 := Lib.hid (fun W => rkMaster_any a W)
 have N3 := Lib.hid (fun W => rkClient_any a W)
 unfold addrB
 generalize decide (1 ≤ a ∧ a ≤ 24) = b1 at *
 generalize decide (100 < a ∧ a ≤ 105) = b2 at *
 generalize decide (200 < a ∧ a ≤ 206) = b3 at *
 cases b1
 ·cases b2
  ·go_enter Tryz.func63, Tryz.ntmps63
   go_wp2_with (fail)
   refine (N1.out _).mono ?_
   rintro e w1 ⟨rfl, rfl⟩
   go_wp2_with (fail)
   refine (N2.out _).mono ?_
   rintro e w1 ⟨rfl, rfl⟩
   go_wp2_with (fail)
   refine (N3.out _).mono ?_
   rintro e w1 ⟨rfl, rfl⟩
   go_wp2_with (fail)
   go_ret
   exact ⟨by first | rfl | simp, rfl⟩
  ·go_enter Tryz.func63, Tryz.ntmps63
   go_wp2_with (fail)
   refine (N1.out _).mono ?_
   rintro e w1 ⟨rfl, rfl⟩
   go_wp2_with (fail)
   refine (N2.out _).mono ?_
   rintro e w1 ⟨rfl, rfl⟩
   go_wp2_with (fail)
   go_ret
   exact ⟨by first | rfl | simp, rfl⟩
 ·go_enter Tryz.func63, Tryz.ntmps63
  go_wp2_with (fail)
  refine (N1.out _).mono ?_
  rintro e w1 ⟨rfl, rfl⟩
  go_wp2_with (fail)
  go_ret
  exact ⟨by first | rfl | simp, rfl⟩
theorem refCheck10_any (x : LV) (B : Nat) (w : World) (h : LIn w B x) (hB : B ≤ w.heap.size) (hn : x.near) : Calls Tryz.prog 15 #[.agg x.l.cells] w fun e w' => e = .returned (.int .i64 (chkX x)) ∧ Below w.heap.size w w' := by
 obtain ⟨W0, hW0, hb0, hbk⟩ := box_all x w; have hl := hbk.lt; have HB := Lib.hid hb0; have HW := Lib.hid hW0; have BK := Lib.hid hbk; clear hb0 hW0 hbk
 have x0 : W0.cell? ⟨w.heap.size, 0, none⟩ = some (.int .i64 x.l.kd) := BK.out.cell 0
 by_cases k1 : x.l.kd < 1
 ·have hd : decide (x.l.kd < 1) = true := decide_eq_true k1
  have HC : Hid (chkX x = 1) := Lib.hid (by unfold chkX; rw [if_pos (.inl k1)])
  clear k1
  go_enter Tryz.func15, Tryz.ntmps15
  go_upto_region 1 with (fail)
  have e0 := HW.out
  simp only [Lt.cells] at e0
  first | rw [← e0] | rw [← HW.out]
  clear e0
  go_wp2_with (fail)
  go_ret
  exact ⟨by rw [HC.out]; rfl, HB.out⟩
 have d1 : decide (x.l.kd < 1) = false := decide_eq_false k1
 by_cases k2 : 20 < x.l.kd
 ·have hd : decide (20 < x.l.kd) = true := decide_eq_true k2
  have HC : Hid (chkX x = 1) := Lib.hid (by unfold chkX; rw [if_pos (.inr k2)])
  clear k1 k2
  go_enter Tryz.func15, Tryz.ntmps15
  go_upto_region 1 with (fail)
  have e0 := HW.out
  simp only [Lt.cells] at e0
  first | rw [← e0] | rw [← HW.out]
  clear e0
  go_wp2_with (fail)
  go_ret
  exact ⟨by rw [HC.out]; rfl, HB.out⟩
 have d2 : decide (20 < x.l.kd) = false := decide_eq_false k2
 obtain ⟨k, hkd⟩ := Int.eq_ofNat_of_zero_le (show 0 ≤ x.l.kd by omega)
 have hk : 1 ≤ k ∧ k ≤ 20 := by omega
 obtain ⟨is, his⟩ : ∃ is, is = partsI k := ⟨_, rfl⟩
 obtain ⟨sv, hsv⟩ : ∃ sv, sv = partsS k := ⟨_, rfl⟩
 have HLEN : Hid (sv.size = is.length) := Lib.hid (by rw [hsv, his]; exact len_parts k)
 have h6 : is.length ≤ 6 := by rw [his]; exact parts_len6 k (by omega)
 have HLT : Hid (∀ i ∈ is, i < 15) := Lib.hid (by rw [his]; exact parts_lt k (by omega))
 have HIDX : Hid (∀ (j i : Nat) (w : World), is[j]? = some i → (Instr.index 9 (.string sv) (.int .i64 (j : Int))).run Tryz.prog w = .ok (.int .u8 ((chI i : Nat) : Int)) w) := Lib.hid (fun j i w h => by rw [hsv]; exact idx_parts k j i (by omega) (by rw [← his]; exact h) w)
 have PT : Hid (∀ W, Calls Tryz.prog 52 #[.int .i64 (k : Int)] W fun e w' => e = .returned (.string sv) ∧ Below W.heap.size W w') := Lib.hid (fun W => by rw [hsv]; exact refParts_any k hk W)
 obtain ⟨bs, hbs⟩ : ∃ bs, bs = sameB x (x.mask (partF k 15)) := ⟨_, rfl⟩
 have HCX : Hid (chkX x = if addrB x.l.fr = true ∧ addrB x.l.tw = true ∧ bs = true ∧ is.all (fineB x) = true then 0 else 4) := Lib.hid (by
  unfold chkX
  rw [if_neg (by omega), hbs, his, show x.l.kd.toNat = k by rw [hkd]; rfl])
 have HX := Lib.hid (h.below (HB.out.mono hB))
 have hB0 := Nat.le_trans hB HB.out.size
 obtain ⟨L, hL⟩ : ∃ L : Value, L = .agg x.l.cells := ⟨_, rfl⟩
 have HLA := Lib.hid hL
 obtain ⟨M, hM⟩ : ∃ M : Value, M = .agg (Lt.cells (x.l.mask (partF k 15))) := ⟨_, rfl⟩
 have BR : Hid (∀ W, Calls Tryz.prog 64 #[L] W fun e w' => e = .returned M ∧ Below W.heap.size W w') := Lib.hid (fun W => by rw [hL, hM]; exact refBare_any x.l k hk hkd W)
 have SM : Hid (∀ W, Below W0.heap.size W0 W → Calls Tryz.prog 11 #[L, M] W fun e w' => e = .returned (.bool bs) ∧ Below W.heap.size W w') := Lib.hid (fun W h9 => by
  rw [hbs, hL, hM]
  exact refSameG_any x (x.mask (partF k 15)) B B W (HX.out.below (h9.mono hB0)) ((HX.out.below (h9.mono hB0)).mask _) (Nat.le_trans hB0 h9.size) (Nat.le_trans hB0 h9.size) hn)
 have HN := Lib.hid hn
 have hLD : ∀ wq, Blk wq w.heap.size 37 x.l.cells → (loadVar 37 ⟨w.heap.size, 0, none⟩).run Tryz.prog wq = .ok L wq := fun wq h => by rw [HLA.out]; exact load_lt x.l _ wq h
 have x0k : W0.cell? ⟨w.heap.size, 0, none⟩ = some (.int .i64 (k : Int)) := by rw [x0, hkd]
 have dk1 : decide (k < 1) = false := decide_eq_false (by omega)
 have dk2 : decide (20 < k) = false := decide_eq_false (by omega)
 have FP : Hid (∀ (i : Nat) (W : World), i < 15 → Below W0.heap.size W0 W → Calls Tryz.prog 62 #[L, .int .u8 ((chI i : Nat) : Int)] W fun e w' => e = .returned (.bool (fineB x i)) ∧ Below W.heap.size W w') := Lib.hid (fun i W hi h9 => by
  rw [hL]
  exact refFine10_any x i hi B W (HX.out.below (h9.mono hB0)) (Nat.le_trans hB0 h9.size) hn)
 have A1 : Hid (∀ W, Calls Tryz.prog 63 #[.int .i64 x.l.fr] W fun e w' => e = .returned (.bool (addrB x.l.fr)) ∧ W = w') := Lib.hid (fun W => rkAddress_any _ W)
 have A2 : Hid (∀ W, Calls Tryz.prog 63 #[.int .i64 x.l.tw] W fun e w' => e = .returned (.bool (addrB x.l.tw)) ∧ W = w') := Lib.hid (fun W => rkAddress_any _ W)
 have HKD := Lib.hid hkd
 clear hL hM his hsv hbs hkd x0 d1 d2 k1 k2 h hn
 go_enter Tryz.func15, Tryz.ntmps15
 go_upto_region 1 with (fail)
 have e0 := HW.out
 simp only [Lt.cells] at e0
 first | rw [← e0] | rw [← HW.out]
 clear e0
 go_wp2_with (fail)
 refine (PT.out _).mono ?_
 rintro e w2 ⟨rfl, hb2⟩
 have HI2 := Lib.hid hb2
 clear hb2 PT x0k
 go_wp2_with (fail)
 go_loopw [4] (fun iv wr => ∃ j : Nat, j ≤ is.length ∧ iv = .int .i64 j ∧ Hid (Below W0.heap.size W0 wr ∧ ∀ (j' i : Nat), j' < j → is[j']? = some i → fineB x i = true)) (fun iv _ => is.length - (intOf iv).toNat)
 case atStart => exact ⟨0, Nat.zero_le _, rfl, Lib.hid ⟨HI2.out, fun j' i h0 => absurd h0 (Nat.not_lt_zero _)⟩⟩
 case round =>
  clear HI2
  obtain ⟨j, hj, rfl, HE⟩ := hrel
  have hlen := HLEN.out
  have HB1 := Lib.hid (BK.out.below HE.out.1 hl)
  have lw1 := HB1.out.lt
  have hbs := HE.out.1.size
  have hsB := HB.out.size
  by_cases hlt : j < is.length
  ·have hd : decide (j < is.length) = true := decide_eq_true hlt
   obtain ⟨i, hi⟩ : ∃ i, is[j]? = some i := ⟨_, List.getElem?_eq_getElem hlt⟩
   have hix : ∀ w, (Instr.index 9 (.string sv) (.int .i64 (j : Int))).run Tryz.prog w = .ok (.int .u8 ((chI i : Nat) : Int)) w := fun w => HIDX.out j i w hi
   have FP1 := FP.out i wr.drew (HLT.out i (List.mem_of_getElem? hi)) HE.out.1.drew
   obtain ⟨cb, hcb⟩ : ∃ cb : Int, cb = ((chI i : Nat) : Int) := ⟨_, rfl⟩
   rw [← hcb] at FP1 hix
   obtain ⟨bf, hbf⟩ : ∃ bf, bf = fineB x i := ⟨_, rfl⟩
   rw [← hbf] at FP1
   have FPH := Lib.hid FP1
   have HBF := Lib.hid hbf
   have HII := Lib.hid hi
   clear FP1 hcb hbf hi
   have b1 := HB1.out
   go_upto_region 7 with (fail)
   refine wp_region_held_drew (S := fun wq => Blk wq w.heap.size 37 x.l.cells) (by kernel_rfl) b1 (fun hHeld => ?_)
   refine tkT 0 rfl (v := L) ?_ ?_
   ·exact fun wq hSw => exec_load_row rfl _ rfl (hLD wq hSw)
   try simp only [Act.put, pS]
   refine tkT 1 rfl (v := ?_) ?_ ?_
   rotate_left 1
   ·(intro wq hSw; (try dsimp only at hSw); go_simp; (try with_reducible rfl))
   try simp only [Act.put, pS]
   refine tkT 2 rfl (v := ?_) ?_ ?_
   rotate_left 1
   ·(intro wq hSw; (try dsimp only at hSw); go_simp; (try with_reducible rfl))
   try simp only [Act.put, pS]
   refine tkT 3 rfl (v := ?_) ?_ ?_
   rotate_left 1
   ·(intro wq hSw; (try dsimp only at hSw); go_simp; (try with_reducible rfl))
   try simp only [Act.put, pS]
   refine wpAnyH_ready (rs := [4]) (by kernel_rfl) (by simp) ?_
   refine (AllReadyH.cons rfl (fun K hK => ?_) AllReadyH.nil)
   go_simp
   refine FPH.out.mono ?_
   rintro e w4 ⟨rfl, h4⟩
   have hb4 : Below wr.heap.size wr w4 := (Below.refl _ _).drew.trans h4
   have HS : Blk w4 w.heap.size 37 x.l.cells := HB1.out.below hb4 lw1
   have H4 := Lib.hid (HE.out.1.trans (hb4.mono hbs))
   clear h4 hb4
   refine hK.out _ _ ?_ (fun hHeld => ?_)
   ·first | exact HS | go_keep
   clear hK K
   try simp only [Act.put, pS]
   refine tkT 5 rfl (v := ?_) ?_ ?_
   rotate_left 1
   ·(intro wq hSw; (try dsimp only at hSw); go_simp; (try with_reducible rfl))
   try simp only [Act.put, pS]
   refine wpAnyH_done (by kernel_rfl) ?_ _
   skip
   clear HS hHeld b1 FPH
   cases bf
   ·go_wp2_with (fail)
    go_ret
    refine ⟨?_, HB.out.trans (H4.out.mono hsB)⟩
    rw [HCX.out, if_neg (fun h => by have := List.all_eq_true.1 h.2.2.2 i (List.mem_of_getElem? HII.out); rw [← HBF.out] at this; cases this)]
    rfl
   ·go_wp2_with (fail)
    refine ⟨⟨j + 1, hlt, by simp, Lib.hid ⟨H4.out, fun j' i' h0 h1 => ?_⟩⟩, by simp [intOf]; omega⟩
    rcases Nat.lt_or_ge j' j with h2 | h2
    ·exact HE.out.2 j' i' h2 h1
    ·obtain rfl : j' = j := by omega
     have h3 := HII.out
     rw [h1] at h3
     injection h3 with h3
     rw [h3]
     exact HBF.out.symm
  ·obtain rfl : j = is.length := by omega
   have HALL : Hid (is.all (fineB x) = true) := Lib.hid (List.all_eq_true.2 (fun i hi => by
    obtain ⟨j', hj'⟩ := List.getElem?_of_mem hi
    exact HE.out.2 j' i (List.getElem?_eq_some_iff.1 hj').1 hj'))
   have HCF : Hid (chkX x = if addrB x.l.fr = true ∧ addrB x.l.tw = true ∧ bs = true then 0 else 4) := Lib.hid (by
    rw [HCX.out]
    have := HALL.out
    simp only [this, and_true])
   have b1 := HB1.out
   have x1 : wr.cell? ⟨w.heap.size, 1, none⟩ = some (.int .i64 x.l.fr) := HB1.out.cell 1
   have x2 : wr.cell? ⟨w.heap.size, 2, none⟩ = some (.int .i64 x.l.tw) := HB1.out.cell 2
   clear HALL HCX FP
   generalize addrB x.l.fr = a1 at *
   generalize addrB x.l.tw = a2 at *
   cases a1
   ·clear A2 BR SM
    go_upto_region 9 with (fail)
    have HQ : Hid (Below wr.heap.size wr wr.drew) := Lib.hid (Below.refl _ _).drew
    refine wp_region_held_drew (S := fun wq => Blk wq w.heap.size 37 x.l.cells ∧ wq.cell? ⟨w.heap.size, 1, none⟩ = some (.int .i64 x.l.fr) ∧ wq.cell? ⟨w.heap.size, 2, none⟩ = some (.int .i64 x.l.tw)) (by kernel_rfl) ⟨b1, x1, x2⟩ (fun hHeld => ?_)
    refine tkT 0 rfl (v := ?_) ?_ ?_
    rotate_left 1
    ·(intro wq hSw; (try dsimp only at hSw); go_simp; (try with_reducible rfl))
    try simp only [Act.put, pS]
    refine tkT 1 rfl (v := ?_) ?_ ?_
    rotate_left 1
    ·(intro wq hSw; (try dsimp only at hSw); go_simp; (try with_reducible rfl))
    try simp only [Act.put, pS]
    refine wpAnyH_ready (rs := [2]) (by kernel_rfl) (by simp) ?_
    refine (AllReadyH.cons rfl (fun K hK => ?_) AllReadyH.nil)
    go_simp
    refine (A1.out _).mono ?_
    rintro e w3 ⟨rfl, rfl⟩
    have HS : Blk wr.drew w.heap.size 37 x.l.cells ∧ wr.drew.cell? ⟨w.heap.size, 1, none⟩ = some (.int .i64 x.l.fr) ∧ wr.drew.cell? ⟨w.heap.size, 2, none⟩ = some (.int .i64 x.l.tw) := ⟨HB1.out.below HQ.out lw1, (HB1.out.below HQ.out lw1).cell 1, (HB1.out.below HQ.out lw1).cell 2⟩
    refine hK.out _ _ ?_ (fun hHeld => ?_)
    ·first | exact HS | go_keep
    clear hK K
    try simp only [Act.put, pS]
    refine tkT 3 rfl (v := ?_) ?_ ?_
    rotate_left 1
    ·(intro wq hSw; (try dsimp only at hSw); go_simp; (try with_reducible rfl))
    try simp only [Act.put, pS]
    refine tkT 4 rfl (v := ?_) ?_ ?_
    rotate_left 1
    ·(intro wq hSw; (try dsimp only at hSw); go_simp; (try with_reducible rfl))
    try simp only [Act.put, pS]
    refine wpAnyH_take (i := 5) (v := undef) rfl (by kernel_rfl) (by kernel_rfl) (by kernel_rfl) (fun _ _ _ h => h) (Or.inr ⟨by rfl, rfl⟩) (by assumption) ?_
    try simp only [Act.put, pS]
    refine wpAnyH_take (i := 6) (v := undef) rfl (by kernel_rfl) (by kernel_rfl) (by kernel_rfl) (fun _ _ _ h => h) (Or.inr ⟨by rfl, rfl⟩) (by assumption) ?_
    try simp only [Act.put, pS]
    refine wpAnyH_take (i := 7) (v := undef) rfl (by kernel_rfl) (by kernel_rfl) (by kernel_rfl) (fun _ _ _ h => h) (Or.inr ⟨by rfl, rfl⟩) (by assumption) ?_
    try simp only [Act.put, pS]
    refine wpAnyH_take (i := 8) (v := undef) rfl (by kernel_rfl) (by kernel_rfl) (by kernel_rfl) (fun _ _ _ h => h) (Or.inr ⟨by rfl, rfl⟩) (by assumption) ?_
    exact rp26
   ·cases a2
    ·clear BR SM
     go_upto_region 9 with (fail)
     have HQ : Hid (Below wr.heap.size wr wr.drew) := Lib.hid (Below.refl _ _).drew
     refine wp_region_held_drew (S := fun wq => Blk wq w.heap.size 37 x.l.cells ∧ wq.cell? ⟨w.heap.size, 1, none⟩ = some (.int .i64 x.l.fr) ∧ wq.cell? ⟨w.heap.size, 2, none⟩ = some (.int .i64 x.l.tw)) (by kernel_rfl) ⟨b1, x1, x2⟩ (fun hHeld => ?_)
     refine tkT 0 rfl (v := ?_) ?_ ?_
     rotate_left 1
     ·(intro wq hSw; (try dsimp only at hSw); go_simp; (try with_reducible rfl))
     try simp only [Act.put, pS]
     refine tkT 1 rfl (v := ?_) ?_ ?_
     rotate_left 1
     ·(intro wq hSw; (try dsimp only at hSw); go_simp; (try with_reducible rfl))
     try simp only [Act.put, pS]
     refine wpAnyH_ready (rs := [2]) (by kernel_rfl) (by simp) ?_
     refine (AllReadyH.cons rfl (fun K hK => ?_) AllReadyH.nil)
     go_simp
     refine (A1.out _).mono ?_
     rintro e w3 ⟨rfl, rfl⟩
     have HS : Blk wr.drew w.heap.size 37 x.l.cells ∧ wr.drew.cell? ⟨w.heap.size, 1, none⟩ = some (.int .i64 x.l.fr) ∧ wr.drew.cell? ⟨w.heap.size, 2, none⟩ = some (.int .i64 x.l.tw) := ⟨HB1.out.below HQ.out lw1, (HB1.out.below HQ.out lw1).cell 1, (HB1.out.below HQ.out lw1).cell 2⟩
     refine hK.out _ _ ?_ (fun hHeld => ?_)
     ·first | exact HS | go_keep
     clear hK K
     try simp only [Act.put, pS]
     refine tkT 3 rfl (v := ?_) ?_ ?_
     rotate_left 1
     ·(intro wq hSw; (try dsimp only at hSw); go_simp; (try with_reducible rfl))
     try simp only [Act.put, pS]
     refine tkT 4 rfl (v := ?_) ?_ ?_
     rotate_left 1
     ·(intro wq hSw; (try dsimp only at hSw); go_simp; (try with_reducible rfl))
     try simp only [Act.put, pS]
     refine tkT 5 rfl (v := ?_) ?_ ?_
     rotate_left 1
     ·(intro wq hSw; (try dsimp only at hSw); go_simp; (try with_reducible rfl))
     try simp only [Act.put, pS]
     refine tkT 6 rfl (v := ?_) ?_ ?_
     rotate_left 1
     ·(intro wq hSw; (try dsimp only at hSw); go_simp; (try with_reducible rfl))
     try simp only [Act.put, pS]
     refine wpAnyH_ready (rs := [7]) (by kernel_rfl) (by simp) ?_
     refine (AllReadyH.cons rfl (fun K hK => ?_) AllReadyH.nil)
     go_simp
     refine (A2.out _).mono ?_
     rintro e w3 ⟨rfl, rfl⟩
     have HS : Blk wr.drew w.heap.size 37 x.l.cells ∧ wr.drew.cell? ⟨w.heap.size, 1, none⟩ = some (.int .i64 x.l.fr) ∧ wr.drew.cell? ⟨w.heap.size, 2, none⟩ = some (.int .i64 x.l.tw) := ⟨HB1.out.below HQ.out lw1, (HB1.out.below HQ.out lw1).cell 1, (HB1.out.below HQ.out lw1).cell 2⟩
     refine hK.out _ _ ?_ (fun hHeld => ?_)
     ·first | exact HS | go_keep
     clear hK K
     try simp only [Act.put, pS]
     refine tkT 8 rfl (v := ?_) ?_ ?_
     rotate_left 1
     ·(intro wq hSw; (try dsimp only at hSw); go_simp; (try with_reducible rfl))
     exact rp26
    ·cases bs
     ·skip
      exact rp4
     ·skip
      exact rp4
end Go.Proofs.YtmpedblelnpjdaaGreatDoor

end
