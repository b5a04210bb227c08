/- The document's Bare. -/
import Derived.Test.YtmpedblelnpjdaaGreatDoorZRckF
import Derived.Test.YtmpedblelnpjdaaGreatDoorZTk
import Derived.Test.YtmpedblelnpjdaaGreatDoorZHeld
namespace Go.Proofs.YtmpedblelnpjdaaGreatDoor
open Go.RowKit
set_option linter.unusedSimpArgs false
set_option linter.unusedVariables false
set_option maxHeartbeats 8000000
set_option maxRecDepth 100000
theorem cpy_mask (l : Lt) (f : Nat → Bool) (i : Nat) (hi : i < 15) : cpy i (l.mask f) l = l.mask (updF f i) := by
 match i, hi with
 | 0, _ => rfl
 | 1, _ => rfl
 | 2, _ => rfl
 | 3, _ => rfl
 | 4, _ => rfl
 | 5, _ => rfl
 | 6, _ => rfl
 | 7, _ => rfl
 | 8, _ => rfl
 | 9, _ => rfl
 | 10, _ => rfl
 | 11, _ => rfl
 | 12, _ => rfl
 | 13, _ => rfl
 | 14, _ => rfl
theorem mask_same (l : Lt) {f g : Nat → Bool} (h : ∀ j, j < 15 → f j = g j) : l.mask f = l.mask g := by
 simp only [Lt.mask, h 0 (by decide), h 1 (by decide), h 2 (by decide), h 3 (by decide), h 4 (by decide), h 5 (by decide), h 6 (by decide), h 7 (by decide), h 8 (by decide), h 9 (by decide), h 10 (by decide), h 11 (by decide), h 12 (by decide), h 13 (by decide), h 14 (by decide)]
def fJ (is : List Nat) (j : Nat) : Nat → Bool := (is.take j).foldl updF (fun _ => false)
theorem fJ_succ {is : List Nat} {j i : Nat} (h : is[j]? = some i) : fJ is (j + 1) = updF (fJ is j) i := by
 unfold fJ
 rw [List.take_add_one, h, List.foldl_append]
 rfl
theorem fJ_all : ∀ k, k < 21 → ∀ j, j < 15 → fJ (partsI k) (partsI k).length j = partF k 15 j := by decide +kernel
structure BareI (l : Lt) (is : List Nat) (w : World) (j : Nat) (wr : World) : Prop where
 b1 : Blk wr w.heap.size 37 l.cells
 b2 : Blk wr (w.heap.size + 1) 37 ZL
 b3 : Blk wr (w.heap.size + 2) 37 (l.mask (fJ is j)).cells
 bel : Below w.heap.size w wr
theorem refBare_any (l : Lt) (k : Nat) (hk : 1 ≤ k ∧ k ≤ 20) (hkd : l.kd = (k : Int)) (w : World) :
  Calls Tryz.prog 64 #[.agg l.cells] w fun e w' => e = .returned (.agg (Lt.cells (l.mask (partF k 15)))) ∧ Below w.heap.size w w' := by
 obtain ⟨W0, hW0⟩ : ∃ W0, W0 = (w.alloc (.cells l.cells 37)).alloc (.cells ZL 37) := ⟨_, rfl⟩
 have H1 : Hid (Blk W0 w.heap.size 37 l.cells) := Lib.hid (by rw [hW0]; exact (Blk.new w _ _).alloc _)
 have H2 : Hid (Blk W0 (w.heap.size + 1) 37 ZL) := Lib.hid (by
  rw [hW0]
  have := Blk.new (w.alloc (.cells l.cells 37)) 37 ZL
  simpa using this)
 have hsz : W0.heap.size = w.heap.size + 2 := by rw [hW0]; simp
 have HB : Hid (Below w.heap.size w W0) := Lib.hid (by rw [hW0]; exact ((Below.refl _ _).alloc (Nat.le_refl _) _).alloc (by simp) _)
 have HW := Lib.hid hW0
 obtain ⟨is, his⟩ : ∃ is, is = partsI k := ⟨_, rfl⟩
 obtain ⟨sv, hsv⟩ : ∃ sv, sv = partsS k := ⟨_, rfl⟩
 have HLEN : Hid (sv.size = is.length) := Lib.hid (by rw [hsv, his]; exact len_parts k)
 have h6 : is.length ≤ 6 := by rw [his]; exact parts_len6 k (by omega)
 have HLT : Hid (∀ i ∈ is, i < 15) := Lib.hid (by rw [his]; exact parts_lt k (by omega))
 have HIDX : Hid (∀ (j i : Nat) (w : World), is[j]? = some i → (Instr.index 9 (.string sv) (.int .i64 (j : Int))).run Tryz.prog w = .ok (.int .u8 ((chI i : Nat) : Int)) w) := Lib.hid (fun j i w h => by rw [hsv]; exact idx_parts k j i (by omega) (by rw [← his]; exact h) w)
 have HALL : Hid (∀ j, j < 15 → fJ is is.length j = partF k 15 j) := Lib.hid (by rw [his]; exact fJ_all k (by omega))
 have PT : Hid (∀ W, Calls Tryz.prog 52 #[.int .i64 (k : Int)] W fun e w' => e = .returned (.string sv) ∧ Below W.heap.size W w') := Lib.hid (fun W => by rw [hsv]; exact refParts_any k hk W)
 have c0 : W0.cell? ⟨w.heap.size, 0, none⟩ = some (.int .i64 (k : Int)) := (H1.out.cell 0).trans (by rw [← hkd]; rfl)
 have c1 : W0.cell? ⟨w.heap.size, 1, none⟩ = some (.int .i64 l.fr) := H1.out.cell 1
 have c2 : W0.cell? ⟨w.heap.size, 2, none⟩ = some (.int .i64 l.tw) := H1.out.cell 2
 have hz := bare_hdr
 have HKD := Lib.hid hkd
 clear hW0 his hsv hkd
 go_enter Tryz.func64, Tryz.ntmps64
 go_upto_region 1 with (fail)
 rw [← HW.out]
 clear HW
 iterate 25 go_step
 have HA : Hid (Blk (W0.alloc (.cells ZL 37)) (w.heap.size + 2) 37 ZL) := Lib.hid (by have := Blk.new W0 37 ZL; rw [hsz] at this; exact this)
 refine wpList_store_row rfl 37 (.tmp 3) (.tmp 12) rfl (w.heap.size + 2) (Lt.cells { Lt.zero with kd := (k : Int), fr := l.fr, tw := l.tw }) rfl rfl 37 ZL HA.out ltInfo rfl (lt_all _) ?_
 obtain ⟨W1, hW1⟩ : ∃ W1, W1 = (W0.alloc (.cells ZL 37)).setRow (w.heap.size + 2) (Lt.cells { Lt.zero with kd := (k : Int), fr := l.fr, tw := l.tw }) := ⟨_, rfl⟩
 rw [← hW1]
 have hs0 : Below W0.heap.size W0 W1 := by rw [hW1]; exact below_setRow ((Below.refl _ _).alloc (Nat.le_refl _) _) (by omega) _
 have HI : Hid (BareI l is w 0 W1) := Lib.hid ⟨H1.out.below hs0 H1.out.lt, H2.out.below hs0 H2.out.lt, by
  rw [hW1]
  have h3 := setRow_heap _ _ _ (Lt.cells { Lt.zero with kd := (k : Int), fr := l.fr, tw := l.tw }) _ _ HA.out
  have e : l.mask (fJ is 0) = { Lt.zero with kd := (k : Int), fr := l.fr, tw := l.tw } := by rw [← HKD.out]; rfl
  rw [e]
  exact h3, HB.out.trans (hs0.mono HB.out.size)⟩
 clear hW1 hs0 HA H1 H2 HB hsz c0 c1 c2 hz
 have c0 : W1.cell? ⟨w.heap.size, 0, none⟩ = some (.int .i64 (k : Int)) := (HI.out.b1.cell 0).trans (by rw [← HKD.out]; rfl)
 go_wp2_with (fail)
 refine (PT.out _).mono ?_
 rintro e w2 ⟨rfl, hb2⟩
 have HI2 : Hid (BareI l is w 0 w2) := Lib.hid ⟨HI.out.b1.below hb2 HI.out.b1.lt, HI.out.b2.below hb2 HI.out.b2.lt, HI.out.b3.below hb2 HI.out.b3.lt, HI.out.bel.trans (hb2.mono HI.out.bel.size)⟩
 clear hb2 HI PT c0
 go_wp2_with (fail)
 go_loopw [5] (fun iv wr => ∃ j : Nat, j ≤ is.length ∧ iv = .int .i64 j ∧ Hid (BareI l is w j wr)) (fun iv _ => is.length - (intOf iv).toNat)
 case atStart => exact ⟨0, Nat.zero_le _, rfl, HI2⟩
 case round =>
  clear HI2
  obtain ⟨j, hj, rfl, HI⟩ := hrel
  have hlen := HLEN.out
  have HB1 := Lib.hid HI.out.b1
  have HB2 := Lib.hid HI.out.b2
  have HB3 := Lib.hid HI.out.b3
  have lw1 := HI.out.b1.lt
  have lw2 := HI.out.b2.lt
  have lw3 := HI.out.b3.lt
  have hbs := HI.out.bel.size
  by_cases hlt : j < is.length
  ·have hd : decide (j < is.length) = true := decide_eq_true hlt
   obtain ⟨i, hi⟩ : ∃ i, is[j]? = some i := ⟨_, List.getElem?_eq_getElem hlt⟩
   have hix : ∀ w, (Instr.index 9 (.string sv) (.int .i64 (j : Int))).run Tryz.prog w = .ok (.int .u8 ((chI i : Nat) : Int)) w := fun w => HIDX.out j i w hi
   have hi15 := HLT.out i (List.mem_of_getElem? hi)
   obtain ⟨m, hm⟩ : ∃ m, m = l.mask (fJ is j) := ⟨_, rfl⟩
   rw [← hm] at HB3
   obtain ⟨r, hr⟩ : ∃ r, r = cpy i m l := ⟨_, rfl⟩
   have CP0 := refCopied_any m l i hi15 wr.drew
   rw [← hr] at CP0
   have CP := Lib.hid CP0
   have HR : Hid (r = l.mask (fJ is (j + 1))) := Lib.hid (by rw [hr, hm, fJ_succ hi]; exact cpy_mask l _ i hi15)
   obtain ⟨cb, hcb⟩ : ∃ cb : Int, cb = ((chI i : Nat) : Int) := ⟨_, rfl⟩
   rw [← hcb] at CP hix
   clear CP0 hr hm hi hi15 hcb
   have b1 := HB1.out
   have b3 := HB3.out
   go_upto_region 6 with (fail)
   refine wp_region_k 6 (S := fun wq => Blk wq (w.heap.size + 2) 37 m.cells ∧ Blk wq w.heap.size 37 l.cells) (by kernel_rfl) ⟨b3, b1⟩ (fun hHeld => ?_)
   refine wpAnyK_take (n := 12) (i := 0) (oi := _) (v := m.agg) rfl (by kernel_rfl) (by kernel_rfl) (by kernel_rfl) (by kernel_rfl) (by kernel_rfl) (by kernel_rfl) (fun _ _ _ h => h) (Or.inl ⟨by rfl, ?_⟩) (by assumption) ?_
   ·exact fun wq hSw => exec_load_row rfl _ rfl (load_lt m _ wq hSw.1)
   try simp only [Act.put, List.setIfInBounds_toArray, List.set_cons_zero, List.set_cons_succ, List.getElem_toArray, List.getElem_cons_zero, List.getElem_cons_succ]
   refine wpAnyK_take (n := 12) (i := 1) (oi := _) (v := l.agg) rfl (by kernel_rfl) (by kernel_rfl) (by kernel_rfl) (by kernel_rfl) (by kernel_rfl) (by kernel_rfl) (fun _ _ _ h => h) (Or.inl ⟨by rfl, ?_⟩) (by assumption) ?_
   ·exact fun wq hSw => exec_load_row rfl _ rfl (load_lt l _ wq hSw.2)
   try simp only [Act.put, List.setIfInBounds_toArray, List.set_cons_zero, List.set_cons_succ, List.getElem_toArray, List.getElem_cons_zero, List.getElem_cons_succ]
   refine wpAnyK_take (n := 12) (i := 2) (oi := _) (v := ?_) rfl (by kernel_rfl) (by kernel_rfl) (by kernel_rfl) (by kernel_rfl) (by kernel_rfl) (by kernel_rfl) (fun _ _ _ h => h) (Or.inl ⟨by rfl, ?_⟩) (by assumption) ?_
   rotate_left 1
   ·(intro wq hSw; (try dsimp only at hSw); go_simp; (try with_reducible rfl))
   try simp only [Act.put, List.setIfInBounds_toArray, List.set_cons_zero, List.set_cons_succ, List.getElem_toArray, List.getElem_cons_zero, List.getElem_cons_succ]
   refine wpAnyK_take (n := 12) (i := 3) (oi := _) (v := ?_) rfl (by kernel_rfl) (by kernel_rfl) (by kernel_rfl) (by kernel_rfl) (by kernel_rfl) (by kernel_rfl) (fun _ _ _ h => h) (Or.inl ⟨by rfl, ?_⟩) (by assumption) ?_
   rotate_left 1
   ·(intro wq hSw; (try dsimp only at hSw); go_simp; (try with_reducible rfl))
   try simp only [Act.put, List.setIfInBounds_toArray, List.set_cons_zero, List.set_cons_succ, List.getElem_toArray, List.getElem_cons_zero, List.getElem_cons_succ]
   refine wpAnyK_take (n := 12) (i := 4) (oi := _) (v := ?_) rfl (by kernel_rfl) (by kernel_rfl) (by kernel_rfl) (by kernel_rfl) (by kernel_rfl) (by kernel_rfl) (fun _ _ _ h => h) (Or.inl ⟨by rfl, ?_⟩) (by assumption) ?_
   rotate_left 1
   ·(intro wq hSw; (try dsimp only at hSw); go_simp; (try with_reducible rfl))
   try simp only [Act.put, List.setIfInBounds_toArray, List.set_cons_zero, List.set_cons_succ, List.getElem_toArray, List.getElem_cons_zero, List.getElem_cons_succ]
   refine wpAnyK_ready (rs := [5]) (by kernel_rfl) (by simp) ?_
   refine AllReadyK.cons (o := _) rfl (fun K hK => ?_) AllReadyK.nil
   go_simp
   refine CP.out.mono ?_; rintro e w6 ⟨rfl, h6b⟩; have hbw := (show Below wr.heap.size wr w6 from (Below.refl _ _).drew.trans h6b); have HX6 := Lib.hid (HB3.out.below hbw lw3); have HS := And.intro HX6.out (HB1.out.below hbw lw1); have HBW := Lib.hid hbw; clear h6b hbw
   (try go_simp)
   refine hK.out _ _ ?_ (fun hHeld => ?_)
   ·first | exact HS | go_keep
   clear hK K
   try simp only [Act.put, List.setIfInBounds_toArray, List.set_cons_zero, List.set_cons_succ, List.getElem_toArray, List.getElem_cons_zero, List.getElem_cons_succ]
   refine wpAnyK_ready (rs := [6]) (by kernel_rfl) (by simp) ?_
   refine AllReadyK.last (o := _) rfl (by kernel_rfl) (fun K hK => ?_) AllReadyK.nil
   refine step_store_row rfl 37 (.tmp 3) (.tmp 27) rfl (w.heap.size + 2) r.cells rfl rfl 37 m.cells HX6.out ltInfo rfl (lt_all _) ?_
   (try go_simp)
   refine hK.out _ _ ?_
   clear hK K
   try simp only [Act.put, List.setIfInBounds_toArray, List.set_cons_zero, List.set_cons_succ, List.getElem_toArray, List.getElem_cons_zero, List.getElem_cons_succ]
   refine wpAnyK_done (by kernel_rfl) ?_ _
   have HN : Hid (BareI l is w (j + 1) (w6.setRow (w.heap.size + 2) r.cells)) := Lib.hid (by
    have hq := below_setRow (Below.refl (w.heap.size + 2) w6) (Nat.le_refl _) r.cells
    have hs6 := HBW.out.size
    refine ⟨(HB1.out.below HBW.out lw1).below hq (by omega), (HB2.out.below HBW.out lw2).below hq (by omega), ?_, (HI.out.bel.trans (HBW.out.mono hbs)).trans (hq.mono (by omega))⟩
    rw [← HR.out]
    exact setRow_heap _ _ _ _ _ _ HX6.out)
   clear HS hHeld b1 b3 CP HX6 HB1 HB2 HB3
   generalize w6.setRow (w.heap.size + 2) r.cells = W9 at *
   go_wp2_with (fail)
   exact ⟨⟨j + 1, hlt, by simp, HN⟩, by simp [intOf]; omega⟩
  ·obtain rfl : j = is.length := by omega
   obtain ⟨r, hr⟩ : ∃ r, r = l.mask (partF k 15) := ⟨_, rfl⟩
   have HX : Hid (Blk wr (w.heap.size + 2) 37 r.cells) := Lib.hid (by
    rw [hr, ← mask_same l HALL.out]
    exact HB3.out)
   have HRR := Lib.hid hr
   have HBEL := Lib.hid HI.out.bel
   clear hr HB3 HI
   go_upto_region 7 with (fail)
   iterate 1 go_step
   refine wpList_load_row rfl 37 (.tmp 3) rfl (w.heap.size + 2) rfl 37 r.cells (0, 0) _ HX.out Tryz.underlying37 rfl ltInfo ?_
   refine wpList_store_row rfl 37 (.tmp 2) (.tmp 28) rfl (w.heap.size + 1) r.cells rfl rfl 37 ZL HB2.out ltInfo rfl (lt_all _) ?_
   go_wp2_with (fail)
   refine bodyPost_ret_by (v := .agg r.cells) (results_cell_row Tryz.results64 _ _ (w.heap.size + 1) 37 r.cells (0, 0) _ rfl (setRow_heap _ _ _ _ _ _ HB2.out) Tryz.underlying37 rfl ltInfo) rfl ?_
   exact ⟨by rw [HRR.out], below_setRow HBEL.out (by omega) _⟩
end Go.Proofs.YtmpedblelnpjdaaGreatDoor
