/- The document's Parts; fine and copied of any part. -/
import Derived.Test.YtmpedblelnpjdaaGreatDoorZRckE
import Derived.Test.YtmpedblelnpjdaaGreatDoorZGN
namespace Go.Proofs.YtmpedblelnpjdaaGreatDoor
open Go.RowKit
set_option linter.unusedSimpArgs false
set_option linter.unusedVariables false
set_option maxHeartbeats 8000000
set_option maxRecDepth 100000
def chI (i : Nat) : Nat := [99, 101, 98, 115, 100, 108, 110, 111, 107, 118, 109, 102, 116, 117, 97].getD i 97
def partsS (k : Nat) : ByteArray := ⟨((partsI k).map (fun i => UInt8.ofNat (chI i))).toArray⟩
theorem parts_lt : ∀ k, k < 21 → ∀ i ∈ partsI k, i < 15 := by decide +kernel
theorem parts_len6 : ∀ k, k < 21 → (partsI k).length ≤ 6 := by decide +kernel
theorem refFine10_any (x : LV) (i : Nat) (hi : i < 15) (B : Nat) (w : World) (h : LIn w B x) (hB : B ≤ w.heap.size) (hn : x.near) : Calls Tryz.prog 62 #[.agg x.l.cells, .int .u8 ((chI i : Nat) : Int)] w fun e w' => e = .returned (.bool (fineB x i)) ∧ Below w.heap.size w w' := by
 have hbl := h.wf.bl
 match i, hi with
 | 0, _ => exact rfine_c x w
 | 1, _ => exact rfine_e x h.wf.ep.1 w
 | 2, _ => exact rfine_b x ⟨hbl.1, by omega⟩ w
 | 3, _ => exact rfine_s x w
 | 4, _ => exact rfine_d x w
 | 5, _ => exact rfine_l x w
 | 6, _ => exact rfine_n x w
 | 7, _ => exact rfine_o x w
 | 8, _ => exact rfine_k x w
 | 9, _ => exact rfine_v x w
 | 10, _ => exact rfine_m x h.wf.qe.1 w
 | 11, _ => exact rfine_f x B w h hB hn
 | 12, _ => exact rfine_t x B w h hB hn
 | 13, _ => exact rfine_u x B w h hB hn
 | 14, _ => exact rfine_a x w
theorem refCopied_any (a b : Lt) (i : Nat) (hi : i < 15) (w : World) : Calls Tryz.prog 142 #[.agg a.cells, .agg b.cells, .int .u8 ((chI i : Nat) : Int)] w fun e w' => e = .returned (.agg (Lt.cells (cpy i a b))) ∧ Below w.heap.size w w' := by
 match i, hi with
 | 0, _ => exact copied_c a b w
 | 1, _ => exact copied_e a b w
 | 2, _ => exact copied_b a b w
 | 3, _ => exact copied_s a b w
 | 4, _ => exact copied_d a b w
 | 5, _ => exact copied_l a b w
 | 6, _ => exact copied_n a b w
 | 7, _ => exact copied_o a b w
 | 8, _ => exact copied_k a b w
 | 9, _ => exact copied_v a b w
 | 10, _ => exact copied_m a b w
 | 11, _ => exact copied_f a b w
 | 12, _ => exact copied_t a b w
 | 13, _ => exact copied_u a b w
 | 14, _ => exact copied_a a b w
theorem refParts_any (k : Nat) (hk : 1 ≤ k ∧ k ≤ 20) (w : World) : Calls Tryz.prog 52 #[.int .i64 (k : Int)] w fun e w' => e = .returned (.string (partsS k)) ∧ Below w.heap.size w w' := by
 have hk2 : k = 1 ∨ k = 2 ∨ k = 3 ∨ k = 4 ∨ k = 5 ∨ k = 6 ∨ k = 7 ∨ k = 8 ∨ k = 9 ∨ k = 10 ∨ k = 11 ∨ k = 12 ∨ k = 13 ∨ k = 14 ∨ k = 15 ∨ k = 16 ∨ k = 17 ∨ k = 18 ∨ k = 19 ∨ k = 20 := by omega
 rcases hk2 with rfl | rfl | rfl | rfl | rfl | rfl | rfl | rfl | rfl | rfl | rfl | rfl | rfl | rfl | rfl | rfl | rfl | rfl | rfl | rfl
 all_goals
  clear hk
  go_enter Tryz.func52, Tryz.ntmps52
  go_wp2_with (fail)
  go_ret
  exact ⟨by first | rfl | decide, (Below.refl _ _).alloc (Nat.le_refl _) _⟩
theorem len_parts (k : Nat) : (partsS k).size = (partsI k).length := by simp [partsS, ByteArray.size]
theorem idx_parts (k j i : Nat) (hk : k < 21) (h : (partsI k)[j]? = some i) (w : World) : (Instr.index 9 (.string (partsS k)) (.int .i64 (j : Int))).run Tryz.prog w = .ok (.int .u8 ((chI i : Nat) : Int)) w := by
 obtain ⟨hj, hi⟩ : j < (partsI k).length ∧ i = (partsI k).getD j 0 := by
  obtain ⟨h1, h2⟩ := List.getElem?_eq_some_iff.1 h
  exact ⟨h1, by rw [List.getD_eq_getElem?_getD, h]; rfl⟩
 subst hi
 clear h
 have hj6 : j < 6 := Nat.lt_of_lt_of_le hj (parts_len6 k hk)
 have hk2 : k = 0 ∨ k = 1 ∨ k = 2 ∨ k = 3 ∨ k = 4 ∨ k = 5 ∨ k = 6 ∨ k = 7 ∨ k = 8 ∨ k = 9 ∨ k = 10 ∨ k = 11 ∨ k = 12 ∨ k = 13 ∨ k = 14 ∨ k = 15 ∨ k = 16 ∨ k = 17 ∨ k = 18 ∨ k = 19 ∨ k = 20 := by omega
 have hj2 : j = 0 ∨ j = 1 ∨ j = 2 ∨ j = 3 ∨ j = 4 ∨ j = 5 := by omega
 clear hk hj6
 rcases hk2 with rfl | rfl | rfl | rfl | rfl | rfl | rfl | rfl | rfl | rfl | rfl | rfl | rfl | rfl | rfl | rfl | rfl | rfl | rfl | rfl | rfl
 all_goals
  rcases hj2 with rfl | rfl | rfl | rfl | rfl | rfl
  all_goals first | exact absurd hj (by decide) | rfl
end Go.Proofs.YtmpedblelnpjdaaGreatDoor
