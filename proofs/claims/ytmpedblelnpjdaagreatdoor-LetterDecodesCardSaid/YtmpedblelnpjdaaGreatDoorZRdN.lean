/- The document's Decode: what is needed ahead of its walk. -/
import Derived.Test.YtmpedblelnpjdaaGreatDoorZRdL
import Derived.Test.YtmpedblelnpjdaaGreatDoorZLdB
import Derived.Test.YtmpedblelnpjdaaGreatDoorZRckH
namespace Go.Proofs.YtmpedblelnpjdaaGreatDoor
open Go.RowKit
set_option linter.unusedSimpArgs false
set_option linter.unusedVariables false
set_option maxHeartbeats 8000000
set_option maxRecDepth 100000
theorem rdX_vs (i : Nat) (h : i ≠ 12) (s : FI) (v : LVal) : (rdX i s v).2.vs = v.vs := by
 unfold rdX stG
 split <;> first
  | rfl
  | (unfold rdO; split <;> first | rfl | exact absurd rfl h)
theorem rdX_us (i : Nat) (h : i ≠ 13) (s : FI) (v : LVal) : (rdX i s v).2.us = v.us := by
 unfold rdX stG
 split <;> first
  | rfl
  | (unfold rdO; split <;> first | rfl | exact absurd rfl h)
theorem stF_vs : ∀ (l : List Nat) (s : FI) (v : LVal), (∀ i ∈ l, i ≠ 12) → (stF rdX l s v).2.vs = v.vs
 | [], s, v, _ => rfl
 | i :: l, s, v, h => (stF_vs l _ _ (fun k hk => h k (by simp [hk]))).trans (rdX_vs i (h i (by simp)) s v)
theorem stF_us : ∀ (l : List Nat) (s : FI) (v : LVal), (∀ i ∈ l, i ≠ 13) → (stF rdX l s v).2.us = v.us
 | [], s, v, _ => rfl
 | i :: l, s, v, h => (stF_us l _ _ (fun k hk => h k (by simp [hk]))).trans (rdX_us i (h i (by simp)) s v)
theorem parts_once : ∀ k, k < 21 → ∀ j, j < 7 → ∀ i, i < 15 → (partsI k)[j]? = some i → ∀ m ∈ (partsI k).take j, m ≠ i := by decide +kernel
theorem refReadX_any (x : RI) (l : LV) (i : Nat) (hi : i < 15) (B lo : Nat) (w : World) (h : RIn w B x) (hB : B ≤ w.heap.size) (hl : RLet w B lo l) (hlo : lo ≤ w.heap.size) (h12 : i = 12 → l.vs = []) (h13 : i = 13 → l.us = []) :
  Calls Tryz.prog 53 #[.agg x.cells, .agg l.l.cells, .int .u8 ((chI i : Nat) : Int)] w (RdP B lo i x.s l w) := by
 rcases (show i = 0 ∨ i = 1 ∨ i = 2 ∨ i = 3 ∨ i = 4 ∨ i = 5 ∨ i = 6 ∨ i = 7 ∨ i = 8 ∨ i = 9 ∨ i = 10 ∨ i = 11 ∨ i = 12 ∨ i = 13 ∨ i = 14 by omega) with rfl | rfl | rfl | rfl | rfl | rfl | rfl | rfl | rfl | rfl | rfl | rfl | rfl | rfl | rfl
 ·exact rd_c x l B lo w h hB hl
 ·exact rd_e x l B lo w h hB hl
 ·exact rd_b x l B lo w h hB hl
 ·exact rd_s x l B lo w h hB hl
 ·exact rd_d x l B lo w h hB hl
 ·exact rd_l x l B lo w h hB hl
 ·exact rd_n x l B lo w h hB hl
 ·exact rd_o x l B lo w h hB hl
 ·exact rd_k x l B lo w h hB hl
 ·exact rd_v x l B lo w h hB hl
 ·exact rd_m x l B lo w h hB hl
 ·exact rd_f x l B lo w h hB hl hlo
 ·exact rd_t x l B lo w h hB hl hlo (h12 rfl)
 ·exact rd_u x l B lo w h hB hl hlo (h13 rfl)
 ·exact rd_a x l B lo w h hB hl
end Go.Proofs.YtmpedblelnpjdaaGreatDoor
