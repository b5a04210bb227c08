/- The document's Get of a command: plain. -/
import Derived.Test.YtmpedblelnpjdaaGreatDoorZRdB
import Derived.Test.YtmpedblelnpjdaaGreatDoorZRckC
import Derived.Test.YtmpedblelnpjdaaGreatDoorZGM
namespace Go.Proofs.YtmpedblelnpjdaaGreatDoor
open Go.RowKit
set_option linter.unusedSimpArgs false
set_option linter.unusedVariables false
set_option maxHeartbeats 8000000
set_option maxRecDepth 100000
theorem plain_addrI {w : World} {B n : Nat} {A : Option Addr} {l : List Int} (h : Reads w B 1 A n (l.map (Value.int .u8))) (hn : 0 < n) : ∃ b0 o, A = some ⟨b0, o, none⟩ ∧ b0 < B := by
 have hl : l.length = n := by have := h.1; simpa using this
 obtain ⟨ad, hA, hb, hc⟩ := h.2 hn
 obtain ⟨b0, o, spot⟩ := ad
 have h00 : (l.map (Value.int .u8))[0]? = some ((l.map (Value.int .u8))[0]'(by simp; omega)) := List.getElem?_eq_getElem _
 have := World.cell?_spot (hc 0 _ h00)
 exact ⟨b0, o, by rw [hA]; congr 1; simpa [Addr.add] using this, hb⟩
theorem upto_take (l : List Int) (k : Nat) (hk : knownB k = true) (h : k ≤ l.length) (hb : bytesB l) (h8 : k ≤ 8) : (⟨l, 0⟩ : FI).upto k 18446744073709551615 = (⟨l.drop k, 0⟩, numB (l.take k)) := by
 have hN : (⟨l, 0⟩ : FI).next k = (⟨l.drop k, 0⟩, l.take k, true) := by rw [FI.next, if_neg (by simp), if_neg (by simp; omega)]
 have hlt := numB_lt (l.take k) (bytesB_take _ _ hb)
 have hp : 256 ^ (l.take k).length ≤ 256 ^ 8 := Nat.pow_le_pow_right (by decide) (by rw [List.length_take]; omega)
 rw [FI.upto, if_neg (by simp), hk, if_pos rfl, Int.toNat_natCast, hN]
 simp only [if_true]
 rw [if_neg (by omega)]
theorem numB_one (z : Int) (h : 0 ≤ z) : ((numB [z] : Nat) : Int) = z := by
 unfold numB
 simp
 omega
theorem raw_yes (s : FI) (k : Nat) (h : (s.raw k).1.e = 0) : (s.raw k).2.length = k := by
 rw [FI.raw, if_neg (by omega), Int.toNat_natCast] at h ⊢
 simp only at h ⊢
 unfold FI.next at h ⊢
 split at h
 ·rename_i h1; exact absurd h h1
 ·split at h
  ·exact absurd h (FI.fail_e _ _ (by decide))
  ·rename_i h1 h2
   rw [if_neg h1, if_neg h2]
   simp only [List.length_take]; omega
theorem cmdP_eq (bs : List Int) (hl : bs.length = 11) (hb : bytesB bs) : ∃ b0 b1 b10 : Int, bs[0]? = some b0 ∧ bs[1]? = some b1 ∧ bs[10]? = some b10 ∧ (0 ≤ b0 ∧ b0 < 256) ∧ (0 ≤ b1 ∧ b1 < 256) ∧ (0 ≤ b10 ∧ b10 < 256) ∧ cmdP bs = ⟨b0, b1, ((numB ((bs.drop 2).take 8) : Nat) : Int), b10⟩ := by
 obtain ⟨b0, r1, rfl⟩ : ∃ a l, bs = a :: l := by
  cases bs with
  | nil => simp at hl
  | cons a l => exact ⟨a, l, rfl⟩
 obtain ⟨b1, r2, rfl⟩ : ∃ a l, r1 = a :: l := by
  cases r1 with
  | nil => simp at hl
  | cons a l => exact ⟨a, l, rfl⟩
 have hl9 : r2.length = 9 := by simpa using hl
 obtain ⟨b10, hb10⟩ : ∃ z, r2[8]? = some z := ⟨_, List.getElem?_eq_getElem (by omega)⟩
 have h0 := hb b0 (by simp)
 have h1 := hb b1 (by simp)
 have h10 := hb b10 (by simp [List.mem_of_getElem? hb10])
 have hbr : bytesB r2 := fun z hz => hb z (by simp [hz])
 have hd8 : r2.drop 8 = [b10] := by
  rw [List.drop_eq_getElem_cons (by omega), List.drop_of_length_le (by omega)]
  have := List.getElem?_eq_some_iff.1 hb10
  obtain ⟨_, e⟩ := this
  rw [e]
 refine ⟨b0, b1, b10, rfl, rfl, by simpa using hb10, h0, h1, h10, ?_⟩
 have e1 : cp1 (b0 :: b1 :: r2) = (⟨b1 :: r2, 0⟩, numB [b0]) := upto_take (b0 :: b1 :: r2) 1 rfl (by simp) hb (by decide)
 have e2 : cp2 (b0 :: b1 :: r2) = (⟨r2, 0⟩, numB [b1]) := by
  unfold cp2; rw [e1]
  exact upto_take (b1 :: r2) 1 rfl (by simp) (fun z hz => hb z (by simp [List.mem_cons.1 hz])) (by decide)
 have e3 : cp3 (b0 :: b1 :: r2) = (⟨r2.drop 8, 0⟩, numB (r2.take 8)) := by
  unfold cp3; rw [e2]
  exact upto_take r2 8 rfl (by omega) hbr (by decide)
 have e4 : cp4 (b0 :: b1 :: r2) = (⟨[], 0⟩, numB [b10]) := by
  unfold cp4; rw [e3, hd8]
  exact upto_take [b10] 1 rfl (by simp) (fun z hz => by rw [List.mem_singleton] at hz; subst hz; exact h10) (by decide)
 unfold cmdP
 rw [e1, e2, e3, e4]
 simp only [numB_one b0 h0.1, numB_one b1 h1.1, numB_one b10 h10.1]
 rfl
end Go.Proofs.YtmpedblelnpjdaaGreatDoor
