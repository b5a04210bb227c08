/- Package crc: on, More, Of, At, Made, Slow; the reference's Other, Of, More, At. -/
import Derived.Test.YtoifaeabieojbaaCrcC
namespace Go.Proofs.Ytoifaeabieojbaa
open Go.RowKit
set_option linter.unusedSimpArgs false
set_option linter.unusedVariables false
set_option maxRecDepth 100000
set_option maxHeartbeats 1000000

theorem crcOn_any (g : Nat) (d : Bool) (A : Option Addr) (n c B s : Nat) (l : List Nat) (hl : isBs l) (hs : s < 4294967296) (w : World) (h : Tb w g d) (hr : Reads w B 1 A n ((bI l).map (Value.int .u8))) (hB : B ≤ w.heap.size)
    (hA : ∀ ad, 0 < n → A = some ad → ad.block ≠ g) (hn : n ≤ 9223372036854775806) :
    Calls Try.prog 73 #[.pointer (some ⟨g, 0, none⟩), .int .u32 (s : Int), .slice A n c] w fun e w' => e = .returned (.int .u32 ((onB s l : Nat) : Int)) ∧ Tb w' g true ∧ Chg w w' (fun k => k = g) := by
  have HL := Lib.hid hl
  have HR := Lib.hid hr
  have LN := Lib.hid (reads_len hr)
  have HS := Lib.hid hs
  have HAA := Lib.hid hA
  have C := Lib.hid (crcReady_any g d w h)
  clear hl hr hs h hA
  go_enter Try.func73, Try.ntmps73
  go_wp2_with (fail)
  refine C.out.mono ?_
  rintro e w1 ⟨rfl, h1, h2⟩
  have HR1 := Lib.hid (h2.reads HR.out hB (fun ad h0 he => HAA.out ad h0 he))
  have H1 : Hid (TabC w1 g 1 0 1 tabF) := Lib.hid h1
  have H2 := Lib.hid h2
  clear h1 h2
  go_wp2
  go_loop [1, 9, 14] (fun v c9 i => ∃ k q : Nat, k ≤ n ∧ q < 4294967296 ∧ i = .int .i64 k ∧ v = .int .u32 (q : Int) ∧ Hid (q = onB s (l.take k))) (fun _ _ i => n - (intOf i).toNat)
  case atStart => exact ⟨0, s, by omega, HS.out, rfl, rfl, Lib.hid rfl⟩
  case round =>
    obtain ⟨k, q, hk, hq, rfl, rfl, HQ⟩ := hrel
    by_cases hlt : k < n
    · obtain ⟨ad, z, rfl, _, hz, hc⟩ := reads_nat HR1.out hlt
      have hz8 := isBs_get HL.out hz
      have HZ := Lib.hid hz
      clear hz
      obtain ⟨y, hy⟩ : ∃ y, y = (q % 256) ^^^ z := ⟨_, rfl⟩
      have hy8 : y < 256 := by rw [hy]; exact xor8_lt _ _ (by omega) hz8
      have hx : bits .xor .u8 ((q : Int) % 256) (z : Int) = (y : Int) := by rw [hy]; exact u8_xor_nat (q % 256) z (by omega) hz8
      have ht := H1.out.kt hy8
      obtain ⟨t, hte⟩ : ∃ t, t = hv 8 y := ⟨_, rfl⟩
      have htl : t < 4294967296 := by rw [hte]; exact hv_lt _ _ (by omega)
      rw [show tabF y = (t : Int) by rw [hte]; rfl] at ht
      obtain ⟨q', hq'⟩ : ∃ q', q' = hv 8 (q ^^^ z) := ⟨_, rfl⟩
      have hql : q' < 4294967296 := by rw [hq']; exact hv_lt _ _ (xor32_lt _ _ hq (by omega))
      have hx2 : bits .xor .u32 (t : Int) ((q : Int) / 256) = (q' : Int) := by
        rw [hq', ← table_step, ← hy, ← hte]; exact u32_xor_nat t (q / 256) htl (by omega)
      have HQ' := Lib.hid hq'
      clear hy hte hq'
      go_wp2
      go_round
      case rel => exact ⟨k + 1, q', by omega, hql, by go_num, rfl, Lib.hid (by rw [onB_take _ _ _ _ HZ.out, HQ'.out, HQ.out])⟩
      case measure => simp [intOf]; omega
    · obtain rfl : k = n := by omega
      go_wp2
      go_ret
      exact ⟨ret_int (by rw [HQ.out, List.take_of_length_le (by have := LN.out; omega)]), H1.out, H2.out⟩
theorem other_bits (s : Nat) (hs : s < 4294967296) : bits .xor .u32 IntKind.u32.max (s : Int) = ((other s : Nat) : Int) := by
  have := u32_xor_nat 4294967295 s (by decide) hs
  rw [Nat.xor_comm] at this
  exact this
def more (s : Nat) (l : List Nat) : Nat := other (onB (other s) l)
theorem more_lt (s : Nat) (l : List Nat) (hs : s < 4294967296) (hl : isBs l) : more s l < 4294967296 := other_lt _ (onB_lt _ _ (other_lt _ hs) hl)
theorem more_0 (l : List Nat) : more 0 l = crc l := rfl
theorem more_more (s : Nat) (l m : List Nat) : more (more s l) m = more s (l ++ m) := by
  unfold more
  rw [other_other, onB_append]
theorem crcMore_any (g : Nat) (d : Bool) (A : Option Addr) (n c B s : Nat) (l : List Nat) (hl : isBs l) (hs : s < 4294967296) (w : World) (h : Tb w g d) (hr : Reads w B 1 A n ((bI l).map (Value.int .u8))) (hB : B ≤ w.heap.size)
    (hA : ∀ ad, 0 < n → A = some ad → ad.block ≠ g) (hn : n ≤ 9223372036854775806) :
    Calls Try.prog 66 #[.pointer (some ⟨g, 0, none⟩), .int .u32 (s : Int), .slice A n c] w fun e w' => e = .returned (.int .u32 ((more s l : Nat) : Int)) ∧ Tb w' g true ∧ Chg w w' (fun k => k = g) := by
  obtain ⟨p, hp⟩ : ∃ p, p = other s := ⟨_, rfl⟩
  have hpl : p < 4294967296 := by rw [hp]; exact other_lt s hs
  have e1 : bits .xor .u32 IntKind.u32.max (s : Int) = (p : Int) := by rw [hp]; exact other_bits s hs
  have C := Lib.hid (crcOn_any g d A n c B p l hl hpl w h hr hB hA hn)
  have e2 : bits .xor .u32 IntKind.u32.max ((onB p l : Nat) : Int) = ((more s l : Nat) : Int) := by rw [more, ← hp]; exact other_bits _ (onB_lt _ _ hpl hl)
  obtain ⟨r, hr'⟩ : ∃ r, r = more s l := ⟨_, rfl⟩
  rw [← hr'] at e2 ⊢
  generalize onB p l = o at *
  clear hr' h hr hA hp
  go_enter Try.func66, Try.ntmps66
  go_wp2_with (fail)

  with_reducible refine C.out.mono ?_
  rintro e w' ⟨rfl, h1, h2⟩
  have H1 := Lib.hid h1
  have H2 := Lib.hid h2
  clear h1 h2 C
  go_wp2
  go_ret
  exact ⟨rfl, H1.out, H2.out⟩
theorem crcMore_nil (s : Int) (v : Value) (w : World) : Calls Try.prog 66 #[.pointer none, .int .u32 s, v] w fun e w' => e = .returned (.int .u32 0) ∧ w = w' := by
  go_enter Try.func66, Try.ntmps66
  go_wp2
  go_ret
  exact ⟨rfl, rfl⟩
end Go.Proofs.Ytoifaeabieojbaa
