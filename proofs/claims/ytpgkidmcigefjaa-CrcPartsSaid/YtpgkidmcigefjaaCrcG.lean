/- The walk of CrcSums. -/
import Derived.Test.YtpgkidmcigefjaaCrcF
namespace Go.Proofs.Ytpgkidmcigefjaa
open Go.RowKit
set_option linter.unusedSimpArgs false
set_option linter.unusedVariables false
set_option maxRecDepth 100000
set_option maxHeartbeats 1000000

theorem nats_of (bs : List Int) (h : ∀ z ∈ bs, 0 ≤ z ∧ z < 256) : ∃ l : List Nat, bI l = bs ∧ isBs l := by
  induction bs with
  | nil => exact ⟨[], rfl, by intro b hb; cases hb⟩
  | cons z bs ih =>
    obtain ⟨l, h1, h2⟩ := ih (fun x hx => h x (by simp [hx]))
    have hz := h z (by simp)
    obtain ⟨n, rfl⟩ := Int.eq_ofNat_of_zero_le hz.1
    refine ⟨n :: l, by rw [← h1]; rfl, ?_⟩
    intro b hb
    rcases List.mem_cons.1 hb with rfl | hb
    · omega
    · exact h2 b hb
theorem bI_take_map (l : List Nat) (k : Nat) : ((bI l).map (Value.int .u8)).take k = (bI (l.take k)).map (Value.int .u8) := by
  simp [bI, List.map_take]
theorem bI_drop_map (l : List Nat) (k : Nat) : ((bI l).map (Value.int .u8)).drop k = (bI (l.drop k)).map (Value.int .u8) := by
  simp [bI, List.map_drop]
theorem crcSums_law (A : Option Addr) (n c s : Nat) (l : List Nat) (i : Int) (w : World) (hl : isBs l) (hr : Reads w w.heap.size 1 A n ((bI l).map (Value.int .u8))) (hn : n ≤ c) (hc : c ≤ maxLen) (hs : s < 4294967296) :
    Calls Try.prog 4 #[.slice A n c, .int .u32 (s : Int), .int .i64 i] w fun e w' => e = .returned (.bool true) ∧ Below w.heap.size w w' := by
  unfold maxLen at hc
  have hR := hr.take (cutN_le n 300)
  rw [bI_take_map] at hR
  have HR := Lib.hid hR
  have HL := Lib.hid (isBs_take hl (cutN n 300))
  have h300 := cutN_le2 n 300
  clear hR hr hl
  go_enter Try.func4, Try.ntmps4
  go_wp2_with (fail)
  refine (cut_any A n c 300 hn (by omega) _).mono ?_
  rintro e w1 ⟨rfl, rfl⟩
  generalize cutN n 300 = nb at *
  generalize l.take nb = b at *
  have LB := Lib.hid (reads_len HR.out)
  go_wp2_with (fail)
  refine (crcNew_any _).mono ?_
  rintro e w2 ⟨rfl, h1, h2⟩
  obtain ⟨g, hg⟩ : ∃ g, g = w.heap.size := ⟨_, rfl⟩
  rw [← hg] at h1 ⊢
  have hA : ∀ ad, 0 < nb → A = some ad → ad.block ≠ g := fun ad h0 he => by
    obtain ⟨ad', h', hb, _⟩ := HR.out.2 h0
    rw [he] at h'
    cases h'
    omega
  have HA := Lib.hid hA
  have HG := Lib.hid hg
  have hgl := h1.lt
  have HR2 := Lib.hid (HR.out.below h2)
  have HB2 := Lib.hid h2
  have hs2 := h2.size
  have C := Lib.hid (of_one g false A nb c w.heap.size b HL.out w2 h1 HR2.out hs2 hA (by omega))
  clear h1 h2 hg hA
  go_wp2_with (fail)
  with_reducible refine C.out.mono ?_
  rintro e w3 ⟨rfl, h3, h4⟩
  have HR3 := Lib.hid (h4.reads HR2.out hs2 HA.out)
  have HB3 := Lib.hid (below_chg HB2.out (Nat.le_of_eq HG.out.symm) hgl h4)
  have H3 := Lib.hid h3
  clear h3 h4 C HB2 HR2
  have hs3 := HB3.out.size
  have D := Lib.hid (refOf_any A nb c w.heap.size b HL.out w3 HR3.out (by omega))
  have E := Lib.hid (crcSlow_any A nb c w.heap.size b HL.out w3 HR3.out (by omega))
  generalize crc b = r at *
  go_wp2_with (fail)
  with_reducible refine D.out.mono ?_
  rintro e w' ⟨rfl, rfl⟩
  go_wp2_with (fail)
  with_reducible refine E.out.mono ?_
  rintro e w' ⟨rfl, rfl⟩
  go_wp2_with (fail)
  with_reducible refine D.out.mono ?_
  rintro e w' ⟨rfl, rfl⟩
  clear D E
  have M := Lib.hid (crcMore_any g true A nb c w.heap.size s b HL.out hs w3 H3.out HR3.out hs3 HA.out (by omega))
  go_wp2_with (fail)
  with_reducible refine M.out.mono ?_
  rintro e w4 ⟨rfl, h3, h4⟩
  have HR4 := Lib.hid (h4.reads HR3.out hs3 HA.out)
  have HB4 := Lib.hid (below_chg HB3.out (Nat.le_of_eq HG.out.symm) H3.out.lt h4)
  have H4 := Lib.hid h3
  have hs4 := HB4.out.size
  clear h3 h4 M HB3 HR3 H3
  have D := Lib.hid (refMore_any A nb c w.heap.size s b HL.out hs w4 HR4.out (by omega))
  generalize more s b = r2 at *
  go_wp2_with (fail)
  with_reducible refine D.out.mono ?_
  rintro e w' ⟨rfl, rfl⟩
  clear D
  have M := Lib.hid (crcAt_any g true i w4 H4.out)
  have D := Lib.hid (fun w => refAt_any i w)
  generalize (if 0 ≤ i ∧ i ≤ 255 then tabF i.toNat else 0) = x at *
  generalize (true || decide (0 ≤ i ∧ i ≤ 255)) = dd at *
  go_wp2_with (fail)
  with_reducible refine M.out.mono ?_
  rintro e w5 ⟨rfl, h3, h4⟩
  have HB5 := Lib.hid (below_chg HB4.out (Nat.le_of_eq HG.out.symm) H4.out.lt h4)
  clear h3 h4 M
  go_wp2_with (fail)
  with_reducible refine (D.out _).mono ?_
  rintro e w6 ⟨rfl, h4⟩
  have HB6 := Lib.hid (HB5.out.trans (h4.mono HB5.out.size))
  clear h4
  go_wp2_with (fail)
  refine (awake_any _).mono ?_
  rintro e w7 ⟨rfl, h4⟩
  have HB7 := Lib.hid (HB6.out.trans (h4.mono HB6.out.size))
  clear h4
  go_wp2
  go_ret
  exact ⟨rfl, HB7.out⟩
end Go.Proofs.Ytpgkidmcigefjaa
