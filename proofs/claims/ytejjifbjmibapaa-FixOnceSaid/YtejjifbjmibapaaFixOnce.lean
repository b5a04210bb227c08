/- The walk of FixOnce. -/
import Derived.Test.YtejjifbjmibapaaFixI
import Derived.Test.YtejjifbjmibapaaFixP
namespace Go.Proofs.Ytejjifbjmibapaa
open Go.RowKit
set_option linter.unusedSimpArgs false
set_option linter.unusedVariables false
set_option maxHeartbeats 2000000

theorem fixOnce_law (A C : Option Addr) (n c m d : Nat) (bs ws : List Int) (w : World) (hr : Reads w w.heap.size 1 A n (bs.map (Value.int .u8))) (hb : bytesB bs) (hn : n ≤ c) (hc : c ≤ maxLen)
    (hws : Reads w w.heap.size 1 C m (ws.map (Value.int .i64))) (hm : m ≤ maxLen) :
    Calls Try.prog 4 #[.slice A n c, .slice C m d] w fun e w' => e = .returned (.bool true) ∧ Below w.heap.size w w' := by
  unfold maxLen at hc hm
  have hR := Lib.hid (hr.take (cutN_le n 200))
  have hY := Lib.hid (bytesB_take bs (cutN n 200) hb)
  have h200 := cutN_le2 n 200
  have hcn : cutN n 200 ≤ c := Nat.le_trans (cutN_le n 200) hn
  have HW := Lib.hid hws
  rw [← List.map_take] at hR
  clear hr hb hws
  go_enter Try.func4, Try.ntmps4
  go_wp2_with (fail)
  refine (cut_any A n c 200 hn (by omega) _).mono ?_
  rintro e w1 ⟨rfl, rfl⟩
  generalize cutN n 200 = nb at *
  generalize bs.take nb = b at *
  have hbl : Hid (b.length = nb) := Lib.hid (by have := hR.out.1; simpa using this)
  go_wp2_with (fail)
  refine (of_any A nb c _ b _ (Nat.le_refl _) hR.out hY.out (by omega)).mono ?_
  rintro e w1 ⟨gi, rfl, h1, h2, h3⟩
  have HI := Lib.hid h2
  have HB := Lib.hid h3
  have hgi := h1
  clear h1 h2 h3
  go_wp2_with (fail)
  refine (new_any 200 (by decide) _).mono ?_
  rintro e w2 ⟨rfl, h1, h2⟩
  have HI2 := Lib.hid (HI.out.below h2)
  have HO2 := Lib.hid h1
  have HB2 := Lib.hid (HB.out.trans (h2.mono HB.out.size))
  have hs1 := HB.out.size
  clear h1 h2 HI HB
  go_wp2_with (fail)
  go_loopw [7] (fun i wr => ∃ (k : Nat) (v : Value) (l1 l2 : List Int), k ≤ m ∧ k ≤ 60 ∧ i = .int .i64 k ∧ Hid (l1 ++ l2 = b) ∧ Hid (InAt wr gi w1.heap.size ⟨l2, 0⟩) ∧ Hid (OutAt wr w1.heap.size v ⟨l1, 200, 0⟩) ∧ Hid (Below w.heap.size w wr)) (fun i _ => 60 - (intOf i).toNat)
  case atStart => exact ⟨0, _, [], b, by omega, by omega, rfl, Lib.hid rfl, HI2, HO2, HB2⟩
  case round =>
    obtain ⟨k, v, l1, l2, hk, hk60, rfl, hl, hI, hO, hB⟩ := hrel
    by_cases hlt : k < m ∧ k < 60
    · obtain ⟨hkm, hk6⟩ := hlt
      have hkm' : (k : Int) < m := by omega
      have hk6' : (k : Int) < 60 := by omega
      obtain ⟨ad, z, rfl, _, hz1, hcell⟩ := reads_int (HW.out.below hB.out) hkm
      go_wp2_with (fail)
      have G := get_any gi ⟨l2, 0⟩ z w1.heap.size wr hI.out
      have hgc := get_cases ⟨l2, 0⟩ z rfl hI.out.bytes
      generalize FI.upto ⟨l2, 0⟩ z 18446744073709551615 = r at G hgc
      obtain ⟨s', q⟩ := r
      refine G.mono ?_
      rintro e w3 ⟨rfl, h1, h2⟩
      have H1 := Lib.hid h1
      have H2 := Lib.hid h2
      clear h1 h2 hcell G
      have hgl := hI.out.lt
      have HO3 := Lib.hid (hO.out.chg H2.out (fun (x : w1.heap.size = gi) => by omega) (fun j hj (x : j = gi) => by have := (hO.out.2.1.lt j hj).1; omega))
      have HB3 := Lib.hid (hB.out.trans (H2.out.below hB.out.size (fun j hj (x : j = gi) => by omega)))
      rcases hgc with ⟨he, hnil, hq⟩ | ⟨j, rfl, hj1, hj8, hjl, hr⟩
      · obtain ⟨sl, se⟩ := s'
        obtain rfl : sl = [] := hnil
        obtain rfl : q = 0 := hq
        have he : (se != 0) = true := by simpa using he
        clear hO hI hl
        go_wp2_with (first | (go_at_call 16; refine (err_any gi _ _ _ H1.out).mono ?_; rintro e w' ⟨rfl, rfl⟩) | (go_at_call 17; refine (left_any gi _ _ _ H1.out).mono ?_; rintro e w' ⟨rfl, rfl⟩) | fail)
        refine (awake_any _).mono ?_
        rintro e w4 ⟨rfl, h1⟩
        have H4 := Lib.hid (HB3.out.trans (h1.mono HB3.out.size))
        clear h1
        go_wp2
        go_ret
        exact ⟨rfl, H4.out⟩
      · injection hr with hr1 hr2
        subst hr1
        subst hr2
        have hjl' : j ≤ l2.length := hjl
        have hsum : l1.length + l2.length = nb := by rw [← hbl.out, ← hl.out, List.length_append]
        have hlt := numB_lt (l2.take j) (bytesB_take _ _ hI.out.bytes)
        have h2 : 256 ^ (l2.take j).length ≤ 256 ^ 8 := Nat.pow_le_pow_right (by decide) (by rw [List.length_take]; omega)
        have hnb := num_back ⟨l1, 200, 0⟩ (l2.take j) rfl (bytesB_take _ _ hI.out.bytes) (by rw [List.length_take]; omega) (by rw [List.length_take]; omega) (by rw [List.length_take]; show (l1.length : Int) + _ ≤ 200; omega)
        have hlen : (l2.take j).length = j := by rw [List.length_take]; omega
        rw [hlen] at hnb
        have hqb : numB (l2.take j) < 18446744073709551616 := by omega
        have P := putNum_any w1.heap.size v ⟨l1, 200, 0⟩ (numB (l2.take j)) j w3 hqb HO3.out (by show l1.length ≤ _; omega)
        rw [hnb] at P
        have hl' : Hid ((l1 ++ l2.take j) ++ l2.drop j = b) := Lib.hid (by rw [List.append_assoc, List.take_append_drop]; exact hl.out)
        generalize l2.take j = t at *
        generalize l2.drop j = d2 at *
        generalize numB t = q at *
        have hj := Lib.hid hlen
        obtain ⟨ad', z', e', _, hz2, hcell⟩ := reads_int (HW.out.below HB3.out) hkm
        obtain rfl : z' = j := by rw [hz1] at hz2; injection hz2 with h; exact h.symm
        obtain rfl : ad = ad' := by injection e'
        clear hz1 hz2 e'
        clear hO hI hl hlen hnb hlt h2 hjl hjl'
        go_wp2_with (first | (go_at_call 16; refine (err_any gi _ _ _ H1.out).mono ?_; rintro e w' ⟨rfl, rfl⟩) | fail)
        refine P.mono ?_
        rintro e w4 ⟨rfl, v4, h1, h2⟩
        have H4 := Lib.hid h1
        have H5 := Lib.hid (H1.out.below (h2.2.below H1.out.le (fun i hi hx => by
          rcases hx with hx | hx
          · omega
          · have := (HO3.out.2.1.lt i hx).1; omega)))
        have H6 := Lib.hid (HB3.out.trans (h2.2.below HB3.out.size (fun i hi hx => by
          rcases hx with hx | hx
          · omega
          · have := (HO3.out.2.1.lt i hx).1; omega)))
        clear h1 h2 P hcell
        go_wp2_with (fail)
        go_roundw
        case rel => exact ⟨k + 1, v4, l1 ++ t, d2, by omega, by omega, by go_num, hl', H5, H4, H6⟩
        case measure => simp [intOf]; omega
    · have hx : ¬ (k : Int) < m ∨ ((k : Int) < m ∧ ¬ (k : Int) < 60) := by omega
      have hsum : l1.length + l2.length = nb := by rw [← hbl.out, ← hl.out, List.length_append]
      have hs2 : (l1.length : Int) + l2.length = nb := by omega
      have ht : Hid (b.take l1.length = l1) := Lib.hid (by rw [← hl.out]; simp)
      have hle : l1.length ≤ nb := by omega
      have D := done_any w1.heap.size v ⟨l1, 200, 0⟩ wr hO.out (by show l1.length ≤ _; omega)
      simp only [if_true] at D
      rcases hx with hx | ⟨hx0, hx⟩
      all_goals
        go_wp2_with (fail)
        refine D.mono ?_
        rintro e w4 ⟨u, rfl, h1, h2⟩
        obtain ⟨A5, c5, rfl, h3, _, _⟩ := own_slice h1
        have H3 := Lib.hid h3
        have HI4 := Lib.hid (hI.out.below (h2.mono hI.out.le))
        have HB4 := Lib.hid (hB.out.trans (h2.mono hB.out.size))
        clear h1 h2 h3 D
        go_wp2_with (first | (go_at_call 17; refine (left_any gi _ _ _ HI4.out).mono ?_; rintro e w' ⟨rfl, rfl⟩) | fail)
        refine (same_any A5 A _ _ c5 c w4.heap.size w.heap.size l1 l1 _ (Nat.le_refl _) HB4.out.size H3.out (by have := (hR.out.below HB4.out).take hle; rw [← List.map_take, ht.out] at this; exact this) (by omega)).mono ?_
        rintro e w5 ⟨rfl, h1⟩
        have H5 := Lib.hid (HB4.out.trans (h1.mono HB4.out.size))
        have hd : decide (l1 = l1) = true := by simp
        rw [hd]
        clear h1 hd
        go_wp2_with (fail)
        refine (awake_any _).mono ?_
        rintro e w6 ⟨rfl, h1⟩
        have H6 := Lib.hid (H5.out.trans (h1.mono H5.out.size))
        clear h1
        go_wp2
        go_ret
        exact ⟨rfl, H6.out⟩
end Go.Proofs.Ytejjifbjmibapaa
