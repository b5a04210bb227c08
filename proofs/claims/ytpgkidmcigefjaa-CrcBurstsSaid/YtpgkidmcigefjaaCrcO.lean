/- The walk of CrcBursts. -/
import Derived.Test.YtpgkidmcigefjaaCrcN
namespace Go.Proofs.Ytpgkidmcigefjaa
open Go.RowKit
set_option linter.unusedSimpArgs false
set_option linter.unusedVariables false
set_option maxRecDepth 100000
set_option maxHeartbeats 2000000

theorem sealB_bs (b : List Nat) (h : isBs b) : isBs (sealB b) := by
  intro x hx
  rcases List.mem_append.1 hx with hx | hx
  · exact h x hx
  · exact le4_lt _ x hx
theorem turnV_bs (bit : Int) (pat : Nat) (l : List Nat) (h : isBs l) : isBs (turnV bit pat l) := by
  unfold turnV
  split
  · exact turnK_lt _ _ _ h 32
  · exact h
theorem burst_V (b : List Nat) (hb : isBs b) (k pat : Nat) (hk : k < 8 * (b.length + 4)) : fitsL (turnV (k : Int) pat (sealB b)) = decide (bI (turnV (k : Int) pat (sealB b)) = bI (sealB b)) := by
  have hinj : ∀ x y : List Nat, bI x = bI y ↔ x = y := fun x y => ⟨fun e => (List.map_inj_right (fun a b hab => by omega)).1 e, fun e => by rw [e]⟩
  have hl : (sealB b).length = b.length + 4 := by simp [sealB, le4]
  have e : turnV (k : Int) pat (sealB b) = turnK k pat (sealB b) 32 := by
    unfold turnV
    rw [if_pos ⟨by omega, by simp [hl]; omega⟩]; simp
  rw [e, burst_fits b hb k pat (by omega), Bool.eq_iff_iff, decide_eq_true_eq, decide_eq_true_eq, hinj]
theorem crcBursts_law (A : Option Addr) (n c pat u : Nat) (l : List Nat) (w : World) (hl : isBs l) (hr : Reads w w.heap.size 1 A n ((bI l).map (Value.int .u8))) (hn : n ≤ c) (hc : c ≤ maxLen) (hp : pat < 4294967296) (hu : u < 65536) :
    Calls Try.prog 7 #[.slice A n c, .int .u16 (u : Int), .int .u32 (pat : Int)] w fun e w' => e = .returned (.bool true) ∧ Below w.heap.size w w' := by
  unfold maxLen at hc
  have hR := hr.take (cutN_le n 300)
  rw [bI_take_map] at hR
  have HR := Lib.hid hR
  have HL := Lib.hid (isBs_take hl (cutN n 300))
  have h300 := cutN_le2 n 300
  have hnc := Nat.le_trans (cutN_le n 300) hn
  clear hR hr hl
  go_enter Try.func7, Try.ntmps7
  go_wp2_with (fail)
  refine (cut_any A n c 300 hn (by omega) _).mono ?_
  rintro e w1 ⟨rfl, rfl⟩
  generalize cutN n 300 = nb at *
  generalize l.take nb = b at *
  have LB := Lib.hid (reads_len HR.out)
  go_wp2_with (fail)
  refine (crcNew_any _).mono ?_
  rintro e w2 ⟨rfl, h1, h2⟩
  obtain ⟨g, hg⟩ : ∃ g, g = w.heap.size := ⟨_, rfl⟩
  rw [← hg] at h1 ⊢
  have hA : ∀ ad, 0 < nb → A = some ad → ad.block ≠ g := fun ad h0 he => by
    obtain ⟨ad', h', hb, _⟩ := HR.out.2 h0
    rw [he] at h'
    cases h'
    omega
  have HG := Lib.hid hg
  have hgl := h1.lt
  have HB2 := Lib.hid h2
  have hs2 := h2.size
  have C := Lib.hid (crcSeal_any g false A nb c w.heap.size b HL.out w2 h1 (HR.out.below h2) hs2 hA (by omega))
  clear h1 h2 hg hA HR
  go_wp2_with (fail)
  with_reducible refine C.out.mono ?_
  rintro e w3 ⟨v, rfl, h0, h1, h2⟩
  obtain ⟨A1, c1, rfl, r1, f1, l1, m1⟩ := own_far (g := g) h0 hgl
  have R1 := Lib.hid r1
  have F1 := Lib.hid f1
  have H3 := Lib.hid h1
  have M1 := Lib.hid m1
  have HB3 := Lib.hid (below_chg HB2.out (Nat.le_of_eq HG.out.symm) hgl h2)
  have hs3 := HB3.out.size
  clear h0 h1 h2 r1 f1 m1 C HB2
  obtain ⟨k, hk⟩ : ∃ k, k = u % (8 * (nb + 4)) := ⟨_, rfl⟩
  have hk8 : k < 8 * (nb + 4) := by rw [hk]; exact Nat.mod_lt _ (by omega)
  have hkm : (u : Int).tmod (8 * ((nb : Int) + 4)) = (k : Int) := by
    have e : (8 * ((nb : Int) + 4)) = ((8 * (nb + 4) : Nat) : Int) := by simp
    rw [e, Int.tmod_eq_emod_of_nonneg (by omega), hk]; rfl
  have HBV := Lib.hid (burst_V b HL.out k pat (by have := LB.out; omega))
  have hbs := sealB_bs b HL.out
  have C := Lib.hid (crcTurn_any A1 (nb + 4) c1 w3.heap.size (sealB b) (k : Int) pat hbs w3 R1.out (Nat.le_refl _) (by omega) hp (by omega) (by omega))
  have HVB := Lib.hid (turnV_bs (k : Int) pat (sealB b) hbs)
  generalize turnV (k : Int) pat (sealB b) = x at *
  generalize sealB b = s at *
  clear hk hbs
  have hz : ((8 * ((nb : Int) + 4)) == 0) = false := by simp; omega
  have hz2 : ¬ (8 * ((nb : Int) + 4)) = 0 := by omega
  go_wp2_with (fail)
  refine C.out.mono ?_
  rintro e w4 ⟨v, rfl, h0, h1⟩
  obtain ⟨A2, c2, rfl, r2, f2, l2, m2⟩ := own_far (g := g) h0 H3.out.lt
  have R2 := Lib.hid r2
  have F2 := Lib.hid f2
  have M2 := Lib.hid m2
  have R1' := Lib.hid (R1.out.below h1)
  have H4 := Lib.hid (H3.out.below h1 H3.out.lt)
  have HB4 := Lib.hid (HB3.out.trans (h1.mono hs3))
  have hs4 := h1.size
  clear h0 h1 r2 f2 m2 C R1 H3 HB3 hkm hz hz2
  have C := Lib.hid (crcFits_any g true A2 (nb + 4) c2 w4.heap.size x HVB.out w4 H4.out R2.out (Nat.le_refl _) F2.out (by omega) l2 (by have := M2.out; unfold maxLen at this; omega))
  rw [HBV.out] at C
  have D : Hid (∀ W : World, Reads W w4.heap.size 1 A2 (nb + 4) ((bI x).map (Value.int .u8)) → Reads W w3.heap.size 1 A1 (nb + 4) ((bI s).map (Value.int .u8)) → w4.heap.size ≤ W.heap.size → Calls Try.prog 21 #[.slice A2 (nb + 4) c2, .slice A1 (nb + 4) c1] W fun e w' => e = .returned (.bool (decide (bI x = bI s))) ∧ Below W.heap.size W w') :=
    Lib.hid (fun W h1 h2 h3 => same_any A2 A1 (nb + 4) (nb + 4) c2 c1 w4.heap.size w3.heap.size (bI x) (bI s) W h3 (by omega) h1 h2 (by omega))
  generalize decide (bI x = bI s) = fb at *
  go_wp2_with (fail)
  with_reducible refine C.out.mono ?_
  rintro e w5 ⟨rfl, h1, h2⟩
  have R1 := Lib.hid (h2.reads R1'.out hs4 F1.out)
  have R2' := Lib.hid (h2.reads R2.out (Nat.le_refl _) F2.out)
  have HB5 := Lib.hid (below_chg HB4.out (Nat.le_of_eq HG.out.symm) H4.out.lt h2)
  have hs5 := h2.size
  clear h1 h2 C HB4 H4
  go_wp2_with (fail)
  with_reducible refine (D.out w5 R2'.out R1.out hs5).mono ?_
  rintro e w6 ⟨rfl, h1⟩
  have HB6 := Lib.hid (HB5.out.trans (h1.mono HB5.out.size))
  clear h1 D
  go_wp2_with (fail)
  refine (awake_any _).mono ?_
  rintro e w12 ⟨rfl, h4⟩
  have HB12 := Lib.hid (HB6.out.trans (h4.mono HB6.out.size))
  clear h4
  go_wp2
  go_ret
  exact ⟨rfl, HB12.out⟩
end Go.Proofs.Ytpgkidmcigefjaa
