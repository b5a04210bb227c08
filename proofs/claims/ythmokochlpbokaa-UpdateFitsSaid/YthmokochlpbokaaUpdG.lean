/- The walk of UpdateFits. -/
import Derived.Test.YthmokochlpbokaaUpdF
namespace Go.Proofs.Ythmokochlpbokaa
open Go.RowKit
set_option linter.unusedSimpArgs false
set_option linter.unusedVariables false
set_option maxHeartbeats 8000000
attribute [local go_sem] Up.agg Up.cells

theorem outc_write (ver : Int) : outc (upK 2 0) ver true = if ver = 18446744073709551615 then (9, ver, false) else (0, ver + 1, true) := by
  unfold outc upK writesB
  by_cases h : ver = 18446744073709551615
  · rw [if_neg (by decide), if_neg (by simp), if_pos (.inr h), if_pos h]
  · rw [if_neg (by decide), if_neg (by simp), if_neg (by simp [h]), if_neg h]
theorem outc_comp (a : Int) (h0 : a ≠ 0) : outc (upK 3 a) a false = if a = 18446744073709551615 then (9, a, false) else (0, a + 1, true) := by
  unfold outc upK writesB
  by_cases h : a = 18446744073709551615
  · rw [if_neg (by simp), if_neg (by simp), if_pos (.inr h), if_pos h]
  · rw [if_neg (by simp), if_neg (by simp), if_neg (by simp [h, h0]), if_neg h]

theorem updateFits_law (A : Option Addr) (n c : Nat) (l : List Up) (a ver : Int) (w : World) (hl : UpsIn w w.heap.size A n l) (hn : n ≤ c) (hc : c ≤ maxLen) (ha0 : 0 ≤ a) (ha1 : a ≤ 18446744073709551615) (hv0 : 0 ≤ ver) (hv1 : ver ≤ 18446744073709551615) :
    Calls Try.prog 3 #[.slice A n c, .int .u64 a, .int .u64 ver] w fun e w' => e = .returned (.bool true) ∧ Below w.heap.size w w' := by
  unfold maxLen at hc
  have HL := Lib.hid hl
  clear hl
  cases hf : farB n l
  case true =>
    go_enter Try.func3, Try.ntmps3
    go_wp2_with (fail)
    refine (far_any A n c _ l _ HL.out (by omega)).mono ?_
    rintro e w1 ⟨rfl, h⟩
    rw [hf]
    have H1 := Lib.hid h
    clear h
    go_wp2_with (fail)
    refine (awake_any _).mono ?_
    rintro e w2 ⟨rfl, h⟩
    have H2 := Lib.hid (H1.out.trans (h.mono H1.out.size))
    clear h
    go_wp2_with (fail)
    go_ret
    exact ⟨rfl, H2.out⟩
  obtain ⟨hn40, hd⟩ := farB_no hf
  go_enter Try.func3, Try.ntmps3
  go_wp2_with (fail)
  refine (far_any A n c _ l _ HL.out (by omega)).mono ?_
  rintro e w1 ⟨rfl, h⟩
  rw [hf]
  have H1 := Lib.hid h
  clear h
  go_wp2_with (fail)
  refine (fits_any A n c w.heap.size l a _ (HL.out.below H1.out) H1.out.size (by omega) (fun u hu => by have := hd u hu; omega)).mono ?_
  rintro e w2 ⟨v, o, rfl, h⟩
  obtain ⟨A2, c2, rfl, hu2, _, _⟩ := h.ups
  have H2 := Lib.hid (H1.out.trans (h.bel.mono H1.out.size))
  have HU2 := Lib.hid hu2
  have hol := h.len
  have hpl := pickL_len fitStep a l
  have hll := HL.out.len
  have hR1 : Hid (true = runsB o a) := Lib.hid (runsB_yes (runs_val h.val.symm (fits_runs l a ha0 ha1 (fun u hu => (HL.out.mem u hu).wf))))
  have hR2 : Hid (runsB l a = true → o.length = n) := Lib.hid (fun hr => by
    rw [hol, runs_fits l a ha0 ha1 (fun u hu => (HL.out.mem u hu).wf) ((runsB_iff l a).1 hr), hll])
  have hob : o.length ≤ 40 := by omega
  clear h hu2 hol hpl hll
  go_wp2_with (fail)
  refine (runs_any A2 o.length c2 w2.heap.size o a _ HU2.out (by omega) (Nat.le_refl _)).mono ?_
  rintro e w3 ⟨rfl, h⟩
  rw [← hR1.out]
  have H3 := Lib.hid (H2.out.trans (h.mono H2.out.size))
  clear h HU2 H2 hR1
  go_wp2_with (fail)
  refine (runs_any A n c w.heap.size l a _ (HL.out.below H3.out) (by omega) H3.out.size).mono ?_
  rintro e w4 ⟨rfl, h⟩
  have H4 := Lib.hid (H3.out.trans (h.mono H3.out.size))
  have hO := fun w => outcome_any (upK 2 0) ver true w hv0 hv1
  rw [outc_write] at hO
  clear h H3
  generalize runsB l a = rb at hR2 ⊢
  generalize o.length = on at *
  have hnn : Hid (rb = true → (on : Int) = n) := Lib.hid (fun h => by have := hR2.out h; omega)
  clear hR2
  by_cases hm : ver = 18446744073709551615
  · subst hm
    rw [if_pos rfl] at hO
    simp only [] at hO
    clear hv0 hv1
    cases rb
    · go_wp2_with (fail)
      refine (hO _).mono ?_
      rintro e w5 ⟨rfl, h⟩
      have H5 := Lib.hid (H4.out.trans (h.mono H4.out.size))
      clear h H4 hO hnn
      go_wp2_with (fail)
      refine (awake_any _).mono ?_
      rintro e w6 ⟨rfl, h⟩
      have H6 := Lib.hid (H5.out.trans (h.mono H5.out.size))
      clear h
      go_wp2_with (fail)
      go_ret
      exact ⟨rfl, H6.out⟩
    · have hne : ((on : Int) != n) = false := by simp [hnn.out rfl]
      go_wp2_with (fail)
      refine (hO _).mono ?_
      rintro e w5 ⟨rfl, h⟩
      have H5 := Lib.hid (H4.out.trans (h.mono H4.out.size))
      clear h H4 hO hnn hne
      go_wp2_with (fail)
      refine (awake_any _).mono ?_
      rintro e w6 ⟨rfl, h⟩
      have H6 := Lib.hid (H5.out.trans (h.mono H5.out.size))
      clear h
      go_wp2_with (fail)
      go_ret
      exact ⟨rfl, H6.out⟩
  · rw [if_neg hm] at hO
    simp only [] at hO
    have hv2 : ver + 1 ≤ 18446744073709551615 := by omega
    have hO2 := fun w => outcome_any (upK 3 (ver + 1)) (ver + 1) false w (by omega) hv2
    rw [outc_comp _ (by omega)] at hO2
    have hv3 : 1 ≤ ver + 1 := by omega
    clear hm
    generalize ver + 1 = x at *
    by_cases hm : x = 18446744073709551615
    · subst hm
      rw [if_pos rfl] at hO2
      simp only [] at hO2
      cases rb
      · go_wp2_with (fail)
        refine (hO _).mono ?_
        rintro e w5 ⟨rfl, h⟩
        have H5 := Lib.hid (H4.out.trans (h.mono H4.out.size))
        clear h H4 hO hnn
        go_wp2_with (fail)
        refine (hO2 _).mono ?_
        rintro e w6 ⟨rfl, h⟩
        have H6 := Lib.hid (H5.out.trans (h.mono H5.out.size))
        clear h H5 hO2
        go_wp2_with (fail)
        refine (awake_any _).mono ?_
        rintro e w7 ⟨rfl, h⟩
        have H7 := Lib.hid (H6.out.trans (h.mono H6.out.size))
        clear h
        go_wp2_with (fail)
        go_ret
        exact ⟨rfl, H7.out⟩
      · have hne : ((on : Int) != n) = false := by simp [hnn.out rfl]
        go_wp2_with (fail)
        refine (hO _).mono ?_
        rintro e w5 ⟨rfl, h⟩
        have H5 := Lib.hid (H4.out.trans (h.mono H4.out.size))
        clear h H4 hO hnn hne
        go_wp2_with (fail)
        refine (hO2 _).mono ?_
        rintro e w6 ⟨rfl, h⟩
        have H6 := Lib.hid (H5.out.trans (h.mono H5.out.size))
        clear h H5 hO2
        go_wp2_with (fail)
        refine (awake_any _).mono ?_
        rintro e w7 ⟨rfl, h⟩
        have H7 := Lib.hid (H6.out.trans (h.mono H6.out.size))
        clear h
        go_wp2_with (fail)
        go_ret
        exact ⟨rfl, H7.out⟩
    · rw [if_neg hm] at hO2
      simp only [] at hO2
      have hx1 : IntKind.u64.wrap (x + 1) = x + 1 := by rw [IntKind.wrap_u64]; omega
      have hx2 : (x == 18446744073709551615) = false := by simp [hm]
      clear hm
      cases rb
      · go_wp2_with (fail)
        refine (hO _).mono ?_
        rintro e w5 ⟨rfl, h⟩
        have H5 := Lib.hid (H4.out.trans (h.mono H4.out.size))
        clear h H4 hO hnn
        go_wp2_with (fail)
        refine (hO2 _).mono ?_
        rintro e w6 ⟨rfl, h⟩
        have H6 := Lib.hid (H5.out.trans (h.mono H5.out.size))
        clear h H5 hO2
        go_wp2_with (fail)
        refine (awake_any _).mono ?_
        rintro e w7 ⟨rfl, h⟩
        have H7 := Lib.hid (H6.out.trans (h.mono H6.out.size))
        clear h
        go_wp2_with (fail)
        go_ret
        exact ⟨rfl, H7.out⟩
      · have hne : ((on : Int) != n) = false := by simp [hnn.out rfl]
        go_wp2_with (fail)
        refine (hO _).mono ?_
        rintro e w5 ⟨rfl, h⟩
        have H5 := Lib.hid (H4.out.trans (h.mono H4.out.size))
        clear h H4 hO hnn hne
        go_wp2_with (fail)
        refine (hO2 _).mono ?_
        rintro e w6 ⟨rfl, h⟩
        have H6 := Lib.hid (H5.out.trans (h.mono H5.out.size))
        clear h H5 hO2
        go_wp2_with (fail)
        refine (awake_any _).mono ?_
        rintro e w7 ⟨rfl, h⟩
        have H7 := Lib.hid (H6.out.trans (h.mono H6.out.size))
        clear h
        go_wp2_with (fail)
        go_ret
        exact ⟨rfl, H7.out⟩
end Go.Proofs.Ythmokochlpbokaa
