/- Package crc: behind, Seal; slices.Equal. -/
import Derived.Test.YtoifaeabieojbaaCrcG
namespace Go.Proofs.Ytoifaeabieojbaa
open Go.RowKit
set_option linter.unusedSimpArgs false
set_option linter.unusedVariables false
set_option maxRecDepth 100000
set_option maxHeartbeats 1000000

theorem behind_any (g : Nat) (d : Bool) (A : Option Addr) (n c B : Nat) (l : List Nat) (hl : isBs l) (w : World) (h : Tb w g d) (hr : Reads w B 1 A n ((bI l).map (Value.int .u8))) (hB : B ≤ w.heap.size)
    (hA : ∀ ad, 0 < n → A = some ad → ad.block ≠ g) (hn : n ≤ 9223372036854775806) :
    Calls Try.prog 48 #[.pointer (some ⟨g, 0, none⟩), .slice A n c] w fun e w' => ∃ v, e = .returned v ∧ w'.ownsRow w.heap.size 5 1 v 4 ((bI (le4 (crc l))).map (Value.int .u8)) ∧ Tb w' g true ∧ Chg w w' (fun k => k = g) := by
  have C := Lib.hid (of_one g d A n c B l hl w h hr hB hA hn)
  have hlt := crc_lt l hl
  generalize crc l = r at *
  clear h hr hA
  have hmk : ∀ w : World, (Instr.makeSlice 22 (.int .i64 4) (.int .i64 4)).run Try.prog w = .ok (.slice (some ⟨w.heap.size, 0, none⟩) 4 4) (w.alloc (.cells #[.int .u8 0, .int .u8 0, .int .u8 0, .int .u8 0] 5)) := fun _ => by kernel_rfl
  go_enter Try.func48, Try.ntmps48
  go_wp2_with (fail)
  with_reducible refine C.out.mono ?_
  rintro e w1 ⟨rfl, h1, h2⟩
  have H1 := Lib.hid h1
  have H2 := Lib.hid h2
  clear h1 h2 C
  go_wp2_with (fail)
  refine wp_loop_rounds 5 ?_
  rw [rounds_succ]
  go_wp2
  rw [rounds_succ]
  go_wp2
  rw [rounds_succ]
  go_wp2
  rw [rounds_succ]
  go_wp2
  rw [rounds_succ]
  go_wp2
  go_ret
  have hb : Below w1.heap.size w1 (w1.alloc (.cells #[.int .u8 ((r : Int) % 256), .int .u8 ((r : Int) / 256 % 256), .int .u8 ((r : Int) / 65536 % 256), .int .u8 ((r : Int) / 16777216)] 5)) := (Below.refl _ _).alloc (Nat.le_refl _) _
  have hle : (bI (le4 r)).map (Value.int .u8) = [.int .u8 ((r : Int) % 256), .int .u8 ((r : Int) / 256 % 256), .int .u8 ((r : Int) / 65536 % 256), .int .u8 ((r : Int) / 16777216)] := by
    simp [bI, le4]; omega
  rw [hle]
  refine ⟨_, rfl, ⟨rfl, .inr ⟨_, _, _, rfl, H2.out.size, heap_alloc_new _ _, Nat.le_refl _, by decide, rfl, rfl⟩⟩, H1.out.below hb H1.out.lt, H2.out.trans (Chg.of_below hb (fun k => k = g)) (fun _ _ h => h)⟩

theorem crcSeal_any (g : Nat) (d : Bool) (A : Option Addr) (n c B : Nat) (l : List Nat) (hl : isBs l) (w : World) (h : Tb w g d) (hr : Reads w B 1 A n ((bI l).map (Value.int .u8))) (hB : B ≤ w.heap.size)
    (hA : ∀ ad, 0 < n → A = some ad → ad.block ≠ g) (hn : n ≤ 900000000) :
    Calls Try.prog 32 #[.pointer (some ⟨g, 0, none⟩), .slice A n c] w fun e w' => ∃ v, e = .returned v ∧ w'.ownsRow w.heap.size 5 1 v (n + 4) ((bI (sealB l)).map (Value.int .u8)) ∧ Tb w' g true ∧ Chg w w' (fun k => k = g) := by
  have HR := Lib.hid hr
  have HAA := Lib.hid hA
  have C := Lib.hid (behind_any g d A n c B l hl w h hr hB hA (by omega))
  clear h hr hA
  go_enter Try.func32, Try.ntmps32
  go_wp2_with (fail)
  with_reducible refine C.out.mono ?_
  rintro e w1 ⟨v, rfl, h0, h1, h2⟩
  obtain ⟨A1, c1, rfl, h3, h4, _⟩ := own_slice h0
  have H0 := Lib.hid h0
  have H1 := Lib.hid h1
  have H2 := Lib.hid h2
  have HR1 := Lib.hid (h2.reads HR.out hB (fun ad h0 he => HAA.out ad h0 he))
  have H3 := Lib.hid h3
  have hs := h2.size
  have hne : ∀ ad, A1 = some ad → w.heap.size ≤ ad.block := fun ad he => (H0.out.lt ad.block (by rw [he]; rfl)).1
  clear h0 h1 h2 C h3 h4 hne
  have hb : Below w1.heap.size w1 (w1.alloc (.cells #[.slice A n c, .slice A1 4 c1] 22)) := (Below.refl _ _).alloc (Nat.le_refl _) _
  have D := Lib.hid (concat_any A A1 n 4 c c1 w1.heap.size w1.heap.size (bI l) (bI (le4 (crc l))) (w1.alloc (.cells #[.slice A n c, .slice A1 4 c1] 22)) (by simp) (by simp)
    ((HR1.out.more (by omega)).below hb) (H3.out.below hb) w1.heap.size (by exact cells_new_at _ _ _ _ rfl 0 _ rfl) (by exact cells_new_at _ _ _ _ rfl 1 _ rfl) (by simp) (by omega) (by omega))
  have HB := Lib.hid hb
  clear hb
  go_wp2_with (fail)
  with_reducible refine D.out.mono ?_
  rintro e w2 ⟨v, rfl, h5, h6⟩
  have HF : Hid (w2.ownsRow w.heap.size 5 1 v (n + 4) ((bI (sealB l)).map (Value.int .u8)) ∧ Tb w2 g true ∧ Chg w w2 (fun k => k = g)) := Lib.hid ⟨by
      rw [sealB, bI_append]
      exact Go.Joins.ownsRow_le h5 (by simp; omega), (H1.out.below HB.out H1.out.lt).below h6 (by simp; have := H1.out.lt; omega), (H2.out.trans (Chg.of_below HB.out (fun k => k = g)) (fun _ _ h => h)).trans (Chg.of_below h6 (fun k => k = g)) (fun _ _ h => h)⟩
  clear h5 h6 D
  go_wp2
  go_ret
  exact ⟨_, rfl, HF.out⟩
theorem crcSeal_nil (v : Value) (w : World) : Calls Try.prog 32 #[.pointer none, v] w fun e w' => e = .returned (.slice none 0 0) ∧ w = w' := by
  go_enter Try.func32, Try.ntmps32
  go_wp2
  go_ret
  exact ⟨rfl, rfl⟩
theorem slEqual_any (A C : Option Addr) (n m c d B D : Nat) (x y : List Int) (w : World) (hB : B ≤ w.heap.size) (hD : D ≤ w.heap.size) (hx : Reads w B 1 A n (x.map (Value.int .u8))) (hy : Reads w D 1 C m (y.map (Value.int .u8))) (hn : n ≤ 9223372036854775806) :
    Calls Try.prog 64 #[.slice A n c, .slice C m d] w fun e w' => e = .returned (.bool (decide (x = y))) ∧ ∃ k, w' = w.drewN k := by
  have lx : x.length = n := by have := hx.1; simpa using this
  have ly : y.length = m := by have := hy.1; simpa using this
  by_cases hnm : n = m
  · have hX : Hid (y.length = x.length) := Lib.hid (by omega)
    subst hnm
    have HX := Lib.hid hx
    have HY := Lib.hid hy
    have LX := Lib.hid lx
    have LY := Lib.hid ly
    clear hx hy lx ly
    go_enter Try.func64, Try.ntmps64
    go_wp2
    go_loopw [5, 13] (fun i5 i wr => ∃ k : Nat, k ≤ n ∧ i = .int .i64 k ∧ Hid (x.take k = y.take k) ∧ Hid (∃ q, wr = w.drewN q)) (fun _ i _ => n - (intOf i).toNat)
    case atStart => exact ⟨0, by omega, rfl, Lib.hid rfl, Lib.hid ⟨0, rfl⟩⟩
    case round =>
      obtain ⟨k, hk, rfl, hT, hb⟩ := hrel
      obtain ⟨q, hq⟩ := hb.out
      by_cases hlt : k < n
      · obtain ⟨ad1, z1, rfl, _, hz1, hc1⟩ := reads_int (HX.out.drewN q) hlt
        obtain ⟨ad2, z2, rfl, _, hz2, hc2⟩ := reads_int (HY.out.drewN q) hlt
        rw [← hq] at hc1 hc2
        have Z1 := Lib.hid hz1
        have Z2 := Lib.hid hz2
        have HQ := Lib.hid hq
        clear hz1 hz2 hq hb
        have hk0 : (k : Int) < n := by omega
        by_cases hz : z1 = z2
        · have hz' : (z1 != z2) = false := by simp [hz]
          have HZ := Lib.hid hz
          clear hz
          go_wp2_with (fail)
          go_quiet (fail)
          go_wp2
          go_roundw
          case rel =>
            refine ⟨k + 1, by omega, by go_num, Lib.hid ?_, Lib.hid ⟨_, by rw [HQ.out]; exact World.drewN_drewN _ _ _⟩⟩
            rw [List.take_add_one, List.take_add_one, Z1.out, Z2.out, hT.out, HZ.out]
          case measure => simp [intOf]; omega
        · have hz' : (z1 != z2) = true := by simp [hz]
          have HZ := Lib.hid hz
          clear hz
          go_wp2_with (fail)
          go_quiet (fail)
          go_wp2
          go_ret
          refine ⟨ret_bool ?_, _, by rw [HQ.out]; exact World.drewN_drewN _ _ _⟩
          symm
          rw [decide_eq_false_iff_not]
          intro e
          have := Z2.out
          rw [← e, Z1.out] at this
          exact HZ.out (by injection this)
      · obtain rfl : k = n := by omega
        have HQ := Lib.hid hq
        clear hq hb
        go_wp2
        go_ret
        refine ⟨ret_bool ?_, q, HQ.out⟩
        symm
        rw [decide_eq_true_eq]
        have := hT.out
        rw [List.take_of_length_le (by have := LX.out; omega), List.take_of_length_le (by have := LY.out; omega)] at this
        exact this
  · have he : ¬ x = y := fun e => by subst e; omega
    have hd : decide (x = y) = false := by simp [he]
    rw [hd]
    have hnm' : ((n : Int) != m) = true := by simp; omega
    clear hx hy hnm he hd
    go_enter Try.func64, Try.ntmps64
    go_wp2
    go_ret
    exact ⟨rfl, 0, rfl⟩
end Go.Proofs.Ytoifaeabieojbaa
