/- letter.updates of a letter of one update. -/
import Derived.Test.YtfcjkkjgedcgpaaGreatDoorLetD

namespace Go.Proofs.YtfcjkkjgedcgpaaGreatDoor
open Go.RowKit
set_option linter.unusedSimpArgs false
set_option linter.unusedVariables false
set_option maxHeartbeats 8000000
set_option maxRecDepth 100000
attribute [local go_sem] Up.agg Up.cells

def idxR (b : Bool) : Int := if b then -1 else 0
theorem updatesF_enter : ∀ (args : Array Value) (w : World), (callFunc 136 args).run Tryz.prog w = .ok (.enter 136 args) w :=
  enters_of Tryz.func136 (by kernel_rfl) rfl
theorem updatesF_any (u : Up) (r : Bool) (g : Nat) (w : World) (hw : u.wf) (hn : u.n ≤ 1000000) (hg : Blk w g 4 #[.bool r]) :
    Calls Tryz.prog 136 #[u.agg, .pointer (some ⟨g, 0, none⟩)] w fun e w' => e = .returned (.bool (!upOkB u r)) ∧ Below w.heap.size w w' := by
  have p0 := (hg.alloc (.cells u.cells 29)).cell 0
  have hlt := hg.lt
  have HB : Hid (Below w.heap.size w (w.alloc (.cells u.cells 29))) := Lib.hid (by repeat (first | with_reducible exact Below.refl _ _ | with_reducible refine Below.setCell ?_ (by first | omega | (simp <;> omega)) _ | with_reducible refine Below.alloc ?_ (by first | omega | (simp <;> omega)) _ | with_reducible refine below_drewN ?_ _ | with_reducible refine Below.drew ?_))
  have C := fun W => Lib.hid (update_any u r W hw hn)
  simp at p0
  have q0 := hg.cell 0
  simp at q0
  clear hw hg
  have HP0 := Lib.hid p0
  clear p0
  go_enter Tryz.func136, Tryz.ntmps136
  go_wp2_with (fail)
  refine (C _).out.mono ?_
  rintro e w1 ⟨rfl, h⟩
  have H1 := Lib.hid (HB.out.trans (h.mono HB.out.size))
  clear h
  go_wp2_with (fail)
  go_ret
  exact ⟨rfl, H1.out⟩
theorem idxUps_any (A : Option Addr) (c B : Nat) (u : Up) (r : Bool) (g : Nat) (w : World) (h : UpsIn w B A 1 [u]) (hB : B ≤ w.heap.size) (hn : u.n ≤ 1000000) (hg : Blk w g 4 #[.bool r]) :
    Calls Tryz.prog 151 #[.slice A 1 c, .func (.func 136) #[] #[.pointer (some ⟨g, 0, none⟩)]] w fun e w' => e = .returned (.int .i64 (idxR (upOkB u r))) ∧ Below w.heap.size w w' := by
  have hent := updatesF_enter
  have H := Lib.hid h
  have HG := Lib.hid hg
  have HB0 : Hid (Below w.heap.size w w) := Lib.hid (Below.refl _ _)
  have hglt := hg.lt
  clear h hg
  go_enter Tryz.func151, Tryz.ntmps151
  go_wp2
  go_loopw [8] (fun iv wr => ∃ k : Nat, k ≤ 1 ∧ iv = .int .i64 k ∧ (k = 1 → upOkB u r = true) ∧ Hid (Below w.heap.size w wr)) (fun iv _ => 1 - (intOf iv).toNat)
  case atStart => exact ⟨0, by omega, rfl, by simp, HB0⟩
  case round =>
    clear HB0
    obtain ⟨k, hk, rfl, hok, HB⟩ := hrel
    by_cases hlt : k < 1
    · obtain rfl : k = 0 := by omega
      obtain ⟨b, o, u', rfl, hb, hu, hin, p0, p1, p2, p3, p4, p5, p6⟩ := (H.out.below (HB.out.mono hB)).at_ (k := 0) (by omega)
      obtain rfl : u = u' := by simpa using hu
      have HI := Lib.hid hin
      have C := Lib.hid (updatesF_any u r g wr hin.wf hn (HG.out.below HB.out hglt))
      clear hin hu hok
      simp only [Nat.zero_mul, Nat.add_zero] at p0 p1 p2 p3 p4 p5 p6
      go_wp2_with (fail)
      refine C.out.mono ?_
      rintro e w1 ⟨rfl, h⟩
      have H1 := Lib.hid (HB.out.trans (h.mono HB.out.size))
      clear h p0 p1 p2 p3 p4 p5 p6
      cases hv : upOkB u r with
      | true =>
        have HV := Lib.hid hv
        simp only [hv, Bool.not_true]
        clear hv
        go_wp2_with (fail)
        exact ⟨⟨1, by omega, rfl, fun _ => HV.out, H1⟩, by simp [intOf]⟩
      | false =>
        have HV := Lib.hid hv
        simp only [hv, Bool.not_false]
        clear hv
        go_wp2_with (fail)
        go_ret
        exact ⟨by first | rfl | (rw [HV.out]; rfl), H1.out⟩
    · obtain rfl : k = 1 := by omega
      have HV := Lib.hid (hok rfl)
      clear hok
      go_wp2
      go_ret
      exact ⟨by rw [HV.out]; rfl, HB.out⟩
theorem containsUps_any (A : Option Addr) (c B : Nat) (u : Up) (r : Bool) (g : Nat) (w : World) (h : UpsIn w B A 1 [u]) (hB : B ≤ w.heap.size) (hn : u.n ≤ 1000000) (hg : Blk w g 4 #[.bool r]) :
    Calls Tryz.prog 135 #[.slice A 1 c, .func (.func 136) #[] #[.pointer (some ⟨g, 0, none⟩)]] w fun e w' => e = .returned (.bool (!upOkB u r)) ∧ Below w.heap.size w w' := by
  have C := Lib.hid (idxUps_any A c B u r g w h hB hn hg)
  clear h hg
  go_enter Tryz.func135, Tryz.ntmps135
  go_wp2_with (fail)
  refine C.out.mono ?_
  rintro e w1 ⟨rfl, h⟩
  have H1 := Lib.hid h
  clear h
  cases hv : upOkB u r with
  | true =>
    simp only [idxR, if_true]
    have HV := Lib.hid hv
    clear hv
    go_wp2_with (fail)
    go_ret
    exact ⟨by rw [HV.out]; rfl, H1.out⟩
  | false =>
    simp only [idxR]
    have HV := Lib.hid hv
    clear hv
    go_wp2_with (fail)
    go_ret
    exact ⟨by rw [HV.out]; rfl, H1.out⟩
theorem letUpdates_any (k : Int) (A : Option Addr) (c B : Nat) (u : Up) (w : World) (h : UpsIn w B A 1 [u]) (hB : B ≤ w.heap.size) (hn : u.n ≤ 1000000) (hk : k = 12 ∨ k = 17) :
    Calls Tryz.prog 114 #[(uLt k A c).agg] w fun e w' => e = .returned (.bool (upOkB u (k == 17))) ∧ Below w.heap.size w w' := by
  have H := Lib.hid h
  clear h
  rcases hk with rfl | rfl
  · show Calls Tryz.prog 114 #[.agg #[.int .i64 12, .int .i64 1, .int .i64 1, .int .i64 0, .int .u64 1, .int .u64 0, .int .u64 0, .int .u64 0, .int .u64 0, .int .u64 0, .int .i64 0, .int .u32 0, .int .i64 0, .int .i64 0, .int .i64 0, .int .u64 0, .int .i64 0, .int .i64 0, .int .u64 0, .slice none 0 0, .bool false, .int .i64 0, .slice none 0 0, .slice A 1 c, .slice none 0 0]] w _
    go_enter Tryz.func114, Tryz.ntmps114
    go_upto_region 1 with (fail)
    obtain ⟨W0, hW0⟩ : ∃ W0, W0 = w.alloc (.cells #[.int .i64 12, .int .i64 1, .int .i64 1, .int .i64 0, .int .u64 1, .int .u64 0, .int .u64 0, .int .u64 0, .int .u64 0, .int .u64 0, .int .i64 0, .int .u32 0, .int .i64 0, .int .i64 0, .int .i64 0, .int .u64 0, .int .i64 0, .int .i64 0, .int .u64 0, .slice none 0 0, .bool false, .int .i64 0, .slice none 0 0, .slice A 1 c, .slice none 0 0] 75) := ⟨_, rfl⟩
    rw [← hW0]
    have hb1 : Blk W0 w.heap.size 75 (uLt 12 A c).cells := by rw [hW0]; exact Blk.new w _ _
    have x0 := (hb1.cell 0).trans (show _ = some (.int .i64 12) from rfl)
    have x23 := (hb1.cell 23).trans (show _ = some (.slice A 1 c) from rfl)
    have l1 := hb1.lt
    have HBW : Hid (Below w.heap.size w W0) := Lib.hid (by rw [hW0]; repeat (first | with_reducible exact Below.refl _ _ | with_reducible refine Below.setCell ?_ (by first | omega | (simp <;> omega)) _ | with_reducible refine Below.alloc ?_ (by first | omega | (simp <;> omega)) _ | with_reducible refine below_drewN ?_ _ | with_reducible refine Below.drew ?_))
    have HX : Hid (Blk (W0.alloc (.cells #[.bool false] 4)) W0.heap.size 4 #[.bool false]) := Lib.hid (Blk.new _ _ _)
    have HB2 : Hid (Below w.heap.size w (W0.alloc (.cells #[.bool false] 4))) := Lib.hid (HBW.out.alloc HBW.out.size _)
    clear hW0 hb1
    go_wp2_with (fail)
    refine (containsUps_any A c B u false W0.heap.size _ (H.out.below (HB2.out.mono hB)) (Nat.le_trans hB HB2.out.size) hn HX.out).mono ?_
    rintro e w1 ⟨rfl, h⟩
    have H1 := Lib.hid (HB2.out.trans (h.mono HB2.out.size))
    clear h
    go_wp2_with (fail)
    go_ret
    exact ⟨by simp, H1.out⟩
  · show Calls Tryz.prog 114 #[.agg #[.int .i64 17, .int .i64 1, .int .i64 1, .int .i64 0, .int .u64 1, .int .u64 0, .int .u64 0, .int .u64 0, .int .u64 0, .int .u64 0, .int .i64 0, .int .u32 0, .int .i64 0, .int .i64 0, .int .i64 0, .int .u64 0, .int .i64 0, .int .i64 0, .int .u64 0, .slice none 0 0, .bool false, .int .i64 0, .slice none 0 0, .slice A 1 c, .slice none 0 0]] w _
    go_enter Tryz.func114, Tryz.ntmps114
    go_upto_region 1 with (fail)
    obtain ⟨W0, hW0⟩ : ∃ W0, W0 = w.alloc (.cells #[.int .i64 17, .int .i64 1, .int .i64 1, .int .i64 0, .int .u64 1, .int .u64 0, .int .u64 0, .int .u64 0, .int .u64 0, .int .u64 0, .int .i64 0, .int .u32 0, .int .i64 0, .int .i64 0, .int .i64 0, .int .u64 0, .int .i64 0, .int .i64 0, .int .u64 0, .slice none 0 0, .bool false, .int .i64 0, .slice none 0 0, .slice A 1 c, .slice none 0 0] 75) := ⟨_, rfl⟩
    rw [← hW0]
    have hb1 : Blk W0 w.heap.size 75 (uLt 17 A c).cells := by rw [hW0]; exact Blk.new w _ _
    have x0 := (hb1.cell 0).trans (show _ = some (.int .i64 17) from rfl)
    have x23 := (hb1.cell 23).trans (show _ = some (.slice A 1 c) from rfl)
    have l1 := hb1.lt
    have HBW : Hid (Below w.heap.size w W0) := Lib.hid (by rw [hW0]; repeat (first | with_reducible exact Below.refl _ _ | with_reducible refine Below.setCell ?_ (by first | omega | (simp <;> omega)) _ | with_reducible refine Below.alloc ?_ (by first | omega | (simp <;> omega)) _ | with_reducible refine below_drewN ?_ _ | with_reducible refine Below.drew ?_))
    have HX : Hid (Blk (W0.alloc (.cells #[.bool true] 4)) W0.heap.size 4 #[.bool true]) := Lib.hid (Blk.new _ _ _)
    have HB2 : Hid (Below w.heap.size w (W0.alloc (.cells #[.bool true] 4))) := Lib.hid (HBW.out.alloc HBW.out.size _)
    clear hW0 hb1
    go_wp2_with (fail)
    refine (containsUps_any A c B u true W0.heap.size _ (H.out.below (HB2.out.mono hB)) (Nat.le_trans hB HB2.out.size) hn HX.out).mono ?_
    rintro e w1 ⟨rfl, h⟩
    have H1 := Lib.hid (HB2.out.trans (h.mono HB2.out.size))
    clear h
    go_wp2_with (fail)
    go_ret
    exact ⟨by simp, H1.out⟩
end Go.Proofs.YtfcjkkjgedcgpaaGreatDoor
