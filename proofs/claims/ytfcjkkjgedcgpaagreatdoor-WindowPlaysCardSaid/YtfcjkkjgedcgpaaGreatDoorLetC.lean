/- Letters of one update: Same with themselves. -/
import Derived.Test.YtfcjkkjgedcgpaaGreatDoorLetB
import Derived.Laws.BytesArg
import Derived.Shelf.Bytes.SlSmallAll
import Derived.Test.YtfcjkkjgedcgpaaGreatDoorUpdJ


namespace Go.Proofs.YtfcjkkjgedcgpaaGreatDoor
open Go.RowKit
set_option linter.unusedSimpArgs false
set_option linter.unusedVariables false
set_option maxHeartbeats 8000000
set_option maxRecDepth 100000

theorem conv_u8 {w : World} {B n c : Nat} {A : Option Addr} {l : List Int} (h : Reads w B 1 A n (l.map (Value.int .u8))) :
    (convert 27 9 (.slice A n c)).run Tryz.prog w = .ok (.string (strOfNums l)) w := by
  have hl : l.length = n := by have := h.1; simpa using this
  rcases Nat.eq_zero_or_pos n with hn | hn
  · subst hn
    obtain rfl : l = [] := List.eq_nil_of_length_eq_zero hl
    exact run_convert_bytes_zero (P := Tryz.prog) w 27 5 Tryz.underlying27 Tryz.underlying5 A c 9 Tryz.underlying9
  · obtain ⟨ad, hA, _, hc⟩ := h.2 hn
    subst hA
    obtain ⟨b, o, spot⟩ := ad
    have h0 : spot = none := by
      have h00 : (l.map (Value.int .u8))[0]? = some ((l.map (Value.int .u8))[0]'(by simp; omega)) := List.getElem?_eq_getElem _
      have := World.cell?_spot (hc 0 _ h00)
      simpa [Addr.add] using this
    subst h0
    refine run_convert_bytes_arg (P := Tryz.prog) w 27 5 Tryz.underlying27 Tryz.underlying5 b o n c l hl (fun i hi => ?_) 9 Tryz.underlying9
    have hli : i < l.length := by omega
    have := hc i (.int .u8 l[i]) (by rw [List.getElem?_map, List.getElem?_eq_getElem hli]; rfl)
    rw [Go.WideShapes.add_plain] at this
    rw [this, List.getD_eq_getElem?_getD, List.getElem?_eq_getElem hli]; rfl
theorem bytesSelf_any (A : Option Addr) (n c B : Nat) (l : List Int) (w : World) (hx : Reads w B 1 A n (l.map (Value.int .u8))) :
    Calls Tryz.prog 53 #[.slice A n c, .slice A n c] w fun e w' => e = .returned (.bool true) ∧ w = w' := by
  have h1 := conv_u8 (c := c) hx
  generalize strOfNums l = sx at *
  clear hx
  go_enter Tryz.func53, Tryz.ntmps53
  go_wp2
  go_ret
  exact ⟨by simp, rfl⟩
theorem bytesNil_any (w : World) : Calls Tryz.prog 53 #[.slice none 0 0, .slice none 0 0] w fun e w' => e = .returned (.bool true) ∧ w = w' :=
  bytesSelf_any none 0 0 0 [] w Reads.none_
theorem eqVotes_nil (w : World) : Calls Tryz.prog 50 #[.slice none 0 0, .slice none 0 0] w fun e w' => e = .returned (.bool true) ∧ w = w' := by
  go_enter Tryz.func50, Tryz.ntmps50
  go_wp2
  go_loopw [13] (fun iv wr => iv = .int .i64 0 ∧ w = wr) (fun _ _ => 0)
  case atStart => exact ⟨rfl, rfl⟩
  case round =>
    obtain ⟨rfl, rfl⟩ := hrel
    go_wp2
    go_ret
    exact ⟨rfl, rfl⟩
theorem eqInts_nil (w : World) : Calls Tryz.prog 70 #[.slice none 0 0, .slice none 0 0] w fun e w' => e = .returned (.bool true) ∧ w = w' := by
  go_enter Tryz.func70, Tryz.ntmps70
  go_wp2
  go_loopw [13] (fun iv wr => iv = .int .i64 0 ∧ w = wr) (fun _ _ => 0)
  case atStart => exact ⟨rfl, rfl⟩
  case round =>
    obtain ⟨rfl, rfl⟩ := hrel
    go_wp2
    go_ret
    exact ⟨rfl, rfl⟩
attribute [local go_sem] Up.agg Up.cells
theorem letSameUp_any (u : Up) (B : Nat) (w : World) (h1 : UpIn w B u) (hB : B ≤ w.heap.size) :
    Calls Tryz.prog 52 #[u.agg, u.agg] w fun e w' => e = .returned (.bool true) ∧ Below w.heap.size w w' := by
  have R1 := Lib.hid h1.rd
  clear h1
  have HB : Hid (Below w.heap.size w ((w.alloc (.cells u.cells 29)).alloc (.cells u.cells 29))) := Lib.hid (((Below.refl _ _).alloc (Nat.le_refl _) _).alloc (by simp) _)
  go_enter Tryz.func52, Tryz.ntmps52
  go_wp2_with (fail)
  refine (bytesSelf_any u.A u.n u.c B u.bs _ (R1.out.below (HB.out.mono hB))).mono ?_
  rintro e w1 ⟨rfl, rfl⟩
  go_wp2_with (fail)
  go_ret
  exact ⟨rfl, HB.out⟩
theorem letSameUp_enter : ∀ (args : Array Value) (w : World), (callFunc 52 args).run Tryz.prog w = .ok (.enter 52 args) w :=
  enters_of Tryz.func52 (by kernel_rfl) rfl
theorem eqUps_any (A : Option Addr) (c B : Nat) (u : Up) (w : World) (h : UpsIn w B A 1 [u]) (hB : B ≤ w.heap.size) :
    Calls Tryz.prog 51 #[.slice A 1 c, .slice A 1 c, .func (.func 52) #[] #[]] w fun e w' => e = .returned (.bool true) ∧ Below w.heap.size w w' := by
  have hent := letSameUp_enter
  have H := Lib.hid h
  have HB0 : Hid (Below w.heap.size w w) := Lib.hid (Below.refl _ _)
  clear h
  go_enter Tryz.func51, Tryz.ntmps51
  go_wp2
  go_loopw [17] (fun iv wr => ∃ k : Nat, k ≤ 1 ∧ iv = .int .i64 k ∧ Hid (Below w.heap.size w wr)) (fun iv _ => 1 - (intOf iv).toNat)
  case atStart => exact ⟨0, by omega, rfl, HB0⟩
  case round =>
    clear HB0
    obtain ⟨k, hk, rfl, HB⟩ := hrel
    by_cases hlt : k < 1
    · obtain rfl : k = 0 := by omega
      obtain ⟨b, o, u', rfl, hb, hu, hin, p0, p1, p2, p3, p4, p5, p6⟩ := (H.out.below (HB.out.mono hB)).at_ (k := 0) (by omega)
      obtain rfl : u = u' := by simpa using hu
      have HI := Lib.hid hin
      have hsz := HB.out.size
      have hbw : b < wr.heap.size := by omega
      clear hin hu hsz
      simp only [Nat.zero_mul, Nat.add_zero] at p0 p1 p2 p3 p4 p5 p6
      have HB2 : Hid (Below wr.heap.size wr ((wr.alloc (.cells u.cells 29)).alloc (.cells u.cells 29))) := Lib.hid (((Below.refl _ _).alloc (Nat.le_refl _) _).alloc (by simp) _)
      have HSZ := Lib.hid hbw
      go_wp2_with (fail)
      refine (letSameUp_any u B _ (HI.out.below (HB2.out.mono (Nat.le_trans hB HB.out.size))) (Nat.le_trans (Nat.le_trans hB HB.out.size) HB2.out.size)).mono ?_
      rintro e w1 ⟨rfl, h⟩
      have H1 := Lib.hid (HB.out.trans ((HB2.out.trans (h.mono HB2.out.size)).mono HB.out.size))
      clear h p0 p1 p2 p3 p4 p5 p6
      go_wp2_with (fail)
      exact ⟨⟨1, by omega, rfl, H1⟩, by simp [intOf]⟩
    · obtain rfl : k = 1 := by omega
      go_wp2
      go_ret
      exact ⟨rfl, HB.out⟩
attribute [local go_sem] Lt.cells Lt.agg
def uLt (k : Int) (A : Option Addr) (c : Nat) : Lt := ⟨k, 1, 1, 0, 1, 0, 0, 0, 0, 0, 0, 0, 0, 0, 0, 0, 0, 0, 0, none, 0, 0, false, 0, none, 0, 0, A, 1, c, none, 0, 0⟩
theorem confZero_any (w : World) : Calls Tryz.prog 49 #[.agg #[.int .i64 0, .int .u64 0, .slice none 0 0, .bool false, .int .i64 0], .agg #[.int .i64 0, .int .u64 0, .slice none 0 0, .bool false, .int .i64 0]] w fun e w' => e = .returned (.bool true) ∧ Below w.heap.size w w' := by
  have HB : Hid (Below w.heap.size w ((w.alloc (.cells #[.int .i64 0, .int .u64 0, .slice none 0 0, .bool false, .int .i64 0] 72)).alloc (.cells #[.int .i64 0, .int .u64 0, .slice none 0 0, .bool false, .int .i64 0] 72))) := Lib.hid (by repeat (first | with_reducible exact Below.refl _ _ | with_reducible refine Below.setCell ?_ (by first | omega | (simp <;> omega)) _ | with_reducible refine Below.alloc ?_ (by first | omega | (simp <;> omega)) _ | with_reducible refine below_drewN ?_ _ | with_reducible refine Below.drew ?_))
  go_enter Tryz.func49, Tryz.ntmps49
  go_wp2_with (fail)
  refine (eqInts_nil _).mono ?_
  rintro e w1 ⟨rfl, rfl⟩
  go_wp2_with (fail)
  go_ret
  exact ⟨rfl, HB.out⟩
theorem letSame_any (k : Int) (A : Option Addr) (c B : Nat) (u : Up) (w : World) (h : UpsIn w B A 1 [u]) (hB : B ≤ w.heap.size) :
    Calls Tryz.prog 43 #[(uLt k A c).agg, (uLt k A c).agg] w fun e w' => e = .returned (.bool true) ∧ Below w.heap.size w w' := by
  have H := Lib.hid h
  clear h
  show Calls Tryz.prog 43 #[.agg #[.int .i64 k, .int .i64 1, .int .i64 1, .int .i64 0, .int .u64 1, .int .u64 0, .int .u64 0, .int .u64 0, .int .u64 0, .int .u64 0, .int .i64 0, .int .u32 0, .int .i64 0, .int .i64 0, .int .i64 0, .int .u64 0, .int .i64 0, .int .i64 0, .int .u64 0, .slice none 0 0, .bool false, .int .i64 0, .slice none 0 0, .slice A 1 c, .slice none 0 0], .agg #[.int .i64 k, .int .i64 1, .int .i64 1, .int .i64 0, .int .u64 1, .int .u64 0, .int .u64 0, .int .u64 0, .int .u64 0, .int .u64 0, .int .i64 0, .int .u32 0, .int .i64 0, .int .i64 0, .int .i64 0, .int .u64 0, .int .i64 0, .int .i64 0, .int .u64 0, .slice none 0 0, .bool false, .int .i64 0, .slice none 0 0, .slice A 1 c, .slice none 0 0]] w _
  go_enter Tryz.func43, Tryz.ntmps43
  go_upto_region 1 with (fail)
  obtain ⟨W0, hW0⟩ : ∃ W0, W0 = (w.alloc (.cells #[.int .i64 k, .int .i64 1, .int .i64 1, .int .i64 0, .int .u64 1, .int .u64 0, .int .u64 0, .int .u64 0, .int .u64 0, .int .u64 0, .int .i64 0, .int .u32 0, .int .i64 0, .int .i64 0, .int .i64 0, .int .u64 0, .int .i64 0, .int .i64 0, .int .u64 0, .slice none 0 0, .bool false, .int .i64 0, .slice none 0 0, .slice A 1 c, .slice none 0 0] 75)).alloc (.cells #[.int .i64 k, .int .i64 1, .int .i64 1, .int .i64 0, .int .u64 1, .int .u64 0, .int .u64 0, .int .u64 0, .int .u64 0, .int .u64 0, .int .i64 0, .int .u32 0, .int .i64 0, .int .i64 0, .int .i64 0, .int .u64 0, .int .i64 0, .int .i64 0, .int .u64 0, .slice none 0 0, .bool false, .int .i64 0, .slice none 0 0, .slice A 1 c, .slice none 0 0] 75) := ⟨_, rfl⟩
  rw [← hW0]
  have hb1 : Blk W0 w.heap.size 75 (uLt k A c).cells := by rw [hW0]; exact (Blk.new w _ _).alloc _
  have hb2 : Blk W0 (w.heap.size + 1) 75 (uLt k A c).cells := by rw [hW0]; exact blk_at7 _ _ (uLt k A c).cells _ (by simp)
  have HBW : Hid (Below w.heap.size w W0) := Lib.hid (by rw [hW0]; repeat (first | with_reducible exact Below.refl _ _ | with_reducible refine Below.setCell ?_ (by first | omega | (simp <;> omega)) _ | with_reducible refine Below.alloc ?_ (by first | omega | (simp <;> omega)) _ | with_reducible refine below_drewN ?_ _ | with_reducible refine Below.drew ?_))
  obtain ⟨x0,x1,x2,x3,x4,x5,x6,x7,x8,x9,x10,x11,x12,x13,x14,x15,x16,x17,x18,x19,x20,x21,x22,x23,x24⟩ := lt_cells hb1
  obtain ⟨y0,y1,y2,y3,y4,y5,y6,y7,y8,y9,y10,y11,y12,y13,y14,y15,y16,y17,y18,y19,y20,y21,y22,y23,y24⟩ := lt_cells hb2
  simp only [uLt] at x0 x1 x2 x3 x4 x5 x6 x7 x8 x9 x10 x11 x12 x13 x14 x15 x16 x17 x18 x19 x20 x21 x22 x23 x24 y0 y1 y2 y3 y4 y5 y6 y7 y8 y9 y10 y11 y12 y13 y14 y15 y16 y17 y18 y19 y20 y21 y22 y23 y24
  have l1 := hb1.lt
  have l2 := hb2.lt
  clear hW0 hb1 hb2
  go_wp2_with (fail)
  refine (confZero_any W0).mono ?_
  rintro e w1 ⟨rfl, h⟩
  replace x22 := (h.cell (p := ⟨w.heap.size, 22, none⟩) l1).trans x22
  replace x23 := (h.cell (p := ⟨w.heap.size, 23, none⟩) l1).trans x23
  replace x24 := (h.cell (p := ⟨w.heap.size, 24, none⟩) l1).trans x24
  replace y22 := (h.cell (p := ⟨w.heap.size + 1, 22, none⟩) l2).trans y22
  replace y23 := (h.cell (p := ⟨w.heap.size + 1, 23, none⟩) l2).trans y23
  replace y24 := (h.cell (p := ⟨w.heap.size + 1, 24, none⟩) l2).trans y24
  clear x0 x1 x2 x3 x4 x5 x6 x7 x8 x9 x10 x11 x12 x13 x14 x15 x16 x17 x18 x19 x20 x21 y0 y1 y2 y3 y4 y5 y6 y7 y8 y9 y10 y11 y12 y13 y14 y15 y16 y17 y18 y19 y20 y21
  have H1 := Lib.hid (HBW.out.trans (h.mono HBW.out.size))
  have s1 := Lib.hid h.size
  clear h
  go_wp2_with (fail)
  refine (eqVotes_nil w1).mono ?_
  rintro e w2 ⟨rfl, rfl⟩
  go_wp2_with (fail)
  refine (eqUps_any A c B u w1 (H.out.below (H1.out.mono hB)) (Nat.le_trans hB H1.out.size)).mono ?_
  rintro e w3 ⟨rfl, h⟩
  replace x24 := (h.cell (p := ⟨w.heap.size, 24, none⟩) (Nat.lt_of_lt_of_le l1 s1.out)).trans x24
  replace y24 := (h.cell (p := ⟨w.heap.size + 1, 24, none⟩) (Nat.lt_of_lt_of_le l2 s1.out)).trans y24
  clear x22 x23 y22 y23
  have H2 := Lib.hid (H1.out.trans (h.mono H1.out.size))
  clear h
  go_wp2_with (fail)
  refine (bytesNil_any w3).mono ?_
  rintro e w4 ⟨rfl, rfl⟩
  go_wp2_with (fail)
  go_ret
  exact ⟨rfl, H2.out⟩
end Go.Proofs.YtfcjkkjgedcgpaaGreatDoor
