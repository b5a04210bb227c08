/- UpdateRequests. -/
import Derived.Test.YthmokochlpbokaaGreatDoorLetM


namespace Go.Proofs.YthmokochlpbokaaGreatDoor
open Go.RowKit
set_option linter.unusedSimpArgs false
set_option linter.unusedVariables false
set_option maxHeartbeats 8000000
set_option maxRecDepth 100000
attribute [local go_sem] Up.agg Up.cells Opn.agg Opn.cells

theorem op_cells {w : World} {g : Nat} {t : TypeId} {o : Opn} (h : Blk w g t o.cells) : w.cell? ⟨g, 0, none⟩ = some (.int .i64 o.kd) ∧ w.cell? ⟨g, 1, none⟩ = some (.int .u32 o.key) ∧ w.cell? ⟨g, 2, none⟩ = some (.int .u64 o.ver) ∧ w.cell? ⟨g, 3, none⟩ = some (.slice o.A o.n o.c) ∧ w.cell? ⟨g, 4, none⟩ = some (.int .i64 o.pick) :=
  ⟨h.cell 0, h.cell 1, h.cell 2, h.cell 3, h.cell 4⟩
theorem zero_in (w : World) (B : Nat) : UpIn w B Up.zero := ⟨Reads.none_, Nat.le_refl _, by decide, ⟨by constructor <;> simp [Up.zero], by constructor <;> simp [Up.zero], by constructor <;> simp [Up.zero], by constructor <;> simp [Up.zero], by constructor <;> simp [Up.zero], by constructor <;> simp [Up.zero], by simp [Up.zero]⟩⟩
theorem updateRequests_law (o : Opn) (cl num : Int) (w : World) (hK : KindsAt w) (h : OpIn w w.heap.size o) (hc : -9223372036854775808 ≤ cl ∧ cl ≤ 9223372036854775807) (hnm : 0 ≤ num ∧ num ≤ 18446744073709551615) :
    Calls Tryz.prog 4 #[o.agg, .int .i64 cl, .int .u64 num] w fun e w' => e = .returned (.bool true) ∧ Below w.heap.size w w' := by
  have HK := Lib.hid hK
  have H := Lib.hid h
  have HV := Lib.hid (And.intro hc hnm)
  have HB1 : Hid (Below w.heap.size w (w.alloc (.cells o.cells 42))) := Lib.hid (by repeat (first | with_reducible exact Below.refl _ _ | with_reducible refine Below.setCell ?_ (by first | omega | (simp <;> omega)) _ | with_reducible refine Below.alloc ?_ (by first | omega | (simp <;> omega)) _ | with_reducible refine below_drewN ?_ _ | with_reducible refine Below.drew ?_))
  have BU : Hid (Blk (w.alloc (.cells o.cells 42)) w.heap.size 42 o.cells) := Lib.hid (Blk.new w _ _)
  clear hK h hc hnm
  by_cases hl : (2100 : Int) < o.n
  · go_enter Tryz.func4, Tryz.ntmps4
    go_wp2_with (fail)
    refine (awake_any _).mono ?_
    rintro e w2 ⟨rfl, hb⟩
    have H2 := Lib.hid (HB1.out.trans (hb.mono HB1.out.size))
    clear hb
    go_wp2_with (fail)
    go_ret
    exact ⟨rfl, H2.out⟩
  have hn6 : o.n ≤ 1000000 := by omega
  have HN := Lib.hid hn6
  clear hn6
  go_enter Tryz.func4, Tryz.ntmps4
  go_wp2_with (fail)
  refine (request_any o cl num w.heap.size _ (HK.out.below HB1.out) (H.out.below HB1.out) HB1.out.size HN.out HV.out.1 HV.out.2).mono ?_
  rintro e w2 ⟨A7, c7, rfl, hu, hb⟩
  have H2 := Lib.hid (HB1.out.trans (hb.mono HB1.out.size))
  replace BU := Lib.hid (BU.out.below hb BU.out.lt)
  have HU := Lib.hid hu
  have RR := fun W => Lib.hid (refRequest_any o cl num W H.out.wf HN.out HV.out.1 HV.out.2)
  obtain ⟨z, hz⟩ : ∃ z, reqE o cl num = z := ⟨_, rfl⟩
  have CA := Lib.hid (fun B W (hK : KindsAt W) (h : UpIn W B (reqU o cl num A7 c7)) (hB : B ≤ W.heap.size) => updAsked_any (reqU o cl num A7 c7) B W hK h hB HN.out)
  rw [reqE_at] at CA
  rw [hz] at RR CA ⊢
  clear hz hb hu HB1
  obtain ⟨x0, x1, x2, x3, x4⟩ := op_cells BU.out
  have l0 := BU.out.lt
  by_cases h0 : z = 0
  · subst h0
    simp only [show ∀ u : Up, reqV 0 u = u from fun _ => rfl] at RR ⊢
    simp only [reqU, Up.agg] at RR ⊢
    go_wp2_with (fail)
    refine (RR _).out.mono ?_
    rintro e w3 ⟨rfl, hb⟩
    have H3 := Lib.hid ((H2.out.alloc H2.out.size (.cells (reqU o cl num A7 c7).cells 26)).trans (hb.mono (by simp; have := H2.out.size; omega)))
    have B7 : Hid (Blk w3 w2.heap.size 26 (reqU o cl num A7 c7).cells) := Lib.hid ((Blk.new w2 _ _).below hb (by simp))
    have HU3 : Hid (UpIn w3 w2.heap.size (reqU o cl num A7 c7)) := Lib.hid ((HU.out.below ((Below.refl _ _).alloc (Nat.le_refl _) (.cells (reqU o cl num A7 c7).cells 26))).below (hb.mono (by simp)))
    have HL := Lib.hid (show w2.heap.size < w3.heap.size from B7.out.lt)
    clear hb x0 x1 x2 x3 x4
    obtain ⟨x0, x1, x2, x3, x4, x5, x6⟩ := up_cells B7.out
    simp only [reqU] at x0 x1 x2 x3 x4 x5 x6
    have ll := HL.out
    go_wp2_with (fail)
    have H4 := Lib.hid (H3.out.alloc H3.out.size (.cells (reqU o cl num o.A o.c).cells 26))
    have HI : Hid (UpIn w3 w.heap.size (reqU o cl num o.A o.c)) := Lib.hid ⟨H.out.rd.below H3.out, H.out.hc, H.out.hm, reqU_wf H.out.wf HV.out.1 HV.out.2 _ _⟩
    have HB4 : Hid (Below w3.heap.size w3 (w3.alloc (.cells (reqU o cl num o.A o.c).cells 26))) := Lib.hid (by repeat (first | with_reducible exact Below.refl _ _ | with_reducible refine Below.setCell ?_ (by first | omega | (simp <;> omega)) _ | with_reducible refine Below.alloc ?_ (by first | omega | (simp <;> omega)) _ | with_reducible refine below_drewN ?_ _ | with_reducible refine Below.drew ?_))
    have SU := Lib.hid (sameUp_any (reqU o cl num A7 c7) o.A o.n o.c w2.heap.size w.heap.size (w3.alloc (.cells (reqU o cl num o.A o.c).cells 26)) (HU3.out.below (HB4.out.mono (Nat.le_of_lt HL.out))) (HI.out.below (HB4.out.mono H3.out.size)) (by simp; have := HL.out; omega) H4.out.size HN.out)
    refine SU.out.mono ?_
    rintro e w4 ⟨rfl, hb⟩
    have h34 := HB4.out.trans (hb.mono HB4.out.size)
    have H5 := Lib.hid (H3.out.trans (h34.mono H3.out.size))
    have B8 := Lib.hid (B7.out.below h34 B7.out.lt)
    have CA2 := Lib.hid (CA.out w2.heap.size w4 (HK.out.below H5.out) (HU3.out.below (h34.mono (Nat.le_of_lt HL.out))) (Nat.le_trans (Nat.le_of_lt HL.out) h34.size))
    clear hb h34 x0 x1 x2 x3 x4 x5 x6
    obtain ⟨x0, x1, x2, x3, x4, x5, x6⟩ := up_cells B8.out
    simp only [reqU] at x0 x1 x2 x3 x4 x5 x6
    go_wp2_with (fail)
    refine CA2.out.mono ?_
    rintro e w5 ⟨rfl, hb⟩
    have H6 := Lib.hid (H5.out.trans (hb.mono H5.out.size))
    clear hb x0 x1 x2 x3 x4 x5 x6
    go_wp2_with (fail)
    refine (awake_any _).mono ?_
    rintro e w6 ⟨rfl, hb⟩
    have H7 := Lib.hid (H6.out.trans (hb.mono H6.out.size))
    clear hb
    go_wp2_with (fail)
    go_ret
    exact ⟨rfl, H7.out⟩
  · have hrq : ∀ u : Up, reqV z u = Up.zero := fun u => by unfold reqV; rw [if_neg h0]
    have h0' : (z != 0) = true := by simpa using h0
    simp only [hrq, Up.zero, Up.agg] at RR ⊢
    clear h0 hrq CA HU
    go_wp2_with (fail)
    refine (RR _).out.mono ?_
    rintro e w3 ⟨rfl, hb⟩
    have H3 := Lib.hid ((H2.out.alloc H2.out.size (.cells #[.int .u64 0, .int .i64 0, .int .u64 0, .int .i64 0, .int .u32 0, .int .u64 0, .slice none 0 0] 26)).trans (hb.mono (by simp; have := H2.out.size; omega)))
    have B7 : Hid (Blk w3 w2.heap.size 26 Up.zero.cells) := Lib.hid ((Blk.new w2 _ _).below hb (by simp))
    have HL := Lib.hid (show w2.heap.size < w3.heap.size from B7.out.lt)
    clear hb x0 x1 x2 x3 x4
    obtain ⟨x0, x1, x2, x3, x4, x5, x6⟩ := up_cells B7.out
    simp only [Up.zero] at x0 x1 x2 x3 x4 x5 x6
    have ll := HL.out
    go_wp2_with (fail)
    have H4 := Lib.hid (H3.out.alloc H3.out.size (.cells #[.int .u64 0, .int .i64 0, .int .u64 0, .int .i64 0, .int .u32 0, .int .u64 0, .slice none 0 0] 26))
    have SU := Lib.hid (sameUp_any Up.zero none 0 0 0 0 (w3.alloc (.cells #[.int .u64 0, .int .i64 0, .int .u64 0, .int .i64 0, .int .u32 0, .int .u64 0, .slice none 0 0] 26)) (zero_in _ _) (zero_in _ _) (Nat.zero_le _) (Nat.zero_le _) (Nat.zero_le _))
    refine SU.out.mono ?_
    rintro e w4 ⟨rfl, hb⟩
    have H5 := Lib.hid (H4.out.trans (hb.mono H4.out.size))
    clear hb x0 x1 x2 x3 x4 x5 x6
    go_wp2_with (fail)
    refine (awake_any _).mono ?_
    rintro e w6 ⟨rfl, hb⟩
    have H7 := Lib.hid (H5.out.trans (hb.mono H5.out.size))
    clear hb
    go_wp2_with (fail)
    go_ret
    exact ⟨rfl, H7.out⟩
end Go.Proofs.YthmokochlpbokaaGreatDoor
