/- A caller: New, Busy, Address, Num. -/
import Derived.Test.YtnnegldaekmgbaaGreatDoorCalA
namespace Go.Proofs.YtnnegldaekmgbaaGreatDoor
open Go.RowKit
set_option linter.unusedSimpArgs false
set_option linter.unusedVariables false
set_option maxHeartbeats 8000000
set_option maxRecDepth 100000

def Opn.zero : Opn := ⟨0, 0, 0, none, 0, 0, 0, []⟩
def Cl.new (cl ms : Nat) : Cl := ⟨cl, ms, 0, 0, Opn.zero, 0, Rp.zero, [], 0, Rp.zero, []⟩
def CNewP (cl ms : Int) (l : List Cf) (w : World) (e : Ending) (w' : World) : Prop := Below w.heap.size w w' ∧
  ((¬ ((1 ≤ cl ∧ cl ≤ 6 ∧ 1 ≤ ms ∧ ms ≤ 5) ∧ allB l = true) ∧ e = .returned (.tuple #[.pointer none, .int .i64 1])) ∨
   ((1 ≤ cl ∧ cl ≤ 6 ∧ 1 ≤ ms ∧ ms ≤ 5) ∧ allB l = true ∧ ∃ g G, e = .returned (.tuple #[.pointer (some ⟨g, 0, none⟩), .int .i64 0]) ∧ CalAt w' w.heap.size g G 0 (l.map Cf.val) (Cl.new cl.toNat ms.toNat)))
theorem calNew_any (cl ms : Int) (A : Option Addr) (n c B : Nat) (l : List Cf) (w : World) (hl : CfsIn w B A n l) (hB : B ≤ w.heap.size) :
    Calls Tryz.prog 10 #[.int .i64 cl, .int .i64 ms, .slice A n c] w (CNewP cl ms l w) := by
  have AN := Lib.hid (atlNew_any A n c B l w hl hB)
  by_cases h : 1 ≤ cl ∧ cl ≤ 6 ∧ 1 ≤ ms ∧ ms ≤ 5
  · obtain ⟨h1, h2, h3, h4⟩ := h
    obtain ⟨k, rfl⟩ := Int.eq_ofNat_of_zero_le (show 0 ≤ cl by omega)
    obtain ⟨m, rfl⟩ := Int.eq_ofNat_of_zero_le (show 0 ≤ ms by omega)
    have g1 : decide (k < 1) = false := decide_eq_false (by omega)
    have g2 : decide (6 < k) = false := decide_eq_false (by omega)
    have g3 : decide (m < 1) = false := decide_eq_false (by omega)
    have g4 : decide (5 < m) = false := decide_eq_false (by omega)
    go_enter Tryz.func10, Tryz.ntmps10
    go_wp2_with (fail)
    refine AN.out.mono ?_
    rintro e w1 ⟨hb, (⟨ha, rfl⟩ | ⟨ha, G, rfl, hat⟩)⟩
    · have HB := Lib.hid hb
      have HA := Lib.hid ha
      clear hb ha AN
      go_wp2_with (fail)
      go_ret2
      exact ⟨HB.out, .inl ⟨fun e => (by rw [HA.out] at e; cases e.2), rfl⟩⟩
    · have HB := Lib.hid hb
      have HA := Lib.hid ha
      have HT := Lib.hid hat
      clear hb ha AN hat
      have HN : Hid (CalAt (w1.alloc (.cells ((Cl.new k m).cells G 0) 111)) w.heap.size w1.heap.size G 0 (l.map Cf.val) (Cl.new k m)) := Lib.hid
        ⟨Blk.new _ _ _, HT.out.below ((Below.refl _ _).alloc (Nat.le_refl _) _), HB.out.size, OwnB.nil _ _, by constructor <;> simp [Cl.new, Opn.zero], by show (0 : Nat) ≤ 2; omega, fun e => absurd rfl e, OwnB.nil _ _, OwnB.nil _ _, fun _ => rfl⟩
      have HB2 : Hid (Below w.heap.size w (w1.alloc (.cells ((Cl.new k m).cells G 0) 111))) := Lib.hid (HB.out.alloc HB.out.size _)
      go_wp2_with (fail)
      go_ret2
      exact ⟨HB2.out, .inr ⟨⟨h1, h2, h3, h4⟩, HA.out, _, _, rfl, HN.out⟩⟩
  · have HN := Lib.hid h
    have hd : (decide (cl < 1) || decide (6 < cl) || decide (ms < 1) || decide (5 < ms)) = true := by simp; omega
    by_cases d1 : cl < 1
    · have g1 : decide (cl < 1) = true := decide_eq_true d1
      clear AN h hd
      go_enter Tryz.func10, Tryz.ntmps10
      go_wp2_with (fail)
      go_ret2
      exact ⟨Below.refl _ _, .inl ⟨fun e => HN.out e.1, rfl⟩⟩
    have g1 : decide (cl < 1) = false := decide_eq_false d1
    by_cases d2 : 6 < cl
    · have g2 : decide (6 < cl) = true := decide_eq_true d2
      clear AN h hd
      go_enter Tryz.func10, Tryz.ntmps10
      go_wp2_with (fail)
      go_ret2
      exact ⟨Below.refl _ _, .inl ⟨fun e => HN.out e.1, rfl⟩⟩
    have g2 : decide (6 < cl) = false := decide_eq_false d2
    by_cases d3 : ms < 1
    · have g3 : decide (ms < 1) = true := decide_eq_true d3
      clear AN h hd
      go_enter Tryz.func10, Tryz.ntmps10
      go_wp2_with (fail)
      go_ret2
      exact ⟨Below.refl _ _, .inl ⟨fun e => HN.out e.1, rfl⟩⟩
    have g3 : decide (ms < 1) = false := decide_eq_false d3
    have g4 : decide (5 < ms) = true := decide_eq_true (by omega)
    clear AN h hd
    go_enter Tryz.func10, Tryz.ntmps10
    go_wp2_with (fail)
    go_ret2
    exact ⟨Below.refl _ _, .inl ⟨fun e => HN.out e.1, rfl⟩⟩
theorem calBusy_any (lo g G h : Nat) (vs : List (Int × Int × List Int × Bool × Int)) (c : Cl) (w : World) (a : CalAt w lo g G h vs c) :
    Calls Tryz.prog 13 #[.pointer (some ⟨g, 0, none⟩)] w fun e w' => e = .returned (.bool (c.st == 1)) ∧ Below w.heap.size w w' := by
  have hb := a.box
  have hst := a.st
  rcases (show c.st = 0 ∨ c.st = 1 ∨ c.st = 2 by omega) with hs | hs | hs
  · have c10 : w.cell? ⟨g, 10, none⟩ = some (.pointer none) := (hb.cell 10).trans (by unfold Cl.cells Cl.ptr; rw [hs]; rfl)
    rw [hs]
    clear hb hst hs a
    go_enter Tryz.func13, Tryz.ntmps13
    go_wp2_with (fail)
    go_ret
    exact ⟨rfl, Below.refl _ _⟩
  · have c10 : w.cell? ⟨g, 10, none⟩ = some (.pointer (some ⟨h, 0, none⟩)) := (hb.cell 10).trans (by unfold Cl.cells Cl.ptr; rw [hs]; rfl)
    have hl := (a.lat (by omega)).2
    rw [hs] at hl ⊢
    have LG : Hid (Calls Tryz.prog 55 #[.pointer (some ⟨h, 0, none⟩)] w fun e w' => e = .returned (.tuple #[.agg #[.int .i64 0, .int .u64 0, .slice none 0 0], .bool false]) ∧ Below w.heap.size w w') := Lib.hid (getRp_any h false c.rp w hl)
    clear hb hst hs a hl
    go_enter Tryz.func13, Tryz.ntmps13
    go_wp2_with (fail)
    refine LG.out.mono ?_
    rintro e w1 ⟨rfl, hb1⟩
    have HB := Lib.hid hb1
    clear hb1 LG
    go_wp2_with (fail)
    go_ret
    exact ⟨rfl, HB.out.alloc HB.out.size _⟩
  · have c10 : w.cell? ⟨g, 10, none⟩ = some (.pointer (some ⟨h, 0, none⟩)) := (hb.cell 10).trans (by unfold Cl.cells Cl.ptr; rw [hs]; rfl)
    have hl := (a.lat (by omega)).2
    rw [hs] at hl ⊢
    have LG : Hid (Calls Tryz.prog 55 #[.pointer (some ⟨h, 0, none⟩)] w fun e w' => e = .returned (.tuple #[.agg #[.int .i64 c.rp.cd, .int .u64 c.rp.vr, .slice c.rp.A c.rp.n c.rp.c], .bool true]) ∧ Below w.heap.size w w') := Lib.hid (getRp_any h true c.rp w hl)
    clear hb hst hs a hl
    go_enter Tryz.func13, Tryz.ntmps13
    go_wp2_with (fail)
    refine LG.out.mono ?_
    rintro e w1 ⟨rfl, hb1⟩
    have HB := Lib.hid hb1
    clear hb1 LG
    go_wp2_with (fail)
    go_ret
    exact ⟨rfl, HB.out.alloc HB.out.size _⟩
theorem calAddr_any (lo g G h : Nat) (vs : List (Int × Int × List Int × Bool × Int)) (c : Cl) (f : Nat) (w : World) (a : CalAt w lo g G h vs c) (hf : f = 200 + c.cl) (hc : c.cl ≤ 6) :
    Calls Tryz.prog 26 #[.pointer (some ⟨g, 0, none⟩)] w fun e w' => e = .returned (.int .i64 (f : Int)) ∧ w = w' := by
  have c0 : w.cell? ⟨g, 0, none⟩ = some (.int .i64 c.cl) := (a.box.cell 0).trans rfl
  have e1 : IntKind.i64.wrap (200 + (c.cl : Int)) = (f : Int) := by rw [IntKind.wrap_i64]; omega
  clear a hf
  go_enter Tryz.func26, Tryz.ntmps26
  go_wp2_with (fail)
  go_ret
  exact ⟨by first | rfl | (rw [← e1]; rfl) | simp [e1], rfl⟩
theorem calNum_any (lo g G h : Nat) (vs : List (Int × Int × List Int × Bool × Int)) (c : Cl) (w : World) (a : CalAt w lo g G h vs c) :
    Calls Tryz.prog 14 #[.pointer (some ⟨g, 0, none⟩)] w fun e w' => e = .returned (.int .u64 c.num) ∧ w = w' := by
  have c2 : w.cell? ⟨g, 2, none⟩ = some (.int .u64 c.num) := (a.box.cell 2).trans rfl
  clear a
  go_enter Tryz.func14, Tryz.ntmps14
  go_wp2_with (fail)
  go_ret
  exact ⟨rfl, rfl⟩
end Go.Proofs.YtnnegldaekmgbaaGreatDoor
