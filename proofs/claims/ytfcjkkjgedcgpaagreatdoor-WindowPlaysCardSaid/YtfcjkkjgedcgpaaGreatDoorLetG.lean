/- The parts of the kinds 12 and 17. -/
import Derived.Test.YtfcjkkjgedcgpaaGreatDoorLetF

namespace Go.Proofs.YtfcjkkjgedcgpaaGreatDoor
open Go.RowKit
set_option linter.unusedSimpArgs false
set_option linter.unusedVariables false
set_option maxHeartbeats 8000000
set_option maxRecDepth 100000

theorem partInfo : (Tryz.prog.info? 85).map (fun i => (i.zero, i.size, i.bytes)) = some (some (.agg #[.nilFunc, .nilFunc, .nilFunc]), 3, 24) := by kernel_rfl
structure Pt where
  f : Nat
  a : Fn
  b : Fn
  x : Array Value
  y : Array Value
def Pt.row (x : Pt) : List Value := [.func (.func x.f) #[] #[], .func x.a #[] x.x, .func x.b #[] x.y]
structure PartsAt (w : World) (fs : List Nat) (v : Value) (W : World) : Prop where
  ex : ∃ ps : List Pt, ps.map Pt.f = fs ∧ W.ownsRow w.heap.size 85 3 v ps.length (ps.flatMap Pt.row)
  bel : Below w.heap.size w W
theorem PartsAt.nil (w : World) : PartsAt w [] (.slice none 0 0) w := ⟨⟨[], rfl, World.ownsRow_nil _ _ _ _⟩, Below.refl _ _⟩
theorem PartsAt.app {w W W7 : World} {fs : List Nat} {ps : List Pt} {v v7 : Value} {p : Pt} (hps : ps.map Pt.f = fs) (hb : Below w.heap.size w W) (ho : W.ownsRow w.heap.size 85 3 v ps.length (ps.flatMap Pt.row))
    (hown : W7.ownsRow w.heap.size 85 3 v7 (ps.length + 1) (ps.flatMap Pt.row ++ p.row)) (hg : W.grownBy W7 v.ownBlock) : PartsAt w (fs ++ [p.f]) v7 W7 :=
  ⟨⟨ps ++ [p], by simp [hps], by simpa [List.flatMap_append] using hown⟩, hb.grown hg hb.size (fun k hk => (ho.lt k hk).1)⟩
def parts12 : Nat → List Nat
  | 0 => [] | 1 => [72] | 2 => [72, 77] | 3 => [72, 77, 82] | 4 => [72, 77, 82, 82] | _ => [72, 77, 82, 82, 114]
def parts17 : Nat → List Nat
  | 0 => [] | 1 => [72] | 2 => [72, 77] | _ => [72, 77, 114]
def bit12 (z : Nat) : Int := kindP 12 z
def bit17 (z : Nat) : Int := kindP 17 z
theorem step12 (z : Nat) (hz : z < 6) (w : World) : (bit12 z = 0 ∧ parts12 (z + 1) = parts12 z) ∨ (bit12 z ≠ 0 ∧ ∃ f, parts12 (z + 1) = parts12 z ++ [f] ∧ Calls Tryz.prog 69 #[.int .i64 (bit12 z)] w (PartOf f w)) := by
  match z, hz with
  | 0, _ => exact .inr ⟨by decide, _, rfl, of1_any w⟩
  | 1, _ => exact .inr ⟨by decide, _, rfl, of2_any w⟩
  | 2, _ => exact .inr ⟨by decide, _, rfl, of8_any w⟩
  | 3, _ => exact .inr ⟨by decide, _, rfl, of16_any w⟩
  | 4, _ => exact .inr ⟨by decide, _, rfl, of8192_any w⟩
  | 5, _ => exact .inl ⟨rfl, rfl⟩
theorem step17 (z : Nat) (hz : z < 6) (w : World) : (bit17 z = 0 ∧ parts17 (z + 1) = parts17 z) ∨ (bit17 z ≠ 0 ∧ ∃ f, parts17 (z + 1) = parts17 z ++ [f] ∧ Calls Tryz.prog 69 #[.int .i64 (bit17 z)] w (PartOf f w)) := by
  match z, hz with
  | 0, _ => exact .inr ⟨by decide, _, rfl, of1_any w⟩
  | 1, _ => exact .inr ⟨by decide, _, rfl, of2_any w⟩
  | 2, _ => exact .inr ⟨by decide, _, rfl, of8192_any w⟩
  | 3, _ => exact .inl ⟨rfl, rfl⟩
  | 4, _ => exact .inl ⟨rfl, rfl⟩
  | 5, _ => exact .inl ⟨rfl, rfl⟩
theorem parts_any (k : Nat) (hk : k < 21) (F : Nat → List Nat) (hF : F 0 = []) (hstep : ∀ z, z < 6 → ∀ w, (kindP k z = 0 ∧ F (z + 1) = F z) ∨ (kindP k z ≠ 0 ∧ ∃ f, F (z + 1) = F z ++ [f] ∧ Calls Tryz.prog 69 #[.int .i64 (kindP k z)] w (PartOf f w))) (hlen : ∀ z, (F z).length ≤ 6) (w : World) (hK : KindsAt w) :
    Calls Tryz.prog 45 #[.int .i64 k] w fun e w' => ∃ v, e = .returned v ∧ PartsAt w (F 6) v w' := by
  obtain ⟨i0, hi, hz0, hz1, hz2⟩ := info_parts partInfo
  have q0 := hK.cell k 0 hk (by omega)
  have q1 := hK.cell k 1 hk (by omega)
  have q2 := hK.cell k 2 hk (by omega)
  have q3 := hK.cell k 3 hk (by omega)
  have q4 := hK.cell k 4 hk (by omega)
  have q5 := hK.cell k 5 hk (by omega)
  have hki : (k : Int) < 21 := by omega
  have h0w : 0 < w.heap.size := hK.lt
  have j0 : ∀ w, (Instr.index 91 (.agg #[.int .i64 (kindP k 0), .int .i64 (kindP k 1), .int .i64 (kindP k 2), .int .i64 (kindP k 3), .int .i64 (kindP k 4), .int .i64 (kindP k 5)]) (.int .i64 0)).run Tryz.prog w = .ok (.int .i64 (kindP k 0)) w := fun _ => by kernel_rfl
  have j1 : ∀ w, (Instr.index 91 (.agg #[.int .i64 (kindP k 0), .int .i64 (kindP k 1), .int .i64 (kindP k 2), .int .i64 (kindP k 3), .int .i64 (kindP k 4), .int .i64 (kindP k 5)]) (.int .i64 1)).run Tryz.prog w = .ok (.int .i64 (kindP k 1)) w := fun _ => by kernel_rfl
  have j2 : ∀ w, (Instr.index 91 (.agg #[.int .i64 (kindP k 0), .int .i64 (kindP k 1), .int .i64 (kindP k 2), .int .i64 (kindP k 3), .int .i64 (kindP k 4), .int .i64 (kindP k 5)]) (.int .i64 2)).run Tryz.prog w = .ok (.int .i64 (kindP k 2)) w := fun _ => by kernel_rfl
  have j3 : ∀ w, (Instr.index 91 (.agg #[.int .i64 (kindP k 0), .int .i64 (kindP k 1), .int .i64 (kindP k 2), .int .i64 (kindP k 3), .int .i64 (kindP k 4), .int .i64 (kindP k 5)]) (.int .i64 3)).run Tryz.prog w = .ok (.int .i64 (kindP k 3)) w := fun _ => by kernel_rfl
  have j4 : ∀ w, (Instr.index 91 (.agg #[.int .i64 (kindP k 0), .int .i64 (kindP k 1), .int .i64 (kindP k 2), .int .i64 (kindP k 3), .int .i64 (kindP k 4), .int .i64 (kindP k 5)]) (.int .i64 4)).run Tryz.prog w = .ok (.int .i64 (kindP k 4)) w := fun _ => by kernel_rfl
  have j5 : ∀ w, (Instr.index 91 (.agg #[.int .i64 (kindP k 0), .int .i64 (kindP k 1), .int .i64 (kindP k 2), .int .i64 (kindP k 3), .int .i64 (kindP k 4), .int .i64 (kindP k 5)]) (.int .i64 5)).run Tryz.prog w = .ok (.int .i64 (kindP k 5)) w := fun _ => by kernel_rfl
  have HS := Lib.hid hstep
  have HLN := Lib.hid hlen
  have HP0 : Hid (PartsAt w (F 0) (.slice none 0 0) w) := Lib.hid (by rw [hF]; exact PartsAt.nil w)
  clear hK hstep hlen
  go_enter Tryz.func45, Tryz.ntmps45
  go_wp2_with (fail)
  go_loopw [3, 10] (fun va iv wr => ∃ z : Int, 0 ≤ z ∧ z ≤ 6 ∧ iv = .int .i64 z ∧ Hid (PartsAt w (F z.toNat) va wr)) (fun _ iv _ => 6 - (intOf iv).toNat)
  case atStart => exact ⟨0, by omega, by omega, rfl, HP0⟩
  case round =>
    clear HP0 q0 q1 q2 q3 q4 q5
    obtain ⟨z, hz0', hz6, rfl, HP⟩ := hrel
    by_cases hlt : z < 6
    · have hjj : z = 0 ∨ z = 1 ∨ z = 2 ∨ z = 3 ∨ z = 4 ∨ z = 5 := by omega
      rcases hjj with rfl | rfl | rfl | rfl | rfl | rfl
      · rcases HS.out 0 (by omega) wr with ⟨h0, hF1⟩ | ⟨h0, f, hF1, hc⟩
        · have HF := Lib.hid hF1
          have e0 : (kindP k 0 != 0) = false := by rw [h0]; rfl
          clear h0 hF1 hlt hz0' hz6
          go_wp2_with (fail)
          go_roundw
          case rel => exact ⟨1, by omega, by omega, rfl, Lib.hid (by have := HP.out; simp only [show Int.toNat 0 = 0 from rfl] at this; show PartsAt w (F 1) _ _; rw [HF.out]; exact this)⟩
          case measure => decide
        · have HC := Lib.hid hc
          have HF := Lib.hid hF1
          obtain ⟨ps, hps, hown⟩ := HP.out.ex
          have HOWN := Lib.hid hown
          have HPS := Lib.hid hps
          obtain ⟨A7, c7, rfl, _, _, _⟩ := own_slice hown
          clear hF1 hc hown hps hlt hz0' hz6
          go_wp2_with (fail)
          refine HC.out.mono ?_
          rintro e w2 ⟨a, b, x, y, rfl, hb⟩
          have HB2 := Lib.hid hb
          clear hb
          have HO5 := Lib.hid (((Chg.of_below HB2.out (fun _ => False)).own HOWN.out (fun _ _ h => h)).alloc (.cells #[.func (.func f) #[] #[], .func a #[] x, .func b #[] y] 85))
          have HB5 := Lib.hid ((HP.out.bel.trans (HB2.out.mono HP.out.bel.size)).alloc (Nat.le_trans HP.out.bel.size HB2.out.size) (.cells #[.func (.func f) #[] #[], .func a #[] x, .func b #[] y] 85))
          have hpl : ps.length ≤ 6 := (by have h1 := congrArg List.length HPS.out; rw [List.length_map] at h1; rw [h1]; exact HLN.out _)
          go_wp2_with (at_builtin; go_must (refine wpList_append_own _ rfl (.tmp 15) (.tmp 18) _ rfl w.heap.size 85 i0 _ 3 24 Tryz.underlying79 hi hz0 hz1 hz2 rfl (by omega) _ _ _ rfl HO5.out ⟨w2.heap.size, 0, none⟩ 1 1 [.func (.func f) #[] #[], .func a #[] x, .func b #[] y] rfl rfl ?c1 ?c2 ?c3 ?c4 ?c5 ?_))
          case c1 => exact fun j x hx => cells_new_at _ _ _ _ (by simp) j x hx
          case c2 => simp [Value.oneCell']
          case c3 => unfold maxLen; omega
          case c4 => omega
          case c5 => exact HB5.out.size
          intro v7 w7 hown hg hat
          have HP7 : Hid (PartsAt w (F 1) v7 w7) := Lib.hid (by rw [HF.out]; exact PartsAt.app (p := ⟨f, a, b, x, y⟩) HPS.out HB5.out HO5.out hown hg)
          obtain ⟨A8, c8, rfl, _, _, _⟩ := own_slice hown
          clear hown hg hat
          go_wp2_with (fail)
          go_roundw
          case rel => exact ⟨1, by omega, by omega, rfl, HP7⟩
          case measure => decide
      · rcases HS.out 1 (by omega) wr with ⟨h0, hF1⟩ | ⟨h0, f, hF1, hc⟩
        · have HF := Lib.hid hF1
          have e0 : (kindP k 1 != 0) = false := by rw [h0]; rfl
          clear h0 hF1 hlt hz0' hz6
          go_wp2_with (fail)
          go_roundw
          case rel => exact ⟨2, by omega, by omega, rfl, Lib.hid (by have := HP.out; simp only [show Int.toNat 1 = 1 from rfl] at this; show PartsAt w (F 2) _ _; rw [HF.out]; exact this)⟩
          case measure => decide
        · have HC := Lib.hid hc
          have HF := Lib.hid hF1
          obtain ⟨ps, hps, hown⟩ := HP.out.ex
          have HOWN := Lib.hid hown
          have HPS := Lib.hid hps
          obtain ⟨A7, c7, rfl, _, _, _⟩ := own_slice hown
          clear hF1 hc hown hps hlt hz0' hz6
          go_wp2_with (fail)
          refine HC.out.mono ?_
          rintro e w2 ⟨a, b, x, y, rfl, hb⟩
          have HB2 := Lib.hid hb
          clear hb
          have HO5 := Lib.hid (((Chg.of_below HB2.out (fun _ => False)).own HOWN.out (fun _ _ h => h)).alloc (.cells #[.func (.func f) #[] #[], .func a #[] x, .func b #[] y] 85))
          have HB5 := Lib.hid ((HP.out.bel.trans (HB2.out.mono HP.out.bel.size)).alloc (Nat.le_trans HP.out.bel.size HB2.out.size) (.cells #[.func (.func f) #[] #[], .func a #[] x, .func b #[] y] 85))
          have hpl : ps.length ≤ 6 := (by have h1 := congrArg List.length HPS.out; rw [List.length_map] at h1; rw [h1]; exact HLN.out _)
          go_wp2_with (at_builtin; go_must (refine wpList_append_own _ rfl (.tmp 15) (.tmp 18) _ rfl w.heap.size 85 i0 _ 3 24 Tryz.underlying79 hi hz0 hz1 hz2 rfl (by omega) _ _ _ rfl HO5.out ⟨w2.heap.size, 0, none⟩ 1 1 [.func (.func f) #[] #[], .func a #[] x, .func b #[] y] rfl rfl ?c1 ?c2 ?c3 ?c4 ?c5 ?_))
          case c1 => exact fun j x hx => cells_new_at _ _ _ _ (by simp) j x hx
          case c2 => simp [Value.oneCell']
          case c3 => unfold maxLen; omega
          case c4 => omega
          case c5 => exact HB5.out.size
          intro v7 w7 hown hg hat
          have HP7 : Hid (PartsAt w (F 2) v7 w7) := Lib.hid (by rw [HF.out]; exact PartsAt.app (p := ⟨f, a, b, x, y⟩) HPS.out HB5.out HO5.out hown hg)
          obtain ⟨A8, c8, rfl, _, _, _⟩ := own_slice hown
          clear hown hg hat
          go_wp2_with (fail)
          go_roundw
          case rel => exact ⟨2, by omega, by omega, rfl, HP7⟩
          case measure => decide
      · rcases HS.out 2 (by omega) wr with ⟨h0, hF1⟩ | ⟨h0, f, hF1, hc⟩
        · have HF := Lib.hid hF1
          have e0 : (kindP k 2 != 0) = false := by rw [h0]; rfl
          clear h0 hF1 hlt hz0' hz6
          go_wp2_with (fail)
          go_roundw
          case rel => exact ⟨3, by omega, by omega, rfl, Lib.hid (by have := HP.out; simp only [show Int.toNat 2 = 2 from rfl] at this; show PartsAt w (F 3) _ _; rw [HF.out]; exact this)⟩
          case measure => decide
        · have HC := Lib.hid hc
          have HF := Lib.hid hF1
          obtain ⟨ps, hps, hown⟩ := HP.out.ex
          have HOWN := Lib.hid hown
          have HPS := Lib.hid hps
          obtain ⟨A7, c7, rfl, _, _, _⟩ := own_slice hown
          clear hF1 hc hown hps hlt hz0' hz6
          go_wp2_with (fail)
          refine HC.out.mono ?_
          rintro e w2 ⟨a, b, x, y, rfl, hb⟩
          have HB2 := Lib.hid hb
          clear hb
          have HO5 := Lib.hid (((Chg.of_below HB2.out (fun _ => False)).own HOWN.out (fun _ _ h => h)).alloc (.cells #[.func (.func f) #[] #[], .func a #[] x, .func b #[] y] 85))
          have HB5 := Lib.hid ((HP.out.bel.trans (HB2.out.mono HP.out.bel.size)).alloc (Nat.le_trans HP.out.bel.size HB2.out.size) (.cells #[.func (.func f) #[] #[], .func a #[] x, .func b #[] y] 85))
          have hpl : ps.length ≤ 6 := (by have h1 := congrArg List.length HPS.out; rw [List.length_map] at h1; rw [h1]; exact HLN.out _)
          go_wp2_with (at_builtin; go_must (refine wpList_append_own _ rfl (.tmp 15) (.tmp 18) _ rfl w.heap.size 85 i0 _ 3 24 Tryz.underlying79 hi hz0 hz1 hz2 rfl (by omega) _ _ _ rfl HO5.out ⟨w2.heap.size, 0, none⟩ 1 1 [.func (.func f) #[] #[], .func a #[] x, .func b #[] y] rfl rfl ?c1 ?c2 ?c3 ?c4 ?c5 ?_))
          case c1 => exact fun j x hx => cells_new_at _ _ _ _ (by simp) j x hx
          case c2 => simp [Value.oneCell']
          case c3 => unfold maxLen; omega
          case c4 => omega
          case c5 => exact HB5.out.size
          intro v7 w7 hown hg hat
          have HP7 : Hid (PartsAt w (F 3) v7 w7) := Lib.hid (by rw [HF.out]; exact PartsAt.app (p := ⟨f, a, b, x, y⟩) HPS.out HB5.out HO5.out hown hg)
          obtain ⟨A8, c8, rfl, _, _, _⟩ := own_slice hown
          clear hown hg hat
          go_wp2_with (fail)
          go_roundw
          case rel => exact ⟨3, by omega, by omega, rfl, HP7⟩
          case measure => decide
      · rcases HS.out 3 (by omega) wr with ⟨h0, hF1⟩ | ⟨h0, f, hF1, hc⟩
        · have HF := Lib.hid hF1
          have e0 : (kindP k 3 != 0) = false := by rw [h0]; rfl
          clear h0 hF1 hlt hz0' hz6
          go_wp2_with (fail)
          go_roundw
          case rel => exact ⟨4, by omega, by omega, rfl, Lib.hid (by have := HP.out; simp only [show Int.toNat 3 = 3 from rfl] at this; show PartsAt w (F 4) _ _; rw [HF.out]; exact this)⟩
          case measure => decide
        · have HC := Lib.hid hc
          have HF := Lib.hid hF1
          obtain ⟨ps, hps, hown⟩ := HP.out.ex
          have HOWN := Lib.hid hown
          have HPS := Lib.hid hps
          obtain ⟨A7, c7, rfl, _, _, _⟩ := own_slice hown
          clear hF1 hc hown hps hlt hz0' hz6
          go_wp2_with (fail)
          refine HC.out.mono ?_
          rintro e w2 ⟨a, b, x, y, rfl, hb⟩
          have HB2 := Lib.hid hb
          clear hb
          have HO5 := Lib.hid (((Chg.of_below HB2.out (fun _ => False)).own HOWN.out (fun _ _ h => h)).alloc (.cells #[.func (.func f) #[] #[], .func a #[] x, .func b #[] y] 85))
          have HB5 := Lib.hid ((HP.out.bel.trans (HB2.out.mono HP.out.bel.size)).alloc (Nat.le_trans HP.out.bel.size HB2.out.size) (.cells #[.func (.func f) #[] #[], .func a #[] x, .func b #[] y] 85))
          have hpl : ps.length ≤ 6 := (by have h1 := congrArg List.length HPS.out; rw [List.length_map] at h1; rw [h1]; exact HLN.out _)
          go_wp2_with (at_builtin; go_must (refine wpList_append_own _ rfl (.tmp 15) (.tmp 18) _ rfl w.heap.size 85 i0 _ 3 24 Tryz.underlying79 hi hz0 hz1 hz2 rfl (by omega) _ _ _ rfl HO5.out ⟨w2.heap.size, 0, none⟩ 1 1 [.func (.func f) #[] #[], .func a #[] x, .func b #[] y] rfl rfl ?c1 ?c2 ?c3 ?c4 ?c5 ?_))
          case c1 => exact fun j x hx => cells_new_at _ _ _ _ (by simp) j x hx
          case c2 => simp [Value.oneCell']
          case c3 => unfold maxLen; omega
          case c4 => omega
          case c5 => exact HB5.out.size
          intro v7 w7 hown hg hat
          have HP7 : Hid (PartsAt w (F 4) v7 w7) := Lib.hid (by rw [HF.out]; exact PartsAt.app (p := ⟨f, a, b, x, y⟩) HPS.out HB5.out HO5.out hown hg)
          obtain ⟨A8, c8, rfl, _, _, _⟩ := own_slice hown
          clear hown hg hat
          go_wp2_with (fail)
          go_roundw
          case rel => exact ⟨4, by omega, by omega, rfl, HP7⟩
          case measure => decide
      · rcases HS.out 4 (by omega) wr with ⟨h0, hF1⟩ | ⟨h0, f, hF1, hc⟩
        · have HF := Lib.hid hF1
          have e0 : (kindP k 4 != 0) = false := by rw [h0]; rfl
          clear h0 hF1 hlt hz0' hz6
          go_wp2_with (fail)
          go_roundw
          case rel => exact ⟨5, by omega, by omega, rfl, Lib.hid (by have := HP.out; simp only [show Int.toNat 4 = 4 from rfl] at this; show PartsAt w (F 5) _ _; rw [HF.out]; exact this)⟩
          case measure => decide
        · have HC := Lib.hid hc
          have HF := Lib.hid hF1
          obtain ⟨ps, hps, hown⟩ := HP.out.ex
          have HOWN := Lib.hid hown
          have HPS := Lib.hid hps
          obtain ⟨A7, c7, rfl, _, _, _⟩ := own_slice hown
          clear hF1 hc hown hps hlt hz0' hz6
          go_wp2_with (fail)
          refine HC.out.mono ?_
          rintro e w2 ⟨a, b, x, y, rfl, hb⟩
          have HB2 := Lib.hid hb
          clear hb
          have HO5 := Lib.hid (((Chg.of_below HB2.out (fun _ => False)).own HOWN.out (fun _ _ h => h)).alloc (.cells #[.func (.func f) #[] #[], .func a #[] x, .func b #[] y] 85))
          have HB5 := Lib.hid ((HP.out.bel.trans (HB2.out.mono HP.out.bel.size)).alloc (Nat.le_trans HP.out.bel.size HB2.out.size) (.cells #[.func (.func f) #[] #[], .func a #[] x, .func b #[] y] 85))
          have hpl : ps.length ≤ 6 := (by have h1 := congrArg List.length HPS.out; rw [List.length_map] at h1; rw [h1]; exact HLN.out _)
          go_wp2_with (at_builtin; go_must (refine wpList_append_own _ rfl (.tmp 15) (.tmp 18) _ rfl w.heap.size 85 i0 _ 3 24 Tryz.underlying79 hi hz0 hz1 hz2 rfl (by omega) _ _ _ rfl HO5.out ⟨w2.heap.size, 0, none⟩ 1 1 [.func (.func f) #[] #[], .func a #[] x, .func b #[] y] rfl rfl ?c1 ?c2 ?c3 ?c4 ?c5 ?_))
          case c1 => exact fun j x hx => cells_new_at _ _ _ _ (by simp) j x hx
          case c2 => simp [Value.oneCell']
          case c3 => unfold maxLen; omega
          case c4 => omega
          case c5 => exact HB5.out.size
          intro v7 w7 hown hg hat
          have HP7 : Hid (PartsAt w (F 5) v7 w7) := Lib.hid (by rw [HF.out]; exact PartsAt.app (p := ⟨f, a, b, x, y⟩) HPS.out HB5.out HO5.out hown hg)
          obtain ⟨A8, c8, rfl, _, _, _⟩ := own_slice hown
          clear hown hg hat
          go_wp2_with (fail)
          go_roundw
          case rel => exact ⟨5, by omega, by omega, rfl, HP7⟩
          case measure => decide
      · rcases HS.out 5 (by omega) wr with ⟨h0, hF1⟩ | ⟨h0, f, hF1, hc⟩
        · have HF := Lib.hid hF1
          have e0 : (kindP k 5 != 0) = false := by rw [h0]; rfl
          clear h0 hF1 hlt hz0' hz6
          go_wp2_with (fail)
          go_roundw
          case rel => exact ⟨6, by omega, by omega, rfl, Lib.hid (by have := HP.out; simp only [show Int.toNat 5 = 5 from rfl] at this; show PartsAt w (F 6) _ _; rw [HF.out]; exact this)⟩
          case measure => decide
        · have HC := Lib.hid hc
          have HF := Lib.hid hF1
          obtain ⟨ps, hps, hown⟩ := HP.out.ex
          have HOWN := Lib.hid hown
          have HPS := Lib.hid hps
          obtain ⟨A7, c7, rfl, _, _, _⟩ := own_slice hown
          clear hF1 hc hown hps hlt hz0' hz6
          go_wp2_with (fail)
          refine HC.out.mono ?_
          rintro e w2 ⟨a, b, x, y, rfl, hb⟩
          have HB2 := Lib.hid hb
          clear hb
          have HO5 := Lib.hid (((Chg.of_below HB2.out (fun _ => False)).own HOWN.out (fun _ _ h => h)).alloc (.cells #[.func (.func f) #[] #[], .func a #[] x, .func b #[] y] 85))
          have HB5 := Lib.hid ((HP.out.bel.trans (HB2.out.mono HP.out.bel.size)).alloc (Nat.le_trans HP.out.bel.size HB2.out.size) (.cells #[.func (.func f) #[] #[], .func a #[] x, .func b #[] y] 85))
          have hpl : ps.length ≤ 6 := (by have h1 := congrArg List.length HPS.out; rw [List.length_map] at h1; rw [h1]; exact HLN.out _)
          go_wp2_with (at_builtin; go_must (refine wpList_append_own _ rfl (.tmp 15) (.tmp 18) _ rfl w.heap.size 85 i0 _ 3 24 Tryz.underlying79 hi hz0 hz1 hz2 rfl (by omega) _ _ _ rfl HO5.out ⟨w2.heap.size, 0, none⟩ 1 1 [.func (.func f) #[] #[], .func a #[] x, .func b #[] y] rfl rfl ?c1 ?c2 ?c3 ?c4 ?c5 ?_))
          case c1 => exact fun j x hx => cells_new_at _ _ _ _ (by simp) j x hx
          case c2 => simp [Value.oneCell']
          case c3 => unfold maxLen; omega
          case c4 => omega
          case c5 => exact HB5.out.size
          intro v7 w7 hown hg hat
          have HP7 : Hid (PartsAt w (F 6) v7 w7) := Lib.hid (by rw [HF.out]; exact PartsAt.app (p := ⟨f, a, b, x, y⟩) HPS.out HB5.out HO5.out hown hg)
          obtain ⟨A8, c8, rfl, _, _, _⟩ := own_slice hown
          clear hown hg hat
          go_wp2_with (fail)
          go_roundw
          case rel => exact ⟨6, by omega, by omega, rfl, HP7⟩
          case measure => decide
    · obtain rfl : z = 6 := by omega
      go_wp2_with (fail)
      go_ret
      exact ⟨_, rfl, HP.out⟩
theorem parts12_any (w : World) (hK : KindsAt w) : Calls Tryz.prog 45 #[.int .i64 12] w fun e w' => ∃ v, e = .returned v ∧ PartsAt w [72, 77, 82, 82, 114] v w' :=
  parts_any 12 (by omega) parts12 rfl (fun z hz w => step12 z hz w) (fun z => by unfold parts12; split <;> simp) w hK
theorem parts17_any (w : World) (hK : KindsAt w) : Calls Tryz.prog 45 #[.int .i64 17] w fun e w' => ∃ v, e = .returned v ∧ PartsAt w [72, 77, 114] v w' :=
  parts_any 17 (by omega) parts17 rfl (fun z hz w => step17 z hz w) (fun z => by unfold parts17; split <;> simp) w hK
end Go.Proofs.YtfcjkkjgedcgpaaGreatDoor
