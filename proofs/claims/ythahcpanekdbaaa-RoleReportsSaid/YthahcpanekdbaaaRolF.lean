/- The law's awake; RoleIs. -/
import Derived.Test.YthahcpanekdbaaaRolE
import Derived.Laws.StructEq

namespace Go.Proofs.Ythahcpanekdbaaa
open Go.RowKit
set_option linter.unusedSimpArgs false
set_option linter.unusedVariables false
set_option maxHeartbeats 4000000
attribute [local go_sem] Cf.agg Cf.cells Rl.agg

def awkCf (g : Nat) : Cf := ⟨0, 1, some ⟨g, 0, none⟩, 3, 3, false, 4, [1, 2, 3]⟩
theorem awk_right (g : Nat) : (awkCf g).right = true := by
  have hu : Unl (awkCf g).stands := by
    intro k z hz
    have h4 : (awkCf g).stands = [1, 2, 3, 4] := rfl
    rw [h4] at hz ⊢
    match k, hz with
    | 0, hz => injection hz with hz; subst hz; decide
    | 1, hz => injection hz with hz; subst hz; decide
    | 2, hz => injection hz with hz; subst hz; decide
    | 3, hz => injection hz with hz; subst hz; decide
    | k + 4, hz => simp at hz
  unfold Cf.right
  rw [Bool.and_eq_true, decide_eq_true_eq, unlikeB_iff]
  exact ⟨by simp [Cf.fine, awkCf], hu⟩
theorem awk_role (g : Nat) : (awkCf g).role 3 = ⟨true, false, false, true, false, 2, 2, 4⟩ := by
  rw [Cf.role, if_pos ⟨awk_right g, by decide⟩]; rfl
theorem awk_in (w : World) : CfIn (w.alloc (.cells #[.int .i64 1, .int .i64 2, .int .i64 3] 3)) (w.heap.size + 1) (awkCf w.heap.size) :=
  ⟨⟨rfl, fun _ => ⟨_, rfl, Nat.lt_succ_self _, fun j u hu => cells_new w _ _ j u hu⟩⟩, show (3 : Nat) ≤ 3 from Nat.le_refl _, show (3 : Nat) ≤ maxLen by decide⟩
theorem awake_any (w : World) : Calls Try.prog 8 #[] w fun e w' => e = .returned (.bool true) ∧ Below w.heap.size w w' := by
  have O := of_any (awkCf w.heap.size) 3 (w.heap.size + 1) _ (awk_in w) (by simp)
  rw [awk_role] at O
  have HO := Lib.hid O
  clear O
  go_enter Try.func8, Try.ntmps8
  go_wp2_with (fail)
  refine HO.out.mono ?_
  rintro e w1 ⟨rfl, h⟩
  have H := Lib.hid (((Below.refl _ _).alloc (Nat.le_refl w.heap.size) _).trans (h.mono (by simp)))
  clear h
  go_wp2
  go_ret
  exact ⟨rfl, H.out.alloc H.out.size _⟩



theorem roleIs_law (x : Cf) (node pick : Int) (hp : pick ≤ 9223372036854775807) (w : World) (hx : CfIn w w.heap.size x) :
    Calls Try.prog 4 #[x.agg, .int .i64 node, .int .i64 pick] w fun e w' => e = .returned (.bool true) ∧ Below w.heap.size w w' := by
  by_cases hlen : 30 < x.len
  · have hl : (30 : Int) < x.len := by omega
    go_enter Try.func4, Try.ntmps4
    go_wp2_with (fail)
    refine (awake_any _).mono ?_
    rintro e w1 ⟨rfl, h⟩
    have H := Lib.hid (box_below h)
    clear h
    go_wp2
    go_ret
    exact ⟨rfl, H.out⟩
  have hl : (x.len : Int) ≤ 30 := by omega
  obtain ⟨B, hBe⟩ : ∃ B, B = w.heap.size := ⟨_, rfl⟩
  have hB : B ≤ w.heap.size := by omega
  have HX : Hid (CfIn w B x) := Lib.hid (by rw [hBe]; exact hx)
  have O1 := fun w => of_any x node B w
  have O2 := fun w => refOf_any x node B w
  clear hx hBe hlen
  generalize x.role node = r at O1 O2
  obtain ⟨ra, rb, rc, rd, re, rf, rg, rh⟩ := r
  have HBX : Hid (Blk (w.alloc (.cells x.cells 25)) w.heap.size 25 x.cells) := Lib.hid (Blk.new _ _ _)
  have H1 : Hid (Below w.heap.size w (w.alloc (.cells x.cells 25))) := Lib.hid ((Below.refl _ _).alloc (Nat.le_refl _) _)
  have HX1 : Hid (CfIn (w.alloc (.cells x.cells 25)) B x) := Lib.hid (HX.out.alloc hB _)
  have hBw : B ≤ (w.alloc (.cells x.cells 25)).heap.size := by simp; omega
  go_enter Try.func4, Try.ntmps4
  go_wp2_with (fail)
  unfold Cf.cells at H1 HX1 hBw
  have HBX : Hid (Blk (w.alloc (.cells #[.int .i64 x.ch, .int .u64 x.ep, .slice x.A x.len x.cap, .bool x.fr, .int .i64 x.jn] 25)) w.heap.size 25 x.cells) := HBX
  generalize w.alloc (.cells #[.int .i64 x.ch, .int .u64 x.ep, .slice x.A x.len x.cap, .bool x.fr, .int .i64 x.jn] 25) = w1 at *
  obtain ⟨c0, c1, c2, c3, c4⟩ := cf_cells (x := x) HBX.out
  have q5 := HBX.out.lt
  go_region_held3 (fun w' => w'.cell? ⟨w.heap.size, 0, none⟩ = some (.int .i64 x.ch) ∧ w'.cell? ⟨w.heap.size, 1, none⟩ = some (.int .u64 x.ep) ∧ w'.cell? ⟨w.heap.size, 2, none⟩ = some (.slice x.A x.len x.cap) ∧ w'.cell? ⟨w.heap.size, 3, none⟩ = some (.bool x.fr) ∧ w'.cell? ⟨w.heap.size, 4, none⟩ = some (.int .i64 x.jn)) (go_keep) (first | (go_at_call 7; refine (O1 _ ?_ ?_).mono ?_; (· repeat (first | with_reducible refine CfIn.alloc ?_ (by first | omega | (simp; omega)) _ | with_reducible refine CfIn.drewN ?_ _ | with_reducible refine CfIn.drew ?_ | with_reducible exact HX1.out)); (· first | omega | (simp; omega)); rintro e w6 ⟨rfl, h⟩; replace H1 := Lib.hid (below_relay H1.out q5 h (by repeat (first | with_reducible exact Below.refl _ _ | with_reducible refine Below.alloc ?_ (by simp <;> omega) _ | with_reducible refine below_drewN ?_ _ | with_reducible refine Below.drew ?_))); replace HX1 := Lib.hid (cf_relay HX1.out hBw h (by repeat (first | with_reducible exact Below.refl _ _ | with_reducible refine Below.alloc ?_ (by simp <;> omega) _ | with_reducible refine below_drewN ?_ _ | with_reducible refine Below.drew ?_))); replace HBX := Lib.hid (blk_relay HBX.out h (by repeat (first | with_reducible exact Below.refl _ _ | with_reducible refine Below.alloc ?_ (by simp <;> omega) _ | with_reducible refine below_drewN ?_ _ | with_reducible refine Below.drew ?_))); replace hBw := le_relay hBw h (by repeat (first | with_reducible exact Below.refl _ _ | with_reducible refine Below.alloc ?_ (by simp <;> omega) _ | with_reducible refine below_drewN ?_ _ | with_reducible refine Below.drew ?_)); clear c0 c1 c2 c3 c4 q5; obtain ⟨c0, c1, c2, c3, c4⟩ := cf_cells (x := x) HBX.out; have q5 := HBX.out.lt; clear h) | (go_at_call 10; refine (O2 _ ?_ ?_).mono ?_; (· repeat (first | with_reducible refine CfIn.alloc ?_ (by first | omega | (simp; omega)) _ | with_reducible refine CfIn.drewN ?_ _ | with_reducible refine CfIn.drew ?_ | with_reducible exact HX1.out)); (· first | omega | (simp; omega)); rintro e w6 ⟨rfl, h⟩; replace H1 := Lib.hid (below_relay H1.out q5 h (by repeat (first | with_reducible exact Below.refl _ _ | with_reducible refine Below.alloc ?_ (by simp <;> omega) _ | with_reducible refine below_drewN ?_ _ | with_reducible refine Below.drew ?_))); replace HX1 := Lib.hid (cf_relay HX1.out hBw h (by repeat (first | with_reducible exact Below.refl _ _ | with_reducible refine Below.alloc ?_ (by simp <;> omega) _ | with_reducible refine below_drewN ?_ _ | with_reducible refine Below.drew ?_))); replace HBX := Lib.hid (blk_relay HBX.out h (by repeat (first | with_reducible exact Below.refl _ _ | with_reducible refine Below.alloc ?_ (by simp <;> omega) _ | with_reducible refine below_drewN ?_ _ | with_reducible refine Below.drew ?_))); replace hBw := le_relay hBw h (by repeat (first | with_reducible exact Below.refl _ _ | with_reducible refine Below.alloc ?_ (by simp <;> omega) _ | with_reducible refine below_drewN ?_ _ | with_reducible refine Below.drew ?_)); clear c0 c1 c2 c3 c4 q5; obtain ⟨c0, c1, c2, c3, c4⟩ := cf_cells (x := x) HBX.out; have q5 := HBX.out.lt; clear h) | (go_at_call 9; refine (head_any x B _ ?_ ?_).mono ?_; (· repeat (first | with_reducible refine CfIn.alloc ?_ (by first | omega | (simp; omega)) _ | with_reducible refine CfIn.drewN ?_ _ | with_reducible refine CfIn.drew ?_ | with_reducible exact HX1.out)); (· first | omega | (simp; omega)); rintro e w6 ⟨rfl, h⟩; replace H1 := Lib.hid (below_relay H1.out q5 h (by repeat (first | with_reducible exact Below.refl _ _ | with_reducible refine Below.alloc ?_ (by simp <;> omega) _ | with_reducible refine below_drewN ?_ _ | with_reducible refine Below.drew ?_))); replace HX1 := Lib.hid (cf_relay HX1.out hBw h (by repeat (first | with_reducible exact Below.refl _ _ | with_reducible refine Below.alloc ?_ (by simp <;> omega) _ | with_reducible refine below_drewN ?_ _ | with_reducible refine Below.drew ?_))); replace HBX := Lib.hid (blk_relay HBX.out h (by repeat (first | with_reducible exact Below.refl _ _ | with_reducible refine Below.alloc ?_ (by simp <;> omega) _ | with_reducible refine below_drewN ?_ _ | with_reducible refine Below.drew ?_))); replace hBw := le_relay hBw h (by repeat (first | with_reducible exact Below.refl _ _ | with_reducible refine Below.alloc ?_ (by simp <;> omega) _ | with_reducible refine below_drewN ?_ _ | with_reducible refine Below.drew ?_)); clear c0 c1 c2 c3 c4 q5; obtain ⟨c0, c1, c2, c3, c4⟩ := cf_cells (x := x) HBX.out; have q5 := HBX.out.lt; clear h) | (go_at_call 11; refine (refHead_any x B _ ?_ ?_).mono ?_; (· repeat (first | with_reducible refine CfIn.alloc ?_ (by first | omega | (simp; omega)) _ | with_reducible refine CfIn.drewN ?_ _ | with_reducible refine CfIn.drew ?_ | with_reducible exact HX1.out)); (· first | omega | (simp; omega)); rintro e w6 ⟨rfl, h⟩; replace H1 := Lib.hid (below_relay H1.out q5 h (by repeat (first | with_reducible exact Below.refl _ _ | with_reducible refine Below.alloc ?_ (by simp <;> omega) _ | with_reducible refine below_drewN ?_ _ | with_reducible refine Below.drew ?_))); replace HX1 := Lib.hid (cf_relay HX1.out hBw h (by repeat (first | with_reducible exact Below.refl _ _ | with_reducible refine Below.alloc ?_ (by simp <;> omega) _ | with_reducible refine below_drewN ?_ _ | with_reducible refine Below.drew ?_))); replace HBX := Lib.hid (blk_relay HBX.out h (by repeat (first | with_reducible exact Below.refl _ _ | with_reducible refine Below.alloc ?_ (by simp <;> omega) _ | with_reducible refine below_drewN ?_ _ | with_reducible refine Below.drew ?_))); replace hBw := le_relay hBw h (by repeat (first | with_reducible exact Below.refl _ _ | with_reducible refine Below.alloc ?_ (by simp <;> omega) _ | with_reducible refine below_drewN ?_ _ | with_reducible refine Below.drew ?_)); clear c0 c1 c2 c3 c4 q5; obtain ⟨c0, c1, c2, c3, c4⟩ := cf_cells (x := x) HBX.out; have q5 := HBX.out.lt; clear h) | (go_at_call 12; refine (tail_any x B _ ?_ ?_).mono ?_; (· repeat (first | with_reducible refine CfIn.alloc ?_ (by first | omega | (simp; omega)) _ | with_reducible refine CfIn.drewN ?_ _ | with_reducible refine CfIn.drew ?_ | with_reducible exact HX1.out)); (· first | omega | (simp; omega)); rintro e w6 ⟨rfl, h⟩; replace H1 := Lib.hid (below_relay H1.out q5 h (by repeat (first | with_reducible exact Below.refl _ _ | with_reducible refine Below.alloc ?_ (by simp <;> omega) _ | with_reducible refine below_drewN ?_ _ | with_reducible refine Below.drew ?_))); replace HX1 := Lib.hid (cf_relay HX1.out hBw h (by repeat (first | with_reducible exact Below.refl _ _ | with_reducible refine Below.alloc ?_ (by simp <;> omega) _ | with_reducible refine below_drewN ?_ _ | with_reducible refine Below.drew ?_))); replace HBX := Lib.hid (blk_relay HBX.out h (by repeat (first | with_reducible exact Below.refl _ _ | with_reducible refine Below.alloc ?_ (by simp <;> omega) _ | with_reducible refine below_drewN ?_ _ | with_reducible refine Below.drew ?_))); replace hBw := le_relay hBw h (by repeat (first | with_reducible exact Below.refl _ _ | with_reducible refine Below.alloc ?_ (by simp <;> omega) _ | with_reducible refine below_drewN ?_ _ | with_reducible refine Below.drew ?_)); clear c0 c1 c2 c3 c4 q5; obtain ⟨c0, c1, c2, c3, c4⟩ := cf_cells (x := x) HBX.out; have q5 := HBX.out.lt; clear h) | (go_at_call 13; refine (refTail_any x B _ ?_ ?_).mono ?_; (· repeat (first | with_reducible refine CfIn.alloc ?_ (by first | omega | (simp; omega)) _ | with_reducible refine CfIn.drewN ?_ _ | with_reducible refine CfIn.drew ?_ | with_reducible exact HX1.out)); (· first | omega | (simp; omega)); rintro e w6 ⟨rfl, h⟩; replace H1 := Lib.hid (below_relay H1.out q5 h (by repeat (first | with_reducible exact Below.refl _ _ | with_reducible refine Below.alloc ?_ (by simp <;> omega) _ | with_reducible refine below_drewN ?_ _ | with_reducible refine Below.drew ?_))); replace HX1 := Lib.hid (cf_relay HX1.out hBw h (by repeat (first | with_reducible exact Below.refl _ _ | with_reducible refine Below.alloc ?_ (by simp <;> omega) _ | with_reducible refine below_drewN ?_ _ | with_reducible refine Below.drew ?_))); replace HBX := Lib.hid (blk_relay HBX.out h (by repeat (first | with_reducible exact Below.refl _ _ | with_reducible refine Below.alloc ?_ (by simp <;> omega) _ | with_reducible refine below_drewN ?_ _ | with_reducible refine Below.drew ?_))); replace hBw := le_relay hBw h (by repeat (first | with_reducible exact Below.refl _ _ | with_reducible refine Below.alloc ?_ (by simp <;> omega) _ | with_reducible refine below_drewN ?_ _ | with_reducible refine Below.drew ?_)); clear c0 c1 c2 c3 c4 q5; obtain ⟨c0, c1, c2, c3, c4⟩ := cf_cells (x := x) HBX.out; have q5 := HBX.out.lt; clear h) | (go_at_call 14; refine (reader_any x pick hp B _ ?_ ?_).mono ?_; (· repeat (first | with_reducible refine CfIn.alloc ?_ (by first | omega | (simp; omega)) _ | with_reducible refine CfIn.drewN ?_ _ | with_reducible refine CfIn.drew ?_ | with_reducible exact HX1.out)); (· first | omega | (simp; omega)); rintro e w6 ⟨rfl, h⟩; replace H1 := Lib.hid (below_relay H1.out q5 h (by repeat (first | with_reducible exact Below.refl _ _ | with_reducible refine Below.alloc ?_ (by simp <;> omega) _ | with_reducible refine below_drewN ?_ _ | with_reducible refine Below.drew ?_))); replace HX1 := Lib.hid (cf_relay HX1.out hBw h (by repeat (first | with_reducible exact Below.refl _ _ | with_reducible refine Below.alloc ?_ (by simp <;> omega) _ | with_reducible refine below_drewN ?_ _ | with_reducible refine Below.drew ?_))); replace HBX := Lib.hid (blk_relay HBX.out h (by repeat (first | with_reducible exact Below.refl _ _ | with_reducible refine Below.alloc ?_ (by simp <;> omega) _ | with_reducible refine below_drewN ?_ _ | with_reducible refine Below.drew ?_))); replace hBw := le_relay hBw h (by repeat (first | with_reducible exact Below.refl _ _ | with_reducible refine Below.alloc ?_ (by simp <;> omega) _ | with_reducible refine below_drewN ?_ _ | with_reducible refine Below.drew ?_)); clear c0 c1 c2 c3 c4 q5; obtain ⟨c0, c1, c2, c3, c4⟩ := cf_cells (x := x) HBX.out; have q5 := HBX.out.lt; clear h) | (go_at_call 15; refine (refReader_any x pick hp B _ ?_ ?_).mono ?_; (· repeat (first | with_reducible refine CfIn.alloc ?_ (by first | omega | (simp; omega)) _ | with_reducible refine CfIn.drewN ?_ _ | with_reducible refine CfIn.drew ?_ | with_reducible exact HX1.out)); (· first | omega | (simp; omega)); rintro e w6 ⟨rfl, h⟩; replace H1 := Lib.hid (below_relay H1.out q5 h (by repeat (first | with_reducible exact Below.refl _ _ | with_reducible refine Below.alloc ?_ (by simp <;> omega) _ | with_reducible refine below_drewN ?_ _ | with_reducible refine Below.drew ?_))); replace HX1 := Lib.hid (cf_relay HX1.out hBw h (by repeat (first | with_reducible exact Below.refl _ _ | with_reducible refine Below.alloc ?_ (by simp <;> omega) _ | with_reducible refine below_drewN ?_ _ | with_reducible refine Below.drew ?_))); replace HBX := Lib.hid (blk_relay HBX.out h (by repeat (first | with_reducible exact Below.refl _ _ | with_reducible refine Below.alloc ?_ (by simp <;> omega) _ | with_reducible refine below_drewN ?_ _ | with_reducible refine Below.drew ?_))); replace hBw := le_relay hBw h (by repeat (first | with_reducible exact Below.refl _ _ | with_reducible refine Below.alloc ?_ (by simp <;> omega) _ | with_reducible refine below_drewN ?_ _ | with_reducible refine Below.drew ?_)); clear c0 c1 c2 c3 c4 q5; obtain ⟨c0, c1, c2, c3, c4⟩ := cf_cells (x := x) HBX.out; have q5 := HBX.out.lt; clear h) | (go_at_call 8; refine (awake_any _).mono ?_; rintro e w6 ⟨rfl, h⟩; replace H1 := Lib.hid (below_relay H1.out q5 h (by repeat (first | with_reducible exact Below.refl _ _ | with_reducible refine Below.alloc ?_ (by simp <;> omega) _ | with_reducible refine below_drewN ?_ _ | with_reducible refine Below.drew ?_))); replace HX1 := Lib.hid (cf_relay HX1.out hBw h (by repeat (first | with_reducible exact Below.refl _ _ | with_reducible refine Below.alloc ?_ (by simp <;> omega) _ | with_reducible refine below_drewN ?_ _ | with_reducible refine Below.drew ?_))); replace HBX := Lib.hid (blk_relay HBX.out h (by repeat (first | with_reducible exact Below.refl _ _ | with_reducible refine Below.alloc ?_ (by simp <;> omega) _ | with_reducible refine below_drewN ?_ _ | with_reducible refine Below.drew ?_))); replace hBw := le_relay hBw h (by repeat (first | with_reducible exact Below.refl _ _ | with_reducible refine Below.alloc ?_ (by simp <;> omega) _ | with_reducible refine below_drewN ?_ _ | with_reducible refine Below.drew ?_)); clear c0 c1 c2 c3 c4 q5; obtain ⟨c0, c1, c2, c3, c4⟩ := cf_cells (x := x) HBX.out; have q5 := HBX.out.lt; clear h) | fail)
  all_goals
    go_wp2
    go_ret
    exact ⟨rfl, H1.out⟩
end Go.Proofs.Ythahcpanekdbaaa
