/- SameUpdates where they are the same. -/
import Derived.Test.YtfcjkkjgedcgpaaGreatDoorUpdI

namespace Go.Proofs.YtfcjkkjgedcgpaaGreatDoor
open Go.RowKit
set_option linter.unusedSimpArgs false
set_option linter.unusedVariables false
set_option maxHeartbeats 8000000
set_option maxRecDepth 100000
attribute [local go_sem] Up.agg Up.cells

theorem sameUps_any (A C : Option Addr) (n c d B D : Nat) (la lb : List Up) (w : World) (h1 : UpsIn w B A n la) (h2 : UpsIn w D C n lb) (hv : la.map Up.val = lb.map Up.val) (hB : B ≤ w.heap.size) (hD : D ≤ w.heap.size) (hn : n ≤ 1000000) (hds : ∀ u ∈ la, u.n ≤ 1000000) :
    Calls Tryz.prog 19 #[.slice A n c, .slice C n d] w fun e w' => e = .returned (.bool true) ∧ Below w.heap.size w w' := by
  have H1 := Lib.hid h1
  have H2 := Lib.hid h2
  have HV := Lib.hid hv
  have HD := Lib.hid hds
  have hn1 : (n : Int) ≤ 1000000 := by omega
  have HB0 : Hid (Below w.heap.size w w) := Lib.hid (Below.refl _ _)
  clear h1 h2 hv hds
  go_enter Tryz.func19, Tryz.ntmps19
  go_wp2
  go_loopw [5] (fun i wr => ∃ k : Nat, k ≤ n ∧ i = .int .i64 k ∧ Hid (Below w.heap.size w wr)) (fun i _ => n - (intOf i).toNat)
  case atStart => exact ⟨0, by omega, rfl, HB0⟩
  case round =>
    clear HB0
    obtain ⟨k, hk, rfl, HB⟩ := hrel
    by_cases hlt : k < n
    · obtain ⟨b1, o1, u, rfl, hb1, hu1, hin1, p0, p1, p2, p3, p4, p5, p6⟩ := (H1.out.below (HB.out.mono hB)).at_ hlt
      obtain ⟨b2, o2, u', rfl, hb2, hu2, hin2, r0, r1, r2, r3, r4, r5, r6⟩ := (H2.out.below (HB.out.mono hD)).at_ hlt
      have hval : u.val = u'.val := by
        have h := congrArg (·[k]?) HV.out
        simp only [List.getElem?_map, hu1, hu2, Option.map_some, Option.some.injEq] at h
        exact h
      have hun := HD.out u (List.mem_of_getElem? hu1)
      have he := up_of_val hval
      obtain ⟨A2, n2, c2, rfl⟩ : ∃ A2 n2 c2, u' = { u with A := A2, n := n2, c := c2 } := ⟨_, _, _, he⟩
      simp only [] at r0 r1 r2 r3 r4 r5 r6
      have hlt' : (k : Int) < n := by omega
      have HI1 := Lib.hid hin1
      have HI2 := Lib.hid hin2
      have hsz := HB.out.size
      have hb1 : b1 < wr.heap.size := by omega
      have hb2 : b2 < wr.heap.size := by omega
      have hBw : B ≤ wr.heap.size := by omega
      have hDw : D ≤ wr.heap.size := by omega
      clear hin1 hin2 hval he hu1 hu2 hsz
      go_wp2_with (fail)
      go_region_held3 (fun w' => w'.cell? ⟨b1, o1 + k * 7, none⟩ = some (.int .u64 u.seq) ∧ w'.cell? ⟨b1, o1 + k * 7 + 1, none⟩ = some (.int .i64 u.cl) ∧ w'.cell? ⟨b1, o1 + k * 7 + 2, none⟩ = some (.int .u64 u.num) ∧ w'.cell? ⟨b1, o1 + k * 7 + 3, none⟩ = some (.int .i64 u.kd) ∧ w'.cell? ⟨b1, o1 + k * 7 + 4, none⟩ = some (.int .u32 u.key) ∧ w'.cell? ⟨b1, o1 + k * 7 + 5, none⟩ = some (.int .u64 u.ver) ∧ w'.cell? ⟨b1, o1 + k * 7 + 6, none⟩ = some (.slice u.A u.n u.c) ∧ w'.cell? ⟨b2, o2 + k * 7, none⟩ = some (.int .u64 u.seq) ∧ w'.cell? ⟨b2, o2 + k * 7 + 1, none⟩ = some (.int .i64 u.cl) ∧ w'.cell? ⟨b2, o2 + k * 7 + 2, none⟩ = some (.int .u64 u.num) ∧ w'.cell? ⟨b2, o2 + k * 7 + 3, none⟩ = some (.int .i64 u.kd) ∧ w'.cell? ⟨b2, o2 + k * 7 + 4, none⟩ = some (.int .u32 u.key) ∧ w'.cell? ⟨b2, o2 + k * 7 + 5, none⟩ = some (.int .u64 u.ver) ∧ w'.cell? ⟨b2, o2 + k * 7 + 6, none⟩ = some (.slice A2 n2 c2)) (go_keep) (first
        | (go_at_call 30; refine (sameUp_any u A2 n2 c2 B D _ ?_ ?_ ?_ ?_ hun).mono ?_; (· exact HI1.out.below (Below.mono (by repeat (first | with_reducible exact Below.refl _ _ | with_reducible refine Below.alloc ?_ (by simp <;> omega) _ | with_reducible refine below_drewN ?_ _ | with_reducible refine Below.drew ?_)) hBw)); (· exact HI2.out.below (Below.mono (by repeat (first | with_reducible exact Below.refl _ _ | with_reducible refine Below.alloc ?_ (by simp <;> omega) _ | with_reducible refine below_drewN ?_ _ | with_reducible refine Below.drew ?_)) hDw)); (· exact hBw); (· exact hDw); rintro e w9 ⟨rfl, h⟩; replace p0 := cell_relay p0 hb1 h (by repeat (first | with_reducible exact Below.refl _ _ | with_reducible refine Below.alloc ?_ (by simp <;> omega) _ | with_reducible refine below_drewN ?_ _ | with_reducible refine Below.drew ?_)); replace p1 := cell_relay p1 hb1 h (by repeat (first | with_reducible exact Below.refl _ _ | with_reducible refine Below.alloc ?_ (by simp <;> omega) _ | with_reducible refine below_drewN ?_ _ | with_reducible refine Below.drew ?_)); replace p2 := cell_relay p2 hb1 h (by repeat (first | with_reducible exact Below.refl _ _ | with_reducible refine Below.alloc ?_ (by simp <;> omega) _ | with_reducible refine below_drewN ?_ _ | with_reducible refine Below.drew ?_)); replace p3 := cell_relay p3 hb1 h (by repeat (first | with_reducible exact Below.refl _ _ | with_reducible refine Below.alloc ?_ (by simp <;> omega) _ | with_reducible refine below_drewN ?_ _ | with_reducible refine Below.drew ?_)); replace p4 := cell_relay p4 hb1 h (by repeat (first | with_reducible exact Below.refl _ _ | with_reducible refine Below.alloc ?_ (by simp <;> omega) _ | with_reducible refine below_drewN ?_ _ | with_reducible refine Below.drew ?_)); replace p5 := cell_relay p5 hb1 h (by repeat (first | with_reducible exact Below.refl _ _ | with_reducible refine Below.alloc ?_ (by simp <;> omega) _ | with_reducible refine below_drewN ?_ _ | with_reducible refine Below.drew ?_)); replace p6 := cell_relay p6 hb1 h (by repeat (first | with_reducible exact Below.refl _ _ | with_reducible refine Below.alloc ?_ (by simp <;> omega) _ | with_reducible refine below_drewN ?_ _ | with_reducible refine Below.drew ?_)); replace r0 := cell_relay r0 hb2 h (by repeat (first | with_reducible exact Below.refl _ _ | with_reducible refine Below.alloc ?_ (by simp <;> omega) _ | with_reducible refine below_drewN ?_ _ | with_reducible refine Below.drew ?_)); replace r1 := cell_relay r1 hb2 h (by repeat (first | with_reducible exact Below.refl _ _ | with_reducible refine Below.alloc ?_ (by simp <;> omega) _ | with_reducible refine below_drewN ?_ _ | with_reducible refine Below.drew ?_)); replace r2 := cell_relay r2 hb2 h (by repeat (first | with_reducible exact Below.refl _ _ | with_reducible refine Below.alloc ?_ (by simp <;> omega) _ | with_reducible refine below_drewN ?_ _ | with_reducible refine Below.drew ?_)); replace r3 := cell_relay r3 hb2 h (by repeat (first | with_reducible exact Below.refl _ _ | with_reducible refine Below.alloc ?_ (by simp <;> omega) _ | with_reducible refine below_drewN ?_ _ | with_reducible refine Below.drew ?_)); replace r4 := cell_relay r4 hb2 h (by repeat (first | with_reducible exact Below.refl _ _ | with_reducible refine Below.alloc ?_ (by simp <;> omega) _ | with_reducible refine below_drewN ?_ _ | with_reducible refine Below.drew ?_)); replace r5 := cell_relay r5 hb2 h (by repeat (first | with_reducible exact Below.refl _ _ | with_reducible refine Below.alloc ?_ (by simp <;> omega) _ | with_reducible refine below_drewN ?_ _ | with_reducible refine Below.drew ?_)); replace r6 := cell_relay r6 hb2 h (by repeat (first | with_reducible exact Below.refl _ _ | with_reducible refine Below.alloc ?_ (by simp <;> omega) _ | with_reducible refine below_drewN ?_ _ | with_reducible refine Below.drew ?_)); replace HB := Lib.hid (HB.out.trans ((relay h (by repeat (first | with_reducible exact Below.refl _ _ | with_reducible refine Below.alloc ?_ (by simp <;> omega) _ | with_reducible refine below_drewN ?_ _ | with_reducible refine Below.drew ?_))).mono HB.out.size)); clear h)
        | fail)
      all_goals
        go_wp2_with (fail)
        go_roundw
        case rel => first | exact ⟨k + 1, by omega, by go_num, HB⟩ | ((repeat apply Exists.intro); exact ⟨⟨k + 1, by omega, by go_num, HB⟩, rfl⟩)
        case measure => simp [intOf]; omega
    · obtain rfl : k = n := by omega
      go_wp2
      go_ret
      exact ⟨rfl, HB.out⟩
end Go.Proofs.YtfcjkkjgedcgpaaGreatDoor
