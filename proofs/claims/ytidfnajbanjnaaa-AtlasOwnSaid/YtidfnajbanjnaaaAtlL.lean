/- SameAll where they are the same. -/
import Derived.Test.YtidfnajbanjnaaaAtlK

namespace Go.Proofs.Ytidfnajbanjnaaa
open Go.RowKit
set_option linter.unusedSimpArgs false
set_option linter.unusedVariables false
set_option maxHeartbeats 8000000
set_option maxRecDepth 100000
attribute [local go_sem] Cf.agg Cf.cells

theorem sameAll_any (A C : Option Addr) (n c d B D : Nat) (la lb : List Cf) (w : World) (h1 : CfsIn w B A n la) (h2 : CfsIn w D C n lb) (hv : la.map Cf.val = lb.map Cf.val) (hB : B ≤ w.heap.size) (hD : D ≤ w.heap.size) (hn : n ≤ 1000000) :
    Calls Try.prog 14 #[.slice A n c, .slice C n d] w fun e w' => e = .returned (.bool true) ∧ Below w.heap.size w w' := by
  have H1 := Lib.hid h1
  have H2 := Lib.hid h2
  have HV := Lib.hid hv
  have hn1 : (n : Int) ≤ 1000000 := by omega
  have HB0 : Hid (Below w.heap.size w w) := Lib.hid (Below.refl _ _)
  clear h1 h2 hv
  go_enter Try.func14, Try.ntmps14
  go_wp2
  go_loopw [5] (fun i wr => ∃ k : Nat, k ≤ n ∧ i = .int .i64 k ∧ Hid (Below w.heap.size w wr)) (fun i _ => n - (intOf i).toNat)
  case atStart => exact ⟨0, by omega, rfl, HB0⟩
  case round =>
    clear HB0
    obtain ⟨k, hk, rfl, HB⟩ := hrel
    by_cases hlt : k < n
    · obtain ⟨b1, o1, x, rfl, hb1, hu1, hin1, p0, p1, p2, p3, p4⟩ := (H1.out.below (HB.out.mono hB)).at_ hlt
      obtain ⟨b2, o2, y, rfl, hb2, hu2, hin2, r0, r1, r2, r3, r4⟩ := (H2.out.below (HB.out.mono hD)).at_ hlt
      have hval : x.val = y.val := by
        have h := congrArg (·[k]?) HV.out
        simp only [List.getElem?_map, hu1, hu2, Option.map_some, Option.some.injEq] at h
        exact h
      have HVL := Lib.hid hval
      obtain ⟨A2, c2, rfl⟩ := val_eq hval hin1.len_eq hin2.len_eq
      simp only [] at r0 r1 r2 r3 r4
      have hlt' : (k : Int) < n := by omega
      have HI1 := Lib.hid hin1
      have HI2 := Lib.hid hin2
      have hsz := HB.out.size
      have hb1 : b1 < wr.heap.size := by omega
      have hb2 : b2 < wr.heap.size := by omega
      have hBw : B ≤ wr.heap.size := by omega
      have hDw : D ≤ wr.heap.size := by omega
      clear hin1 hin2 hval hu1 hu2 hsz
      go_wp2_with (fail)
      go_region_held3 (fun w' => w'.cell? ⟨b1, o1 + k * 5, none⟩ = some (.int .i64 x.ch) ∧ w'.cell? ⟨b1, o1 + k * 5 + 1, none⟩ = some (.int .u64 x.ep) ∧ w'.cell? ⟨b1, o1 + k * 5 + 2, none⟩ = some (.slice x.A x.len x.cap) ∧ w'.cell? ⟨b1, o1 + k * 5 + 3, none⟩ = some (.bool x.fr) ∧ w'.cell? ⟨b1, o1 + k * 5 + 4, none⟩ = some (.int .i64 x.jn) ∧ w'.cell? ⟨b2, o2 + k * 5, none⟩ = some (.int .i64 x.ch) ∧ w'.cell? ⟨b2, o2 + k * 5 + 1, none⟩ = some (.int .u64 x.ep) ∧ w'.cell? ⟨b2, o2 + k * 5 + 2, none⟩ = some (.slice A2 x.len c2) ∧ w'.cell? ⟨b2, o2 + k * 5 + 3, none⟩ = some (.bool x.fr) ∧ w'.cell? ⟨b2, o2 + k * 5 + 4, none⟩ = some (.int .i64 x.jn)) (go_keep) (first
        | (go_at_call 16; refine (same_any x ⟨x.ch, x.ep, A2, x.len, c2, x.fr, x.jn, x.zs⟩ B D _ ?_ ?_ ?_ ?_ ?_).mono ?_; (· exact HI1.out.below (Below.mono (by repeat (first | with_reducible exact Below.refl _ _ | with_reducible refine Below.alloc ?_ (by simp <;> omega) _ | with_reducible refine below_drewN ?_ _ | with_reducible refine Below.drew ?_)) hBw)); (· exact hBw); (· exact HI2.out.below (Below.mono (by repeat (first | with_reducible exact Below.refl _ _ | with_reducible refine Below.alloc ?_ (by simp <;> omega) _ | with_reducible refine below_drewN ?_ _ | with_reducible refine Below.drew ?_)) hDw)); (· exact hDw); (· exact HVL.out); rintro e w9 ⟨rfl, h⟩; replace p0 := cell_relay p0 hb1 h (by repeat (first | with_reducible exact Below.refl _ _ | with_reducible refine Below.alloc ?_ (by simp <;> omega) _ | with_reducible refine below_drewN ?_ _ | with_reducible refine Below.drew ?_)); replace p1 := cell_relay p1 hb1 h (by repeat (first | with_reducible exact Below.refl _ _ | with_reducible refine Below.alloc ?_ (by simp <;> omega) _ | with_reducible refine below_drewN ?_ _ | with_reducible refine Below.drew ?_)); replace p2 := cell_relay p2 hb1 h (by repeat (first | with_reducible exact Below.refl _ _ | with_reducible refine Below.alloc ?_ (by simp <;> omega) _ | with_reducible refine below_drewN ?_ _ | with_reducible refine Below.drew ?_)); replace p3 := cell_relay p3 hb1 h (by repeat (first | with_reducible exact Below.refl _ _ | with_reducible refine Below.alloc ?_ (by simp <;> omega) _ | with_reducible refine below_drewN ?_ _ | with_reducible refine Below.drew ?_)); replace p4 := cell_relay p4 hb1 h (by repeat (first | with_reducible exact Below.refl _ _ | with_reducible refine Below.alloc ?_ (by simp <;> omega) _ | with_reducible refine below_drewN ?_ _ | with_reducible refine Below.drew ?_)); replace r0 := cell_relay r0 hb2 h (by repeat (first | with_reducible exact Below.refl _ _ | with_reducible refine Below.alloc ?_ (by simp <;> omega) _ | with_reducible refine below_drewN ?_ _ | with_reducible refine Below.drew ?_)); replace r1 := cell_relay r1 hb2 h (by repeat (first | with_reducible exact Below.refl _ _ | with_reducible refine Below.alloc ?_ (by simp <;> omega) _ | with_reducible refine below_drewN ?_ _ | with_reducible refine Below.drew ?_)); replace r2 := cell_relay r2 hb2 h (by repeat (first | with_reducible exact Below.refl _ _ | with_reducible refine Below.alloc ?_ (by simp <;> omega) _ | with_reducible refine below_drewN ?_ _ | with_reducible refine Below.drew ?_)); replace r3 := cell_relay r3 hb2 h (by repeat (first | with_reducible exact Below.refl _ _ | with_reducible refine Below.alloc ?_ (by simp <;> omega) _ | with_reducible refine below_drewN ?_ _ | with_reducible refine Below.drew ?_)); replace r4 := cell_relay r4 hb2 h (by repeat (first | with_reducible exact Below.refl _ _ | with_reducible refine Below.alloc ?_ (by simp <;> omega) _ | with_reducible refine below_drewN ?_ _ | with_reducible refine Below.drew ?_)); replace HB := Lib.hid (HB.out.trans ((relay h (by repeat (first | with_reducible exact Below.refl _ _ | with_reducible refine Below.alloc ?_ (by simp <;> omega) _ | with_reducible refine below_drewN ?_ _ | with_reducible refine Below.drew ?_))).mono HB.out.size)); clear h)
        | fail)
      all_goals
        go_wp2_with (fail)
        go_roundw
        case rel => first | exact ⟨k + 1, by omega, by go_num, HB⟩ | ((repeat apply Exists.intro); exact ⟨⟨k + 1, by omega, by go_num, HB⟩, rfl⟩)
        case measure => simp [intOf]; omega
    · obtain rfl : k = n := by omega
      go_wp2
      go_ret
      exact ⟨rfl, HB.out⟩
end Go.Proofs.Ytidfnajbanjnaaa
