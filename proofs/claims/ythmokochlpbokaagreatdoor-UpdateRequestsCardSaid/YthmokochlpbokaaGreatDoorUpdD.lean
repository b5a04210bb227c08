/- Outcome; the closures; pick. -/
import Derived.Test.YthmokochlpbokaaGreatDoorUpdC
namespace Go.Proofs.YthmokochlpbokaaGreatDoor
open Go.RowKit
set_option linter.unusedSimpArgs false
set_option linter.unusedVariables false
set_option maxHeartbeats 2000000
attribute [local go_sem] Up.agg Up.cells

def outc (u : Up) (ver : Int) (room : Bool) : Int × Int × Bool :=
  if writesB u.kd = false then (1, ver, false) else if u.kd = 3 ∧ u.ver ≠ ver then (11, ver, false) else if (ver = 0 ∧ room = false) ∨ ver = 18446744073709551615 then (9, ver, false) else (0, ver + 1, true)
theorem outcome_any (u : Up) (ver : Int) (room : Bool) (w : World) (h0 : 0 ≤ ver) (h1 : ver ≤ 18446744073709551615) :
    Calls Tryz.prog 7 #[u.agg, .int .u64 ver, .bool room] w fun e w' => e = .returned (.tuple #[.int .i64 (outc u ver room).1, .int .u64 (outc u ver room).2.1, .bool (outc u ver room).2.2]) ∧ Below w.heap.size w w' := by
  cases hw : writesB u.kd
  · have hv : Hid (outc u ver room = (1, ver, false)) := Lib.hid (by rw [outc, if_pos hw])
    rw [hv.out]
    have HB : Hid (Below w.heap.size w (w.alloc (.cells u.cells 26))) := Lib.hid ((Below.refl _ _).alloc (Nat.le_refl _) _)
    go_enter Tryz.func7, Tryz.ntmps7
    go_wp2_with (first | (go_at_call 20; refine (writes_any _ _).mono ?_; rintro e w' ⟨rfl, rfl⟩) | fail)
    go_ret3
    exact ⟨rfl, HB.out⟩
  have hk : u.kd = 2 ∨ u.kd = 3 := by simpa [writesB] using hw
  have HB : Hid (Below w.heap.size w (w.alloc (.cells u.cells 26))) := Lib.hid ((Below.refl _ _).alloc (Nat.le_refl _) _)
  by_cases hm : u.kd = 3 ∧ u.ver ≠ ver
  · have hv : Hid (outc u ver room = (11, ver, false)) := Lib.hid (by rw [outc, if_neg (by simp [hw]), if_pos hm])
    rw [hv.out]
    have m1 : (u.kd == 3) = true := by simp [hm.1]
    have m2 : (u.ver != ver) = true := by simp [hm.2]
    clear hk hm
    go_enter Tryz.func7, Tryz.ntmps7
    go_wp2_with (first | (go_at_call 20; refine (writes_any _ _).mono ?_; rintro e w' ⟨rfl, rfl⟩) | fail)
    go_ret3
    exact ⟨rfl, HB.out⟩
  have hm' : (u.kd == 3) = false ∨ ((u.kd == 3) = true ∧ (u.ver != ver) = false) := by
    by_cases h3 : u.kd = 3
    · exact .inr ⟨by simp [h3], by simpa [h3] using hm⟩
    · exact .inl (by simp [h3])
  by_cases hf : (ver = 0 ∧ room = false) ∨ ver = 18446744073709551615
  · have hv : Hid (outc u ver room = (9, ver, false)) := Lib.hid (by rw [outc, if_neg (by simp [hw]), if_neg hm, if_pos hf])
    rw [hv.out]
    clear hk hm
    by_cases hf1 : ver = 0 ∧ room = false
    · obtain ⟨rfl, rfl⟩ := hf1
      clear hf
      rcases hm' with m1 | ⟨m1, m2⟩
      all_goals
        go_enter Tryz.func7, Tryz.ntmps7
        go_wp2_with (first | (go_at_call 20; refine (writes_any _ _).mono ?_; rintro e w' ⟨rfl, rfl⟩) | fail)
        go_ret3
        exact ⟨rfl, HB.out⟩
    · obtain rfl : ver = 18446744073709551615 := by rcases hf with h | h; exact absurd h hf1; exact h
      clear hf hf1
      rcases hm' with m1 | ⟨m1, m2⟩
      all_goals
        go_enter Tryz.func7, Tryz.ntmps7
        go_wp2_with (first | (go_at_call 20; refine (writes_any _ _).mono ?_; rintro e w' ⟨rfl, rfl⟩) | fail)
        go_ret3
        exact ⟨rfl, HB.out⟩
  · have hv : Hid (outc u ver room = (0, ver + 1, true)) := Lib.hid (by rw [outc, if_neg (by simp [hw]), if_neg hm, if_neg hf])
    rw [hv.out]
    clear hk hm
    have hn : ver ≠ 18446744073709551615 := fun e => hf (.inr e)
    have v2 : (ver == 18446744073709551615) = false := by simp [hn]
    have v3 : IntKind.u64.wrap (ver + 1) = ver + 1 := by rw [IntKind.wrap_u64]; omega
    by_cases hz : ver = 0
    · obtain rfl : room = true := by
        cases room
        · exact absurd (.inl ⟨hz, rfl⟩) hf
        · rfl
      subst hz
      clear hf hn h0 h1 v2 v3
      rcases hm' with m1 | ⟨m1, m2⟩
      all_goals
        go_enter Tryz.func7, Tryz.ntmps7
        go_wp2_with (first | (go_at_call 20; refine (writes_any _ _).mono ?_; rintro e w' ⟨rfl, rfl⟩) | fail)
        go_ret3
        exact ⟨rfl, HB.out⟩
    · have v1 : (ver == 0) = false := by simp [hz]
      clear hf hn h0 h1 hz
      rcases hm' with m1 | ⟨m1, m2⟩
      all_goals
        go_enter Tryz.func7, Tryz.ntmps7
        go_wp2_with (first | (go_at_call 20; refine (writes_any _ _).mono ?_; rintro e w' ⟨rfl, rfl⟩) | fail)
        go_ret3
        exact ⟨rfl, HB.out⟩

end Go.Proofs.YthmokochlpbokaaGreatDoor
