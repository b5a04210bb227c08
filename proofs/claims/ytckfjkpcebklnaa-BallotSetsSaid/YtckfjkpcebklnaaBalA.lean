/- Contracts of the small functions of packages ballot and catenaryref07: what each computes, as a plain function of integers. -/
import Derived.Test.YtckfjkpcebklnaaRows
import Derived.Test.YtckfjkpcebklnaaAux
import Derived.WalkKit
import Derived.WalkLawsBesides
import Derived.WalkSpells
import Derived.Outline
import Derived.Lib.Hide
namespace Go.Proofs.Ytckfjkpcebklnaa
open Go.RowKit
set_option linter.unusedSimpArgs false
set_option linter.unusedVariables false

def masterB (who : Int) : Bool := decide (1 ≤ who) && decide (who ≤ 5)
theorem masterB_iff (who : Int) : masterB who = true ↔ 1 ≤ who ∧ who ≤ 5 := by simp [masterB]

theorem master_any (who : Int) (w : World) :
    Calls Try.prog 32 #[.int .i64 who] w fun e w' => e = .returned (.bool (masterB who)) ∧ w = w' := by
  unfold masterB
  by_cases h1 : 1 ≤ who
  all_goals by_cases h2 : who ≤ 5
  all_goals
    go_enter Try.func32, Try.ntmps32
    go_wp2
    go_ret
    exact ⟨by simp; omega, rfl⟩

theorem refMaster_any (who : Int) (w : World) :
    Calls Try.prog 33 #[.int .i64 who] w fun e w' => e = .returned (.bool (masterB who)) ∧ w = w' := by
  unfold masterB
  by_cases h1 : 1 ≤ who
  all_goals by_cases h2 : who ≤ 5
  all_goals
    go_enter Try.func33, Try.ntmps33
    go_wp2
    go_ret
    exact ⟨by simp; omega, rfl⟩

def isOf (r who : Int) : Prop := 1 ≤ r ∧ r < 1152921504606846976 ∧ 1 ≤ who ∧ who ≤ 5
instance (r who : Int) : Decidable (isOf r who) := by unfold isOf; infer_instance
def ofV (r who : Int) : Int := if isOf r who then 8 * r + who else 0
def ofE (r who : Int) : Int := if isOf r who then 0 else 1
def isB (b : Int) : Bool := decide (isOf (b / 8) (b % 8))
theorem ofV_yes (r who : Int) (h : isOf r who) : 8 * r + who = ofV r who := by rw [ofV, if_pos h]
theorem ofV_yes' (r who : Int) (h : isOf r who) : r * 8 + who = ofV r who := by rw [ofV, if_pos h, Int.mul_comm]
theorem ofE_yes (r who : Int) (h : isOf r who) : 0 = ofE r who := by rw [ofE, if_pos h]
theorem ofV_no (r who : Int) (h : ¬ isOf r who) : 0 = ofV r who := by rw [ofV, if_neg h]
theorem ofE_no (r who : Int) (h : ¬ isOf r who) : 1 = ofE r who := by rw [ofE, if_neg h]
theorem isB_yes (b : Int) (h : isOf (b / 8) (b % 8)) : true = isB b := by rw [isB, decide_eq_true h]
theorem isB_no (b : Int) (h : ¬ isOf (b / 8) (b % 8)) : false = isB b := by rw [isB, decide_eq_false h]

theorem of_any (r who : Int) (w : World) (h0 : 0 ≤ r) (h1 : r < 18446744073709551616) :
    Calls Try.prog 11 #[.int .u64 r, .int .i64 who] w fun e w' => e = .returned (.tuple #[.int .u64 (ofV r who), .int .i64 (ofE r who)]) ∧ w = w' := by
  by_cases a : 1 ≤ r
  all_goals by_cases b : r < 1152921504606846976
  all_goals by_cases c : 1 ≤ who
  all_goals by_cases d : who ≤ 5
  all_goals first | (exfalso; omega) | skip
  all_goals
    go_enter Try.func11, Try.ntmps11
    go_wp2
    go_ret2
    first
      | exact ⟨ret_ii (ofV_yes r who (by unfold isOf; omega)) (ofE_yes r who (by unfold isOf; omega)), rfl⟩
      | exact ⟨ret_ii (ofV_no r who (by unfold isOf; omega)) (ofE_no r who (by unfold isOf; omega)), rfl⟩

theorem refOf_any (r who : Int) (w : World) (h0 : 0 ≤ r) (h1 : r < 18446744073709551616) :
    Calls Try.prog 12 #[.int .u64 r, .int .i64 who] w fun e w' => e = .returned (.tuple #[.int .u64 (ofV r who), .int .i64 (ofE r who)]) ∧ w = w' := by
  by_cases a : 1 ≤ r
  all_goals by_cases b : r < 1152921504606846976
  all_goals by_cases c : 1 ≤ who
  all_goals by_cases d : who ≤ 5
  all_goals first | (exfalso; omega) | skip
  all_goals
    go_enter Try.func12, Try.ntmps12
    go_wp2
    go_ret2
    first
      | exact ⟨ret_ii (ofV_yes' r who (by unfold isOf; omega)) (ofE_yes r who (by unfold isOf; omega)), rfl⟩
      | exact ⟨ret_ii (ofV_no r who (by unfold isOf; omega)) (ofE_no r who (by unfold isOf; omega)), rfl⟩

theorem is_any (b : Int) (w : World) (h0 : 0 ≤ b) (h1 : b < 18446744073709551616) :
    Calls Try.prog 13 #[.int .u64 b] w fun e w' => e = .returned (.bool (isB b)) ∧ w = w' := by
  by_cases a : 1 ≤ b / 8
  all_goals by_cases b1 : b / 8 < 1152921504606846976
  all_goals by_cases c : 1 ≤ b % 8
  all_goals by_cases d : b % 8 ≤ 5
  all_goals first | (exfalso; omega) | skip
  all_goals
    go_enter Try.func13, Try.ntmps13
    go_wp2
    go_ret
    first
      | exact ⟨ret_bool (isB_yes b (by unfold isOf; omega)), rfl⟩
      | exact ⟨ret_bool (isB_no b (by unfold isOf; omega)), rfl⟩

theorem refIs_any (b : Int) (w : World) (h0 : 0 ≤ b) (h1 : b < 18446744073709551616) :
    Calls Try.prog 14 #[.int .u64 b] w fun e w' => e = .returned (.bool (isB b)) ∧ w = w' := by
  by_cases a : isOf (b / 8) (b % 8)
  all_goals
    go_enter Try.func14, Try.ntmps14
    go_wp2_with (go_at_call 12; refine (refOf_any _ _ _ (by omega) (by omega)).mono ?_; rintro e w' ⟨rfl, rfl⟩)
    go_ret
    first
      | exact ⟨ret_bool (by rw [ofE, if_pos a, isB, decide_eq_true a]; rfl), rfl⟩
      | exact ⟨ret_bool (by rw [ofE, if_neg a, isB, decide_eq_false a]; rfl), rfl⟩

end Go.Proofs.Ytckfjkpcebklnaa
