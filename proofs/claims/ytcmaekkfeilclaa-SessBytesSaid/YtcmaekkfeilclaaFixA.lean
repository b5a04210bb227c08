/- Contracts of package fix: known, fits, laid. -/
import Derived.Test.YtcmaekkfeilclaaMemA
import Derived.Test.YtcmaekkfeilclaaMemB
import Derived.Test.YtcmaekkfeilclaaRows
namespace Go.Proofs.Ytcmaekkfeilclaa
open Go.RowKit Go.Deep
set_option linter.unusedSimpArgs false
set_option linter.unusedVariables false
set_option maxHeartbeats 1000000

def knownB (w : Int) : Bool := decide (1 ≤ w) && decide (w ≤ 8)
theorem knownB_iff (w : Int) : knownB w = true ↔ 1 ≤ w ∧ w ≤ 8 := by simp [knownB]
theorem knownB_no (w : Int) (h : ¬ (1 ≤ w ∧ w ≤ 8)) : knownB w = false := by
  cases hh : knownB w
  · rfl
  · exact absurd ((knownB_iff w).1 hh) h
theorem known_any (i : Int) (w : World) :
    Calls Try.prog 41 #[.int .i64 i] w fun e w' => e = .returned (.bool (knownB i)) ∧ w = w' := by
  unfold knownB
  by_cases h1 : 1 ≤ i
  all_goals by_cases h2 : i ≤ 8
  all_goals
    go_enter Try.func41, Try.ntmps41
    go_wp2
    go_ret
    exact ⟨by simp; omega, rfl⟩

def fitsB (n : Nat) (w : Nat) : Bool := decide (n < 256 ^ w)
theorem pow256 (w : Nat) : 2 ^ (8 * w) = 256 ^ w := by rw [Nat.pow_mul]
theorem fits_eq (n k : Nat) : ((n : Int) / 2 ^ (8 * k) == 0) = fitsB n k := by
  have e : ((n : Int) / 2 ^ (8 * k)) = ((n / 256 ^ k : Nat) : Int) := by rw [← pow256]; simp
  rw [e, fitsB, Bool.eq_iff_iff, beq_iff_eq, decide_eq_true_eq]
  have hp : 0 < 256 ^ k := Nat.pow_pos (by decide)
  constructor
  · intro h
    have h0 : n / 256 ^ k = 0 := by omega
    exact (Nat.div_eq_zero_iff_lt hp).1 h0
  · intro h
    rw [Nat.div_eq_of_lt h]; rfl
theorem fits_any (n k : Nat) (hn : n < 18446744073709551616) (hk : 1 ≤ k) (hk8 : k ≤ 8) (w : World) :
    Calls Try.prog 43 #[.int .u64 n, .int .i64 k] w fun e w' => e = .returned (.bool (fitsB n k)) ∧ w = w' := by
  by_cases h8 : k = 8
  · subst h8
    go_enter Try.func43, Try.ntmps43
    go_wp2
    go_ret
    exact ⟨ret_bool (by rw [fitsB]; simp; omega), rfl⟩
  · have h8' : ((k : Int) == 8) = false := by simp; omega
    go_enter Try.func43, Try.ntmps43
    go_wp2
    go_ret
    exact ⟨ret_bool (fits_eq n k), rfl⟩

theorem byteInfo : (Try.prog.info? 5).map (fun i => (i.zero, i.size, i.bytes)) = some (some (.int .u8 0), 1, 1) := by kernel_rfl
def digit (n w j : Nat) : Nat := n / 256 ^ (w - 1 - j) % 256
def big (n w : Nat) : List Int := (List.range w).map fun j => ((digit n w j : Nat) : Int)

theorem digit_wrap (n w i : Nat) (hi : i < w) : IntKind.u8.wrap ((n : Int) / 2 ^ (8 * i)) = ((digit n w (w - 1 - i) : Nat) : Int) := by
  have e : ((n : Int) / 2 ^ (8 * i)) = ((n / 256 ^ i : Nat) : Int) := by rw [← pow256]; simp
  rw [e, IntKind.wrap_u8', digit, show w - 1 - (w - 1 - i) = i from by omega]
  rfl
theorem own_of_rowIs {w : World} {base b : Nat} {t : TypeId} {n : Nat} {f : Nat → Value} (h : w.rowIs b t n f) (hb : base ≤ b) (hn : n ≤ maxLen) :
    w.ownsRow base t 1 (.slice (some ⟨b, 0, none⟩) n n) n ((List.range n).map f) := by
  obtain ⟨c, hc, hs, hf⟩ := h
  refine ⟨by simp, .inr ⟨b, n, c, rfl, hb, hc, Nat.le_refl _, hn, by simp [hs], ?_⟩⟩
  rw [Nat.mul_one]
  apply List.ext_getElem?
  intro i
  by_cases hi : i < n
  · rw [List.getElem?_take_of_lt hi, Array.getElem?_toList, hf i hi, List.getElem?_map, List.getElem?_range hi]; rfl
  · rw [List.getElem?_eq_none (by rw [List.length_take, Array.length_toList]; omega), List.getElem?_eq_none (by simp; omega)]

theorem laid_any (n k : Nat) (hn : n < 18446744073709551616) (hk : k ≤ 8) (w : World) :
    Calls Try.prog 45 #[.int .u64 n, .int .i64 k] w fun e w' => ∃ v, e = .returned v ∧ w'.ownsRow w.heap.size 5 1 v k ((big n k).map (Value.int .u8)) ∧ Below w.heap.size w w' := by
  have hmk := run_make_row' (P := Try.prog) 51 5 (.int .u8 0) 1 Try.underlying51 byteInfo rfl .i64 .i64 k (by omega) (by omega)
  go_enter Try.func45, Try.ntmps45
  go_wp2
  clear hmk
  go_loopw [11] (fun i wr => ∃ j : Nat, j ≤ k ∧ i = .int .i64 j ∧ wr.rowIs w.heap.size 5 k (fun x => if k - j ≤ x then .int .u8 (digit n k x : Nat) else .int .u8 0) ∧ Below w.heap.size w wr) (fun i _ => k - (intOf i).toNat)
  case atStart => exact ⟨0, by omega, rfl, (World.rowIs_made w (.int .u8 0) k 5).congr (fun i hi => by rw [if_neg (by omega)]), (Below.refl _ _).alloc (Nat.le_refl _) _⟩
  case round =>
    obtain ⟨j, hj, rfl, hrow, hb⟩ := hrel
    have HR := Lib.hid hrow
    have HB := Lib.hid hb
    by_cases hlt : j < k
    · have hc := hrow.cell (i := k - 1 - j) (by omega)
      rw [if_neg (by omega)] at hc
      have hf := hrow.frozen (k - 1 - j)
      have hd := digit_wrap n k j hlt
      clear hrow hb
      go_wp2
      go_roundw
      case rel =>
        refine ⟨j + 1, by omega, by go_num, ((HR.out.set (k - 1 - j) _).congr ?_), HB.out.setCell (by simp) _⟩
        intro i hi
        by_cases e : i = k - 1 - j
        · rw [if_pos e, if_pos (by omega), e]
        · rw [if_neg e]
          by_cases e2 : k - j ≤ i
          · rw [if_pos e2, if_pos (by omega)]
          · rw [if_neg e2, if_neg (by omega)]
      case measure => simp [intOf]; omega
    · obtain rfl : j = k := by omega
      clear hrow hb
      go_wp2
      go_ret
      refine ⟨_, rfl, ?_, HB.out⟩
      have := own_of_rowIs HR.out (Nat.le_refl _) (by unfold maxLen; omega)
      rw [big, List.map_map]
      simpa [Function.comp_def] using this

end Go.Proofs.Ytcmaekkfeilclaa
