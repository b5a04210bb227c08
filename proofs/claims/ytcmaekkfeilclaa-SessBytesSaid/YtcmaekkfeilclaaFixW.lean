/- The reference's Get, Read, Bool. -/
import Derived.Test.YtcmaekkfeilclaaFixV
namespace Go.Proofs.Ytcmaekkfeilclaa
open Go.RowKit
set_option linter.unusedSimpArgs false
set_option linter.unusedVariables false
set_option maxHeartbeats 8000000
attribute [local go_sem] RI.agg RI.cells RI.nil





theorem refGet_any (x : RI) (k : Int) (B : Nat) (w : World) (hx : RIn w B x) (hB : B ≤ w.heap.size) :
    Calls Try.prog 40 #[x.agg, .int .i64 k] w (UPost B w (x.s.upto k 18446744073709551615)) := by
  have HX := Lib.hid hx
  have R := fun w => refUpto_any x k 18446744073709551615 B w
  clear hx
  generalize x.s.upto k 18446744073709551615 = r at *
  obtain ⟨s', q⟩ := r
  go_enter Try.func40, Try.ntmps40
  go_wp2_with (fail)
  refine (R _ (by repeat (first | with_reducible exact HX.out | with_reducible refine RIn.alloc ?_ (by first | omega | (simp; omega)) _ | with_reducible refine RIn.drewN ?_ _ | with_reducible refine RIn.drew ?_)) (by simp; omega)).mono ?_
  rintro e w1 ⟨y, rfl, hy, h1, h2⟩
  have HY1 := Lib.hid h1
  have HYS := Lib.hid hy
  have hrs := (blk_at (w.alloc (.cells x.cells 63)) 63 (RI.nil 0).cells (w.heap.size + 1) (by simp)).below h2 (by simp); obtain ⟨r0, r1⟩ := ri_cells hrs; have f0 := hrs.frozen 0; have f1 := hrs.frozen 1; have q6 := hrs.lt; have HRS := Lib.hid hrs; dsimp only [RI.nil] at r0 r1; have HB1 := Lib.hid (box2_below h2); have hBw := Nat.le_trans hB HB1.out.size; clear h2 hrs
  clear hy h1
  go_wp2
  refine bodyPost_ret (v := .tuple #[y.agg, .int .u64 q]) (by simp [results, Try.results40, go_sem, r0, r1, q6]) rfl ⟨y, rfl, HYS.out, ?_, ?_⟩
  · repeat (first | with_reducible exact HY1.out | with_reducible refine RIn.alloc ?_ (by first | omega | (simp; omega)) _ | with_reducible refine RIn.setC ?_ (by first | omega | (simp <;> omega)) _ | with_reducible refine RIn.drewN ?_ _ | with_reducible refine RIn.drew ?_)
  · repeat (first | with_reducible exact Below.refl _ _ | with_reducible exact HB1.out | with_reducible refine Below.setCell ?_ (by simp <;> omega) _ | with_reducible refine Below.alloc ?_ (by first | omega | (simp <;> omega)) _ | with_reducible refine below_drewN ?_ _ | with_reducible refine Below.drew ?_)

def BPost (B : Nat) (w : World) (s : FI) (v : Bool) (e : Ending) (w' : World) : Prop :=
  ∃ y : RI, e = .returned (.tuple #[y.agg, .bool v]) ∧ y.s = s ∧ RIn w' B y ∧ Below w.heap.size w w'
theorem text_upto (s : FI) (most : Int) (hb : bytesB s.l) : s.text most = if (s.upto 2 18446744073709551615).1.e ≠ 0 then ((s.upto 2 18446744073709551615).1, []) else if most < ((s.upto 2 18446744073709551615).2 : Int) then ((s.upto 2 18446744073709551615).1.fail 6, []) else (s.upto 2 18446744073709551615).1.raw (s.upto 2 18446744073709551615).2 := by
  have hk : knownB 2 = true := rfl
  have h2 : (2 : Int).toNat = 2 := rfl
  by_cases he : s.e = 0
  · by_cases hl : s.l.length < 2
    · have hN : s.next 2 = (s.fail 3, [], false) := by rw [FI.next, if_neg (by simp [he]), if_pos hl]
      have hU : s.upto 2 18446744073709551615 = (s.fail 3, 0) := by rw [FI.upto, if_neg (by simp [he]), hk, if_pos rfl, h2, hN]; rfl
      have hT : s.text most = (s.fail 3, []) := by rw [FI.text, hN]; rfl
      have := s.fail_e 3 (by decide)
      rw [hU, hT, if_pos this]
    · have hN : s.next 2 = (⟨s.l.drop 2, 0⟩, s.l.take 2, true) := by rw [FI.next, if_neg (by simp [he]), if_neg hl]
      have hlt := numB_lt (s.l.take 2) (bytesB_take _ _ hb)
      have hp : 256 ^ (s.l.take 2).length ≤ 256 ^ 2 := Nat.pow_le_pow_right (by decide) (by rw [List.length_take]; omega)
      have hU : s.upto 2 18446744073709551615 = (⟨s.l.drop 2, 0⟩, numB (s.l.take 2)) := by
        rw [FI.upto, if_neg (by simp [he]), hk, if_pos rfl, h2, hN]
        simp only [if_true]
        rw [if_neg (by omega)]
      rw [hU, FI.text, hN]
      simp
  · have hN : s.next 2 = (s, [], false) := by rw [FI.next, if_pos he]
    have hU : s.upto 2 18446744073709551615 = (s, 0) := by rw [FI.upto, if_pos he]
    rw [hU, FI.text, hN]
    simp [he]
theorem upto2_lt (s : FI) (hb : bytesB s.l) : (s.upto 2 18446744073709551615).2 < 65536 := by
  have hk : knownB 2 = true := rfl
  have h2 : (2 : Int).toNat = 2 := rfl
  by_cases he : s.e = 0
  · by_cases hl : s.l.length < 2
    · have hN : s.next 2 = (s.fail 3, [], false) := by rw [FI.next, if_neg (by simp [he]), if_pos hl]
      have hU : s.upto 2 18446744073709551615 = (s.fail 3, 0) := by rw [FI.upto, if_neg (by simp [he]), hk, if_pos rfl, h2, hN]; rfl
      rw [hU]; show (0 : Nat) < 65536; decide
    · have hN : s.next 2 = (⟨s.l.drop 2, 0⟩, s.l.take 2, true) := by rw [FI.next, if_neg (by simp [he]), if_neg hl]
      have hlt := numB_lt (s.l.take 2) (bytesB_take _ _ hb)
      have hp : 256 ^ (s.l.take 2).length ≤ 256 ^ 2 := Nat.pow_le_pow_right (by decide) (by rw [List.length_take]; omega)
      have hU : s.upto 2 18446744073709551615 = (⟨s.l.drop 2, 0⟩, numB (s.l.take 2)) := by
        rw [FI.upto, if_neg (by simp [he]), hk, if_pos rfl, h2, hN]
        simp only [if_true]
        rw [if_neg (by omega)]
      rw [hU]; show numB _ < 65536; omega
  · have hU : s.upto 2 18446744073709551615 = (s, 0) := by rw [FI.upto, if_pos he]
    rw [hU]; show (0 : Nat) < 65536; decide


end Go.Proofs.Ytcmaekkfeilclaa
