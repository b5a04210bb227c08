/- Items that are put; the law's put. -/
import Derived.Test.YtejjifbjmibapaaFixI
import Derived.Test.YtejjifbjmibapaaFixP
namespace Go.Proofs.Ytejjifbjmibapaa
open Go.RowKit
set_option linter.unusedSimpArgs false
set_option linter.unusedVariables false
set_option maxHeartbeats 1000000

structure It where
  kd : Int
  n : Nat
  wd : Int
  A : Option Addr
  len : Nat
  cap : Nat
  b : List Int
def It.agg (x : It) : Value := .agg #[.int .i64 x.kd, .int .u64 x.n, .int .i64 x.wd, .slice x.A x.len x.cap]
def It.cut (x : It) : List Int := x.b.take (cutN x.len 60)
def It.num (x : It) : List Int × Int := if knownB x.wd then (if fitsB x.n x.wd.toNat then (big x.n x.wd.toNat, 0) else ([], 4)) else ([], 1)
def It.ans (x : It) : List Int × Int :=
  if x.kd = 0 then x.num else if x.kd = 1 then (x.cut, 0) else if x.kd = 2 then (big x.cut.length 2 ++ x.cut, 0) else ([((x.n % 2 : Nat) : Int)], 0)
def FO.add (s : FO) (r : List Int × Int) : FO := if r.2 = 0 then s.put r.1 else s.fail r.2
structure ItIn (w : World) (B : Nat) (x : It) : Prop where
  rd : Reads w B 1 x.A x.len (x.b.map (Value.int .u8))
  hn : x.n < 18446744073709551616
  hc : x.len ≤ x.cap
  hm : x.cap ≤ maxLen
theorem add_num (s : FO) (x : It) : s.num x.n x.wd = s.add x.num := by
  unfold FO.num FO.add It.num
  cases hk : knownB x.wd
  · simp
  · cases hf : fitsB x.n x.wd.toNat
    · simp
    · simp
theorem big_one (n : Nat) (h : n < 256) : big n 1 = [(n : Int)] := by simp [big, digit]; omega
theorem add_bool (s : FO) (n : Nat) : s.bool (decide (n % 2 = 1)) = s.add ([((n % 2 : Nat) : Int)], 0) := by
  have h : ∀ m : Nat, m < 2 → s.num m 1 = s.put [(m : Int)] := fun m hm => by
    have hk : knownB 1 = true := rfl
    have hf : fitsB m (1 : Int).toNat = true := by rw [fitsB, decide_eq_true_eq]; show m < 256 ^ 1; omega
    rw [FO.num, hk, if_pos rfl, hf, if_pos rfl]
    show s.put (big m 1) = _
    rw [big_one m (by omega)]
  rw [FO.add, if_pos rfl]
  rcases Nat.mod_two_eq_zero_or_one n with e | e
  · rw [e]; exact h 0 (by omega)
  · rw [e]; exact h 1 (by omega)
theorem add_text (s : FO) (b : List Int) (h : b.length ≤ 65535) : s.text b = s.add (big b.length 2 ++ b, 0) := by
  rw [FO.text, if_neg (by omega), FO.add, if_pos rfl]
theorem cut_reads {w : World} {B : Nat} {x : It} (h : ItIn w B x) : Reads w B 1 x.A (cutN x.len 60) (x.cut.map (Value.int .u8)) := by
  have := h.rd.take (cutN_le x.len 60)
  rwa [← List.map_take] at this
theorem It.cut_len {w : World} {B : Nat} {x : It} (h : ItIn w B x) : x.cut.length = cutN x.len 60 := by
  have := (cut_reads h).1; simpa using this

theorem refPut_any (n : Nat) (k : Int) (x : It) (hx : x.n = n) (hk : x.wd = k) (hn : n < 18446744073709551616) (w : World) :
    Calls Try.prog 19 #[.int .u64 n, .int .i64 k] w fun e w' => ∃ A c, e = .returned (.tuple #[.slice A x.num.1.length c, .int .i64 x.num.2]) ∧ Reads w' w'.heap.size 1 A x.num.1.length (x.num.1.map (Value.int .u8)) ∧ Below w.heap.size w w' := by
  unfold It.num
  rw [hx, hk]
  cases hkn : knownB k
  · refine (refPut_arg n k hkn w).mono ?_
    rintro e w1 ⟨rfl, rfl⟩
    exact ⟨none, 0, rfl, Reads.none_, Below.refl _ _⟩
  · obtain ⟨h1, h8⟩ := (knownB_iff k).1 hkn
    obtain ⟨j, rfl⟩ := Int.eq_ofNat_of_zero_le (show 0 ≤ k by omega)
    rw [Int.toNat_natCast]
    cases hf : fitsB n j
    · refine (refPut_form n j hn (by omega) (by omega) hf w).mono ?_
      rintro e w1 ⟨rfl, h⟩
      exact ⟨none, 0, rfl, Reads.none_, h⟩
    · refine (refPut_ok n j hn (by omega) (by omega) hf w).mono ?_
      rintro e w1 ⟨v, rfl, h, hb⟩
      obtain ⟨A, c, rfl, hr, _, _⟩ := own_slice h
      simp only [if_true, big_len]
      exact ⟨A, c, rfl, hr, hb⟩
end Go.Proofs.Ytejjifbjmibapaa
