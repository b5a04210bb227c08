/- Package fix: the reference's Big, Text; Out.Text. -/
import Derived.Test.YtoifaeabieojbaaFixD
namespace Go.Proofs.Ytoifaeabieojbaa
open Go.RowKit
set_option linter.unusedSimpArgs false
set_option linter.unusedVariables false
set_option maxHeartbeats 1000000

theorem refBig_any (n k : Nat) (z : Int) (hz : z = n) (hn : n < 18446744073709551616) (hk : 1 ≤ k) (hk8 : k ≤ 8) (hf : fitsB n k = true) (w : World) :
    Calls Try.prog 33 #[.int .u64 z, .int .i64 k] w fun e w' => ∃ v, e = .returned v ∧ w'.ownsRow w.heap.size 5 1 v k ((big n k).map (Value.int .u8)) ∧ Below w.heap.size w w' := by
  subst hz
  go_enter Try.func33, Try.ntmps33
  go_wp2_with (fail)
  refine (refPut_ok n k hn hk hk8 hf _).mono ?_
  rintro e w1 ⟨v, rfl, h1, h2⟩
  have H1 := Lib.hid h1
  have H2 := Lib.hid h2
  clear h1 h2
  go_wp2
  go_ret
  exact ⟨_, rfl, H1.out, H2.out⟩

theorem fits2 (n : Nat) (hn : n ≤ 65535) : fitsB n 2 = true := by rw [fitsB, decide_eq_true_eq]; omega

theorem laid_at (z : Int) (n k : Nat) (hz : z = n) (hn : n < 18446744073709551616) (hk : k ≤ 8) (w : World) :
    Calls Try.prog 45 #[.int .u64 z, .int .i64 k] w fun e w' => ∃ v, e = .returned v ∧ w'.ownsRow w.heap.size 5 1 v k ((big n k).map (Value.int .u8)) ∧ Below w.heap.size w w' := by
  subst hz; exact laid_any n k hn hk w

theorem text_any (g : Nat) (v : Value) (s : FO) (A : Option Addr) (n c B : Nat) (b : List Int) (w : World) (h : OutAt w g v s) (hB : B ≤ w.heap.size) (hr : Reads w B 1 A n (b.map (Value.int .u8))) (hn : n = b.length)
    (hl : s.l.length ≤ 900000000) (hn2 : n ≤ 65535) :
    Calls Try.prog 30 #[.pointer (some ⟨g, 0, none⟩), .slice A n c] w fun e w' => e = .returned (.tuple #[]) ∧ ∃ v', OutAt w' g v' (s.text b) ∧ OutStep w w' g v v' := by
  have H := Lib.hid h
  have HR := Lib.hid hr
  have HN := Lib.hid hn
  have e1 : IntKind.u64.wrap (n : Int) = n := by rw [IntKind.wrap_u64]; omega
  have hP : Hid (s.text b = s.put (big b.length 2 ++ b)) := Lib.hid (by rw [FO.text, if_neg (by omega)])
  rw [hP.out]
  clear hr hn h hP
  go_enter Try.func30, Try.ntmps30
  go_wp2_with (fail)
  refine (laid_at _ n 2 (by first | rfl | assumption) (by omega) (by omega) _).mono ?_
  rintro e w1 ⟨u, rfl, h1, h2⟩
  have H2 := Lib.hid h2
  obtain ⟨A1, c1, rfl, h3, _, _⟩ := own_slice h1
  have H3 := Lib.hid h3
  have hs := h2.size
  clear h1 h2 h3
  go_wp2_with (fail)
  have hb1 : Below w1.heap.size w1 (w1.alloc (.cells #[Value.slice A1 2 c1, Value.slice A n c] 22)) := (Below.refl _ _).alloc (Nat.le_refl _) _
  refine (concat_any A1 A 2 n c1 c w1.heap.size B (big n 2) b _ (by simp) (by simp; omega) (H3.out.below hb1) (HR.out.below ((H2.out.mono hB).trans (hb1.mono (Nat.le_trans hB hs)))) w1.heap.size
    (by exact cells_new_at _ _ _ _ rfl 0 _ rfl) (by exact cells_new_at _ _ _ _ rfl 1 _ rfl) (by simp) (by omega) (by omega)).mono ?_
  rintro e w2 ⟨u, rfl, h4, h5⟩
  have HB := Lib.hid ((H2.out).trans ((hb1.mono hs).trans (h5.mono (by simp; omega))))
  obtain ⟨A2, c2, rfl, h6, _, _⟩ := own_slice h4
  have H6 := Lib.hid h6
  clear h4 h5 h6 hb1
  go_wp2_with (fail)
  refine (put_any g v s A2 (2 + n) c2 _ (big b.length 2 ++ b) w2 (H.out.below HB.out) (Nat.le_refl _) (by rw [← HN.out]; exact H6.out) (by rw [List.length_append, big_len, ← HN.out]) (by omega)).mono ?_
  rintro e w3 ⟨rfl, v', h7, h8⟩
  have H7 := Lib.hid h7
  have H8 := Lib.hid h8
  clear h7 h8
  go_wp2
  go_end0
  exact ⟨rfl, v', H7.out, OutStep.pre HB.out H8.out⟩
end Go.Proofs.Ytoifaeabieojbaa
