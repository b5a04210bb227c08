/- Package frame: what a frame's bytes are, plain; New, told, Counts, Size, Same; the law's ours, like. -/
import Derived.Test.YtoifaeabieojbaaFrmA
import Derived.Test.YtoifaeabieojbaaCrcN
import Derived.Test.YtoifaeabieojbaaCrcO
namespace Go.Proofs.Ytoifaeabieojbaa
open Go.RowKit
set_option linter.unusedSimpArgs false
set_option linter.unusedVariables false
set_option maxRecDepth 100000
set_option maxHeartbeats 2000000

def frN (b : List Nat) : Nat := numN ((b.drop 1).take 2)
def cutE (b : List Nat) : Nat :=
  if b.length < 3 then 3 else if b.getD 0 0 = 0 then 4 else if 16384 < frN b then 6 else if b.length < frN b + 7 then 3 else if fitsL (b.take (frN b + 7)) then 0 else 5
def cutK (b : List Nat) : Nat := if cutE b = 0 then b.getD 0 0 else 0
def cutB (b : List Nat) : List Nat := if cutE b = 0 then (b.drop 3).take (frN b) else []
def cutL (b : List Nat) : Nat := if cutE b = 0 then frN b + 7 else 0
theorem cut_zero (b : List Nat) (h : cutE b ≠ 0) : cutK b = 0 ∧ cutB b = [] ∧ cutL b = 0 := by
  unfold cutK cutB cutL
  rw [if_neg h, if_neg h, if_neg h]; exact ⟨rfl, rfl, rfl⟩
theorem cut_some (b : List Nat) (h : cutE b = 0) : cutK b = b.getD 0 0 ∧ cutB b = (b.drop 3).take (frN b) ∧ cutL b = frN b + 7 := by
  unfold cutK cutB cutL
  rw [if_pos h, if_pos h, if_pos h]; exact ⟨rfl, rfl, rfl⟩
theorem frN_lt (b : List Nat) (h : isBs b) : frN b < 65536 := by
  have h1 := numN_lt ((b.drop 1).take 2) (isBs_take (isBs_drop h 1) 2)
  have h2 : 256 ^ ((b.drop 1).take 2).length ≤ 256 ^ 2 := Nat.pow_le_pow_right (by decide) (by rw [List.length_take]; omega)
  unfold frN
  omega
/-- the head as package fix reads it -/
def hd1 (b : List Nat) : FI × Nat := FI.upto ⟨bI (b.take 3), 0⟩ 1 18446744073709551615
def hd2 (b : List Nat) : FI × Nat := FI.upto (hd1 b).1 2 18446744073709551615
theorem hd_ok (b : List Nat) (hb : isBs b) (h : 3 ≤ b.length) : (hd1 b).2 = b.getD 0 0 ∧ (hd2 b).2 = frN b ∧ (hd2 b).1.e = 0 := by
  match b, h with
  | x :: y :: z :: l, _ =>
    have hx := hb x (by simp)
    have hy := hb y (by simp)
    have hz := hb z (by simp)
    have e1 : hd1 (x :: y :: z :: l) = (⟨[(y : Int), (z : Int)], 0⟩, x) := by
      unfold hd1 FI.upto FI.next
      have h1 : ¬ 18446744073709551615 < x := by omega
      simp [bI, knownB, numB, h1]
    have e2 : hd2 (x :: y :: z :: l) = (⟨[], 0⟩, y * 256 + z) := by
      unfold hd2
      rw [e1]
      unfold FI.upto FI.next
      have h1 : ¬ 18446744073709551615 < y * 256 + z := by omega
      simp [bI, knownB, numB, h1]
    rw [e1, e2]
    refine ⟨by simp, ?_, rfl⟩
    simp [frN, numN]
theorem hd_short (b : List Nat) (hb : isBs b) (h : b.length < 3) : (hd2 b).1.e ≠ 0 := by
  match b, h with
  | [], _ => decide
  | [x], _ =>
    have hx := hb x (by simp)
    have e1 : hd1 [x] = (⟨[], 0⟩, x) := by
      unfold hd1 FI.upto FI.next
      have h1 : ¬ 18446744073709551615 < x := by omega
      simp [bI, knownB, numB, h1]
    unfold hd2
    rw [e1]
    unfold FI.upto FI.next
    simp [knownB, FI.fail]
  | [x, y], _ =>
    have hx := hb x (by simp)
    have e1 : hd1 [x, y] = (⟨[(y : Int)], 0⟩, x) := by
      unfold hd1 FI.upto FI.next
      have h1 : ¬ 18446744073709551615 < x := by omega
      simp [bI, knownB, numB, h1]
    unfold hd2
    rw [e1]
    unfold FI.upto FI.next
    simp [bI, knownB, FI.fail]

/-- a codec: its table, how many were told, how many errors -/
def Cd (w : World) (c g : Nat) (d : Bool) (x y : Int) : Prop := Blk w c 72 #[.pointer (some ⟨g, 0, none⟩), .int .u64 x, .int .u64 y] ∧ Tb w g d
theorem Cd.below {B : Nat} {w w' : World} {c g : Nat} {d : Bool} {x y : Int} (h : Cd w c g d x y) (hb : Below B w w') (hc : c < B) (hg : g < B) : Cd w' c g d x y := ⟨h.1.below hb hc, h.2.below hb hg⟩
theorem tb_ne {w : World} {c g : Nat} {d : Bool} {T : TypeId} {cs : Array Value} (h : Blk w c T cs) (ht : Tb w g d) (hT : T ≠ 86) : c ≠ g := by
  obtain ⟨cs', b, _⟩ := ht
  exact Blk.ne_ h b hT
theorem frNew_nil (w : World) : Calls Try.prog 9 #[.pointer none] w fun e w' => ∃ c, e = .returned (.pointer (some ⟨c, 0, none⟩)) ∧ w.heap.size ≤ c ∧ Cd w' c w.heap.size false 0 0 ∧ Below w.heap.size w w' := by
  go_enter Try.func9, Try.ntmps9
  go_wp2_with (fail)
  refine (crcNew_any _).mono ?_
  rintro e w1 ⟨rfl, h1, h2⟩
  have H1 := Lib.hid h1
  have H2 := Lib.hid h2
  have hs := h2.size
  clear h1 h2
  go_wp2
  go_ret
  exact ⟨_, rfl, hs, ⟨Blk.new _ _ _, H1.out.below ((Below.refl w1.heap.size w1).alloc (Nat.le_refl _) _) H1.out.lt⟩, H2.out.alloc hs _⟩
theorem frNew_any (g : Nat) (d : Bool) (w : World) (h : Tb w g d) : Calls Try.prog 9 #[.pointer (some ⟨g, 0, none⟩)] w fun e w' => e = .returned (.pointer (some ⟨w.heap.size, 0, none⟩)) ∧ Cd w' w.heap.size g d 0 0 ∧ Below w.heap.size w w' := by
  have H := Lib.hid h
  clear h
  go_enter Try.func9, Try.ntmps9
  go_wp2_with (fail)
  go_ret
  exact ⟨rfl, ⟨Blk.new _ _ _, H.out.below ((Below.refl w.heap.size w).alloc (Nat.le_refl _) _) H.out.lt⟩, (Below.refl _ _).alloc (Nat.le_refl _) _⟩
def isC (c : Nat) : Nat → Prop := fun k => k = c
theorem told_any (c g : Nat) (d : Bool) (x y : Int) (k e : Nat) (w : World) (h : Cd w c g d x y) (hx : 0 ≤ x ∧ x + k < 18446744073709551616) (hy : 0 ≤ y ∧ y + 1 < 18446744073709551616) :
    Calls Try.prog 37 #[.pointer (some ⟨c, 0, none⟩), .int .u64 k, .int .i64 e] w fun e' w' => e' = .returned (.int .i64 e) ∧ Cd w' c g d (x + k) (if e = 0 then y else y + 1) ∧ Chg w w' (fun k => k = c) := by
  have k1 : w.cell? ⟨c, 1, none⟩ = some (.int .u64 x) := h.1.cell 1
  have f1 := h.1.frozen 1
  have hne := tb_ne h.1 h.2 (by decide)
  have A := Lib.hid (add64_any ⟨c, 1, none⟩ x k (x + k) w (by rw [IntKind.wrap_u64]; omega) k1 f1)
  have b1 := h.1.set_ 1 (.int .u64 (x + k))
  have t1 : Hid (Tb (w.setCell ⟨c, 1, none⟩ (.int .u64 (x + k))) g d) := Lib.hid (TabC.chg (S := fun k => k = c) h.2 ((Chg.refl w (fun k => k = c)).set1 1 _) (fun e => hne e.symm))
  have k2 : (w.setCell ⟨c, 1, none⟩ (.int .u64 (x + k))).cell? ⟨c, 2, none⟩ = some (.int .u64 y) := b1.cell 2
  have f2 := b1.frozen 2
  have A2 := Lib.hid (add64_any ⟨c, 2, none⟩ y 1 (y + 1) _ (by rw [IntKind.wrap_u64]; omega) k2 f2)
  have B1 := Lib.hid b1
  have HNE := Lib.hid hne
  have c1 : Hid (Chg w (w.setCell ⟨c, 1, none⟩ (.int .u64 (x + k))) (fun k => k = c)) := Lib.hid ((Chg.refl w (fun k => k = c)).set1 1 _)
  generalize w.setCell ⟨c, 1, none⟩ (.int .u64 (x + k)) = w1 at *
  clear h k1 f1 b1 k2 f2 hne
  by_cases he : e = 0
  · subst he
    go_enter Try.func37, Try.ntmps37
    go_wp2_with (fail)
    refine A.out.mono ?_
    rintro e' w' ⟨rfl, rfl⟩
    go_wp2_with (fail)
    go_ret
    exact ⟨rfl, ⟨B1.out, t1.out⟩, c1.out⟩
  · have he' : ((e : Int) != 0) = true := by simp; omega
    have hE : Hid ((if e = 0 then y else y + 1) = y + 1) := Lib.hid (if_neg he)
    rw [hE.out]
    go_enter Try.func37, Try.ntmps37
    go_wp2_with (fail)
    refine A.out.mono ?_
    rintro e' w' ⟨rfl, rfl⟩
    go_wp2_with (fail)
    refine A2.out.mono ?_
    rintro e' w' ⟨rfl, rfl⟩
    go_wp2_with (fail)
    go_ret
    exact ⟨rfl, ⟨B1.out.set_ 2 _, TabC.chg (S := fun k => k = c) t1.out ((Chg.refl _ (fun k => k = c)).set1 2 _) (fun e => HNE.out e.symm)⟩, c1.out.set1 2 _⟩
theorem size_any (k : Int) (A : Option Addr) (n c : Nat) (w : World) (hn : n ≤ 9223372036854775000) :
    Calls Try.prog 15 #[.agg #[.int .u8 k, .slice A n c]] w fun e w' => e = .returned (.int .i64 ((n : Int) + 7)) ∧ Below w.heap.size w w' := by
  go_enter Try.func15, Try.ntmps15
  go_wp2_with (fail)
  go_ret
  exact ⟨ret_int (by omega), (Below.refl _ _).alloc (Nat.le_refl _) _⟩
theorem ours_any (k : Int) (A : Option Addr) (n c : Nat) (w : World) :
    Calls Try.prog 12 #[.agg #[.int .u8 k, .slice A n c]] w fun e w' => e = .returned (.agg #[.int .u8 k, .slice A n c]) ∧ Below w.heap.size w w' := by
  go_enter Try.func12, Try.ntmps12
  go_wp2_with (fail)
  exact bodyPost_ret (v := .agg #[.int .u8 k, .slice A n c]) (by simp [results, Try.results12, go_sem]) rfl ⟨rfl, ((Below.refl _ _).alloc (Nat.le_refl _) _).alloc (by simp) _⟩
theorem counts_any (c g : Nat) (d : Bool) (x y : Int) (w : World) (h : Cd w c g d x y) :
    Calls Try.prog 27 #[.pointer (some ⟨c, 0, none⟩)] w fun e w' => e = .returned (.tuple #[.int .u64 x, .int .u64 y]) ∧ ∃ q, w' = w.drewN q := by
  have k1 : w.cell? ⟨c, 1, none⟩ = some (.int .u64 x) := h.1.cell 1
  have k2 : w.cell? ⟨c, 2, none⟩ = some (.int .u64 y) := h.1.cell 2
  have L1 := Lib.hid (fun q => load64_any ⟨c, 1, none⟩ x (w.drewN q) k1)
  have L2 := Lib.hid (fun q => load64_any ⟨c, 2, none⟩ y (w.drewN q) k2)
  clear h
  go_enter Try.func27, Try.ntmps27
  go_wp2_with (fail)
  go_quiet ((first | (go_at_call 40; exact quiet_left (L1.out _)) | (go_at_call 40; exact quiet_left (L2.out _)) | (go_at_call 40; exact quiet_add_left (L1.out _)) | (go_at_call 40; exact quiet_add_left (L2.out _)) | fail))
  go_wp2_with (fail)
  go_ret2
  exact ⟨rfl, _, rfl⟩
end Go.Proofs.Ytoifaeabieojbaa
