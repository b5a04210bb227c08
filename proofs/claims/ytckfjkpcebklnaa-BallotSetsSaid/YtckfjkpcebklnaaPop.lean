/- How many bits a number has: the sideways sum over eight bytes. Plain numbers, no program. -/
import Derived.WalkKit
namespace Go.Proofs.Ytckfjkpcebklnaa

/-- the bits below k -/
def pc (n : Nat) : Nat → Nat
  | 0 => 0
  | k + 1 => pc n k + (n.testBit k).toNat

def val : List Nat → Nat
  | [] => 0
  | b :: l => 256 * val l + b

theorem land_step (a c b d i : Nat) (hb : b < 2 ^ i) (hd : d < 2 ^ i) : (2 ^ i * a + b) &&& (2 ^ i * c + d) = 2 ^ i * (a &&& c) + (b &&& d) := by
  have hbd : b &&& d < 2 ^ i := Nat.lt_of_le_of_lt Nat.and_le_left hb
  apply Nat.eq_of_testBit_eq
  intro j
  rw [Nat.testBit_and, Nat.testBit_two_pow_mul_add a hb, Nat.testBit_two_pow_mul_add c hd, Nat.testBit_two_pow_mul_add (a &&& c) hbd]
  split
  · rw [Nat.testBit_and]
  · rw [Nat.testBit_and]

theorem land256 (a c b d : Nat) (hb : b < 256) (hd : d < 256) : (256 * a + b) &&& (256 * c + d) = 256 * (a &&& c) + (b &&& d) := land_step a c b d 8 hb hd

def b1 (b : Nat) : Nat := (b / 2 &&& 85) + (b &&& 85)
def b2 (b : Nat) : Nat := (b / 4 &&& 51) + (b &&& 51)
def b3 (b : Nat) : Nat := b / 16 + b % 16

theorem d1 : ∀ e < 2, ∀ b < 256, (128 * e + b / 2) &&& 85 = (b / 2 &&& 85) := by decide +kernel
theorem d2 : ∀ e < 4, ∀ b < 256, (64 * e + b / 4) &&& 51 = (b / 4 &&& 51) := by decide +kernel
theorem db1 : ∀ b < 256, b1 b < 256 ∧ b2 (b1 b) < 256 ∧ b2 (b1 b) % 16 ≤ 4 ∧ b2 (b1 b) / 16 ≤ 4 ∧ b3 (b2 (b1 b)) = pc b 8 := by decide +kernel

theorem s1 (l : List Nat) (h : ∀ b ∈ l, b < 256) : (val l / 2 &&& val (l.map fun _ => 85)) + (val l &&& val (l.map fun _ => 85)) = val (l.map b1) := by
  induction l with
  | nil => rfl
  | cons b l ih =>
    have hb := h b (by simp)
    have ih := ih (fun x hx => h x (by simp [hx]))
    simp only [val, List.map_cons]
    have e : (256 * val l + b) / 2 = 256 * (val l / 2) + (128 * (val l % 2) + b / 2) := by omega
    rw [e, land256 _ _ _ _ (by omega) (by omega), land256 _ _ _ _ hb (by omega), d1 (val l % 2) (by omega) b hb, ← ih]
    unfold b1
    omega

theorem s2 (l : List Nat) (h : ∀ b ∈ l, b < 256) : (val l / 4 &&& val (l.map fun _ => 51)) + (val l &&& val (l.map fun _ => 51)) = val (l.map b2) := by
  induction l with
  | nil => rfl
  | cons b l ih =>
    have hb := h b (by simp)
    have ih := ih (fun x hx => h x (by simp [hx]))
    simp only [val, List.map_cons]
    have e : (256 * val l + b) / 4 = 256 * (val l / 4) + (64 * (val l % 4) + b / 4) := by omega
    rw [e, land256 _ _ _ _ (by omega) (by omega), land256 _ _ _ _ hb (by omega), d2 (val l % 4) (by omega) b hb, ← ih]
    unfold b2
    omega

theorem land15 (c : Nat) : c &&& 15 = c % 16 := Nat.and_two_pow_sub_one_eq_mod c 4

theorem s3 (l : List Nat) (h : ∀ b ∈ l, b % 16 ≤ 4 ∧ b / 16 ≤ 4) : (val l / 16 + val l) &&& val (l.map fun _ => 15) = val (l.map b3) := by
  induction l with
  | nil => rfl
  | cons b l ih =>
    have hb := h b (by simp)
    have ih := ih (fun x hx => h x (by simp [hx]))
    have hm : val l % 16 ≤ 4 := by
      cases l with
      | nil => simp [val]
      | cons c l => have := h c (by simp); simp only [val]; omega
    simp only [val, List.map_cons]
    have e : (256 * val l + b) / 16 + (256 * val l + b) = 256 * (val l / 16 + val l) + (16 * (val l % 16) + (b / 16 + b)) := by omega
    rw [e, land256 _ _ _ _ (by omega) (by omega), ih, land15]
    unfold b3
    omega

theorem pc_step (q b k : Nat) (hb : b < 256) : pc (256 * q + b) (8 + k) = pc b 8 + pc q k := by
  have e : ∀ j, (256 * q + b).testBit j = if j < 8 then b.testBit j else q.testBit (j - 8) := fun j => Nat.testBit_two_pow_mul_add (i := 8) q hb j
  induction k with
  | zero => simp [pc, e]
  | succ k ih =>
    show pc (256 * q + b) (8 + k) + ((256 * q + b).testBit (8 + k)).toNat = _
    rw [ih, e, if_neg (by omega), show 8 + k - 8 = k from by omega]
    show _ = pc b 8 + (pc q k + (q.testBit k).toNat)
    omega

def bytes8 (x : Nat) : List Nat := [x % 256, x / 256 % 256, x / 65536 % 256, x / 16777216 % 256, x / 4294967296 % 256, x / 1099511627776 % 256, x / 281474976710656 % 256, x / 72057594037927936 % 256]
theorem val_bytes8 (x : Nat) (h : x < 18446744073709551616) : val (bytes8 x) = x := by simp only [bytes8, val]; omega
theorem bytes8_lt (x : Nat) : ∀ b ∈ bytes8 x, b < 256 := by intro b hb; simp only [bytes8, List.mem_cons, List.not_mem_nil, or_false] at hb; omega

theorem pc8_le (b : Nat) : pc b 8 ≤ 8 := by
  have h : ∀ k, pc b k ≤ k := fun k => by
    induction k with
    | zero => simp [pc]
    | succ k ih => unfold pc; cases b.testBit k <;> simp <;> omega
  exact h 8

theorem pc_val (l : List Nat) (h : ∀ b ∈ l, b < 256) : pc (val l) (8 * l.length) = (l.map fun b => pc b 8).sum := by
  induction l with
  | nil => rfl
  | cons b l ih =>
    have ih := ih (fun x hx => h x (by simp [hx]))
    simp only [val, List.length_cons, List.map_cons, List.sum_cons]
    rw [show 8 * (l.length + 1) = 8 + 8 * l.length from by omega, pc_step _ _ _ (h b (by simp)), ih]

def ones64 (x : Nat) : Nat :=
  let x1 := (x / 2 &&& 6148914691236517205) + (x &&& 6148914691236517205)
  let x2 := (x1 / 4 &&& 3689348814741910323) + (x1 &&& 3689348814741910323)
  let x3 := (x2 / 16 + x2) &&& 1085102592571150095
  let x4 := x3 + x3 / 256
  let x5 := x4 + x4 / 65536
  let x6 := x5 + x5 / 4294967296
  x6 &&& 127

theorem dv (x m A B : Nat) (hx : x = m * A + B) (h : B < m) : x / m = A := by
  rw [hx, Nat.mul_add_div (by omega), Nat.div_eq_of_lt h, Nat.add_zero]
theorem md (x m A B : Nat) (hx : x = m * A + B) (h : B < m) : x % m = B := by
  rw [hx, Nat.mul_add_mod, Nat.mod_eq_of_lt h]
theorem f4 (p0 p1 p2 p3 p4 p5 p6 p7 x3 y x4 : Nat) (h3 : x3 = 256 * (256 * (256 * (256 * (256 * (256 * (256 * (256 * 0 + p7) + p6) + p5) + p4) + p3) + p2) + p1) + p0) (hy : y = 256 * (256 * (256 * (256 * (256 * (256 * (256 * 0 + p7) + p6) + p5) + p4) + p3) + p2) + p1) (h4 : x4 = x3 + y) : x4 = 65536 * (256 * (256 * (256 * (256 * (256 * p7 + (p6 + p7)) + (p5 + p6)) + (p4 + p5)) + (p3 + p4)) + (p2 + p3)) + (256 * (p1 + p2) + (p0 + p1)) := by omega
theorem f5 (p0 p1 p2 p3 p4 p5 p6 p7 x4 y x5 : Nat) (h4 : x4 = 65536 * (256 * (256 * (256 * (256 * (256 * p7 + (p6 + p7)) + (p5 + p6)) + (p4 + p5)) + (p3 + p4)) + (p2 + p3)) + (256 * (p1 + p2) + (p0 + p1))) (hy : y = 256 * (256 * (256 * (256 * (256 * p7 + (p6 + p7)) + (p5 + p6)) + (p4 + p5)) + (p3 + p4)) + (p2 + p3)) (h5 : x5 = x4 + y) : x5 = 4294967296 * (256 * (256 * (256 * p7 + (p6 + p7)) + (p5 + p6 + p7)) + (p4 + p5 + p6 + p7)) + (16777216 * (p3 + p4 + p5 + p6) + 65536 * (p2 + p3 + p4 + p5) + 256 * (p1 + p2 + p3 + p4) + (p0 + p1 + p2 + p3)) := by omega
theorem f6 (p0 p1 p2 p3 p4 p5 p6 p7 x5 y x6 : Nat) (h5 : x5 = 4294967296 * (256 * (256 * (256 * p7 + (p6 + p7)) + (p5 + p6 + p7)) + (p4 + p5 + p6 + p7)) + (16777216 * (p3 + p4 + p5 + p6) + 65536 * (p2 + p3 + p4 + p5) + 256 * (p1 + p2 + p3 + p4) + (p0 + p1 + p2 + p3))) (hy : y = 256 * (256 * (256 * p7 + (p6 + p7)) + (p5 + p6 + p7)) + (p4 + p5 + p6 + p7)) (h6 : x6 = x5 + y) : x6 = 128 * (33554432 * (256 * (256 * (256 * p7 + (p6 + p7)) + (p5 + p6 + p7)) + (p4 + p5 + p6 + p7)) + (131072 * (p3 + p4 + p5 + p6) + 512 * (p2 + p3 + p4 + p5) + 2 * (p1 + p2 + p3 + p4)) + 2 * (256 * (256 * p7 + (p6 + p7)) + (p5 + p6 + p7))) + (p0 + (p1 + (p2 + (p3 + (p4 + (p5 + (p6 + (p7 + 0)))))))) := by omega
theorem g4 (p0 p1 p2 : Nat) (q0 : p0 ≤ 8) (q1 : p1 ≤ 8) (q2 : p2 ≤ 8) : 256 * (p1 + p2) + (p0 + p1) < 65536 := by omega
theorem g5 (p0 p1 p2 p3 p4 p5 p6 : Nat) (q0 : p0 ≤ 8) (q1 : p1 ≤ 8) (q2 : p2 ≤ 8) (q3 : p3 ≤ 8) (q4 : p4 ≤ 8) (q5 : p5 ≤ 8) (q6 : p6 ≤ 8) : 16777216 * (p3 + p4 + p5 + p6) + 65536 * (p2 + p3 + p4 + p5) + 256 * (p1 + p2 + p3 + p4) + (p0 + p1 + p2 + p3) < 4294967296 := by omega
theorem g6 (p0 p1 p2 p3 p4 p5 p6 p7 : Nat) (q0 : p0 ≤ 8) (q1 : p1 ≤ 8) (q2 : p2 ≤ 8) (q3 : p3 ≤ 8) (q4 : p4 ≤ 8) (q5 : p5 ≤ 8) (q6 : p6 ≤ 8) (q7 : p7 ≤ 8) : p0 + (p1 + (p2 + (p3 + (p4 + (p5 + (p6 + (p7 + 0))))))) < 128 := by omega
theorem fin (p0 p1 p2 p3 p4 p5 p6 p7 x3 x4 x5 x6 : Nat) (q0 : p0 ≤ 8) (q1 : p1 ≤ 8) (q2 : p2 ≤ 8) (q3 : p3 ≤ 8) (q4 : p4 ≤ 8) (q5 : p5 ≤ 8) (q6 : p6 ≤ 8) (q7 : p7 ≤ 8)
    (h3 : x3 = 256 * (256 * (256 * (256 * (256 * (256 * (256 * (256 * 0 + p7) + p6) + p5) + p4) + p3) + p2) + p1) + p0) (h4 : x4 = x3 + x3 / 256) (h5 : x5 = x4 + x4 / 65536) (h6 : x6 = x5 + x5 / 4294967296) :
    x6 % 128 = p0 + (p1 + (p2 + (p3 + (p4 + (p5 + (p6 + (p7 + 0))))))) := by
  have b4 := f4 _ _ _ _ _ _ _ _ _ _ _ h3 (dv x3 256 _ _ h3 (Nat.lt_of_le_of_lt q0 (by decide))) h4
  have b5 := f5 _ _ _ _ _ _ _ _ _ _ _ b4 (dv x4 65536 _ _ b4 (g4 _ _ _ q0 q1 q2)) h5
  have b6 := f6 _ _ _ _ _ _ _ _ _ _ _ b5 (dv x5 4294967296 _ _ b5 (g5 _ _ _ _ _ _ _ q0 q1 q2 q3 q4 q5 q6)) h6
  exact md x6 128 _ _ b6 (g6 _ _ _ _ _ _ _ _ q0 q1 q2 q3 q4 q5 q6 q7)

theorem land127 (c : Nat) : c &&& 127 = c % 128 := Nat.and_two_pow_sub_one_eq_mod c 7
theorem ones64_pc (x : Nat) (h : x < 18446744073709551616) : ones64 x = pc x 64 := by
  have hl := bytes8_lt x
  have hv := val_bytes8 x h
  have m1 : val ((bytes8 x).map fun _ => 85) = 6148914691236517205 := by
    rw [List.map_const', show (bytes8 x).length = 8 from rfl]; decide +kernel
  have m3 : ∀ l : List Nat, l.length = 8 → val (l.map fun _ => 51) = 3689348814741910323 := by
    intro l hl; rw [List.map_const', hl]; decide +kernel
  have m4 : ∀ l : List Nat, l.length = 8 → val (l.map fun _ => 15) = 1085102592571150095 := by
    intro l hl; rw [List.map_const', hl]; decide +kernel
  have e1 := s1 (bytes8 x) hl
  rw [m1, hv] at e1
  have e2 := s2 ((bytes8 x).map b1) (by intro b hb; obtain ⟨c, hc, rfl⟩ := List.mem_map.1 hb; exact (db1 c (hl c hc)).1)
  rw [m3 _ rfl] at e2
  have e3 := s3 (((bytes8 x).map b1).map b2) (by
    intro b hb; obtain ⟨c, hc, rfl⟩ := List.mem_map.1 hb; obtain ⟨d, hd, rfl⟩ := List.mem_map.1 hc; have := db1 d (hl d hd); exact ⟨this.2.2.1, this.2.2.2.1⟩)
  rw [m4 _ rfl] at e3
  have e4 : (((bytes8 x).map b1).map b2).map b3 = (bytes8 x).map fun b => pc b 8 := by
    rw [List.map_map, List.map_map]
    apply List.map_congr_left
    intro b hb
    exact (db1 b (hl b hb)).2.2.2.2
  rw [e4] at e3
  have e5 := pc_val (bytes8 x) hl
  rw [hv, show 8 * (bytes8 x).length = 64 from rfl] at e5
  unfold ones64
  simp only [e1, e2, e3]
  rw [e5, land127]
  have q := fun b => pc8_le b
  simp only [bytes8, List.map_cons, List.map_nil, val, List.sum_cons, List.sum_nil]
  have q0 := q (x % 256)
  have q1 := q (x / 256 % 256)
  have q2 := q (x / 65536 % 256)
  have q3 := q (x / 16777216 % 256)
  have q4 := q (x / 4294967296 % 256)
  have q5 := q (x / 1099511627776 % 256)
  have q6 := q (x / 281474976710656 % 256)
  have q7 := q (x / 72057594037927936 % 256)
  generalize pc (x % 256) 8 = p0 at *
  generalize pc (x / 256 % 256) 8 = p1 at *
  generalize pc (x / 65536 % 256) 8 = p2 at *
  generalize pc (x / 16777216 % 256) 8 = p3 at *
  generalize pc (x / 4294967296 % 256) 8 = p4 at *
  generalize pc (x / 1099511627776 % 256) 8 = p5 at *
  generalize pc (x / 281474976710656 % 256) 8 = p6 at *
  generalize pc (x / 72057594037927936 % 256) 8 = p7 at *
  clear e1 e2 e3 e4 e5 m1 m3 m4 hl hv h q
  exact fin p0 p1 p2 p3 p4 p5 p6 p7 _ _ _ _ q0 q1 q2 q3 q4 q5 q6 q7 rfl rfl rfl rfl

end Go.Proofs.Ytckfjkpcebklnaa
