/- Sums of 32 bits over bytes, as plain numbers: halving, bytes, the table, bursts. No program. -/
import Derived.WalkKit
namespace Go.Proofs.Ytoifaeabieojbaa

def half (s : Nat) : Nat := (s / 2) ^^^ (if s % 2 = 1 then 3988292384 else 0)
def hv : Nat → Nat → Nat
  | 0, s => s
  | k + 1, s => hv k (half s)
/-- a state behind bytes -/
def onB : Nat → List Nat → Nat
  | s, [] => s
  | s, b :: l => onB (hv 8 (s ^^^ b)) l
def valB : List Nat → Nat
  | [] => 0
  | b :: l => b ^^^ (256 * valB l)

theorem xor_zero_eq {a b : Nat} (h : a ^^^ b = 0) : a = b := by
  have e : a = (a ^^^ b) ^^^ b := by rw [Nat.xor_assoc, Nat.xor_self, Nat.xor_zero]
  rw [e, h, Nat.zero_xor]
theorem xor_div2 (a b : Nat) : (a ^^^ b) / 2 = (a / 2) ^^^ (b / 2) := by
  apply Nat.eq_of_testBit_eq
  intro j
  rw [← Nat.testBit_succ, Nat.testBit_xor, Nat.testBit_xor, Nat.testBit_succ, Nat.testBit_succ]
theorem xor_mod2 (a b : Nat) : (a ^^^ b) % 2 = (a % 2 + b % 2) % 2 := by
  have h := Nat.testBit_xor (x := a) (y := b) (i := 0)
  simp only [Nat.testBit_zero] at h
  have ha := Nat.mod_two_eq_zero_or_one a
  have hb := Nat.mod_two_eq_zero_or_one b
  have hc := Nat.mod_two_eq_zero_or_one (a ^^^ b)
  rcases ha with ha | ha <;> rcases hb with hb | hb <;> rcases hc with hc | hc <;> simp_all
theorem half_xor (a b : Nat) : half (a ^^^ b) = half a ^^^ half b := by
  unfold half
  rw [xor_div2, xor_mod2]
  have e : ∀ p q r s : Nat, (p ^^^ q) ^^^ (r ^^^ s) = (p ^^^ r) ^^^ (q ^^^ s) := fun p q r s => by
    rw [Nat.xor_assoc, Nat.xor_assoc, ← Nat.xor_assoc q r s, Nat.xor_comm q r, Nat.xor_assoc r q s]
  rcases Nat.mod_two_eq_zero_or_one a with ha | ha <;> rcases Nat.mod_two_eq_zero_or_one b with hb | hb <;> rw [ha, hb]
  · simp
  · simp [Nat.xor_assoc]
  · simp only [Nat.add_zero, Nat.reduceMod, if_true, if_neg (show ¬ (0 : Nat) = 1 by decide), Nat.xor_zero]
    rw [Nat.xor_assoc, Nat.xor_assoc, Nat.xor_comm (b / 2)]
  · simp only [Nat.reduceAdd, Nat.reduceMod, if_true, if_neg (show ¬ (0 : Nat) = 1 by decide), Nat.xor_zero]
    rw [e, Nat.xor_self, Nat.xor_zero]
theorem half_dbl (a : Nat) : half (2 * a) = a := by
  unfold half
  rw [if_neg (by omega), Nat.xor_zero]; omega
theorem half_lt (s : Nat) (h : s < 4294967296) : half s < 4294967296 := by
  unfold half
  refine Nat.xor_lt_two_pow (n := 32) (by omega) ?_
  split <;> decide
theorem half_zero (s : Nat) (h : s < 4294967296) (h0 : half s = 0) : s = 0 := by
  unfold half at h0
  split at h0
  · have : s / 2 = 3988292384 := xor_zero_eq h0
    omega
  · rw [Nat.xor_zero] at h0; omega
theorem hv_xor (k a b : Nat) : hv k (a ^^^ b) = hv k a ^^^ hv k b := by
  induction k generalizing a b with
  | zero => rfl
  | succ k ih => show hv k (half (a ^^^ b)) = _; rw [half_xor, ih]; rfl
theorem hv_add (j k s : Nat) : hv (j + k) s = hv k (hv j s) := by
  induction j generalizing s with
  | zero => rw [Nat.zero_add]; rfl
  | succ j ih => rw [Nat.succ_add]; exact ih (half s)
theorem hv_lt (k s : Nat) (h : s < 4294967296) : hv k s < 4294967296 := by
  induction k generalizing s with
  | zero => exact h
  | succ k ih => exact ih _ (half_lt s h)
theorem hv_0 (k : Nat) : hv k 0 = 0 := by
  induction k with
  | zero => rfl
  | succ k ih => show hv k (half 0) = 0; rw [show half 0 = 0 from rfl, ih]
theorem hv_zero (k s : Nat) (h : s < 4294967296) (h0 : hv k s = 0) : s = 0 := by
  induction k generalizing s with
  | zero => exact h0
  | succ k ih => exact half_zero s h (ih _ (half_lt s h) h0)
theorem hv_shift (k a : Nat) : hv k (2 ^ k * a) = a := by
  induction k generalizing a with
  | zero => show 2 ^ 0 * a = a; omega
  | succ k ih =>
    show hv k (half (2 ^ (k + 1) * a)) = a
    rw [Nat.pow_succ, Nat.mul_comm (2 ^ k) 2, Nat.mul_assoc, half_dbl, ih]
theorem hv_inj (k a b : Nat) (ha : a < 4294967296) (hb : b < 4294967296) (h : hv k a = hv k b) : a = b := by
  have h1 : hv k (a ^^^ b) = 0 := by rw [hv_xor, h, Nat.xor_self]
  exact xor_zero_eq (hv_zero k _ (Nat.xor_lt_two_pow (n := 32) ha hb) h1)

theorem onB_append (s : Nat) (l m : List Nat) : onB s (l ++ m) = onB (onB s l) m := by
  induction l generalizing s with
  | nil => rfl
  | cons b l ih => exact ih _
theorem onB_snoc (s : Nat) (l : List Nat) (c : Nat) : onB s (l ++ [c]) = hv 8 (onB s l ^^^ c) := by rw [onB_append]; rfl
theorem onB_lt (s : Nat) (l : List Nat) (hs : s < 4294967296) (hl : ∀ b ∈ l, b < 256) : onB s l < 4294967296 := by
  induction l generalizing s with
  | nil => exact hs
  | cons b l ih =>
    refine ih _ (hv_lt _ _ (Nat.xor_lt_two_pow (n := 32) hs ?_)) (fun x hx => hl x (by simp [hx]))
    have := hl b (by simp)
    omega
theorem onB_val (s : Nat) (l : List Nat) : onB s l = hv (8 * l.length) (s ^^^ valB l) := by
  induction l generalizing s with
  | nil => show s = hv 0 (s ^^^ 0); rw [Nat.xor_zero]; rfl
  | cons b l ih =>
    show onB (hv 8 (s ^^^ b)) l = hv (8 * (l.length + 1)) (s ^^^ (b ^^^ 256 * valB l))
    have e : hv 8 ((s ^^^ b) ^^^ (2 ^ 8 * valB l)) = hv 8 (s ^^^ b) ^^^ valB l := by rw [hv_xor 8 (s ^^^ b), hv_shift]
    rw [ih, show 8 * (l.length + 1) = 8 + 8 * l.length by omega, hv_add, ← Nat.xor_assoc, show 256 * valB l = 2 ^ 8 * valB l from rfl, e]

/-- the table's step -/
theorem table_step (s c : Nat) : hv 8 ((s % 256) ^^^ c) ^^^ (s / 256) = hv 8 (s ^^^ c) := by
  have e : s = (s % 256) ^^^ (256 * (s / 256)) := by
    apply Nat.eq_of_testBit_eq
    intro j
    rw [Nat.testBit_xor, show (256 : Nat) = 2 ^ 8 from rfl, Nat.testBit_mod_two_pow, Nat.testBit_two_pow_mul, Nat.testBit_div_two_pow]
    by_cases hj : j < 8
    · simp [hj, show ¬ 8 ≤ j by omega]
    · simp [hj, show 8 ≤ j by omega]
  have e2 : hv 8 (256 * (s / 256)) = s / 256 := hv_shift 8 _
  have e3 : hv 8 (s ^^^ c) = hv 8 (((s % 256) ^^^ (256 * (s / 256))) ^^^ c) := by rw [← e]
  rw [e3, Nat.xor_assoc, Nat.xor_comm (256 * (s / 256)) c, ← Nat.xor_assoc, hv_xor 8 (s % 256 ^^^ c) (256 * (s / 256)), e2]

/-- the four bytes of a sum, the lowest first -/
def le4 (n : Nat) : List Nat := [n % 256, n / 256 % 256, n / 65536 % 256, n / 16777216 % 256]
theorem xor_256 (b v : Nat) (hb : b < 256) : b ^^^ (256 * v) = b + 256 * v := by
  apply Nat.eq_of_testBit_eq
  intro j
  rw [Nat.add_comm, show (256 : Nat) = 2 ^ 8 from rfl, Nat.testBit_two_pow_mul_add v (show b < 2 ^ 8 from hb), Nat.testBit_xor, Nat.testBit_two_pow_mul]
  by_cases hj : j < 8
  · simp [hj, show ¬ 8 ≤ j by omega]
  · rw [Nat.testBit_lt_two_pow (Nat.lt_of_lt_of_le (show b < 2 ^ 8 from hb) (Nat.pow_le_pow_right (by decide) (by omega)))]
    simp [hj, show 8 ≤ j by omega]
theorem valB_cons (b : Nat) (l : List Nat) (hb : b < 256) : valB (b :: l) = b + 256 * valB l := xor_256 b _ hb
theorem valB_inj : ∀ (l m : List Nat), l.length = m.length → (∀ b ∈ l, b < 256) → (∀ b ∈ m, b < 256) → valB l = valB m → l = m
  | [], [], _, _, _, _ => rfl
  | [], _ :: _, h, _, _, _ => by simp at h
  | _ :: _, [], h, _, _, _ => by simp at h
  | b :: l, c :: m, h, hl, hm, hv => by
    have hb := hl b (by simp)
    have hc := hm c (by simp)
    rw [valB_cons b l hb, valB_cons c m hc] at hv
    have h1 : b = c := by omega
    have h2 : valB l = valB m := by omega
    rw [h1, valB_inj l m (by simpa using h) (fun x hx => hl x (by simp [hx])) (fun x hx => hm x (by simp [hx])) h2]
theorem le4_lt (n : Nat) : ∀ b ∈ le4 n, b < 256 := by
  intro b hb; simp only [le4, List.mem_cons, List.not_mem_nil, or_false] at hb; omega
theorem valB_le4 (n : Nat) (h : n < 4294967296) : valB (le4 n) = n := by
  unfold le4
  rw [valB_cons _ _ (by omega), valB_cons _ _ (by omega), valB_cons _ _ (by omega), valB_cons _ _ (by omega)]
  show _ + 256 * (_ + 256 * (_ + 256 * (_ + 256 * 0))) = n
  omega
def other (s : Nat) : Nat := s ^^^ 4294967295
def crc (l : List Nat) : Nat := other (onB 4294967295 l)
def sealB (l : List Nat) : List Nat := l ++ le4 (crc l)
def fitsL (l : List Nat) : Bool := decide (4 ≤ l.length) && decide (sealB (l.take (l.length - 4)) = l)
theorem other_lt (s : Nat) (h : s < 4294967296) : other s < 4294967296 := Nat.xor_lt_two_pow (n := 32) h (by decide)
theorem other_other (s : Nat) : other (other s) = s := by unfold other; rw [Nat.xor_assoc, Nat.xor_self, Nat.xor_zero]
theorem crc_lt (l : List Nat) (hl : ∀ b ∈ l, b < 256) : crc l < 4294967296 := other_lt _ (onB_lt _ _ (by decide) hl)
/-- what is sealed leaves one residue -/
theorem seal_res (l c : List Nat) (hl : ∀ b ∈ l, b < 256) (hc : ∀ b ∈ c, b < 256) (h4 : c.length = 4) :
    (c = le4 (crc l)) ↔ onB 4294967295 (l ++ c) = hv 32 4294967295 := by
  have hS := onB_lt 4294967295 l (by decide) hl
  have hV : valB c < 4294967296 := by
    match c, h4 with
    | [a, b, d, e], _ =>
      have ha := hc a (by simp)
      have hb := hc b (by simp)
      have hd := hc d (by simp)
      have he := hc e (by simp)
      rw [valB_cons _ _ ha, valB_cons _ _ hb, valB_cons _ _ hd, valB_cons _ _ he]
      show _ + 256 * (_ + 256 * (_ + 256 * (_ + 256 * 0))) < _
      omega
  have e1 : onB 4294967295 (l ++ c) = hv 32 (onB 4294967295 l ^^^ valB c) := by rw [onB_append, onB_val _ c, h4]
  rw [e1]
  constructor
  · intro h
    rw [h, valB_le4 _ (crc_lt l hl), crc, other, ← Nat.xor_assoc, Nat.xor_self, Nat.zero_xor]
  · intro h
    have h1 := hv_inj 32 _ _ (Nat.xor_lt_two_pow (n := 32) hS hV) (by decide) h
    refine valB_inj _ _ (by rw [h4]; rfl) hc (le4_lt _) ?_
    rw [valB_le4 _ (crc_lt l hl)]
    show valB c = onB 4294967295 l ^^^ 4294967295
    have e : ∀ S V M : Nat, S ^^^ V = M → V = S ^^^ M := fun S V M h => by rw [← h, ← Nat.xor_assoc, Nat.xor_self, Nat.zero_xor]
    exact e _ _ _ h1
theorem fits_res (x : List Nat) (hx : ∀ b ∈ x, b < 256) (h4 : 4 ≤ x.length) : fitsL x = decide (onB 4294967295 x = hv 32 4294967295) := by
  have hs := List.take_append_drop (x.length - 4) x
  have hl : ∀ b ∈ x.take (x.length - 4), b < 256 := fun b hb => hx b (List.mem_of_mem_take hb)
  have hc : ∀ b ∈ x.drop (x.length - 4), b < 256 := fun b hb => hx b (List.mem_of_mem_drop hb)
  have h := seal_res (x.take (x.length - 4)) (x.drop (x.length - 4)) hl hc (by rw [List.length_drop]; omega)
  rw [hs] at h
  rw [Bool.eq_iff_iff, decide_eq_true_eq, ← h, fitsL, Bool.and_eq_true, decide_eq_true_eq, decide_eq_true_eq]
  constructor
  · rintro ⟨_, he⟩
    unfold sealB at he
    exact (List.append_cancel_left (he.trans hs.symm)).symm
  · intro he
    refine ⟨h4, ?_⟩
    unfold sealB
    rw [← he, hs]
theorem fits_seal (l : List Nat) : fitsL (sealB l) = true := by
  unfold fitsL sealB
  have e : (l ++ le4 (crc l)).length - 4 = l.length := by simp [le4]
  rw [e, List.take_left]
  simp [le4]

/-- bits turned: one step, and all -/
def turn1 (bit pat i : Nat) (l : List Nat) : List Nat :=
  if (bit + i) / 8 < l.length ∧ pat / 2 ^ i % 2 = 1 then l.set ((bit + i) / 8) (l.getD ((bit + i) / 8) 0 ^^^ 2 ^ ((bit + i) % 8)) else l
def turnK (bit pat : Nat) (l : List Nat) : Nat → List Nat
  | 0 => l
  | k + 1 => turn1 bit pat k (turnK bit pat l k)
theorem turn1_len (bit pat i : Nat) (l : List Nat) : (turn1 bit pat i l).length = l.length := by unfold turn1; split <;> simp
theorem turnK_len (bit pat : Nat) (l : List Nat) (k : Nat) : (turnK bit pat l k).length = l.length := by
  induction k with
  | zero => rfl
  | succ k ih => rw [turnK, turn1_len, ih]
theorem pow_lt_256 (j : Nat) : 2 ^ (j % 8) < 256 := by
  have : 2 ^ (j % 8) ≤ 2 ^ 7 := Nat.pow_le_pow_right (by decide) (by omega)
  omega
theorem turn1_lt (bit pat i : Nat) (l : List Nat) (hl : ∀ b ∈ l, b < 256) : ∀ b ∈ turn1 bit pat i l, b < 256 := by
  unfold turn1
  split
  · rename_i h
    intro b hb
    rcases List.mem_or_eq_of_mem_set hb with hb | hb
    · exact hl b hb
    · rw [hb]
      refine Nat.xor_lt_two_pow (n := 8) ?_ (pow_lt_256 _)
      rw [List.getD_eq_getElem?_getD, List.getElem?_eq_getElem h.1]
      exact hl _ (List.getElem_mem _)
  · exact hl
theorem turnK_lt (bit pat : Nat) (l : List Nat) (hl : ∀ b ∈ l, b < 256) (k : Nat) : ∀ b ∈ turnK bit pat l k, b < 256 := by
  induction k with
  | zero => exact hl
  | succ k ih => exact turn1_lt _ _ _ _ ih
theorem mul_xor (m a b : Nat) : 2 ^ m * (a ^^^ b) = (2 ^ m * a) ^^^ (2 ^ m * b) := by
  apply Nat.eq_of_testBit_eq
  intro j
  rw [Nat.testBit_xor, Nat.testBit_two_pow_mul, Nat.testBit_two_pow_mul, Nat.testBit_two_pow_mul, Nat.testBit_xor]
  by_cases h : m ≤ j <;> simp [h]
theorem valB_set (l : List Nat) (j x : Nat) (hj : j < l.length) : valB (l.set j (l.getD j 0 ^^^ x)) = valB l ^^^ (2 ^ (8 * j) * x) := by
  induction l generalizing j with
  | nil => simp at hj
  | cons b l ih =>
    cases j with
    | zero =>
      show (b ^^^ x) ^^^ (256 * valB l) = (b ^^^ 256 * valB l) ^^^ (2 ^ 0 * x)
      rw [Nat.pow_zero, Nat.one_mul, Nat.xor_assoc, Nat.xor_assoc, Nat.xor_comm x]
    | succ j =>
      have h := ih j (by simpa using hj)
      show b ^^^ (256 * valB (l.set j (l.getD j 0 ^^^ x))) = (b ^^^ 256 * valB l) ^^^ (2 ^ (8 * (j + 1)) * x)
      rw [h, show (256 : Nat) = 2 ^ 8 from rfl, mul_xor, Nat.xor_assoc, ← Nat.mul_assoc, ← Nat.pow_add, show 8 + 8 * j = 8 * (j + 1) by omega]
theorem turnK_val (bit pat : Nat) (l : List Nat) (k : Nat) : ∃ p, p < 2 ^ k ∧ valB (turnK bit pat l k) = valB l ^^^ (2 ^ bit * p) := by
  induction k with
  | zero => exact ⟨0, by decide, by simp [turnK]⟩
  | succ k ih =>
    obtain ⟨p, hp, he⟩ := ih
    rw [turnK, turn1]
    split
    · rename_i h
      refine ⟨p ^^^ 2 ^ k, ?_, ?_⟩
      · refine Nat.xor_lt_two_pow ?_ (Nat.pow_lt_pow_right (by decide) (by omega))
        rw [Nat.pow_succ]; omega
      · rw [valB_set _ _ _ h.1, he, Nat.xor_assoc, mul_xor, ← Nat.pow_add, ← Nat.pow_add, show 8 * ((bit + k) / 8) + (bit + k) % 8 = bit + k by omega]
    · exact ⟨p, by rw [Nat.pow_succ]; omega, he⟩
theorem cancel_xor (a b c : Nat) : (a ^^^ b) ^^^ (a ^^^ c) = b ^^^ c := by
  rw [Nat.xor_comm a b, Nat.xor_assoc, ← Nat.xor_assoc a a c, Nat.xor_self, Nat.zero_xor]
/-- a turn of up to 32 bits next to one another, begun within the bytes, is seen -/
theorem burst (s x : List Nat) (hs : ∀ b ∈ s, b < 256) (hx : ∀ b ∈ x, b < 256) (hlen : x.length = s.length) (bit p : Nat) (hbit : bit < 8 * s.length) (hp : p < 4294967296)
    (hv' : valB x = valB s ^^^ (2 ^ bit * p)) (i : Nat) (h : onB i x = onB i s) : x = s := by
  rw [onB_val, onB_val, hlen] at h
  have h1 : hv (8 * s.length) ((i ^^^ valB x) ^^^ (i ^^^ valB s)) = 0 := by rw [hv_xor, h, Nat.xor_self]
  rw [cancel_xor, hv', Nat.xor_comm (valB s), Nat.xor_assoc, Nat.xor_self, Nat.xor_zero, show 8 * s.length = bit + (8 * s.length - bit) by omega, hv_add, hv_shift] at h1
  have h2 := hv_zero _ p hp h1
  refine valB_inj x s hlen hx hs ?_
  rw [hv', h2, Nat.mul_zero, Nat.xor_zero]
theorem burst_fits (l : List Nat) (hl : ∀ b ∈ l, b < 256) (bit pat : Nat) (hbit : bit < 8 * (sealB l).length) :
    fitsL (turnK bit pat (sealB l) 32) = decide (turnK bit pat (sealB l) 32 = sealB l) := by
  have hs : ∀ b ∈ sealB l, b < 256 := by
    intro b hb
    rcases List.mem_append.1 hb with hb | hb
    · exact hl b hb
    · exact le4_lt _ b hb
  have h4 : 4 ≤ (sealB l).length := by simp [sealB, le4]
  have hx := turnK_lt bit pat (sealB l) hs 32
  have hn := turnK_len bit pat (sealB l) 32
  obtain ⟨p, hp, he⟩ := turnK_val bit pat (sealB l) 32
  have f1 := fits_seal l
  rw [fits_res _ hs h4, decide_eq_true_eq] at f1
  rw [fits_res _ hx (by omega), Bool.eq_iff_iff, decide_eq_true_eq, decide_eq_true_eq]
  constructor
  · intro h
    exact burst (sealB l) _ hs hx hn bit p hbit hp he _ (h.trans f1.symm)
  · intro h
    rw [h]; exact f1
end Go.Proofs.Ytoifaeabieojbaa
