/- GD: LatA CrcM CrcA CrcB CrcC CrcD CrcE FixKit CrcF CrcG CrcH CrcI CrcJ CrcK CrcL CrcN CrcO -/
import Derived.Defers
import Derived.Laws.Pointers
import Derived.Laws.LoneSync
import Derived.Laws.NewBlocks
import Derived.RegionTactic
import Derived.RegionCalls
import Derived.ChangeAlike
import Derived.Shelf.Abstract
import Derived.Test.YtmpedblelnpjdaaGreatDoorRows
import Derived.Test.YtmpedblelnpjdaaGreatDoorZGA
import Derived.WalkKit
import Derived.Laws.BitsAll
import Derived.StillTailTactics
import Derived.Test.YtmpedblelnpjdaaGreatDoorZGB
import Derived.Lib.SlBytesConst
/- sync.Once, one goroutine: its calls, each by a contract (after the guide's worked text, toys/lazy). -/
namespace Go.Proofs.YtmpedblelnpjdaaGreatDoor
open Go.RowKit
set_option linter.unusedSimpArgs false
set_option linter.unusedVariables false
set_option maxRecDepth 100000
set_option maxHeartbeats 4000000

theorem disable (w : World) : (callFunc 334 #[]).run Tryz.prog w = .ok (.value (.tuple #[])) w := run_call_mark0 Tryz.func334 (by kernel_rfl) (by kernel_rfl) (by kernel_rfl) .disable (by kernel_rfl) w
theorem enable (w : World) : (callFunc 336 #[]).run Tryz.prog w = .ok (.value (.tuple #[])) w := run_call_mark0 Tryz.func336 (by kernel_rfl) (by kernel_rfl) (by kernel_rfl) .enable (by kernel_rfl) w
theorem acquire (a : Addr) (w : World) : (callFunc 337 #[.pointer (some a)]).run Tryz.prog w = .ok (.value (.tuple #[])) w := run_call_marked Tryz.func337 (by kernel_rfl) (by kernel_rfl) (by kernel_rfl) .acquire (by kernel_rfl) a w
theorem releaseMerge (a : Addr) (w : World) : (callFunc 339 #[.pointer (some a)]).run Tryz.prog w = .ok (.value (.tuple #[])) w := run_call_marked Tryz.func339 (by kernel_rfl) (by kernel_rfl) (by kernel_rfl) .releaseMerge (by kernel_rfl) a w
theorem run_not (x : Bool) (w : World) : (Op.unary .not (.bool x)).run Tryz.prog w = .ok (.bool (!x)) w := rfl

/-- '(*atomic.Bool).Load' -/
theorem bload_any (a : Addr) (x : Int) (w : World) (hc : w.cell? a = some (.int .u32 x)) : Calls Tryz.prog 230 #[.pointer (some a)] w fun e w' => e = .returned (.bool (x != 0)) ∧ w = w' := by
  have hl := run_call_load (P := Tryz.prog) Tryz.func289 (by kernel_rfl) (by kernel_rfl) (by kernel_rfl) .u32 (by kernel_rfl) hc
  go_enter Tryz.func230, Tryz.ntmps230
  go_wp2
  go_ret
  exact ⟨rfl, rfl⟩
theorem store_deferred (a : Addr) (x : Value) (u : FrameMode) (w : World) (hc : w.cell? a = some x) (hz : w.frozen? a = false) :
    CallsD Tryz.prog 242 #[.pointer (some a), .bool true] u w fun e u' w' => u' = u ∧ (e = .returned (.tuple #[]) ∧ w' = w.drew.setCell a (.int .u32 1)) := by
  have hc' : w.drew.cell? a = some x := by go_simp
  have hz' : w.drew.frozen? a = false := by go_simp
  have hst := run_call_store (P := Tryz.prog) Tryz.func295 (by kernel_rfl) (by kernel_rfl) (by kernel_rfl) (by kernel_rfl) (k := .u32) (y := 1) hc' hz'
  go_enter_d Tryz.func242, Tryz.ntmps242
  go_wp2
  go_region_calls
  all_goals (go_end0; exact ⟨rfl, rfl⟩)
theorem unlock_deferred (a : Addr) (u : FrameMode) (w : World) (hc : w.cell? a = some (.int .i32 1)) (hz : w.frozen? a = false) :
    CallsD Tryz.prog 321 #[.pointer (some a)] u w fun e u' w' => u' = u ∧ (e = .returned (.tuple #[]) ∧ w' = w.setCell a (.int .i32 0)) := by
  have hd := disable
  have he := enable
  have hr := releaseMerge
  have hadd := run_call_add (P := Tryz.prog) Tryz.func332 (by kernel_rfl) (by kernel_rfl) (by kernel_rfl) .i32 (by kernel_rfl) (y := -1) (s := 0) hc hz (by simp [go_sem]; rfl)
  have hcv := run_convert_to_unsafe (P := Tryz.prog) (src := 374) (dst := 377) Tryz.underlying374 Tryz.underlying377 (by kernel_rfl) hc
  go_enter_d Tryz.func321, Tryz.ntmps321
  go_wp2
  go_end0
  go_wp2
  go_end0
  exact ⟨rfl, rfl⟩
theorem lock_free (a : Addr) (w : World) (hc : w.cell? a = some (.int .i32 0)) (hz : w.frozen? a = false) :
    Calls Tryz.prog 320 #[.pointer (some a)] w fun e w' => e = .returned (.tuple #[]) ∧ w' = w.setCell a (.int .i32 1) := by
  have hd := disable
  have he := enable
  have ha := acquire
  have hcas := run_call_cas_hit (P := Tryz.prog) Tryz.func335 (by kernel_rfl) (by kernel_rfl) (by kernel_rfl) .i32 (by kernel_rfl) (y := 1) hc hz
  have hc' : (w.setCell a (.int .i32 1)).cell? a = some (.int .i32 1) := World.cell?_setCell_same w a _ hc
  have hcv := run_convert_to_unsafe (P := Tryz.prog) (src := 374) (dst := 377) Tryz.underlying374 Tryz.underlying377 (by kernel_rfl) hc'
  go_enter Tryz.func320, Tryz.ntmps320
  go_wp2
  first | go_end0 | (simp only [Exit.inBlock, Exit.then]; refine bodyPost_ret (results_none rfl _ _ _) rfl ?_) | refine bodyPost_ret (results_none rfl _ _ _) rfl ?_
  go_wp2
  go_end0
  exact ⟨rfl, rfl⟩

/-- behind a Once that was done: the world -/
def onced (w : World) (g : Nat) : World := (w.drew.setCell ⟨g, 0, none⟩ (.int .u32 1)).setCell ⟨g, 1, none⟩ (.int .i32 0)
theorem do_done (g : Nat) (fv : Value) (w : World) (h0 : w.cell? ⟨g, 0, none⟩ = some (.int .u32 1)) :
    Calls Tryz.prog 240 #[.pointer (some ⟨g, 0, none⟩), fv] w fun e w' => e = .returned (.tuple #[]) ∧ w = w' := by
  have hnot := run_not
  have hB := Lib.hid (bload_any ⟨g, 0, none⟩ 1 w h0)
  go_enter Tryz.func240, Tryz.ntmps240
  go_wp2_with (first | (go_at_call 230; refine hB.out.mono ?_; rintro e w' ⟨rfl, rfl⟩) | fail)
  go_end0
  exact ⟨rfl, rfl⟩
end Go.Proofs.YtmpedblelnpjdaaGreatDoor

/- Sums of 32 bits over bytes, as plain numbers: halving, bytes, the table, bursts. No program. -/
namespace Go.Proofs.YtmpedblelnpjdaaGreatDoor

def half (s : Nat) : Nat := (s / 2) ^^^ (if s % 2 = 1 then 3988292384 else 0)
def hv : Nat → Nat → Nat
  | 0, s => s
  | k + 1, s => hv k (half s)
/-- a state behind bytes -/
def onB : Nat → List Nat → Nat
  | s, [] => s
  | s, b :: l => onB (hv 8 (s ^^^ b)) l
def valB : List Nat → Nat
  | [] => 0
  | b :: l => b ^^^ (256 * valB l)

theorem xor_zero_eq {a b : Nat} (h : a ^^^ b = 0) : a = b := by
  have e : a = (a ^^^ b) ^^^ b := by rw [Nat.xor_assoc, Nat.xor_self, Nat.xor_zero]
  rw [e, h, Nat.zero_xor]
theorem xor_div2 (a b : Nat) : (a ^^^ b) / 2 = (a / 2) ^^^ (b / 2) := by
  apply Nat.eq_of_testBit_eq
  intro j
  rw [← Nat.testBit_succ, Nat.testBit_xor, Nat.testBit_xor, Nat.testBit_succ, Nat.testBit_succ]
theorem xor_mod2 (a b : Nat) : (a ^^^ b) % 2 = (a % 2 + b % 2) % 2 := by
  have h := Nat.testBit_xor (x := a) (y := b) (i := 0)
  simp only [Nat.testBit_zero] at h
  have ha := Nat.mod_two_eq_zero_or_one a
  have hb := Nat.mod_two_eq_zero_or_one b
  have hc := Nat.mod_two_eq_zero_or_one (a ^^^ b)
  rcases ha with ha | ha <;> rcases hb with hb | hb <;> rcases hc with hc | hc <;> simp_all
theorem half_xor (a b : Nat) : half (a ^^^ b) = half a ^^^ half b := by
  unfold half
  rw [xor_div2, xor_mod2]
  have e : ∀ p q r s : Nat, (p ^^^ q) ^^^ (r ^^^ s) = (p ^^^ r) ^^^ (q ^^^ s) := fun p q r s => by
    rw [Nat.xor_assoc, Nat.xor_assoc, ← Nat.xor_assoc q r s, Nat.xor_comm q r, Nat.xor_assoc r q s]
  rcases Nat.mod_two_eq_zero_or_one a with ha | ha <;> rcases Nat.mod_two_eq_zero_or_one b with hb | hb <;> rw [ha, hb]
  · simp
  · simp [Nat.xor_assoc]
  · simp only [Nat.add_zero, Nat.reduceMod, if_true, if_neg (show ¬ (0 : Nat) = 1 by decide), Nat.xor_zero]
    rw [Nat.xor_assoc, Nat.xor_assoc, Nat.xor_comm (b / 2)]
  · simp only [Nat.reduceAdd, Nat.reduceMod, if_true, if_neg (show ¬ (0 : Nat) = 1 by decide), Nat.xor_zero]
    rw [e, Nat.xor_self, Nat.xor_zero]
theorem half_dbl (a : Nat) : half (2 * a) = a := by
  unfold half
  rw [if_neg (by omega), Nat.xor_zero]; omega
theorem half_lt (s : Nat) (h : s < 4294967296) : half s < 4294967296 := by
  unfold half
  refine Nat.xor_lt_two_pow (n := 32) (by omega) ?_
  split <;> decide
theorem half_zero (s : Nat) (h : s < 4294967296) (h0 : half s = 0) : s = 0 := by
  unfold half at h0
  split at h0
  · have : s / 2 = 3988292384 := xor_zero_eq h0
    omega
  · rw [Nat.xor_zero] at h0; omega
theorem hv_xor (k a b : Nat) : hv k (a ^^^ b) = hv k a ^^^ hv k b := by
  induction k generalizing a b with
  | zero => rfl
  | succ k ih => show hv k (half (a ^^^ b)) = _; rw [half_xor, ih]; rfl
theorem hv_add (j k s : Nat) : hv (j + k) s = hv k (hv j s) := by
  induction j generalizing s with
  | zero => rw [Nat.zero_add]; rfl
  | succ j ih => rw [Nat.succ_add]; exact ih (half s)
theorem hv_lt (k s : Nat) (h : s < 4294967296) : hv k s < 4294967296 := by
  induction k generalizing s with
  | zero => exact h
  | succ k ih => exact ih _ (half_lt s h)
theorem hv_zero (k s : Nat) (h : s < 4294967296) (h0 : hv k s = 0) : s = 0 := by
  induction k generalizing s with
  | zero => exact h0
  | succ k ih => exact half_zero s h (ih _ (half_lt s h) h0)
theorem hv_shift (k a : Nat) : hv k (2 ^ k * a) = a := by
  induction k generalizing a with
  | zero => show 2 ^ 0 * a = a; omega
  | succ k ih =>
    show hv k (half (2 ^ (k + 1) * a)) = a
    rw [Nat.pow_succ, Nat.mul_comm (2 ^ k) 2, Nat.mul_assoc, half_dbl, ih]
theorem hv_inj (k a b : Nat) (ha : a < 4294967296) (hb : b < 4294967296) (h : hv k a = hv k b) : a = b := by
  have h1 : hv k (a ^^^ b) = 0 := by rw [hv_xor, h, Nat.xor_self]
  exact xor_zero_eq (hv_zero k _ (Nat.xor_lt_two_pow (n := 32) ha hb) h1)

theorem onB_append (s : Nat) (l m : List Nat) : onB s (l ++ m) = onB (onB s l) m := by
  induction l generalizing s with
  | nil => rfl
  | cons b l ih => exact ih _
theorem onB_snoc (s : Nat) (l : List Nat) (c : Nat) : onB s (l ++ [c]) = hv 8 (onB s l ^^^ c) := by rw [onB_append]; rfl
theorem onB_lt (s : Nat) (l : List Nat) (hs : s < 4294967296) (hl : ∀ b ∈ l, b < 256) : onB s l < 4294967296 := by
  induction l generalizing s with
  | nil => exact hs
  | cons b l ih =>
    refine ih _ (hv_lt _ _ (Nat.xor_lt_two_pow (n := 32) hs ?_)) (fun x hx => hl x (by simp [hx]))
    have := hl b (by simp)
    omega
theorem onB_val (s : Nat) (l : List Nat) : onB s l = hv (8 * l.length) (s ^^^ valB l) := by
  induction l generalizing s with
  | nil => show s = hv 0 (s ^^^ 0); rw [Nat.xor_zero]; rfl
  | cons b l ih =>
    show onB (hv 8 (s ^^^ b)) l = hv (8 * (l.length + 1)) (s ^^^ (b ^^^ 256 * valB l))
    have e : hv 8 ((s ^^^ b) ^^^ (2 ^ 8 * valB l)) = hv 8 (s ^^^ b) ^^^ valB l := by rw [hv_xor 8 (s ^^^ b), hv_shift]
    rw [ih, show 8 * (l.length + 1) = 8 + 8 * l.length by omega, hv_add, ← Nat.xor_assoc, show 256 * valB l = 2 ^ 8 * valB l from rfl, e]

/-- the table's step -/
theorem table_step (s c : Nat) : hv 8 ((s % 256) ^^^ c) ^^^ (s / 256) = hv 8 (s ^^^ c) := by
  have e : s = (s % 256) ^^^ (256 * (s / 256)) := by
    apply Nat.eq_of_testBit_eq
    intro j
    rw [Nat.testBit_xor, show (256 : Nat) = 2 ^ 8 from rfl, Nat.testBit_mod_two_pow, Nat.testBit_two_pow_mul, Nat.testBit_div_two_pow]
    by_cases hj : j < 8
    · simp [hj, show ¬ 8 ≤ j by omega]
    · simp [hj, show 8 ≤ j by omega]
  have e2 : hv 8 (256 * (s / 256)) = s / 256 := hv_shift 8 _
  have e3 : hv 8 (s ^^^ c) = hv 8 (((s % 256) ^^^ (256 * (s / 256))) ^^^ c) := by rw [← e]
  rw [e3, Nat.xor_assoc, Nat.xor_comm (256 * (s / 256)) c, ← Nat.xor_assoc, hv_xor 8 (s % 256 ^^^ c) (256 * (s / 256)), e2]

/-- the four bytes of a sum, the lowest first -/
def le4 (n : Nat) : List Nat := [n % 256, n / 256 % 256, n / 65536 % 256, n / 16777216 % 256]
theorem xor_256 (b v : Nat) (hb : b < 256) : b ^^^ (256 * v) = b + 256 * v := by
  apply Nat.eq_of_testBit_eq
  intro j
  rw [Nat.add_comm, show (256 : Nat) = 2 ^ 8 from rfl, Nat.testBit_two_pow_mul_add v (show b < 2 ^ 8 from hb), Nat.testBit_xor, Nat.testBit_two_pow_mul]
  by_cases hj : j < 8
  · simp [hj, show ¬ 8 ≤ j by omega]
  · rw [Nat.testBit_lt_two_pow (Nat.lt_of_lt_of_le (show b < 2 ^ 8 from hb) (Nat.pow_le_pow_right (by decide) (by omega)))]
    simp [hj, show 8 ≤ j by omega]
theorem valB_cons (b : Nat) (l : List Nat) (hb : b < 256) : valB (b :: l) = b + 256 * valB l := xor_256 b _ hb
theorem valB_inj : ∀ (l m : List Nat), l.length = m.length → (∀ b ∈ l, b < 256) → (∀ b ∈ m, b < 256) → valB l = valB m → l = m
  | [], [], _, _, _, _ => rfl
  | [], _ :: _, h, _, _, _ => by simp at h
  | _ :: _, [], h, _, _, _ => by simp at h
  | b :: l, c :: m, h, hl, hm, hv => by
    have hb := hl b (by simp)
    have hc := hm c (by simp)
    rw [valB_cons b l hb, valB_cons c m hc] at hv
    have h1 : b = c := by omega
    have h2 : valB l = valB m := by omega
    rw [h1, valB_inj l m (by simpa using h) (fun x hx => hl x (by simp [hx])) (fun x hx => hm x (by simp [hx])) h2]
theorem le4_lt (n : Nat) : ∀ b ∈ le4 n, b < 256 := by
  intro b hb; simp only [le4, List.mem_cons, List.not_mem_nil, or_false] at hb; omega
theorem valB_le4 (n : Nat) (h : n < 4294967296) : valB (le4 n) = n := by
  unfold le4
  rw [valB_cons _ _ (by omega), valB_cons _ _ (by omega), valB_cons _ _ (by omega), valB_cons _ _ (by omega)]
  show _ + 256 * (_ + 256 * (_ + 256 * (_ + 256 * 0))) = n
  omega
def other (s : Nat) : Nat := s ^^^ 4294967295
def crc (l : List Nat) : Nat := other (onB 4294967295 l)
def sealB (l : List Nat) : List Nat := l ++ le4 (crc l)
def fitsL (l : List Nat) : Bool := decide (4 ≤ l.length) && decide (sealB (l.take (l.length - 4)) = l)
theorem other_lt (s : Nat) (h : s < 4294967296) : other s < 4294967296 := Nat.xor_lt_two_pow (n := 32) h (by decide)
theorem other_other (s : Nat) : other (other s) = s := by unfold other; rw [Nat.xor_assoc, Nat.xor_self, Nat.xor_zero]
theorem crc_lt (l : List Nat) (hl : ∀ b ∈ l, b < 256) : crc l < 4294967296 := other_lt _ (onB_lt _ _ (by decide) hl)
/-- what is sealed leaves one residue -/
theorem seal_res (l c : List Nat) (hl : ∀ b ∈ l, b < 256) (hc : ∀ b ∈ c, b < 256) (h4 : c.length = 4) :
    (c = le4 (crc l)) ↔ onB 4294967295 (l ++ c) = hv 32 4294967295 := by
  have hS := onB_lt 4294967295 l (by decide) hl
  have hV : valB c < 4294967296 := by
    match c, h4 with
    | [a, b, d, e], _ =>
      have ha := hc a (by simp)
      have hb := hc b (by simp)
      have hd := hc d (by simp)
      have he := hc e (by simp)
      rw [valB_cons _ _ ha, valB_cons _ _ hb, valB_cons _ _ hd, valB_cons _ _ he]
      show _ + 256 * (_ + 256 * (_ + 256 * (_ + 256 * 0))) < _
      omega
  have e1 : onB 4294967295 (l ++ c) = hv 32 (onB 4294967295 l ^^^ valB c) := by rw [onB_append, onB_val _ c, h4]
  rw [e1]
  constructor
  · intro h
    rw [h, valB_le4 _ (crc_lt l hl), crc, other, ← Nat.xor_assoc, Nat.xor_self, Nat.zero_xor]
  · intro h
    have h1 := hv_inj 32 _ _ (Nat.xor_lt_two_pow (n := 32) hS hV) (by decide) h
    refine valB_inj _ _ (by rw [h4]; rfl) hc (le4_lt _) ?_
    rw [valB_le4 _ (crc_lt l hl)]
    show valB c = onB 4294967295 l ^^^ 4294967295
    have e : ∀ S V M : Nat, S ^^^ V = M → V = S ^^^ M := fun S V M h => by rw [← h, ← Nat.xor_assoc, Nat.xor_self, Nat.zero_xor]
    exact e _ _ _ h1
theorem fits_res (x : List Nat) (hx : ∀ b ∈ x, b < 256) (h4 : 4 ≤ x.length) : fitsL x = decide (onB 4294967295 x = hv 32 4294967295) := by
  have hs := List.take_append_drop (x.length - 4) x
  have hl : ∀ b ∈ x.take (x.length - 4), b < 256 := fun b hb => hx b (List.mem_of_mem_take hb)
  have hc : ∀ b ∈ x.drop (x.length - 4), b < 256 := fun b hb => hx b (List.mem_of_mem_drop hb)
  have h := seal_res (x.take (x.length - 4)) (x.drop (x.length - 4)) hl hc (by rw [List.length_drop]; omega)
  rw [hs] at h
  rw [Bool.eq_iff_iff, decide_eq_true_eq, ← h, fitsL, Bool.and_eq_true, decide_eq_true_eq, decide_eq_true_eq]
  constructor
  · rintro ⟨_, he⟩
    unfold sealB at he
    exact (List.append_cancel_left (he.trans hs.symm)).symm
  · intro he
    refine ⟨h4, ?_⟩
    unfold sealB
    rw [← he, hs]
theorem fits_seal (l : List Nat) : fitsL (sealB l) = true := by
  unfold fitsL sealB
  have e : (l ++ le4 (crc l)).length - 4 = l.length := by simp [le4]
  rw [e, List.take_left]
  simp [le4]

/-- bits turned: one step, and all -/
def turn1 (bit pat i : Nat) (l : List Nat) : List Nat :=
  if (bit + i) / 8 < l.length ∧ pat / 2 ^ i % 2 = 1 then l.set ((bit + i) / 8) (l.getD ((bit + i) / 8) 0 ^^^ 2 ^ ((bit + i) % 8)) else l
def turnK (bit pat : Nat) (l : List Nat) : Nat → List Nat
  | 0 => l
  | k + 1 => turn1 bit pat k (turnK bit pat l k)
theorem turn1_len (bit pat i : Nat) (l : List Nat) : (turn1 bit pat i l).length = l.length := by unfold turn1; split <;> simp
theorem turnK_len (bit pat : Nat) (l : List Nat) (k : Nat) : (turnK bit pat l k).length = l.length := by
  induction k with
  | zero => rfl
  | succ k ih => rw [turnK, turn1_len, ih]
theorem pow_lt_256 (j : Nat) : 2 ^ (j % 8) < 256 := by
  have : 2 ^ (j % 8) ≤ 2 ^ 7 := Nat.pow_le_pow_right (by decide) (by omega)
  omega
theorem turn1_lt (bit pat i : Nat) (l : List Nat) (hl : ∀ b ∈ l, b < 256) : ∀ b ∈ turn1 bit pat i l, b < 256 := by
  unfold turn1
  split
  · rename_i h
    intro b hb
    rcases List.mem_or_eq_of_mem_set hb with hb | hb
    · exact hl b hb
    · rw [hb]
      refine Nat.xor_lt_two_pow (n := 8) ?_ (pow_lt_256 _)
      rw [List.getD_eq_getElem?_getD, List.getElem?_eq_getElem h.1]
      exact hl _ (List.getElem_mem _)
  · exact hl
theorem turnK_lt (bit pat : Nat) (l : List Nat) (hl : ∀ b ∈ l, b < 256) (k : Nat) : ∀ b ∈ turnK bit pat l k, b < 256 := by
  induction k with
  | zero => exact hl
  | succ k ih => exact turn1_lt _ _ _ _ ih
theorem mul_xor (m a b : Nat) : 2 ^ m * (a ^^^ b) = (2 ^ m * a) ^^^ (2 ^ m * b) := by
  apply Nat.eq_of_testBit_eq
  intro j
  rw [Nat.testBit_xor, Nat.testBit_two_pow_mul, Nat.testBit_two_pow_mul, Nat.testBit_two_pow_mul, Nat.testBit_xor]
  by_cases h : m ≤ j <;> simp [h]
theorem valB_set (l : List Nat) (j x : Nat) (hj : j < l.length) : valB (l.set j (l.getD j 0 ^^^ x)) = valB l ^^^ (2 ^ (8 * j) * x) := by
  induction l generalizing j with
  | nil => simp at hj
  | cons b l ih =>
    cases j with
    | zero =>
      show (b ^^^ x) ^^^ (256 * valB l) = (b ^^^ 256 * valB l) ^^^ (2 ^ 0 * x)
      rw [Nat.pow_zero, Nat.one_mul, Nat.xor_assoc, Nat.xor_assoc, Nat.xor_comm x]
    | succ j =>
      have h := ih j (by simpa using hj)
      show b ^^^ (256 * valB (l.set j (l.getD j 0 ^^^ x))) = (b ^^^ 256 * valB l) ^^^ (2 ^ (8 * (j + 1)) * x)
      rw [h, show (256 : Nat) = 2 ^ 8 from rfl, mul_xor, Nat.xor_assoc, ← Nat.mul_assoc, ← Nat.pow_add, show 8 + 8 * j = 8 * (j + 1) by omega]
theorem turnK_val (bit pat : Nat) (l : List Nat) (k : Nat) : ∃ p, p < 2 ^ k ∧ valB (turnK bit pat l k) = valB l ^^^ (2 ^ bit * p) := by
  induction k with
  | zero => exact ⟨0, by decide, by simp [turnK]⟩
  | succ k ih =>
    obtain ⟨p, hp, he⟩ := ih
    rw [turnK, turn1]
    split
    · rename_i h
      refine ⟨p ^^^ 2 ^ k, ?_, ?_⟩
      · refine Nat.xor_lt_two_pow ?_ (Nat.pow_lt_pow_right (by decide) (by omega))
        rw [Nat.pow_succ]; omega
      · rw [valB_set _ _ _ h.1, he, Nat.xor_assoc, mul_xor, ← Nat.pow_add, ← Nat.pow_add, show 8 * ((bit + k) / 8) + (bit + k) % 8 = bit + k by omega]
    · exact ⟨p, by rw [Nat.pow_succ]; omega, he⟩
theorem cancel_xor (a b c : Nat) : (a ^^^ b) ^^^ (a ^^^ c) = b ^^^ c := by
  rw [Nat.xor_comm a b, Nat.xor_assoc, ← Nat.xor_assoc a a c, Nat.xor_self, Nat.zero_xor]
/-- a turn of up to 32 bits next to one another, begun within the bytes, is seen -/
theorem burst (s x : List Nat) (hs : ∀ b ∈ s, b < 256) (hx : ∀ b ∈ x, b < 256) (hlen : x.length = s.length) (bit p : Nat) (hbit : bit < 8 * s.length) (hp : p < 4294967296)
    (hv' : valB x = valB s ^^^ (2 ^ bit * p)) (i : Nat) (h : onB i x = onB i s) : x = s := by
  rw [onB_val, onB_val, hlen] at h
  have h1 : hv (8 * s.length) ((i ^^^ valB x) ^^^ (i ^^^ valB s)) = 0 := by rw [hv_xor, h, Nat.xor_self]
  rw [cancel_xor, hv', Nat.xor_comm (valB s), Nat.xor_assoc, Nat.xor_self, Nat.xor_zero, show 8 * s.length = bit + (8 * s.length - bit) by omega, hv_add, hv_shift] at h1
  have h2 := hv_zero _ p hp h1
  refine valB_inj x s hlen hx hs ?_
  rw [hv', h2, Nat.mul_zero, Nat.xor_zero]
theorem burst_fits (l : List Nat) (hl : ∀ b ∈ l, b < 256) (bit pat : Nat) (hbit : bit < 8 * (sealB l).length) :
    fitsL (turnK bit pat (sealB l) 32) = decide (turnK bit pat (sealB l) 32 = sealB l) := by
  have hs : ∀ b ∈ sealB l, b < 256 := by
    intro b hb
    rcases List.mem_append.1 hb with hb | hb
    · exact hl b hb
    · exact le4_lt _ b hb
  have h4 : 4 ≤ (sealB l).length := by simp [sealB, le4]
  have hx := turnK_lt bit pat (sealB l) hs 32
  have hn := turnK_len bit pat (sealB l) 32
  obtain ⟨p, hp, he⟩ := turnK_val bit pat (sealB l) 32
  have f1 := fits_seal l
  rw [fits_res _ hs h4, decide_eq_true_eq] at f1
  rw [fits_res _ hx (by omega), Bool.eq_iff_iff, decide_eq_true_eq, decide_eq_true_eq]
  constructor
  · intro h
    exact burst (sealB l) _ hs hx hn bit p hbit hp he _ (h.trans f1.symm)
  · intro h
    rw [h]; exact f1
end Go.Proofs.YtmpedblelnpjdaaGreatDoor

/- Package crc: halved, byte32, New; the reference's Half, On. -/
namespace Go.Proofs.YtmpedblelnpjdaaGreatDoor
open Go.RowKit
set_option linter.unusedSimpArgs false
set_option linter.unusedVariables false
set_option maxRecDepth 100000
set_option maxHeartbeats 4000000

theorem hv_snoc (k s : Nat) : hv (k + 1) s = half (hv k s) := by
  have := hv_add k 1 s
  rw [this]; rfl
theorem and1 (q : Nat) (h : q < 4294967296) : bits .and .u32 (q : Int) 1 = ((q % 2 : Nat) : Int) := by
  have := u32_and_nat q 1 h (by decide)
  rw [Nat.and_one_is_mod] at this
  exact this
theorem halved_any (s : Nat) (hs : s < 4294967296) (w : World) : Calls Tryz.prog 323 #[.int .u32 (s : Int)] w fun e w' => e = .returned (.int .u32 ((hv 8 s : Nat) : Int)) ∧ w = w' := by
  have HS := Lib.hid hs
  clear hs
  go_enter Tryz.func323, Tryz.ntmps323
  go_wp2
  go_loop [0, 4] (fun v i => ∃ k q : Nat, k ≤ 8 ∧ q < 4294967296 ∧ i = .int .i64 k ∧ v = .int .u32 (q : Int) ∧ Hid (q = hv k s)) (fun _ i => 8 - (intOf i).toNat)
  case atStart => exact ⟨0, s, by omega, HS.out, rfl, rfl, Lib.hid rfl⟩
  case round =>
    obtain ⟨k, q, hk, hq, rfl, rfl, HQ⟩ := hrel
    by_cases hlt : k < 8
    · by_cases hm : q % 2 = 1
      · have hb : (bits .and .u32 (q : Int) 1 == 1) = true := by rw [and1 q hq, hm]; rfl
        have hx : bits .xor .u32 ((q : Int) / 2) 3988292384 = ((half q : Nat) : Int) := by
          rw [half, if_pos hm]
          exact u32_xor_nat (q / 2) 3988292384 (by omega) (by decide)
        have HM := Lib.hid hm
        clear hm
        go_wp2
        go_round
        case rel => exact ⟨k + 1, half q, by omega, half_lt q hq, by go_num, rfl, Lib.hid (by rw [hv_snoc, ← HQ.out])⟩
        case measure => simp [intOf]; omega
      · have hb : (bits .and .u32 (q : Int) 1 == 1) = false := by rw [and1 q hq]; simp; omega
        have hx : half q = q / 2 := by rw [half, if_neg hm, Nat.xor_zero]
        have HX := Lib.hid hx
        clear hx hm
        go_wp2
        go_round
        case rel => exact ⟨k + 1, half q, by omega, half_lt q hq, by go_num, by rw [HX.out]; rfl, Lib.hid (by rw [hv_snoc, ← HQ.out])⟩
        case measure => simp [intOf]; omega
    · obtain rfl : k = 8 := by omega
      go_wp2
      go_ret
      exact ⟨ret_int (by rw [HQ.out]), rfl⟩

theorem xor8_lt (a b : Nat) (ha : a < 256) (hb : b < 256) : a ^^^ b < 256 := Nat.xor_lt_two_pow (n := 8) ha hb
theorem xor32_lt (a b : Nat) (ha : a < 4294967296) (hb : b < 4294967296) : a ^^^ b < 4294967296 := Nat.xor_lt_two_pow (n := 32) ha hb
end Go.Proofs.YtmpedblelnpjdaaGreatDoor

/- Package crc: the reference's On; a table in memory: New, fill, ready. -/
namespace Go.Proofs.YtmpedblelnpjdaaGreatDoor
open Go.RowKit
set_option linter.unusedSimpArgs false
set_option linter.unusedVariables false
set_option maxRecDepth 100000
set_option maxHeartbeats 4000000

/-- bytes as the fix contracts take them -/
def bI (l : List Nat) : List Int := l.map fun (x : Nat) => (x : Int)
def isBs (l : List Nat) : Prop := ∀ b ∈ l, b < 256
theorem reads_nat {w : World} {B n k : Nat} {A : Option Addr} {l : List Nat} (h : Reads w B 1 A n ((bI l).map (Value.int .u8))) (hk : k < n) :
    ∃ ad z, A = some ad ∧ ad.block < B ∧ l[k]? = some z ∧ w.cell? (ad.add k) = some (.int .u8 (z : Int)) := by
  obtain ⟨ad, z, hA, hb, hz, hc⟩ := reads_int h hk
  unfold bI at hz
  rw [List.getElem?_map] at hz
  cases hl : l[k]? with
  | none => rw [hl] at hz; cases hz
  | some y =>
    rw [hl] at hz
    simp only [Option.map_some, Option.some.injEq] at hz
    subst hz
    exact ⟨ad, y, hA, hb, rfl, hc⟩
theorem bI_len (l : List Nat) : (bI l).length = l.length := by simp [bI]
theorem bI_append (l m : List Nat) : bI (l ++ m) = bI l ++ bI m := by simp [bI]
theorem reads_len {w : World} {B n : Nat} {A : Option Addr} {l : List Nat} (h : Reads w B 1 A n ((bI l).map (Value.int .u8))) : l.length = n := by
  have := h.1
  simpa [bI] using this
theorem onB_take (s : Nat) (l : List Nat) (k : Nat) (z : Nat) (h : l[k]? = some z) : onB s (l.take (k + 1)) = hv 8 (onB s (l.take k) ^^^ z) := by
  rw [List.take_add_one, h, Option.toList_some, onB_snoc]
theorem isBs_get {l : List Nat} (h : isBs l) {k z : Nat} (hz : l[k]? = some z) : z < 256 := h z (List.mem_of_getElem? hz)
theorem isBs_take {l : List Nat} (h : isBs l) (k : Nat) : isBs (l.take k) := fun b hb => h b (List.mem_of_mem_take hb)
theorem isBs_drop {l : List Nat} (h : isBs l) (k : Nat) : isBs (l.drop k) := fun b hb => h b (List.mem_of_mem_drop hb)

end Go.Proofs.YtmpedblelnpjdaaGreatDoor

/- Package crc: a table in memory: New, fill, ready. -/
namespace Go.Proofs.YtmpedblelnpjdaaGreatDoor
open Go.RowKit
set_option linter.unusedSimpArgs false
set_option linter.unusedVariables false
set_option maxRecDepth 100000
set_option maxHeartbeats 4000000

/-- a table's block: the once's two words, how often it was made, the numbers -/
def TabC (w : World) (g : Nat) (c0 c1 c3 : Int) (f : Nat → Int) : Prop :=
  ∃ cs : Array Value, Blk w g 218 cs ∧ cs.size = 260 ∧ cs[0]? = some (.int .u32 c0) ∧ cs[1]? = some (.int .i32 c1) ∧ cs[3]? = some (.int .i32 c3) ∧ ∀ j, j < 256 → cs[4 + j]? = some (.int .u32 (f j))
section
variable {w w' : World} {g : Nat} {c0 c1 c3 : Int} {f : Nat → Int}
theorem TabC.lt (h : TabC w g c0 c1 c3 f) : g < w.heap.size := h.choose_spec.1.lt
theorem TabC.frozen (h : TabC w g c0 c1 c3 f) (i : Nat) : w.frozen? ⟨g, i, none⟩ = false := h.choose_spec.1.frozen i
theorem TabC.k0 (h : TabC w g c0 c1 c3 f) : w.cell? ⟨g, 0, none⟩ = some (.int .u32 c0) := by obtain ⟨cs, b, _, h0, _⟩ := h; exact (b.cell 0).trans h0
theorem TabC.k1 (h : TabC w g c0 c1 c3 f) : w.cell? ⟨g, 1, none⟩ = some (.int .i32 c1) := by obtain ⟨cs, b, _, _, h1, _⟩ := h; exact (b.cell 1).trans h1
theorem TabC.k3 (h : TabC w g c0 c1 c3 f) : w.cell? ⟨g, 3, none⟩ = some (.int .i32 c3) := by obtain ⟨cs, b, _, _, _, h3, _⟩ := h; exact (b.cell 3).trans h3
theorem TabC.kt (h : TabC w g c0 c1 c3 f) {j : Nat} (hj : j < 256) : w.cell? ⟨g, 4 + j, none⟩ = some (.int .u32 (f j)) := by obtain ⟨cs, b, _, _, _, _, ht⟩ := h; exact (b.cell _).trans (ht j hj)
theorem TabC.s0 (h : TabC w g c0 c1 c3 f) (x : Int) : TabC (w.setCell ⟨g, 0, none⟩ (.int .u32 x)) g x c1 c3 f := by
  obtain ⟨cs, b, hs, h0, h1, h3, ht⟩ := h
  refine ⟨_, b.set_ 0 _, by simp [hs], by simp [hs], by simp [h1], by simp [h3], fun j hj => ?_⟩
  rw [Array.getElem?_setIfInBounds_ne (by omega)]; exact ht j hj
theorem TabC.s1 (h : TabC w g c0 c1 c3 f) (x : Int) : TabC (w.setCell ⟨g, 1, none⟩ (.int .i32 x)) g c0 x c3 f := by
  obtain ⟨cs, b, hs, h0, h1, h3, ht⟩ := h
  refine ⟨_, b.set_ 1 _, by simp [hs], by simp [h0], by simp [hs], by simp [h3], fun j hj => ?_⟩
  rw [Array.getElem?_setIfInBounds_ne (by omega)]; exact ht j hj
theorem TabC.s3 (h : TabC w g c0 c1 c3 f) (x : Int) : TabC (w.setCell ⟨g, 3, none⟩ (.int .i32 x)) g c0 c1 x f := by
  obtain ⟨cs, b, hs, h0, h1, h3, ht⟩ := h
  refine ⟨_, b.set_ 3 _, by simp [hs], by simp [h0], by simp [h1], by simp [hs], fun j hj => ?_⟩
  rw [Array.getElem?_setIfInBounds_ne (by omega)]; exact ht j hj
theorem TabC.st (h : TabC w g c0 c1 c3 f) (k : Nat) (hk : k < 256) (x : Int) : TabC (w.setCell ⟨g, 4 + k, none⟩ (.int .u32 x)) g c0 c1 c3 (fun j => if j = k then x else f j) := by
  obtain ⟨cs, b, hs, h0, h1, h3, ht⟩ := h
  refine ⟨_, b.set_ (4 + k) _, by simp [hs], ?_, ?_, ?_, fun j hj => ?_⟩
  · rw [Array.getElem?_setIfInBounds_ne (by omega)]; exact h0
  · rw [Array.getElem?_setIfInBounds_ne (by omega)]; exact h1
  · rw [Array.getElem?_setIfInBounds_ne (by omega)]; exact h3
  · by_cases hjk : j = k
    · subst hjk; rw [Array.getElem?_setIfInBounds_self_of_lt (by omega)]; simp
    · rw [Array.getElem?_setIfInBounds_ne (by omega)]; simp only [if_neg hjk]; exact ht j hj
theorem TabC.drew (h : TabC w g c0 c1 c3 f) : TabC w.drew g c0 c1 c3 f := h
theorem TabC.drewN (h : TabC w g c0 c1 c3 f) (n : Nat) : TabC (w.drewN n) g c0 c1 c3 f := h
theorem TabC.below {B : Nat} (h : TabC w g c0 c1 c3 f) (hb : Below B w w') (hg : g < B) : TabC w' g c0 c1 c3 f := by obtain ⟨cs, b, r⟩ := h; exact ⟨cs, b.below hb hg, r⟩
theorem TabC.chg {S : Nat → Prop} (h : TabC w g c0 c1 c3 f) (hc : Chg w w' S) (hS : ¬ S g) : TabC w' g c0 c1 c3 f := by obtain ⟨cs, b, r⟩ := h; exact ⟨cs, hc.blk b hS, r⟩
theorem TabC.same {f' : Nat → Int} (h : TabC w g c0 c1 c3 f) (hf : ∀ j, j < 256 → f j = f' j) : TabC w g c0 c1 c3 f' := by
  obtain ⟨cs, b, hs, h0, h1, h3, ht⟩ := h
  exact ⟨cs, b, hs, h0, h1, h3, fun j hj => by rw [ht j hj, hf j hj]⟩
end
def tabF (j : Nat) : Int := ((hv 8 j : Nat) : Int)
def dI (d : Bool) : Int := if d then 1 else 0
/-- a table: made, or not yet -/
def Tb (w : World) (g : Nat) (d : Bool) : Prop := TabC w g (dI d) 0 (dI d) (fun j => if d then tabF j else 0)

theorem Chg.set1 {w w' : World} {g : Nat} (h : Chg w w' (fun k => k = g)) (i : Nat) (v : Value) : Chg w (w'.setCell ⟨g, i, none⟩ v) (fun k => k = g) :=
  ⟨h.os, h.tape, h.output, by simpa [World.setCell] using h.size, fun k hk hn => (Below.heap_setCell w' ⟨g, i, none⟩ v k hn).trans (h.block k hk hn)⟩
theorem Chg.drewN {w w' : World} {S : Nat → Prop} (h : Chg w w' S) (n : Nat) : Chg w (w'.drewN n) S := ⟨h.os, h.tape, h.output, h.size, h.block⟩

theorem slowM_any (g fid : Nat) (hent : ∀ (args : Array Value) (w : World), (callFunc fid args).run Tryz.prog w = .ok (.enter fid args) w) (r : Value) (R : World → Prop) (w : World)
    (h0 : w.cell? ⟨g, 0, none⟩ = some (.int .u32 0)) (h1 : w.cell? ⟨g, 1, none⟩ = some (.int .i32 0)) (f1 : w.frozen? ⟨g, 1, none⟩ = false)
    (hcl : Calls Tryz.prog fid #[r] (w.setCell ⟨g, 1, none⟩ (.int .i32 1)) fun e w2 => e = .returned (.tuple #[]) ∧ R w2)
    (hR : ∀ w2, R w2 → (w2.cell? ⟨g, 0, none⟩ = some (.int .u32 0) ∧ w2.frozen? ⟨g, 0, none⟩ = false) ∧ w2.cell? ⟨g, 1, none⟩ = some (.int .i32 1) ∧ w2.frozen? ⟨g, 1, none⟩ = false) :
    Calls Tryz.prog 294 #[.pointer (some ⟨g, 0, none⟩), .func (.func fid) #[r] #[]] w fun e w' => e = .returned (.tuple #[]) ∧ ∃ w2, R w2 ∧ w' = onced w2 g := by
  have h01 : (w.setCell ⟨g, 1, none⟩ (.int .i32 1)).cell? ⟨g, 0, none⟩ = some (.int .u32 0) := (World.cell?_setCell_other _ ⟨g, 1, none⟩ ⟨g, 0, none⟩ _ (by simp)).trans h0
  have hnot := run_not
  have C := Lib.hid hcl
  have HR := Lib.hid hR
  clear hcl hR
  go_enter_defers Tryz.func294, Tryz.ntmps294
  go_wp2_with (first
    | (go_at_call 320; refine (lock_free ⟨g, 1, none⟩ _ h1 f1).mono ?_; rintro e w' ⟨rfl, rfl⟩)
    | (go_at_call 230; refine (bload_any ⟨g, 0, none⟩ 0 _ h01).mono ?_; rintro e w' ⟨rfl, rfl⟩)
    | fail)
  have C' : Hid (Calls Tryz.prog fid #[r] (w.setCell ⟨g, 1, none⟩ (.int .i32 1)) fun e w2 => e = .returned (.tuple #[]) ∧ R w2) := Lib.hid (by simpa using C.out)
  clear C
  refine C'.out.mono ?_
  rintro e w2 ⟨rfl, hw2⟩
  obtain ⟨⟨k0, z0⟩, k1, z1⟩ := HR.out w2 hw2
  go_wp2
  refine leaves_cons (f := 242) (args := #[.pointer (some ⟨g, 0, none⟩), .bool true]) (by simp) (by simp [go_sem]) ?_
  refine (store_deferred ⟨g, 0, none⟩ (.int .u32 0) .returning _ k0 z0).mono ?_
  rintro e u' w'' ⟨rfl, rfl, rfl⟩
  refine leaves_cons (f := 321) (args := #[.pointer (some ⟨g, 1, none⟩)]) (by simp [settle]) (by simp [go_sem]) ?_
  refine (unlock_deferred ⟨g, 1, none⟩ _ _ ?_ ?_).mono ?_
  · refine (World.cell?_setCell_other _ ⟨g, 0, none⟩ ⟨g, 1, none⟩ _ (by simp)).trans ?_
    rw [World.cell?_drew]
    exact k1
  · rw [World.frozen?_setCell]; exact z1
  rintro e u' w'' ⟨rfl, rfl, rfl⟩
  simp [Leaves, settle, results, Tryz.results294]
  exact ⟨w2, hw2, rfl⟩
theorem doM_first (g fid : Nat) (hent : ∀ (args : Array Value) (w : World), (callFunc fid args).run Tryz.prog w = .ok (.enter fid args) w) (r : Value) (R : World → Prop) (w : World)
    (h0 : w.cell? ⟨g, 0, none⟩ = some (.int .u32 0)) (h1 : w.cell? ⟨g, 1, none⟩ = some (.int .i32 0)) (f1 : w.frozen? ⟨g, 1, none⟩ = false)
    (hcl : Calls Tryz.prog fid #[r] (w.setCell ⟨g, 1, none⟩ (.int .i32 1)) fun e w2 => e = .returned (.tuple #[]) ∧ R w2)
    (hR : ∀ w2, R w2 → (w2.cell? ⟨g, 0, none⟩ = some (.int .u32 0) ∧ w2.frozen? ⟨g, 0, none⟩ = false) ∧ w2.cell? ⟨g, 1, none⟩ = some (.int .i32 1) ∧ w2.frozen? ⟨g, 1, none⟩ = false) :
    Calls Tryz.prog 240 #[.pointer (some ⟨g, 0, none⟩), .func (.func fid) #[r] #[]] w fun e w' => e = .returned (.tuple #[]) ∧ ∃ w2, R w2 ∧ w' = onced w2 g := by
  have S := Lib.hid (slowM_any g fid hent r R w h0 h1 f1 hcl hR)
  have hnot := run_not
  have hB := Lib.hid (bload_any ⟨g, 0, none⟩ 0 w h0)
  clear hcl hR h1 f1
  go_enter Tryz.func240, Tryz.ntmps240
  go_wp2_with (first | (go_at_call 230; refine hB.out.mono ?_; rintro e w' ⟨rfl, rfl⟩) | fail)
  refine S.out.mono ?_
  rintro e w2 ⟨rfl, h⟩
  go_wp2
  go_end0
  exact ⟨rfl, h⟩

theorem add_any (a : Addr) (w : World) (hc : w.cell? a = some (.int .i32 0)) (hz : w.frozen? a = false) : Calls Tryz.prog 324 #[.pointer (some a), .int .i32 1] w fun e w' => e = .returned (.int .i32 1) ∧ w' = w.setCell a (.int .i32 1) := by
  have hadd := run_call_add (P := Tryz.prog) Tryz.func332 (by kernel_rfl) (by kernel_rfl) (by kernel_rfl) .i32 (by kernel_rfl) (y := 1) (s := 1) hc hz (by simp [go_sem]; rfl)
  go_enter Tryz.func324, Tryz.ntmps324
  go_wp2
  go_ret
  exact ⟨rfl, rfl⟩

theorem crcNew_any (w : World) : Calls Tryz.prog 42 #[] w fun e w' => e = .returned (.pointer (some ⟨w.heap.size, 0, none⟩)) ∧ Tb w' w.heap.size false ∧ Below w.heap.size w w' := by
  go_enter Tryz.func42, Tryz.ntmps42
  go_wp2
  go_ret
  refine ⟨rfl, ⟨_, Blk.new _ _ _, by rfl, by rfl, by rfl, by rfl, ?_⟩, (Below.refl _ _).alloc (Nat.le_refl _) _⟩
  intro j hj
  have e : ∀ cs : Array Value, cs = #[.int .u32 0, .int .i32 0, .int .u32 0, .int .i32 0] ++ Array.replicate 256 (.int .u32 0) → cs[4 + j]? = some (.int .u32 0) := by
    rintro cs rfl
    rw [Array.getElem?_append_right (by simp), Array.getElem?_replicate, if_pos (by simpa using hj)]
  exact e _ (by kernel_rfl)

theorem crcFill_any (g : Nat) (f : Nat → Int) (w : World) (h : TabC w g 0 1 0 f) : Calls Tryz.prog 305 #[.pointer (some ⟨g, 0, none⟩)] w fun e w' => e = .returned (.tuple #[]) ∧ (TabC w' g 0 1 1 tabF ∧ Chg w w' (fun k => k = g)) := by
  have H := Lib.hid h
  clear h
  go_enter Tryz.func305, Tryz.ntmps305
  go_wp2
  go_loopw [2, 3] (fun i0 i wr => ∃ k : Nat, k ≤ 256 ∧ i = .int .i64 k ∧ Hid (TabC wr g 0 1 0 (fun j => if j < k then tabF j else f j)) ∧ Hid (Chg w wr (fun k => k = g))) (fun _ i _ => 256 - (intOf i).toNat)
  case atStart => exact ⟨0, by omega, rfl, Lib.hid (H.out.same fun j _ => by rw [if_neg (by omega)]), Lib.hid (Chg.refl _ _)⟩
  case round =>
    obtain ⟨k, hk, rfl, HT, HC⟩ := hrel
    by_cases hlt : k < 256
    · have ct := HT.out.kt hlt
      have ft := HT.out.frozen (4 + k)
      have hw : IntKind.u32.wrap (k : Int) = k := by rw [IntKind.wrap_u32']; omega
      go_wp2_with (fail)
      go_region_held3 (fun w' => w'.frozen? ⟨g, 4 + k, none⟩ = false) (go_keep) (first | (go_at_call 323; refine (halved_any k (by omega) _).mono ?_; rintro e w' ⟨rfl, rfl⟩) | fail)
      go_wp2_with (fail)
      go_roundw
      case rel => exact ⟨k + 1, by omega, by go_num, Lib.hid (TabC.drew ((HT.out.st k hlt _).same fun j _ => by
        by_cases hj : j = k
        · subst hj; simp [tabF]
        · rw [if_neg hj]
          by_cases h2 : j < k
          · rw [if_pos h2, if_pos (by omega)]
          · rw [if_neg h2, if_neg (by omega)])), Lib.hid (Chg.drewN (HC.out.set1 _ _) 1)⟩
      case measure => simp [intOf]; omega
    · obtain rfl : k = 256 := by omega
      have HT2 : Hid (TabC wr g 0 1 0 tabF) := Lib.hid (HT.out.same fun j hj => by rw [if_pos hj])
      clear HT
      have A := Lib.hid (add_any ⟨g, 3, none⟩ wr HT2.out.k3 (HT2.out.frozen 3))
      go_wp2_with (fail)
      refine A.out.mono ?_
      rintro e w' ⟨rfl, rfl⟩
      go_wp2
      go_end0
      exact ⟨rfl, HT2.out.s3 1, HC.out.set1 _ _⟩
theorem crcFill_enter : ∀ (args : Array Value) (w : World), (callFunc 305 args).run Tryz.prog w = .ok (.enter 305 args) w :=
  enters_of Tryz.func305 (by kernel_rfl) rfl

theorem crcReady_any (g : Nat) (d : Bool) (w : World) (h : Tb w g d) : Calls Tryz.prog 250 #[.pointer (some ⟨g, 0, none⟩)] w fun e w' => e = .returned (.pointer (some ⟨g, 4, none⟩)) ∧ Tb w' g true ∧ Chg w w' (fun k => k = g) := by
  have hmf : ∀ (fn : Fn) (first cap : Array Value) (w : World), (Instr.makeFunc fn first cap).run Tryz.prog w = .ok (.func fn first cap) w := fun _ _ _ _ => rfl
  cases d
  · have h0 : TabC w g 0 0 0 (fun _ => 0) := h
    have C := crcFill_any g (fun _ => 0) (w.setCell ⟨g, 1, none⟩ (.int .i32 1)) (h0.s1 1)
    have D := Lib.hid (doM_first g 305 crcFill_enter (.pointer (some ⟨g, 0, none⟩)) (fun w2 => TabC w2 g 0 1 1 tabF ∧ Chg (w.setCell ⟨g, 1, none⟩ (.int .i32 1)) w2 (fun k => k = g)) w h0.k0 h0.k1 (h0.frozen 1) C
      (fun w2 hw => ⟨⟨hw.1.k0, hw.1.frozen 0⟩, hw.1.k1, hw.1.frozen 1⟩))
    clear C h h0
    go_enter Tryz.func250, Tryz.ntmps250
    go_wp2_with (fail)
    refine D.out.mono ?_
    rintro e w' ⟨rfl, w2, ⟨h1, h2⟩, hw'⟩
    have HF : Hid (Tb w' g true ∧ Chg w w' (fun k => k = g)) := Lib.hid (by
      subst hw'
      refine ⟨((h1.drew).s0 1).s1 0, ?_⟩
      unfold onced
      have h3 : Chg w w2 (fun k => k = g) := ((Chg.refl w _).set1 1 _).trans h2 (fun _ _ h => h)
      exact (Chg.set1 (Chg.drewN h3 1) 0 _).set1 1 _)
    clear h1 h2 hw' D
    go_wp2
    go_ret
    exact ⟨rfl, HF.out.1, HF.out.2⟩
  · have h0 : TabC w g 1 0 1 tabF := h
    have D := Lib.hid (do_done g (.func (.func 305) #[.pointer (some ⟨g, 0, none⟩)] #[]) w h0.k0)
    have H := Lib.hid h
    clear h0 h
    go_enter Tryz.func250, Tryz.ntmps250
    go_wp2_with (fail)
    refine D.out.mono ?_
    rintro e w' ⟨rfl, rfl⟩
    go_wp2
    go_ret
    exact ⟨rfl, H.out, Chg.refl _ _⟩
end Go.Proofs.YtmpedblelnpjdaaGreatDoor

/- Package crc: on, More, Of, At, Made, Slow; the reference's Other, Of, More, At. -/
namespace Go.Proofs.YtmpedblelnpjdaaGreatDoor
open Go.RowKit
set_option linter.unusedSimpArgs false
set_option linter.unusedVariables false
set_option maxRecDepth 100000
set_option maxHeartbeats 1000000

theorem crcOn_any (g : Nat) (d : Bool) (A : Option Addr) (n c B s : Nat) (l : List Nat) (hl : isBs l) (hs : s < 4294967296) (w : World) (h : Tb w g d) (hr : Reads w B 1 A n ((bI l).map (Value.int .u8))) (hB : B ≤ w.heap.size)
    (hA : ∀ ad, 0 < n → A = some ad → ad.block ≠ g) (hn : n ≤ 9223372036854775806) :
    Calls Tryz.prog 329 #[.pointer (some ⟨g, 0, none⟩), .int .u32 (s : Int), .slice A n c] w fun e w' => e = .returned (.int .u32 ((onB s l : Nat) : Int)) ∧ Tb w' g true ∧ Chg w w' (fun k => k = g) := by
  have HL := Lib.hid hl
  have HR := Lib.hid hr
  have LN := Lib.hid (reads_len hr)
  have HS := Lib.hid hs
  have HAA := Lib.hid hA
  have C := Lib.hid (crcReady_any g d w h)
  clear hl hr hs h hA
  go_enter Tryz.func329, Tryz.ntmps329
  go_wp2_with (fail)
  refine C.out.mono ?_
  rintro e w1 ⟨rfl, h1, h2⟩
  have HR1 := Lib.hid (h2.reads HR.out hB (fun ad h0 he => HAA.out ad h0 he))
  have H1 : Hid (TabC w1 g 1 0 1 tabF) := Lib.hid h1
  have H2 := Lib.hid h2
  clear h1 h2
  go_wp2
  go_loop [1, 9, 14] (fun v c9 i => ∃ k q : Nat, k ≤ n ∧ q < 4294967296 ∧ i = .int .i64 k ∧ v = .int .u32 (q : Int) ∧ Hid (q = onB s (l.take k))) (fun _ _ i => n - (intOf i).toNat)
  case atStart => exact ⟨0, s, by omega, HS.out, rfl, rfl, Lib.hid rfl⟩
  case round =>
    obtain ⟨k, q, hk, hq, rfl, rfl, HQ⟩ := hrel
    by_cases hlt : k < n
    · obtain ⟨ad, z, rfl, _, hz, hc⟩ := reads_nat HR1.out hlt
      have hz8 := isBs_get HL.out hz
      have HZ := Lib.hid hz
      clear hz
      obtain ⟨y, hy⟩ : ∃ y, y = (q % 256) ^^^ z := ⟨_, rfl⟩
      have hy8 : y < 256 := by rw [hy]; exact xor8_lt _ _ (by omega) hz8
      have hx : bits .xor .u8 ((q : Int) % 256) (z : Int) = (y : Int) := by rw [hy]; exact u8_xor_nat (q % 256) z (by omega) hz8
      have ht := H1.out.kt hy8
      obtain ⟨t, hte⟩ : ∃ t, t = hv 8 y := ⟨_, rfl⟩
      have htl : t < 4294967296 := by rw [hte]; exact hv_lt _ _ (by omega)
      rw [show tabF y = (t : Int) by rw [hte]; rfl] at ht
      obtain ⟨q', hq'⟩ : ∃ q', q' = hv 8 (q ^^^ z) := ⟨_, rfl⟩
      have hql : q' < 4294967296 := by rw [hq']; exact hv_lt _ _ (xor32_lt _ _ hq (by omega))
      have hx2 : bits .xor .u32 (t : Int) ((q : Int) / 256) = (q' : Int) := by
        rw [hq', ← table_step, ← hy, ← hte]; exact u32_xor_nat t (q / 256) htl (by omega)
      have HQ' := Lib.hid hq'
      clear hy hte hq'
      go_wp2
      go_round
      case rel => exact ⟨k + 1, q', by omega, hql, by go_num, rfl, Lib.hid (by rw [onB_take _ _ _ _ HZ.out, HQ'.out, HQ.out])⟩
      case measure => simp [intOf]; omega
    · obtain rfl : k = n := by omega
      go_wp2
      go_ret
      exact ⟨ret_int (by rw [HQ.out, List.take_of_length_le (by have := LN.out; omega)]), H1.out, H2.out⟩
theorem other_bits (s : Nat) (hs : s < 4294967296) : bits .xor .u32 IntKind.u32.max (s : Int) = ((other s : Nat) : Int) := by
  have := u32_xor_nat 4294967295 s (by decide) hs
  rw [Nat.xor_comm] at this
  exact this
def more (s : Nat) (l : List Nat) : Nat := other (onB (other s) l)
theorem more_lt (s : Nat) (l : List Nat) (hs : s < 4294967296) (hl : isBs l) : more s l < 4294967296 := other_lt _ (onB_lt _ _ (other_lt _ hs) hl)
theorem more_0 (l : List Nat) : more 0 l = crc l := rfl
theorem more_more (s : Nat) (l m : List Nat) : more (more s l) m = more s (l ++ m) := by
  unfold more
  rw [other_other, onB_append]
theorem crcMore_any (g : Nat) (d : Bool) (A : Option Addr) (n c B s : Nat) (l : List Nat) (hl : isBs l) (hs : s < 4294967296) (w : World) (h : Tb w g d) (hr : Reads w B 1 A n ((bI l).map (Value.int .u8))) (hB : B ≤ w.heap.size)
    (hA : ∀ ad, 0 < n → A = some ad → ad.block ≠ g) (hn : n ≤ 9223372036854775806) :
    Calls Tryz.prog 317 #[.pointer (some ⟨g, 0, none⟩), .int .u32 (s : Int), .slice A n c] w fun e w' => e = .returned (.int .u32 ((more s l : Nat) : Int)) ∧ Tb w' g true ∧ Chg w w' (fun k => k = g) := by
  obtain ⟨p, hp⟩ : ∃ p, p = other s := ⟨_, rfl⟩
  have hpl : p < 4294967296 := by rw [hp]; exact other_lt s hs
  have e1 : bits .xor .u32 IntKind.u32.max (s : Int) = (p : Int) := by rw [hp]; exact other_bits s hs
  have C := Lib.hid (crcOn_any g d A n c B p l hl hpl w h hr hB hA hn)
  have e2 : bits .xor .u32 IntKind.u32.max ((onB p l : Nat) : Int) = ((more s l : Nat) : Int) := by rw [more, ← hp]; exact other_bits _ (onB_lt _ _ hpl hl)
  obtain ⟨r, hr'⟩ : ∃ r, r = more s l := ⟨_, rfl⟩
  rw [← hr'] at e2 ⊢
  generalize onB p l = o at *
  clear hr' h hr hA hp
  go_enter Tryz.func317, Tryz.ntmps317
  go_wp2_with (fail)

  with_reducible refine C.out.mono ?_
  rintro e w' ⟨rfl, h1, h2⟩
  have H1 := Lib.hid h1
  have H2 := Lib.hid h2
  clear h1 h2 C
  go_wp2
  go_ret
  exact ⟨rfl, H1.out, H2.out⟩
end Go.Proofs.YtmpedblelnpjdaaGreatDoor

/- Package crc: Of, At, Slow; the reference's Other, Of, More, At. -/
namespace Go.Proofs.YtmpedblelnpjdaaGreatDoor
open Go.RowKit
set_option linter.unusedSimpArgs false
set_option linter.unusedVariables false
set_option maxRecDepth 100000
set_option maxHeartbeats 1000000

/-- a part: a slice of bytes, and the bytes -/
structure Pt where
  A : Option Addr
  n : Nat
  c : Nat
  B : Nat
  l : List Nat
def Pt.v (p : Pt) : Value := .slice p.A p.n p.c
def Pt.ok (w : World) (g : Nat) (p : Pt) : Prop :=
  isBs p.l ∧ Reads w p.B 1 p.A p.n ((bI p.l).map (Value.int .u8)) ∧ p.B ≤ w.heap.size ∧ (∀ ad, 0 < p.n → p.A = some ad → ad.block ≠ g) ∧ p.n ≤ 9223372036854775806
theorem Pt.ok_chg {w w' : World} {g : Nat} {p : Pt} (h : p.ok w g) (hc : Chg w w' (fun k => k = g)) : p.ok w' g :=
  ⟨h.1, hc.reads h.2.1 h.2.2.1 h.2.2.2.1, Nat.le_trans h.2.2.1 hc.size, h.2.2.2⟩
def cat (L : List Pt) : List Nat := L.flatMap Pt.l
theorem cat_take (L : List Pt) (k : Nat) (p : Pt) (h : L[k]? = some p) : cat (L.take (k + 1)) = cat (L.take k) ++ p.l := by
  unfold cat
  rw [List.take_add_one, h, Option.toList_some, List.flatMap_append]
  simp
theorem more_nil0 : 0 = more 0 [] := by decide +kernel
theorem cat_bs (L : List Pt) (w : World) (g : Nat) (h : ∀ p ∈ L, p.ok w g) : isBs (cat L) := by
  intro b hb
  obtain ⟨p, hp, hb⟩ := List.mem_flatMap.1 hb
  exact (h p hp).1 b hb
theorem reads_parts {w : World} {B n k : Nat} {A : Option Addr} {L : List Pt} (h : Reads w B 1 A n (L.map Pt.v)) (hk : k < n) :
    ∃ ad p, A = some ad ∧ ad.block < B ∧ L[k]? = some p ∧ w.cell? (ad.add k) = some (.slice p.A p.n p.c) := by
  obtain ⟨ad, u, hA, hb, hx, hc⟩ := h.at_ hk
  rw [List.getElem?_map] at hx
  cases hz : L[k]? with
  | none => rw [hz] at hx; cases hx
  | some z =>
    rw [hz] at hx
    simp only [Option.map_some, Option.some.injEq] at hx
    subst hx
    exact ⟨ad, z, hA, hb, rfl, hc⟩
theorem crcOf_any (g : Nat) (d : Bool) (SA : Option Addr) (m sc SB : Nat) (L : List Pt) (w : World) (h : Tb w g d) (hr : Reads w SB 1 SA m (L.map Pt.v)) (hB : SB ≤ w.heap.size) (hS : ∀ ad, 0 < m → SA = some ad → ad.block ≠ g)
    (hP : ∀ p ∈ L, p.ok w g) (hm : m ≤ 9223372036854775806) :
    Calls Tryz.prog 287 #[.pointer (some ⟨g, 0, none⟩), .slice SA m sc] w fun e w' => e = .returned (.int .u32 ((crc (cat L) : Nat) : Int)) ∧ Tb w' g true ∧ Chg w w' (fun k => k = g) := by
  have HR := Lib.hid hr
  have LN : Hid (L.length = m) := Lib.hid (by have := hr.1; simpa using this)
  have HP := Lib.hid hP
  have HSS := Lib.hid hS
  have C := Lib.hid (crcReady_any g d w h)
  have HBL := Lib.hid (cat_bs L w g hP)
  clear h hr hS hP
  go_enter Tryz.func287, Tryz.ntmps287
  go_wp2_with (fail)
  with_reducible refine C.out.mono ?_
  rintro e w1 ⟨rfl, h1, h2⟩
  have HR1 := Lib.hid (h2.reads HR.out hB (fun ad h0 he => HSS.out ad h0 he))
  have HB1 := Lib.hid (Nat.le_trans hB h2.size)
  have HP1 : Hid (∀ p ∈ L, p.ok w1 g) := Lib.hid (fun p hp => Pt.ok_chg (HP.out p hp) h2)
  have H1 := Lib.hid h1
  have H2 := Lib.hid h2
  clear h1 h2 C HP HR
  go_wp2_with (fail)
  go_loopw [5, 7, 14] (fun v s7 i wr => ∃ k q : Nat, k ≤ m ∧ q < 4294967296 ∧ i = .int .i64 k ∧ v = .int .u32 (q : Int) ∧ Hid (q = more 0 (cat (L.take k))) ∧ Hid (Tb wr g true) ∧ Hid (Chg w1 wr (fun k => k = g))) (fun _ _ i _ => m - (intOf i).toNat)
  case atStart => exact ⟨0, 0, by omega, by omega, rfl, rfl, Lib.hid more_nil0, H1, Lib.hid (Chg.refl _ _)⟩
  case round =>
    obtain ⟨k, q, hk, hq, rfl, rfl, HQ, HT, HC⟩ := hrel
    by_cases hlt : k < m
    · have hr2 := HC.out.reads HR1.out HB1.out (fun ad h0 he => HSS.out ad h0 he)
      obtain ⟨ad, p, rfl, _, hz, hc⟩ := reads_parts hr2 hlt
      have hp := Pt.ok_chg (HP1.out p (List.mem_of_getElem? hz)) HC.out
      have M := Lib.hid (crcMore_any g true p.A p.n p.c p.B q p.l hp.1 hq wr HT.out hp.2.1 hp.2.2.1 hp.2.2.2.1 hp.2.2.2.2)
      have hlt2 := more_lt q p.l hq hp.1
      obtain ⟨q', hq'⟩ : ∃ q', q' = more q p.l := ⟨_, rfl⟩
      rw [← hq'] at hlt2 M
      have HQ' := Lib.hid hq'
      have HZ := Lib.hid hz
      clear hz hp hq' hr2
      go_wp2_with (fail)
      with_reducible refine M.out.mono ?_
      rintro e w2 ⟨rfl, h1, h2⟩
      have H3 := Lib.hid h1
      have H4 := Lib.hid h2
      clear h1 h2 M
      go_wp2
      go_roundw
      case rel => exact ⟨k + 1, q', by omega, hlt2, by go_num, rfl, Lib.hid (by rw [cat_take _ _ _ HZ.out, ← more_more, HQ'.out, HQ.out]), H3, Lib.hid (HC.out.trans H4.out (fun _ _ h => h))⟩
      case measure => simp [intOf]; omega
    · obtain rfl : k = m := by omega
      go_wp2
      go_ret
      exact ⟨ret_int (by rw [HQ.out, more_0, List.take_of_length_le (by have := LN.out; omega)]), HT.out, H2.out.trans HC.out (fun _ _ h => h)⟩
end Go.Proofs.YtmpedblelnpjdaaGreatDoor

/- Bytes by package fix's texts. -/
namespace Go.Proofs.YtmpedblelnpjdaaGreatDoor
end Go.Proofs.YtmpedblelnpjdaaGreatDoor

/- The law's awake of chapter 2. -/
namespace Go.Proofs.YtmpedblelnpjdaaGreatDoor
open Go.RowKit
set_option linter.unusedSimpArgs false
set_option linter.unusedVariables false
set_option maxRecDepth 100000
set_option maxHeartbeats 1000000

theorem Tb.below {B : Nat} {w w' : World} {g : Nat} {d : Bool} (h : Tb w g d) (hb : Below B w w') (hg : g < B) : Tb w' g d := TabC.below h hb hg
theorem Tb.lt {w : World} {g : Nat} {d : Bool} (h : Tb w g d) : g < w.heap.size := TabC.lt h
/-- one part in a block of its own -/
theorem one_part {w : World} {A : Option Addr} {n c B : Nat} {l : List Nat} :
    Reads (w.alloc (.cells #[.slice A n c] 22)) (w.heap.size + 1) 1 (some ⟨w.heap.size, 0, none⟩) 1 ([(⟨A, n, c, B, l⟩ : Pt)].map Pt.v) := by
  refine ⟨rfl, fun _ => ⟨_, rfl, by simp, fun j u hu => ?_⟩⟩
  exact cells_new _ _ _ _ _ hu
theorem of_one (g : Nat) (d : Bool) (A : Option Addr) (n c B : Nat) (l : List Nat) (hl : isBs l) (w : World) (h : Tb w g d) (hr : Reads w B 1 A n ((bI l).map (Value.int .u8))) (hB : B ≤ w.heap.size)
    (hA : ∀ ad, 0 < n → A = some ad → ad.block ≠ g) (hn : n ≤ 9223372036854775806) :
    Calls Tryz.prog 287 #[.pointer (some ⟨g, 0, none⟩), .slice (some ⟨w.heap.size, 0, none⟩) 1 1] (w.alloc (.cells #[.slice A n c] 22)) fun e w' => e = .returned (.int .u32 ((crc l : Nat) : Int)) ∧ Tb w' g true ∧ Chg w w' (fun k => k = g) := by
  have hg := h.lt
  have hb1 : Below w.heap.size w (w.alloc (.cells #[.slice A n c] 22)) := (Below.refl _ _).alloc (Nat.le_refl _) _
  refine (crcOf_any g d (some ⟨w.heap.size, 0, none⟩) 1 1 (w.heap.size + 1) [⟨A, n, c, B, l⟩] _ (h.below hb1 hg) one_part (by simp) (fun ad _ he => by injection he with he; subst he; simp; omega) (fun p hp => ?_) (by decide)).mono ?_
  · simp only [List.mem_singleton] at hp
    subst hp
    exact ⟨hl, hr.alloc hB _, by simp; omega, hA, hn⟩
  · rintro e w' ⟨rfl, h1, h2⟩
    exact ⟨ret_int (by simp [cat]), h1, (Chg.of_below hb1 _).trans h2 (fun _ _ h => h)⟩

end Go.Proofs.YtmpedblelnpjdaaGreatDoor

/- The walk of CrcSums. -/
namespace Go.Proofs.YtmpedblelnpjdaaGreatDoor
open Go.RowKit
set_option linter.unusedSimpArgs false
set_option linter.unusedVariables false
set_option maxRecDepth 100000
set_option maxHeartbeats 1000000

theorem bI_take_map (l : List Nat) (k : Nat) : ((bI l).map (Value.int .u8)).take k = (bI (l.take k)).map (Value.int .u8) := by
  simp [bI, List.map_take]
theorem bI_drop_map (l : List Nat) (k : Nat) : ((bI l).map (Value.int .u8)).drop k = (bI (l.drop k)).map (Value.int .u8) := by
  simp [bI, List.map_drop]
end Go.Proofs.YtmpedblelnpjdaaGreatDoor

/- Package crc: behind, Seal; slices.Equal. -/
namespace Go.Proofs.YtmpedblelnpjdaaGreatDoor
open Go.RowKit
set_option linter.unusedSimpArgs false
set_option linter.unusedVariables false
set_option maxRecDepth 100000
set_option maxHeartbeats 1000000

theorem behind_any (g : Nat) (d : Bool) (A : Option Addr) (n c B : Nat) (l : List Nat) (hl : isBs l) (w : World) (h : Tb w g d) (hr : Reads w B 1 A n ((bI l).map (Value.int .u8))) (hB : B ≤ w.heap.size)
    (hA : ∀ ad, 0 < n → A = some ad → ad.block ≠ g) (hn : n ≤ 9223372036854775806) :
    Calls Tryz.prog 228 #[.pointer (some ⟨g, 0, none⟩), .slice A n c] w fun e w' => ∃ v, e = .returned v ∧ w'.ownsRow w.heap.size 5 1 v 4 ((bI (le4 (crc l))).map (Value.int .u8)) ∧ Tb w' g true ∧ Chg w w' (fun k => k = g) := by
  have C := Lib.hid (of_one g d A n c B l hl w h hr hB hA hn)
  have hlt := crc_lt l hl
  generalize crc l = r at *
  clear h hr hA
  have hmk : ∀ w : World, (Instr.makeSlice 22 (.int .i64 4) (.int .i64 4)).run Tryz.prog w = .ok (.slice (some ⟨w.heap.size, 0, none⟩) 4 4) (w.alloc (.cells #[.int .u8 0, .int .u8 0, .int .u8 0, .int .u8 0] 5)) := fun _ => by kernel_rfl
  go_enter Tryz.func228, Tryz.ntmps228
  go_wp2_with (fail)
  with_reducible refine C.out.mono ?_
  rintro e w1 ⟨rfl, h1, h2⟩
  have H1 := Lib.hid h1
  have H2 := Lib.hid h2
  clear h1 h2 C
  go_wp2_with (fail)
  refine wp_loop_rounds 5 ?_
  rw [rounds_succ]
  go_wp2
  rw [rounds_succ]
  go_wp2
  rw [rounds_succ]
  go_wp2
  rw [rounds_succ]
  go_wp2
  rw [rounds_succ]
  go_wp2
  go_ret
  have hb : Below w1.heap.size w1 (w1.alloc (.cells #[.int .u8 ((r : Int) % 256), .int .u8 ((r : Int) / 256 % 256), .int .u8 ((r : Int) / 65536 % 256), .int .u8 ((r : Int) / 16777216)] 5)) := (Below.refl _ _).alloc (Nat.le_refl _) _
  have hle : (bI (le4 r)).map (Value.int .u8) = [.int .u8 ((r : Int) % 256), .int .u8 ((r : Int) / 256 % 256), .int .u8 ((r : Int) / 65536 % 256), .int .u8 ((r : Int) / 16777216)] := by
    simp [bI, le4]; omega
  rw [hle]
  refine ⟨_, rfl, ⟨rfl, .inr ⟨_, _, _, rfl, H2.out.size, heap_alloc_new _ _, Nat.le_refl _, by decide, rfl, rfl⟩⟩, H1.out.below hb H1.out.lt, H2.out.trans (Chg.of_below hb (fun k => k = g)) (fun _ _ h => h)⟩

theorem crcSeal_any (g : Nat) (d : Bool) (A : Option Addr) (n c B : Nat) (l : List Nat) (hl : isBs l) (w : World) (h : Tb w g d) (hr : Reads w B 1 A n ((bI l).map (Value.int .u8))) (hB : B ≤ w.heap.size)
    (hA : ∀ ad, 0 < n → A = some ad → ad.block ≠ g) (hn : n ≤ 900000000) :
    Calls Tryz.prog 135 #[.pointer (some ⟨g, 0, none⟩), .slice A n c] w fun e w' => ∃ v, e = .returned v ∧ w'.ownsRow w.heap.size 5 1 v (n + 4) ((bI (sealB l)).map (Value.int .u8)) ∧ Tb w' g true ∧ Chg w w' (fun k => k = g) := by
  have HR := Lib.hid hr
  have HAA := Lib.hid hA
  have C := Lib.hid (behind_any g d A n c B l hl w h hr hB hA (by omega))
  clear h hr hA
  go_enter Tryz.func135, Tryz.ntmps135
  go_wp2_with (fail)
  with_reducible refine C.out.mono ?_
  rintro e w1 ⟨v, rfl, h0, h1, h2⟩
  obtain ⟨A1, c1, rfl, h3, h4, _⟩ := own_slice h0
  have H0 := Lib.hid h0
  have H1 := Lib.hid h1
  have H2 := Lib.hid h2
  have HR1 := Lib.hid (h2.reads HR.out hB (fun ad h0 he => HAA.out ad h0 he))
  have H3 := Lib.hid h3
  have hs := h2.size
  have hne : ∀ ad, A1 = some ad → w.heap.size ≤ ad.block := fun ad he => (H0.out.lt ad.block (by rw [he]; rfl)).1
  clear h0 h1 h2 C h3 h4 hne
  have hb : Below w1.heap.size w1 (w1.alloc (.cells #[.slice A n c, .slice A1 4 c1] 22)) := (Below.refl _ _).alloc (Nat.le_refl _) _
  have D := Lib.hid (concat_any A A1 n 4 c c1 w1.heap.size w1.heap.size (bI l) (bI (le4 (crc l))) (w1.alloc (.cells #[.slice A n c, .slice A1 4 c1] 22)) (by simp) (by simp)
    ((HR1.out.more (by omega)).below hb) (H3.out.below hb) w1.heap.size (by exact cells_new_at _ _ _ _ rfl 0 _ rfl) (by exact cells_new_at _ _ _ _ rfl 1 _ rfl) (by simp) (by omega) (by omega))
  have HB := Lib.hid hb
  clear hb
  go_wp2_with (fail)
  with_reducible refine D.out.mono ?_
  rintro e w2 ⟨v, rfl, h5, h6⟩
  have HF : Hid (w2.ownsRow w.heap.size 5 1 v (n + 4) ((bI (sealB l)).map (Value.int .u8)) ∧ Tb w2 g true ∧ Chg w w2 (fun k => k = g)) := Lib.hid ⟨by
      rw [sealB, bI_append]
      exact Go.Joins.ownsRow_le h5 (by simp; omega), (H1.out.below HB.out H1.out.lt).below h6 (by simp; have := H1.out.lt; omega), (H2.out.trans (Chg.of_below HB.out (fun k => k = g)) (fun _ _ h => h)).trans (Chg.of_below h6 (fun k => k = g)) (fun _ _ h => h)⟩
  clear h5 h6 D
  go_wp2
  go_ret
  exact ⟨_, rfl, HF.out⟩
theorem slEqual_any (A C : Option Addr) (n m c d B D : Nat) (x y : List Int) (w : World) (hB : B ≤ w.heap.size) (hD : D ≤ w.heap.size) (hx : Reads w B 1 A n (x.map (Value.int .u8))) (hy : Reads w D 1 C m (y.map (Value.int .u8))) (hn : n ≤ 9223372036854775806) :
    Calls Tryz.prog 251 #[.slice A n c, .slice C m d] w fun e w' => e = .returned (.bool (decide (x = y))) ∧ ∃ k, w' = w.drewN k := by
  have lx : x.length = n := by have := hx.1; simpa using this
  have ly : y.length = m := by have := hy.1; simpa using this
  by_cases hnm : n = m
  · have hX : Hid (y.length = x.length) := Lib.hid (by omega)
    subst hnm
    have HX := Lib.hid hx
    have HY := Lib.hid hy
    have LX := Lib.hid lx
    have LY := Lib.hid ly
    clear hx hy lx ly
    go_enter Tryz.func251, Tryz.ntmps251
    go_wp2
    go_loopw [5, 13] (fun i5 i wr => ∃ k : Nat, k ≤ n ∧ i = .int .i64 k ∧ Hid (x.take k = y.take k) ∧ Hid (∃ q, wr = w.drewN q)) (fun _ i _ => n - (intOf i).toNat)
    case atStart => exact ⟨0, by omega, rfl, Lib.hid rfl, Lib.hid ⟨0, rfl⟩⟩
    case round =>
      obtain ⟨k, hk, rfl, hT, hb⟩ := hrel
      obtain ⟨q, hq⟩ := hb.out
      by_cases hlt : k < n
      · obtain ⟨ad1, z1, rfl, _, hz1, hc1⟩ := reads_int (HX.out.drewN q) hlt
        obtain ⟨ad2, z2, rfl, _, hz2, hc2⟩ := reads_int (HY.out.drewN q) hlt
        rw [← hq] at hc1 hc2
        have Z1 := Lib.hid hz1
        have Z2 := Lib.hid hz2
        have HQ := Lib.hid hq
        clear hz1 hz2 hq hb
        have hk0 : (k : Int) < n := by omega
        by_cases hz : z1 = z2
        · have hz' : (z1 != z2) = false := by simp [hz]
          have HZ := Lib.hid hz
          clear hz
          go_wp2_with (fail)
          go_quiet (fail)
          go_wp2
          go_roundw
          case rel =>
            refine ⟨k + 1, by omega, by go_num, Lib.hid ?_, Lib.hid ⟨_, by rw [HQ.out]; exact World.drewN_drewN _ _ _⟩⟩
            rw [List.take_add_one, List.take_add_one, Z1.out, Z2.out, hT.out, HZ.out]
          case measure => simp [intOf]; omega
        · have hz' : (z1 != z2) = true := by simp [hz]
          have HZ := Lib.hid hz
          clear hz
          go_wp2_with (fail)
          go_quiet (fail)
          go_wp2
          go_ret
          refine ⟨ret_bool ?_, _, by rw [HQ.out]; exact World.drewN_drewN _ _ _⟩
          symm
          rw [decide_eq_false_iff_not]
          intro e
          have := Z2.out
          rw [← e, Z1.out] at this
          exact HZ.out (by injection this)
      · obtain rfl : k = n := by omega
        have HQ := Lib.hid hq
        clear hq hb
        go_wp2
        go_ret
        refine ⟨ret_bool ?_, q, HQ.out⟩
        symm
        rw [decide_eq_true_eq]
        have := hT.out
        rw [List.take_of_length_le (by have := LX.out; omega), List.take_of_length_le (by have := LY.out; omega)] at this
        exact this
  · have he : ¬ x = y := fun e => by subst e; omega
    have hd : decide (x = y) = false := by simp [he]
    rw [hd]
    have hnm' : ((n : Int) != m) = true := by simp; omega
    clear hx hy hnm he hd
    go_enter Tryz.func251, Tryz.ntmps251
    go_wp2
    go_ret
    exact ⟨rfl, 0, rfl⟩
end Go.Proofs.YtmpedblelnpjdaaGreatDoor

/- Package crc: Fits; the reference's Seal, Fits. -/
namespace Go.Proofs.YtmpedblelnpjdaaGreatDoor
open Go.RowKit
set_option linter.unusedSimpArgs false
set_option linter.unusedVariables false
set_option maxRecDepth 100000
set_option maxHeartbeats 1000000

theorem fits_parts (l : List Nat) (m : Nat) (h : l.length = m + 4) : fitsL l = decide (bI (l.drop m) = bI (le4 (crc (l.take m)))) := by
  have hinj : ∀ x y : List Nat, bI x = bI y ↔ x = y := fun x y => ⟨fun e => (List.map_inj_right (fun a b hab => by omega)).1 e, fun e => by rw [e]⟩
  unfold fitsL sealB
  rw [h, show m + 4 - 4 = m by omega, decide_eq_true (by omega), Bool.true_and, Bool.eq_iff_iff, decide_eq_true_eq, decide_eq_true_eq, hinj]
  have e := List.take_append_drop m l
  constructor
  · intro h1
    exact (List.append_cancel_left (h1.trans e.symm)).symm
  · intro h1
    rw [← h1]; exact e
theorem crcFits_any (g : Nat) (d : Bool) (A : Option Addr) (n c B : Nat) (l : List Nat) (hl : isBs l) (w : World) (h : Tb w g d) (hr : Reads w B 1 A n ((bI l).map (Value.int .u8))) (hB : B ≤ w.heap.size)
    (hA : ∀ ad, 0 < n → A = some ad → ad.block ≠ g) (hn : n ≤ 900000000) (hnc : n ≤ c) (hc : c ≤ 9223372036854775807) :
    Calls Tryz.prog 178 #[.pointer (some ⟨g, 0, none⟩), .slice A n c] w fun e w' => e = .returned (.bool (fitsL l)) ∧ Tb w' g true ∧ Chg w w' (fun k => k = g) := by
  have HR := Lib.hid hr
  have HAA := Lib.hid hA
  have LN := Lib.hid (reads_len hr)
  have C := Lib.hid (crcReady_any g d w h)
  by_cases h4 : 4 ≤ n
  · obtain ⟨m, rfl⟩ : ∃ m, n = m + 4 := ⟨n - 4, by omega⟩
    have HF := Lib.hid (fits_parts l m LN.out)
    rw [HF.out]
    obtain ⟨ad, hAd, _, _⟩ := hr.2 (by omega)
    subst hAd
    clear h hr hA h4
    have hg0 : decide ((0 : Int) ≤ (m : Int)) = true := by simp
    have hm0 : (0 : Int) ≤ (m : Int) := by omega
    have hm1 : (m : Int) ≤ (m : Int) + 4 := by omega
    have hm2 : (m : Int) ≤ (c : Int) := by omega
    have hm3 : (m : Int) + 4 ≤ (c : Int) := by omega
    have hcm : ¬ c = m := by omega
    go_enter Tryz.func178, Tryz.ntmps178
    go_wp2_with (fail)
    with_reducible refine C.out.mono ?_
    rintro e w1 ⟨rfl, h1, h2⟩
    have HR1 := Lib.hid (h2.reads HR.out hB (fun ad h0 he => HAA.out ad h0 he))
    have H1 := Lib.hid h1
    have H2 := Lib.hid h2
    clear h1 h2 C
    have hs1 : B ≤ w1.heap.size := Nat.le_trans hB H2.out.size
    have ht := HR1.out.take (k := m) (by omega)
    rw [bI_take_map] at ht
    have hd := HR1.out.cut (k := m) (cap := c) (by omega) (by omega)
    rw [Nat.mul_one, bI_drop_map, if_neg hcm, show m + 4 - m = 4 by omega] at hd
    have HD := Lib.hid hd
    have CB := Lib.hid (behind_any g true (some ad) m c B (l.take m) (isBs_take hl m) w1.drew H1.out ht.drew hs1 (fun ad' h0 he => HAA.out ad' (by omega) he) (by omega))
    have HS1 := Lib.hid hs1
    have HNE : Hid (∀ ad' : Addr, 0 < 4 → (some ad).map (fun x : Addr => x.add m) = some ad' → ad'.block ≠ g) := Lib.hid (by
      intro ad' _ he
      simp only [Option.map_some, Option.some.injEq] at he
      subst he
      rw [block_of_add]
      exact HAA.out ad (by omega) rfl)
    clear ht hd hs1
    go_wp2_with (fail)
    go_region_held3 (fun w' => True) (trivial) (first
      | (go_at_call 228; refine CB.out.mono ?_; rintro e w2 ⟨v, rfl, h0, h1, h2⟩; obtain ⟨A1, c1, rfl, h3, _, _⟩ := own_slice h0; have H0 := Lib.hid h0; have H5 := Lib.hid h1; have H6 := Lib.hid h2; have H7 := Lib.hid h3; have E1 := Lib.hid (h2.reads HD.out.drew HS1.out HNE.out); have E2 := Lib.hid (Nat.le_trans HS1.out h2.size); clear h0 h1 h2 h3)
      | (go_at_call 251; refine (slEqual_any (some (ad.add m)) A1 4 4 (c - m) c1 B w2.heap.size (bI (l.drop m)) (bI (le4 (crc (l.take m)))) w2 E2.out (Nat.le_refl _) E1.out H7.out (Nat.le_of_ble_eq_true rfl)).mono ?_; rintro e w3 ⟨rfl, k, rfl⟩)
      | fail)
    go_wp2_with (fail)
    go_ret
    exact ⟨rfl, TabC.drewN H5.out _, (H2.out.trans (Chg.drewN (Chg.refl w1 (fun k => k = g)) 1) (fun _ _ h => h)).trans (Chg.drewN H6.out _) (fun _ _ h => h)⟩
  · have hf : Hid (fitsL l = false) := Lib.hid (by
      unfold fitsL
      rw [decide_eq_false (by have := LN.out; omega), Bool.false_and])
    rw [hf.out]
    clear h hr hA
    have hd : decide (4 ≤ (n : Int)) = false := by simp; omega
    go_enter Tryz.func178, Tryz.ntmps178
    go_wp2_with (fail)
    with_reducible refine C.out.mono ?_
    rintro e w1 ⟨rfl, h1, h2⟩
    have H1 := Lib.hid h1
    have H2 := Lib.hid h2
    clear h1 h2 C
    go_wp2_with (fail)
    go_quiet (fail)
    go_wp2
    go_ret
    exact ⟨rfl, H1.out.drewN _, H2.out.drewN _⟩
end Go.Proofs.YtmpedblelnpjdaaGreatDoor

/- Package crc: the reference's Seal, Fits. -/
namespace Go.Proofs.YtmpedblelnpjdaaGreatDoor
open Go.RowKit
set_option linter.unusedSimpArgs false
set_option linter.unusedVariables false
set_option maxRecDepth 100000
set_option maxHeartbeats 1000000

end Go.Proofs.YtmpedblelnpjdaaGreatDoor

/- Package crc: the reference's Fits; Turn. -/
namespace Go.Proofs.YtmpedblelnpjdaaGreatDoor
open Go.RowKit
set_option linter.unusedSimpArgs false
set_option linter.unusedVariables false
set_option maxRecDepth 100000
set_option maxHeartbeats 1000000

def turnV (bit : Int) (pat : Nat) (l : List Nat) : List Nat := if 0 ≤ bit ∧ bit.toNat / 8 < l.length then turnK bit.toNat pat l 32 else l
theorem turn_no (bit : Int) (pat n : Nat) (l : List Nat) (hn : l.length = n) (h : bit < 0 ∨ (n : Int) ≤ bit / 8) : turnV bit pat l = l := by
  unfold turnV
  rw [if_neg]
  rintro ⟨h1, h2⟩
  omega
end Go.Proofs.YtmpedblelnpjdaaGreatDoor

/- Package crc: the reference's Turn. -/
namespace Go.Proofs.YtmpedblelnpjdaaGreatDoor
open Go.RowKit
set_option linter.unusedSimpArgs false
set_option linter.unusedVariables false
set_option maxRecDepth 100000
set_option maxHeartbeats 1000000

theorem turnK_far (k pat : Nat) (l : List Nat) (t : Nat) (h : l.length ≤ k / 8) : turnK k pat l t = l := by
  induction t with
  | zero => rfl
  | succ t ih => rw [turnK, ih, turn1, if_neg (fun h1 => by have := h1.1; omega)]
theorem refTurn_any (A : Option Addr) (n c B : Nat) (l : List Nat) (bit : Int) (pat : Nat) (hl : isBs l) (w : World) (hr : Reads w B 1 A n ((bI l).map (Value.int .u8))) (hB : B ≤ w.heap.size) (hn : n ≤ 900000000) (hp : pat < 4294967296)
    (hb0 : -9223372036854775808 ≤ bit) (hb1 : bit ≤ 9223372036854775807) :
    Calls Tryz.prog 16 #[.slice A n c, .int .i64 bit, .int .u32 (pat : Int)] w fun e w' => ∃ v, e = .returned v ∧ w'.ownsRow w.heap.size 5 1 v n ((bI (turnV bit pat l)).map (Value.int .u8)) ∧ Below w.heap.size w w' := by
  obtain ⟨i0, hi, hz0, hz1, hz2⟩ := info_parts byteInfo
  have LN := Lib.hid (reads_len hr)
  have HR := Lib.hid hr
  clear hr
  by_cases h0 : 0 ≤ bit
  · obtain ⟨k, rfl⟩ := Int.eq_ofNat_of_zero_le h0
    by_cases h1 : k ≤ 8 * n
    · have HT : Hid (turnV (k : Int) pat l = turnK k pat l 32) := Lib.hid (by
        unfold turnV
        by_cases h2 : k / 8 < n
        · rw [if_pos ⟨h0, by have := LN.out; simp; omega⟩]; simp
        · rw [if_neg (fun h => by have h3 := h.2; have := LN.out; simp at h3; omega), turnK_far _ _ _ _ (by have := LN.out; omega)])
      rw [HT.out]
      have hd1' : decide (8 * (n : Int) < (k : Int)) = false := by simp; omega
      have hk : k ≤ 7200000008 := by omega
      clear hb0 hb1 HT
      go_enter Tryz.func16, Tryz.ntmps16
      go_wp2_with (at_builtin; go_must (refine wpList_append_any _ rfl (.const (.slice none 0 0)) (.tmp 10) _ rfl w.heap.size 5 i0 _ 1 1 Tryz.underlying22 hi hz0 hz1 hz2 rfl (by omega) _ _ _ rfl (World.ownsRow_nil _ _ _ _) B A n c ((bI l).map (Value.int .u8)) rfl HR.out ?c1 ?c2 ?c3 ?c4 ?_))
      case c1 => exact u8_one _
      case c2 => unfold maxLen; omega
      case c3 => omega
      case c4 => exact Nat.le_refl _
      intro v w1 h2 h6 _
      have h3 := (Below.refl w.heap.size w).grown h6 (Nat.le_refl _) (fun k hk => by simp [Value.ownBlock] at hk)
      obtain ⟨AA, cc, rfl, _, _, _⟩ := own_slice h2
      have H2 : Hid (w1.ownsRow w.heap.size 5 1 (.slice AA n cc) n ((bI (turnK k pat l 0)).map (Value.int .u8))) := Lib.hid h2
      have H3 := Lib.hid h3
      clear h2 h3 h6
      go_wp2_with (fail)
      go_loopw [8, 9] (fun i s9 wr => ∃ t : Nat, t ≤ 32 ∧ i = .int .i64 t ∧ Hid (wr.ownsRow w.heap.size 5 1 (.slice AA n cc) n ((bI (turnK k pat l t)).map (Value.int .u8))) ∧ Hid (Below w.heap.size w wr)) (fun i _ _ => 32 - (intOf i).toNat)
      case atStart => exact ⟨0, by omega, rfl, H2, H3⟩
      case round =>
        obtain ⟨t, ht, rfl, HO, HB⟩ := hrel
        by_cases hlt : t < 32
        · obtain ⟨a, ha⟩ : ∃ a : Nat, (k : Int) + t = (a : Int) := ⟨k + t, by omega⟩
          by_cases hjn : a < 8 * n
          · obtain ⟨j, hj⟩ : ∃ j : Nat, (a : Int) / 8 = (j : Int) := ⟨a / 8, by omega⟩
            obtain ⟨g, hgg⟩ : ∃ g, AA = some ⟨g, 0, none⟩ := by
              obtain ⟨g, cc', h, _⟩ := HO.out.form (by omega)
              injection h with h _ _
              exact ⟨g, h⟩
            subst hgg
            have hgs := HO.out.lt g rfl
            have hjn' : ((a : Int) < 8 * (n : Int)) := by omega
            have hjn2 : ((j : Int) < (n : Int)) := by omega
            have hj0 : (0 : Int) ≤ (j : Int) := by omega
            by_cases hbit : pat / 2 ^ t % 2 = 1
            · have hbb : (((pat : Int) / 2 ^ t).tmod 2 == 1) = true := by
                have e : ((pat : Int) / 2 ^ t) = ((pat / 2 ^ t : Nat) : Int) := by simp
                rw [e, Int.tmod_eq_emod_of_nonneg (Int.natCast_nonneg _)]; generalize pat / 2 ^ t = y at *; simp; omega
              obtain ⟨q, hq⟩ : ∃ q : Nat, (a : Int) % 8 = (q : Int) := ⟨a % 8, by omega⟩
              have hq8 : q < 8 := by omega
              obtain ⟨z, hz⟩ : ∃ z, (turnK k pat l t)[j]? = some z := ⟨_, List.getElem?_eq_getElem (by rw [turnK_len]; have := LN.out; omega)⟩
              have hz8 := turnK_lt k pat l hl t z (List.mem_of_getElem? hz)
              have hc : wr.cell? ⟨g, j, none⟩ = some (.int .u8 (z : Int)) := (HO.out.cellAt j (by omega)).trans (by simp [bI, hz])
              have hf := HO.out.frozenAt j
              have hx : bits .xor .u8 (z : Int) ((2 : Int) ^ q % 256) = ((z ^^^ 2 ^ q : Nat) : Int) := by
                have h2 : 2 ^ q < 256 := by
                  have : 2 ^ q ≤ 2 ^ 7 := Nat.pow_le_pow_right (by decide) (by omega)
                  omega
                have e : ((2 : Int) ^ q % 256) = ((2 ^ q : Nat) : Int) := by
                  have e1 : ((2 ^ q : Nat) : Int) = (2 : Int) ^ q := by simp
                  rw [← e1]; exact Int.emod_eq_of_lt (Int.natCast_nonneg _) (by exact_mod_cast h2)
                rw [e]; exact u8_xor_nat z (2 ^ q) hz8 h2
              have HT1 : Hid (turnK k pat l (t + 1) = (turnK k pat l t).set j (z ^^^ 2 ^ q)) := Lib.hid (by
                rw [turnK, turn1, if_pos ⟨by rw [turnK_len]; have := LN.out; omega, hbit⟩, show (k + t) / 8 = j by omega, show (k + t) % 8 = q by omega, List.getD_eq_getElem?_getD, hz]; rfl)
              have HX := Lib.hid hx
              have hgs1 := hgs.1
              clear hz hx hgs
              go_wp2_with (fail)
              go_region
              go_wp2
              go_roundw
              case rel =>
                refine ⟨t + 1, by omega, by go_num, Lib.hid ?_, Lib.hid ?_⟩
                · rw [HX.out, HT1.out, bI, List.map_set, List.map_set]
                  exact (HO.out.stored j _).1
                · exact (HB.out.grown (HO.out.stored j _).2 HB.out.size (fun k hk => by injection hk with hk; omega)).drew
              case measure => simp [intOf]; omega
            · have hbb : (((pat : Int) / 2 ^ t).tmod 2 == 1) = false := by
                have e : ((pat : Int) / 2 ^ t) = ((pat / 2 ^ t : Nat) : Int) := by simp
                rw [e, Int.tmod_eq_emod_of_nonneg (Int.natCast_nonneg _)]; generalize pat / 2 ^ t = y at *; simp; omega
              have HT1 : Hid (turnK k pat l (t + 1) = turnK k pat l t) := Lib.hid (by
                rw [turnK, turn1, if_neg (fun h => hbit h.2)])
              clear hbit
              go_wp2_with (fail)
              go_roundw
              case rel => exact ⟨t + 1, by omega, by go_num, Lib.hid (by rw [HT1.out]; exact HO.out), HB⟩
              case measure => simp [intOf]; omega
          · have HT1 : Hid (turnK k pat l (t + 1) = turnK k pat l t) := Lib.hid (by
              rw [turnK, turn1, if_neg (fun h => by have h1 := h.1; rw [turnK_len] at h1; have := LN.out; omega)])
            have hjn' : decide ((a : Int) < 8 * (n : Int)) = false := by simp; omega
            go_wp2_with (fail)
            go_roundw
            case rel => exact ⟨t + 1, by omega, by go_num, Lib.hid (by rw [HT1.out]; exact HO.out), HB⟩
            case measure => simp [intOf]; omega
        · obtain rfl : t = 32 := by omega
          go_wp2_with (fail)
          go_ret
          exact ⟨_, rfl, HO.out, HB.out⟩
    · have HT := Lib.hid (turn_no (k : Int) pat n l LN.out (.inr (by omega)))
      rw [HT.out]
      have hd1' : decide (8 * (n : Int) < (k : Int)) = true := by simp; omega
      go_enter Tryz.func16, Tryz.ntmps16
      go_wp2_with (at_builtin; go_must (refine wpList_append_any _ rfl (.const (.slice none 0 0)) (.tmp 10) _ rfl w.heap.size 5 i0 _ 1 1 Tryz.underlying22 hi hz0 hz1 hz2 rfl (by omega) _ _ _ rfl (World.ownsRow_nil _ _ _ _) B A n c ((bI l).map (Value.int .u8)) rfl HR.out ?c1 ?c2 ?c3 ?c4 ?_))
      case c1 => exact u8_one _
      case c2 => unfold maxLen; omega
      case c3 => omega
      case c4 => exact Nat.le_refl _
      intro v w1 h2 h6 _
      have h3 := (Below.refl w.heap.size w).grown h6 (Nat.le_refl _) (fun k hk => by simp [Value.ownBlock] at hk)
      obtain ⟨AA, cc, rfl, _, _, _⟩ := own_slice h2
      have H2 := Lib.hid h2
      have H3 := Lib.hid h3
      clear h2 h3 h6
      go_wp2_with (fail)
      go_ret
      exact ⟨_, rfl, H2.out, H3.out⟩
  · have HT := Lib.hid (turn_no bit pat n l LN.out (.inl (by omega)))
    rw [HT.out]
    go_enter Tryz.func16, Tryz.ntmps16
    go_wp2_with (at_builtin; go_must (refine wpList_append_any _ rfl (.const (.slice none 0 0)) (.tmp 10) _ rfl w.heap.size 5 i0 _ 1 1 Tryz.underlying22 hi hz0 hz1 hz2 rfl (by omega) _ _ _ rfl (World.ownsRow_nil _ _ _ _) B A n c ((bI l).map (Value.int .u8)) rfl HR.out ?c1 ?c2 ?c3 ?c4 ?_))
    case c1 => intro a ha; rfl
    case c2 => unfold maxLen; omega
    case c3 => omega
    intro v w1 h2 h6 _
    have h3 := (Below.refl w.heap.size w).grown h6 (Nat.le_refl _) (fun k hk => by simp [Value.ownBlock] at hk)
    obtain ⟨AA, cc, rfl, _, _, _⟩ := own_slice h2
    have H2 := Lib.hid h2
    have H3 := Lib.hid h3
    clear h2 h3 h6
    go_wp2_with (fail)
    go_ret
    exact ⟨_, rfl, H2.out, H3.out⟩
end Go.Proofs.YtmpedblelnpjdaaGreatDoor

/- The walks of CrcSeals and CrcBursts. -/
namespace Go.Proofs.YtmpedblelnpjdaaGreatDoor
open Go.RowKit
set_option linter.unusedSimpArgs false
set_option linter.unusedVariables false
set_option maxRecDepth 100000
set_option maxHeartbeats 2000000

/-- a row of one's own as a slice that reads, away from block g -/
theorem own_far {w : World} {base g n : Nat} {v : Value} {xs : List Value} (h : w.ownsRow base 5 1 v n xs) (hg : g < base) :
    ∃ A c, v = .slice A n c ∧ Reads w w.heap.size 1 A n xs ∧ (∀ ad, 0 < n → A = some ad → ad.block ≠ g) ∧ n ≤ c ∧ c ≤ maxLen := by
  obtain ⟨A, c, rfl, hr, h1, h2⟩ := own_slice h
  refine ⟨A, c, rfl, hr, fun ad h0 he => ?_, h1, h2⟩
  obtain ⟨g', cap, hv, hb, _⟩ := h.form h0
  subst he
  injection hv with hv
  injection hv with hv
  subst hv
  show g' ≠ g
  have := (h.lt g' rfl).1
  omega
end Go.Proofs.YtmpedblelnpjdaaGreatDoor

/- The walk of CrcBursts. -/
namespace Go.Proofs.YtmpedblelnpjdaaGreatDoor
open Go.RowKit
set_option linter.unusedSimpArgs false
set_option linter.unusedVariables false
set_option maxRecDepth 100000
set_option maxHeartbeats 2000000

theorem sealB_bs (b : List Nat) (h : isBs b) : isBs (sealB b) := by
  intro x hx
  rcases List.mem_append.1 hx with hx | hx
  · exact h x hx
  · exact le4_lt _ x hx
theorem turnV_bs (bit : Int) (pat : Nat) (l : List Nat) (h : isBs l) : isBs (turnV bit pat l) := by
  unfold turnV
  split
  · exact turnK_lt _ _ _ h 32
  · exact h
theorem burst_V (b : List Nat) (hb : isBs b) (k pat : Nat) (hk : k < 8 * (b.length + 4)) : fitsL (turnV (k : Int) pat (sealB b)) = decide (bI (turnV (k : Int) pat (sealB b)) = bI (sealB b)) := by
  have hinj : ∀ x y : List Nat, bI x = bI y ↔ x = y := fun x y => ⟨fun e => (List.map_inj_right (fun a b hab => by omega)).1 e, fun e => by rw [e]⟩
  have hl : (sealB b).length = b.length + 4 := by simp [sealB, le4]
  have e : turnV (k : Int) pat (sealB b) = turnK k pat (sealB b) 32 := by
    unfold turnV
    rw [if_pos ⟨by omega, by simp [hl]; omega⟩]; simp
  rw [e, burst_fits b hb k pat (by omega), Bool.eq_iff_iff, decide_eq_true_eq, decide_eq_true_eq, hinj]
end Go.Proofs.YtmpedblelnpjdaaGreatDoor
