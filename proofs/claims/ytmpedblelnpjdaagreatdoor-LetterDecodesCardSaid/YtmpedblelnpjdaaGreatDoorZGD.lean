/- GD: LatA CrcM CrcA CrcB CrcC CrcD CrcE FixKit CrcF CrcG CrcH CrcI CrcJ CrcK CrcL CrcN CrcO -/
import Derived.Defers
import Derived.Laws.Pointers
import Derived.Laws.LoneSync
import Derived.Laws.NewBlocks
import Derived.RegionTactic
import Derived.RegionCalls
import Derived.ChangeAlike
import Derived.Shelf.Abstract
import Derived.Test.YtmpedblelnpjdaaGreatDoorRows
import Derived.Test.YtmpedblelnpjdaaGreatDoorZGA
import Derived.WalkKit
import Derived.Laws.BitsAll
import Derived.StillTailTactics
import Derived.Test.YtmpedblelnpjdaaGreatDoorZGB
import Derived.Lib.SlBytesConst
/- sync.Once, one goroutine: its calls, each by a contract (after the guide's worked text, toys/lazy). -/
namespace Go.Proofs.YtmpedblelnpjdaaGreatDoor
open Go.RowKit
set_option linter.unusedSimpArgs false
set_option linter.unusedVariables false
set_option maxRecDepth 100000
set_option maxHeartbeats 4000000
theorem disable (w : World) : (callFunc 334 #[]).run Tryz.prog w = .ok (.value (.tuple #[])) w := run_call_mark0 Tryz.func334 (by kernel_rfl) (by kernel_rfl) (by kernel_rfl) .disable (by kernel_rfl) w
theorem enable (w : World) : (callFunc 336 #[]).run Tryz.prog w = .ok (.value (.tuple #[])) w := run_call_mark0 Tryz.func336 (by kernel_rfl) (by kernel_rfl) (by kernel_rfl) .enable (by kernel_rfl) w
theorem acquire (a : Addr) (w : World) : (callFunc 337 #[.pointer (some a)]).run Tryz.prog w = .ok (.value (.tuple #[])) w := run_call_marked Tryz.func337 (by kernel_rfl) (by kernel_rfl) (by kernel_rfl) .acquire (by kernel_rfl) a w
theorem releaseMerge (a : Addr) (w : World) : (callFunc 339 #[.pointer (some a)]).run Tryz.prog w = .ok (.value (.tuple #[])) w := run_call_marked Tryz.func339 (by kernel_rfl) (by kernel_rfl) (by kernel_rfl) .releaseMerge (by kernel_rfl) a w
theorem run_not (x : Bool) (w : World) : (Op.unary .not (.bool x)).run Tryz.prog w = .ok (.bool (!x)) w := rfl
theorem bload_any (a : Addr) (x : Int) (w : World) (hc : w.cell? a = some (.int .u32 x)) : Calls Tryz.prog 230 #[.pointer (some a)] w fun e w' => e = .returned (.bool (x != 0)) ∧ w = w' := by
 have hl := run_call_load (P := Tryz.prog) Tryz.func289 (by kernel_rfl) (by kernel_rfl) (by kernel_rfl) .u32 (by kernel_rfl) hc
 go_enter Tryz.func230, Tryz.ntmps230
 go_wp2
 go_ret
 exact ⟨rfl, rfl⟩
theorem store_deferred (a : Addr) (x : Value) (u : FrameMode) (w : World) (hc : w.cell? a = some x) (hz : w.frozen? a = false) :
  CallsD Tryz.prog 242 #[.pointer (some a), .bool true] u w fun e u' w' => u' = u ∧ (e = .returned (.tuple #[]) ∧ w' = w.drew.setCell a (.int .u32 1)) := by
 have hc' : w.drew.cell? a = some x := by go_simp
 have hz' : w.drew.frozen? a = false := by go_simp
 have hst := run_call_store (P := Tryz.prog) Tryz.func295 (by kernel_rfl) (by kernel_rfl) (by kernel_rfl) (by kernel_rfl) (k := .u32) (y := 1) hc' hz'
 go_enter_d Tryz.func242, Tryz.ntmps242
 go_wp2
 go_region_calls
 all_goals (go_end0; exact ⟨rfl, rfl⟩)
theorem unlock_deferred (a : Addr) (u : FrameMode) (w : World) (hc : w.cell? a = some (.int .i32 1)) (hz : w.frozen? a = false) :
  CallsD Tryz.prog 321 #[.pointer (some a)] u w fun e u' w' => u' = u ∧ (e = .returned (.tuple #[]) ∧ w' = w.setCell a (.int .i32 0)) := by
 have hd := disable
 have he := enable
 have hr := releaseMerge
 have hadd := run_call_add (P := Tryz.prog) Tryz.func332 (by kernel_rfl) (by kernel_rfl) (by kernel_rfl) .i32 (by kernel_rfl) (y := -1) (s := 0) hc hz (by simp [go_sem]; rfl)
 have hcv := run_convert_to_unsafe (P := Tryz.prog) (src := 374) (dst := 377) Tryz.underlying374 Tryz.underlying377 (by kernel_rfl) hc
 go_enter_d Tryz.func321, Tryz.ntmps321
 go_wp2
 go_end0
 go_wp2
 go_end0
 exact ⟨rfl, rfl⟩
theorem lock_free (a : Addr) (w : World) (hc : w.cell? a = some (.int .i32 0)) (hz : w.frozen? a = false) :
  Calls Tryz.prog 320 #[.pointer (some a)] w fun e w' => e = .returned (.tuple #[]) ∧ w' = w.setCell a (.int .i32 1) := by
 have hd := disable
 have he := enable
 have ha := acquire
 have hcas := run_call_cas_hit (P := Tryz.prog) Tryz.func335 (by kernel_rfl) (by kernel_rfl) (by kernel_rfl) .i32 (by kernel_rfl) (y := 1) hc hz
 have hc' : (w.setCell a (.int .i32 1)).cell? a = some (.int .i32 1) := World.cell?_setCell_same w a _ hc
 have hcv := run_convert_to_unsafe (P := Tryz.prog) (src := 374) (dst := 377) Tryz.underlying374 Tryz.underlying377 (by kernel_rfl) hc'
 go_enter Tryz.func320, Tryz.ntmps320
 go_wp2
 first | go_end0 | (simp only [Exit.inBlock, Exit.then]; refine bodyPost_ret (results_none rfl _ _ _) rfl ?_) | refine bodyPost_ret (results_none rfl _ _ _) rfl ?_
 go_wp2
 go_end0
 exact ⟨rfl, rfl⟩
def onced (w : World) (g : Nat) : World := (w.drew.setCell ⟨g, 0, none⟩ (.int .u32 1)).setCell ⟨g, 1, none⟩ (.int .i32 0)
theorem do_done (g : Nat) (fv : Value) (w : World) (h0 : w.cell? ⟨g, 0, none⟩ = some (.int .u32 1)) :
  Calls Tryz.prog 240 #[.pointer (some ⟨g, 0, none⟩), fv] w fun e w' => e = .returned (.tuple #[]) ∧ w = w' := by
 have hnot := run_not
 have hB := Lib.hid (bload_any ⟨g, 0, none⟩ 1 w h0)
 go_enter Tryz.func240, Tryz.ntmps240
 go_wp2_with (first | (go_at_call 230; refine hB.out.mono ?_; rintro e w' ⟨rfl, rfl⟩) | fail)
 go_end0
 exact ⟨rfl, rfl⟩
end Go.Proofs.YtmpedblelnpjdaaGreatDoor
/- Sums of 32 bits over bytes, as plain numbers: halving, bytes, the table, bursts. No program. -/
namespace Go.Proofs.YtmpedblelnpjdaaGreatDoor
def half (s : Nat) : Nat := (s / 2) ^^^ (if s % 2 = 1 then 3988292384 else 0)
def hv : Nat → Nat → Nat
 | 0, s => s
 | k + 1, s => hv k (half s)
def onB : Nat → List Nat → Nat
 | s, [] => s
 | s, b :: l => onB (hv 8 (s ^^^ b)) l
theorem xor_div2 (a b : Nat) : (a ^^^ b) / 2 = (a / 2) ^^^ (b / 2) := by
 apply Nat.eq_of_testBit_eq
 intro j
 rw [← Nat.testBit_succ, Nat.testBit_xor, Nat.testBit_xor, Nat.testBit_succ, Nat.testBit_succ]
theorem xor_mod2 (a b : Nat) : (a ^^^ b) % 2 = (a % 2 + b % 2) % 2 := by
 have h := Nat.testBit_xor (x := a) (y := b) (i := 0)
 simp only [Nat.testBit_zero] at h
 have ha := Nat.mod_two_eq_zero_or_one a
 have hb := Nat.mod_two_eq_zero_or_one b
 have hc := Nat.mod_two_eq_zero_or_one (a ^^^ b)
 rcases ha with ha | ha <;> rcases hb with hb | hb <;> rcases hc with hc | hc <;> simp_all
theorem half_xor (a b : Nat) : half (a ^^^ b) = half a ^^^ half b := by
 unfold half
 rw [xor_div2, xor_mod2]
 have e : ∀ p q r s : Nat, (p ^^^ q) ^^^ (r ^^^ s) = (p ^^^ r) ^^^ (q ^^^ s) := fun p q r s => by
  rw [Nat.xor_assoc, Nat.xor_assoc, ← Nat.xor_assoc q r s, Nat.xor_comm q r, Nat.xor_assoc r q s]
 rcases Nat.mod_two_eq_zero_or_one a with ha | ha <;> rcases Nat.mod_two_eq_zero_or_one b with hb | hb <;> rw [ha, hb]
 ·simp
 ·simp [Nat.xor_assoc]
 ·simp only [Nat.add_zero, Nat.reduceMod, if_true, if_neg (show ¬ (0 : Nat) = 1 by decide), Nat.xor_zero]
  rw [Nat.xor_assoc, Nat.xor_assoc, Nat.xor_comm (b / 2)]
 ·simp only [Nat.reduceAdd, Nat.reduceMod, if_true, if_neg (show ¬ (0 : Nat) = 1 by decide), Nat.xor_zero]
  rw [e, Nat.xor_self, Nat.xor_zero]
theorem half_dbl (a : Nat) : half (2 * a) = a := by
 unfold half
 rw [if_neg (by omega), Nat.xor_zero]; omega
theorem half_lt (s : Nat) (h : s < 4294967296) : half s < 4294967296 := by
 unfold half
 refine Nat.xor_lt_two_pow (n := 32) (by omega) ?_
 split <;> decide
theorem hv_xor (k a b : Nat) : hv k (a ^^^ b) = hv k a ^^^ hv k b := by
 induction k generalizing a b with
 | zero => rfl
 | succ k ih => show hv k (half (a ^^^ b)) = _; rw [half_xor, ih]; rfl
theorem hv_add (j k s : Nat) : hv (j + k) s = hv k (hv j s) := by
 induction j generalizing s with
 | zero => rw [Nat.zero_add]; rfl
 | succ j ih => rw [Nat.succ_add]; exact ih (half s)
theorem hv_lt (k s : Nat) (h : s < 4294967296) : hv k s < 4294967296 := by
 induction k generalizing s with
 | zero => exact h
 | succ k ih => exact ih _ (half_lt s h)
theorem hv_shift (k a : Nat) : hv k (2 ^ k * a) = a := by
 induction k generalizing a with
 | zero => show 2 ^ 0 * a = a; omega
 | succ k ih =>
  show hv k (half (2 ^ (k + 1) * a)) = a
  rw [Nat.pow_succ, Nat.mul_comm (2 ^ k) 2, Nat.mul_assoc, half_dbl, ih]
theorem onB_append (s : Nat) (l m : List Nat) : onB s (l ++ m) = onB (onB s l) m := by
 induction l generalizing s with
 | nil => rfl
 | cons b l ih => exact ih _
theorem onB_snoc (s : Nat) (l : List Nat) (c : Nat) : onB s (l ++ [c]) = hv 8 (onB s l ^^^ c) := by rw [onB_append]; rfl
theorem onB_lt (s : Nat) (l : List Nat) (hs : s < 4294967296) (hl : ∀ b ∈ l, b < 256) : onB s l < 4294967296 := by
 induction l generalizing s with
 | nil => exact hs
 | cons b l ih =>
  refine ih _ (hv_lt _ _ (Nat.xor_lt_two_pow (n := 32) hs ?_)) (fun x hx => hl x (by simp [hx]))
  have := hl b (by simp)
  omega
theorem table_step (s c : Nat) : hv 8 ((s % 256) ^^^ c) ^^^ (s / 256) = hv 8 (s ^^^ c) := by
 have e : s = (s % 256) ^^^ (256 * (s / 256)) := by
  apply Nat.eq_of_testBit_eq
  intro j
  rw [Nat.testBit_xor, show (256 : Nat) = 2 ^ 8 from rfl, Nat.testBit_mod_two_pow, Nat.testBit_two_pow_mul, Nat.testBit_div_two_pow]
  by_cases hj : j < 8
  ·simp [hj, show ¬ 8 ≤ j by omega]
  ·simp [hj, show 8 ≤ j by omega]
 have e2 : hv 8 (256 * (s / 256)) = s / 256 := hv_shift 8 _
 have e3 : hv 8 (s ^^^ c) = hv 8 (((s % 256) ^^^ (256 * (s / 256))) ^^^ c) := by rw [← e]
 rw [e3, Nat.xor_assoc, Nat.xor_comm (256 * (s / 256)) c, ← Nat.xor_assoc, hv_xor 8 (s % 256 ^^^ c) (256 * (s / 256)), e2]
def le4 (n : Nat) : List Nat := [n % 256, n / 256 % 256, n / 65536 % 256, n / 16777216 % 256]
def other (s : Nat) : Nat := s ^^^ 4294967295
def crc (l : List Nat) : Nat := other (onB 4294967295 l)
def sealB (l : List Nat) : List Nat := l ++ le4 (crc l)
def fitsL (l : List Nat) : Bool := decide (4 ≤ l.length) && decide (sealB (l.take (l.length - 4)) = l)
theorem other_lt (s : Nat) (h : s < 4294967296) : other s < 4294967296 := Nat.xor_lt_two_pow (n := 32) h (by decide)
theorem other_other (s : Nat) : other (other s) = s := by unfold other; rw [Nat.xor_assoc, Nat.xor_self, Nat.xor_zero]
theorem crc_lt (l : List Nat) (hl : ∀ b ∈ l, b < 256) : crc l < 4294967296 := other_lt _ (onB_lt _ _ (by decide) hl)
end Go.Proofs.YtmpedblelnpjdaaGreatDoor
/- Package crc: halved, byte32, New; the reference's Half, On. -/
namespace Go.Proofs.YtmpedblelnpjdaaGreatDoor
open Go.RowKit
set_option linter.unusedSimpArgs false
set_option linter.unusedVariables false
set_option maxRecDepth 100000
set_option maxHeartbeats 4000000
theorem hv_snoc (k s : Nat) : hv (k + 1) s = half (hv k s) := by
 have := hv_add k 1 s
 rw [this]; rfl
theorem and1 (q : Nat) (h : q < 4294967296) : bits .and .u32 (q : Int) 1 = ((q % 2 : Nat) : Int) := by
 have := u32_and_nat q 1 h (by decide)
 rw [Nat.and_one_is_mod] at this
 exact this
theorem halved_any (s : Nat) (hs : s < 4294967296) (w : World) : Calls Tryz.prog 323 #[.int .u32 (s : Int)] w fun e w' => e = .returned (.int .u32 ((hv 8 s : Nat) : Int)) ∧ w = w' := by
 have HS := Lib.hid hs
 clear hs
 go_enter Tryz.func323, Tryz.ntmps323
 go_wp2
 go_loop [0, 4] (fun v i => ∃ k q : Nat, k ≤ 8 ∧ q < 4294967296 ∧ i = .int .i64 k ∧ v = .int .u32 (q : Int) ∧ Hid (q = hv k s)) (fun _ i => 8 - (intOf i).toNat)
 case atStart => exact ⟨0, s, by omega, HS.out, rfl, rfl, Lib.hid rfl⟩
 case round =>
  obtain ⟨k, q, hk, hq, rfl, rfl, HQ⟩ := hrel
  by_cases hlt : k < 8
  ·by_cases hm : q % 2 = 1
   ·have hb : (bits .and .u32 (q : Int) 1 == 1) = true := by rw [and1 q hq, hm]; rfl
    have hx : bits .xor .u32 ((q : Int) / 2) 3988292384 = ((half q : Nat) : Int) := by
     rw [half, if_pos hm]
     exact u32_xor_nat (q / 2) 3988292384 (by omega) (by decide)
    have HM := Lib.hid hm
    clear hm
    go_wp2
    go_round
    case rel => exact ⟨k + 1, half q, by omega, half_lt q hq, by go_num, rfl, Lib.hid (by rw [hv_snoc, ← HQ.out])⟩
    case measure => simp [intOf]; omega
   ·have hb : (bits .and .u32 (q : Int) 1 == 1) = false := by rw [and1 q hq]; simp; omega
    have hx : half q = q / 2 := by rw [half, if_neg hm, Nat.xor_zero]
    have HX := Lib.hid hx
    clear hx hm
    go_wp2
    go_round
    case rel => exact ⟨k + 1, half q, by omega, half_lt q hq, by go_num, by rw [HX.out]; rfl, Lib.hid (by rw [hv_snoc, ← HQ.out])⟩
    case measure => simp [intOf]; omega
  ·obtain rfl : k = 8 := by omega
   go_wp2
   go_ret
   exact ⟨ret_int (by rw [HQ.out]), rfl⟩
theorem xor8_lt (a b : Nat) (ha : a < 256) (hb : b < 256) : a ^^^ b < 256 := Nat.xor_lt_two_pow (n := 8) ha hb
theorem xor32_lt (a b : Nat) (ha : a < 4294967296) (hb : b < 4294967296) : a ^^^ b < 4294967296 := Nat.xor_lt_two_pow (n := 32) ha hb
theorem refHalf_any (s : Nat) (hs : s < 4294967296) (w : World) : Calls Tryz.prog 333 #[.int .u32 (s : Int)] w fun e w' => e = .returned (.int .u32 ((half s : Nat) : Int)) ∧ w = w' := by
 by_cases hm : s % 2 = 1
 ·have hb : ((s : Int) % 2 == 1) = true := by simp; omega
  have hx : bits .xor .u32 ((s : Int) / 2) 3988292384 = ((half s : Nat) : Int) := by
   rw [half, if_pos hm]
   exact u32_xor_nat (s / 2) 3988292384 (by omega) (by decide)
  go_enter Tryz.func333, Tryz.ntmps333
  go_wp2
  go_ret
  exact ⟨rfl, rfl⟩
 ·have hb : ((s : Int) % 2 == 1) = false := by simp; omega
  have hx : half s = s / 2 := by rw [half, if_neg hm, Nat.xor_zero]
  rw [hx]
  clear hx
  go_enter Tryz.func333, Tryz.ntmps333
  go_wp2
  go_ret
  exact ⟨rfl, rfl⟩
end Go.Proofs.YtmpedblelnpjdaaGreatDoor
/- Package crc: the reference's On; a table in memory: New, fill, ready. -/
namespace Go.Proofs.YtmpedblelnpjdaaGreatDoor
open Go.RowKit
set_option linter.unusedSimpArgs false
set_option linter.unusedVariables false
set_option maxRecDepth 100000
set_option maxHeartbeats 4000000
def bI (l : List Nat) : List Int := l.map fun (x : Nat) => (x : Int)
def isBs (l : List Nat) : Prop := ∀ b ∈ l, b < 256
theorem reads_nat {w : World} {B n k : Nat} {A : Option Addr} {l : List Nat} (h : Reads w B 1 A n ((bI l).map (Value.int .u8))) (hk : k < n) :
  ∃ ad z, A = some ad ∧ ad.block < B ∧ l[k]? = some z ∧ w.cell? (ad.add k) = some (.int .u8 (z : Int)) := by
 obtain ⟨ad, z, hA, hb, hz, hc⟩ := reads_int h hk
 unfold bI at hz
 rw [List.getElem?_map] at hz
 cases hl : l[k]? with
 | none => rw [hl] at hz; cases hz
 | some y =>
  rw [hl] at hz
  simp only [Option.map_some, Option.some.injEq] at hz
  subst hz
  exact ⟨ad, y, hA, hb, rfl, hc⟩
theorem bI_len (l : List Nat) : (bI l).length = l.length := by simp [bI]
theorem bI_append (l m : List Nat) : bI (l ++ m) = bI l ++ bI m := by simp [bI]
theorem reads_len {w : World} {B n : Nat} {A : Option Addr} {l : List Nat} (h : Reads w B 1 A n ((bI l).map (Value.int .u8))) : l.length = n := by
 have := h.1
 simpa [bI] using this
theorem onB_take (s : Nat) (l : List Nat) (k : Nat) (z : Nat) (h : l[k]? = some z) : onB s (l.take (k + 1)) = hv 8 (onB s (l.take k) ^^^ z) := by
 rw [List.take_add_one, h, Option.toList_some, onB_snoc]
theorem isBs_get {l : List Nat} (h : isBs l) {k z : Nat} (hz : l[k]? = some z) : z < 256 := h z (List.mem_of_getElem? hz)
theorem isBs_take {l : List Nat} (h : isBs l) (k : Nat) : isBs (l.take k) := fun b hb => h b (List.mem_of_mem_take hb)
theorem isBs_drop {l : List Nat} (h : isBs l) (k : Nat) : isBs (l.drop k) := fun b hb => h b (List.mem_of_mem_drop hb)
theorem refOn_any (A : Option Addr) (n c B s : Nat) (l : List Nat) (hl : isBs l) (hs : s < 4294967296) (w : World) (hr : Reads w B 1 A n ((bI l).map (Value.int .u8))) (hn : n ≤ 9223372036854775806) :
  Calls Tryz.prog 328 #[.int .u32 (s : Int), .slice A n c] w fun e w' => e = .returned (.int .u32 ((onB s l : Nat) : Int)) ∧ w = w' := by
 have HL := Lib.hid hl
 have HR := Lib.hid hr
 have LN := Lib.hid (reads_len hr)
 have HS := Lib.hid hs
 clear hl hr hs
 go_enter Tryz.func328, Tryz.ntmps328
 go_wp2
 go_loop [0, 5, 6] (fun v i k6 => ∃ k q : Nat, k ≤ n ∧ q < 4294967296 ∧ i = .int .i64 k ∧ v = .int .u32 (q : Int) ∧ Hid (q = onB s (l.take k))) (fun _ i _ => n - (intOf i).toNat)
 case atStart => exact ⟨0, s, by omega, HS.out, rfl, rfl, Lib.hid rfl⟩
 case round =>
  obtain ⟨k, q, hk, hq, rfl, rfl, HQ⟩ := hrel
  by_cases hlt : k < n
  ·obtain ⟨ad, z, rfl, _, hz, hc⟩ := reads_nat HR.out hlt
   have hz8 := isBs_get HL.out hz
   have HZ := Lib.hid hz
   clear hz
   have hx : bits .xor .u32 (q : Int) (z : Int) = ((q ^^^ z : Nat) : Int) := u32_xor_nat q z hq (by omega)
   obtain ⟨y, hy⟩ : ∃ y, y = q ^^^ z := ⟨_, rfl⟩
   have hylt : y < 4294967296 := by rw [hy]; exact xor32_lt _ _ hq (by omega)
   rw [← hy] at hx
   have HY := Lib.hid hy
   clear hy
   go_wp2
   go_loop [0, 6] (fun v j => ∃ m p : Nat, m ≤ 8 ∧ p < 4294967296 ∧ j = .int .i64 m ∧ v = .int .u32 (p : Int) ∧ Hid (p = hv m y)) (fun _ j => 8 - (intOf j).toNat)
   case atStart => exact ⟨0, y, by omega, hylt, rfl, rfl, Lib.hid rfl⟩
   case round =>
    obtain ⟨m, p, hm, hp, rfl, rfl, HP⟩ := hrel
    by_cases hml : m < 8
    ·go_wp2_with (fail)
     refine (refHalf_any p hp _).mono ?_
     rintro e w' ⟨rfl, rfl⟩
     have hh := half_lt p hp
     obtain ⟨p', hp'⟩ : ∃ p', p' = half p := ⟨_, rfl⟩
     rw [← hp'] at hh ⊢
     have HP' := Lib.hid hp'
     clear hp'
     go_wp2
     go_round
     case rel => exact ⟨m + 1, p', by omega, hh, by go_num, rfl, Lib.hid (by rw [hv_snoc, ← HP.out, HP'.out])⟩
     case measure => simp [intOf]; omega
    ·obtain rfl : m = 8 := by omega
     go_wp2
     go_round
     case rel => exact ⟨k + 1, p, by omega, hp, by go_num, rfl, Lib.hid (by rw [onB_take _ _ _ _ HZ.out, HP.out, HY.out, HQ.out])⟩
     case measure => simp [intOf]; omega
  ·obtain rfl : k = n := by omega
   go_wp2
   go_ret
   exact ⟨ret_int (by rw [HQ.out, List.take_of_length_le (by have := LN.out; omega)]), rfl⟩
end Go.Proofs.YtmpedblelnpjdaaGreatDoor
/- Package crc: a table in memory: New, fill, ready. -/
namespace Go.Proofs.YtmpedblelnpjdaaGreatDoor
open Go.RowKit
set_option linter.unusedSimpArgs false
set_option linter.unusedVariables false
set_option maxRecDepth 100000
set_option maxHeartbeats 4000000
def TabC (w : World) (g : Nat) (c0 c1 c3 : Int) (f : Nat → Int) : Prop :=
 ∃ cs : Array Value, Blk w g 218 cs ∧ cs.size = 260 ∧ cs[0]? = some (.int .u32 c0) ∧ cs[1]? = some (.int .i32 c1) ∧ cs[3]? = some (.int .i32 c3) ∧ ∀ j, j < 256 → cs[4 + j]? = some (.int .u32 (f j))
section
variable {w w' : World} {g : Nat} {c0 c1 c3 : Int} {f : Nat → Int}
theorem TabC.lt (h : TabC w g c0 c1 c3 f) : g < w.heap.size := h.choose_spec.1.lt
theorem TabC.frozen (h : TabC w g c0 c1 c3 f) (i : Nat) : w.frozen? ⟨g, i, none⟩ = false := h.choose_spec.1.frozen i
theorem TabC.k0 (h : TabC w g c0 c1 c3 f) : w.cell? ⟨g, 0, none⟩ = some (.int .u32 c0) := by obtain ⟨cs, b, _, h0, _⟩ := h; exact (b.cell 0).trans h0
theorem TabC.k1 (h : TabC w g c0 c1 c3 f) : w.cell? ⟨g, 1, none⟩ = some (.int .i32 c1) := by obtain ⟨cs, b, _, _, h1, _⟩ := h; exact (b.cell 1).trans h1
theorem TabC.k3 (h : TabC w g c0 c1 c3 f) : w.cell? ⟨g, 3, none⟩ = some (.int .i32 c3) := by obtain ⟨cs, b, _, _, _, h3, _⟩ := h; exact (b.cell 3).trans h3
theorem TabC.kt (h : TabC w g c0 c1 c3 f) {j : Nat} (hj : j < 256) : w.cell? ⟨g, 4 + j, none⟩ = some (.int .u32 (f j)) := by obtain ⟨cs, b, _, _, _, _, ht⟩ := h; exact (b.cell _).trans (ht j hj)
theorem TabC.s0 (h : TabC w g c0 c1 c3 f) (x : Int) : TabC (w.setCell ⟨g, 0, none⟩ (.int .u32 x)) g x c1 c3 f := by
 obtain ⟨cs, b, hs, h0, h1, h3, ht⟩ := h
 refine ⟨_, b.set_ 0 _, by simp [hs], by simp [hs], by simp [h1], by simp [h3], fun j hj => ?_⟩
 rw [Array.getElem?_setIfInBounds_ne (by omega)]; exact ht j hj
theorem TabC.s1 (h : TabC w g c0 c1 c3 f) (x : Int) : TabC (w.setCell ⟨g, 1, none⟩ (.int .i32 x)) g c0 x c3 f := by
 obtain ⟨cs, b, hs, h0, h1, h3, ht⟩ := h
 refine ⟨_, b.set_ 1 _, by simp [hs], by simp [h0], by simp [hs], by simp [h3], fun j hj => ?_⟩
 rw [Array.getElem?_setIfInBounds_ne (by omega)]; exact ht j hj
theorem TabC.s3 (h : TabC w g c0 c1 c3 f) (x : Int) : TabC (w.setCell ⟨g, 3, none⟩ (.int .i32 x)) g c0 c1 x f := by
 obtain ⟨cs, b, hs, h0, h1, h3, ht⟩ := h
 refine ⟨_, b.set_ 3 _, by simp [hs], by simp [h0], by simp [h1], by simp [hs], fun j hj => ?_⟩
 rw [Array.getElem?_setIfInBounds_ne (by omega)]; exact ht j hj
theorem TabC.st (h : TabC w g c0 c1 c3 f) (k : Nat) (hk : k < 256) (x : Int) : TabC (w.setCell ⟨g, 4 + k, none⟩ (.int .u32 x)) g c0 c1 c3 (fun j => if j = k then x else f j) := by
 obtain ⟨cs, b, hs, h0, h1, h3, ht⟩ := h
 refine ⟨_, b.set_ (4 + k) _, by simp [hs], ?_, ?_, ?_, fun j hj => ?_⟩
 ·rw [Array.getElem?_setIfInBounds_ne (by omega)]; exact h0
 ·rw [Array.getElem?_setIfInBounds_ne (by omega)]; exact h1
 ·rw [Array.getElem?_setIfInBounds_ne (by omega)]; exact h3
 ·by_cases hjk : j = k
  ·subst hjk; rw [Array.getElem?_setIfInBounds_self_of_lt (by omega)]; simp
  ·rw [Array.getElem?_setIfInBounds_ne (by omega)]; simp only [if_neg hjk]; exact ht j hj
theorem TabC.drew (h : TabC w g c0 c1 c3 f) : TabC w.drew g c0 c1 c3 f := h
theorem TabC.drewN (h : TabC w g c0 c1 c3 f) (n : Nat) : TabC (w.drewN n) g c0 c1 c3 f := h
theorem TabC.below {B : Nat} (h : TabC w g c0 c1 c3 f) (hb : Below B w w') (hg : g < B) : TabC w' g c0 c1 c3 f := by obtain ⟨cs, b, r⟩ := h; exact ⟨cs, b.below hb hg, r⟩
theorem TabC.chg {S : Nat → Prop} (h : TabC w g c0 c1 c3 f) (hc : Chg w w' S) (hS : ¬ S g) : TabC w' g c0 c1 c3 f := by obtain ⟨cs, b, r⟩ := h; exact ⟨cs, hc.blk b hS, r⟩
theorem TabC.same {f' : Nat → Int} (h : TabC w g c0 c1 c3 f) (hf : ∀ j, j < 256 → f j = f' j) : TabC w g c0 c1 c3 f' := by
 obtain ⟨cs, b, hs, h0, h1, h3, ht⟩ := h
 exact ⟨cs, b, hs, h0, h1, h3, fun j hj => by rw [ht j hj, hf j hj]⟩
end
def tabF (j : Nat) : Int := ((hv 8 j : Nat) : Int)
def dI (d : Bool) : Int := if d then 1 else 0
def Tb (w : World) (g : Nat) (d : Bool) : Prop := TabC w g (dI d) 0 (dI d) (fun j => if d then tabF j else 0)
theorem Chg.set1 {w w' : World} {g : Nat} (h : Chg w w' (fun k => k = g)) (i : Nat) (v : Value) : Chg w (w'.setCell ⟨g, i, none⟩ v) (fun k => k = g) :=
 ⟨h.os, h.tape, h.output, by simpa [World.setCell] using h.size, fun k hk hn => (Below.heap_setCell w' ⟨g, i, none⟩ v k hn).trans (h.block k hk hn)⟩
theorem Chg.drewN {w w' : World} {S : Nat → Prop} (h : Chg w w' S) (n : Nat) : Chg w (w'.drewN n) S := ⟨h.os, h.tape, h.output, h.size, h.block⟩
theorem slowM_any (g fid : Nat) (hent : ∀ (args : Array Value) (w : World), (callFunc fid args).run Tryz.prog w = .ok (.enter fid args) w) (r : Value) (R : World → Prop) (w : World)
  (h0 : w.cell? ⟨g, 0, none⟩ = some (.int .u32 0)) (h1 : w.cell? ⟨g, 1, none⟩ = some (.int .i32 0)) (f1 : w.frozen? ⟨g, 1, none⟩ = false)
  (hcl : Calls Tryz.prog fid #[r] (w.setCell ⟨g, 1, none⟩ (.int .i32 1)) fun e w2 => e = .returned (.tuple #[]) ∧ R w2)
  (hR : ∀ w2, R w2 → (w2.cell? ⟨g, 0, none⟩ = some (.int .u32 0) ∧ w2.frozen? ⟨g, 0, none⟩ = false) ∧ w2.cell? ⟨g, 1, none⟩ = some (.int .i32 1) ∧ w2.frozen? ⟨g, 1, none⟩ = false) :
  Calls Tryz.prog 294 #[.pointer (some ⟨g, 0, none⟩), .func (.func fid) #[r] #[]] w fun e w' => e = .returned (.tuple #[]) ∧ ∃ w2, R w2 ∧ w' = onced w2 g := by
 have h01 : (w.setCell ⟨g, 1, none⟩ (.int .i32 1)).cell? ⟨g, 0, none⟩ = some (.int .u32 0) := (World.cell?_setCell_other _ ⟨g, 1, none⟩ ⟨g, 0, none⟩ _ (by simp)).trans h0
 have hnot := run_not
 have C := Lib.hid hcl
 have HR := Lib.hid hR
 clear hcl hR
 go_enter_defers Tryz.func294, Tryz.ntmps294
 go_wp2_with (first
  | (go_at_call 320; refine (lock_free ⟨g, 1, none⟩ _ h1 f1).mono ?_; rintro e w' ⟨rfl, rfl⟩)
  | (go_at_call 230; refine (bload_any ⟨g, 0, none⟩ 0 _ h01).mono ?_; rintro e w' ⟨rfl, rfl⟩)
  | fail)
 have C' : Hid (Calls Tryz.prog fid #[r] (w.setCell ⟨g, 1, none⟩ (.int .i32 1)) fun e w2 => e = .returned (.tuple #[]) ∧ R w2) := Lib.hid (by simpa using C.out)
 clear C
 refine C'.out.mono ?_
 rintro e w2 ⟨rfl, hw2⟩
 obtain ⟨⟨k0, z0⟩, k1, z1⟩ := HR.out w2 hw2
 go_wp2
 refine leaves_cons (f := 242) (args := #[.pointer (some ⟨g, 0, none⟩), .bool true]) (by simp) (by simp [go_sem]) ?_
 refine (store_deferred ⟨g, 0, none⟩ (.int .u32 0) .returning _ k0 z0).mono ?_
 rintro e u' w'' ⟨rfl, rfl, rfl⟩
 refine leaves_cons (f := 321) (args := #[.pointer (some ⟨g, 1, none⟩)]) (by simp [settle]) (by simp [go_sem]) ?_
 refine (unlock_deferred ⟨g, 1, none⟩ _ _ ?_ ?_).mono ?_
 ·refine (World.cell?_setCell_other _ ⟨g, 0, none⟩ ⟨g, 1, none⟩ _ (by simp)).trans ?_
  rw [World.cell?_drew]
  exact k1
 ·rw [World.frozen?_setCell]; exact z1
 rintro e u' w'' ⟨rfl, rfl, rfl⟩
 simp [Leaves, settle, results, Tryz.results294]
 exact ⟨w2, hw2, rfl⟩
theorem doM_first (g fid : Nat) (hent : ∀ (args : Array Value) (w : World), (callFunc fid args).run Tryz.prog w = .ok (.enter fid args) w) (r : Value) (R : World → Prop) (w : World)
  (h0 : w.cell? ⟨g, 0, none⟩ = some (.int .u32 0)) (h1 : w.cell? ⟨g, 1, none⟩ = some (.int .i32 0)) (f1 : w.frozen? ⟨g, 1, none⟩ = false)
  (hcl : Calls Tryz.prog fid #[r] (w.setCell ⟨g, 1, none⟩ (.int .i32 1)) fun e w2 => e = .returned (.tuple #[]) ∧ R w2)
  (hR : ∀ w2, R w2 → (w2.cell? ⟨g, 0, none⟩ = some (.int .u32 0) ∧ w2.frozen? ⟨g, 0, none⟩ = false) ∧ w2.cell? ⟨g, 1, none⟩ = some (.int .i32 1) ∧ w2.frozen? ⟨g, 1, none⟩ = false) :
  Calls Tryz.prog 240 #[.pointer (some ⟨g, 0, none⟩), .func (.func fid) #[r] #[]] w fun e w' => e = .returned (.tuple #[]) ∧ ∃ w2, R w2 ∧ w' = onced w2 g := by
 have S := Lib.hid (slowM_any g fid hent r R w h0 h1 f1 hcl hR)
 have hnot := run_not
 have hB := Lib.hid (bload_any ⟨g, 0, none⟩ 0 w h0)
 clear hcl hR h1 f1
 go_enter Tryz.func240, Tryz.ntmps240
 go_wp2_with (first | (go_at_call 230; refine hB.out.mono ?_; rintro e w' ⟨rfl, rfl⟩) | fail)
 refine S.out.mono ?_
 rintro e w2 ⟨rfl, h⟩
 go_wp2
 go_end0
 exact ⟨rfl, h⟩
theorem add_any (a : Addr) (w : World) (hc : w.cell? a = some (.int .i32 0)) (hz : w.frozen? a = false) : Calls Tryz.prog 324 #[.pointer (some a), .int .i32 1] w fun e w' => e = .returned (.int .i32 1) ∧ w' = w.setCell a (.int .i32 1) := by
 have hadd := run_call_add (P := Tryz.prog) Tryz.func332 (by kernel_rfl) (by kernel_rfl) (by kernel_rfl) .i32 (by kernel_rfl) (y := 1) (s := 1) hc hz (by simp [go_sem]; rfl)
 go_enter Tryz.func324, Tryz.ntmps324
 go_wp2
 go_ret
 exact ⟨rfl, rfl⟩
theorem crcNew_any (w : World) : Calls Tryz.prog 42 #[] w fun e w' => e = .returned (.pointer (some ⟨w.heap.size, 0, none⟩)) ∧ Tb w' w.heap.size false ∧ Below w.heap.size w w' := by
 go_enter Tryz.func42, Tryz.ntmps42
 go_wp2
 go_ret
 refine ⟨rfl, ⟨_, Blk.new _ _ _, by rfl, by rfl, by rfl, by rfl, ?_⟩, (Below.refl _ _).alloc (Nat.le_refl _) _⟩
 intro j hj
 have e : ∀ cs : Array Value, cs = #[.int .u32 0, .int .i32 0, .int .u32 0, .int .i32 0] ++ Array.replicate 256 (.int .u32 0) → cs[4 + j]? = some (.int .u32 0) := by
  rintro cs rfl
  rw [Array.getElem?_append_right (by simp), Array.getElem?_replicate, if_pos (by simpa using hj)]
 exact e _ (by kernel_rfl)
theorem crcFill_any (g : Nat) (f : Nat → Int) (w : World) (h : TabC w g 0 1 0 f) : Calls Tryz.prog 305 #[.pointer (some ⟨g, 0, none⟩)] w fun e w' => e = .returned (.tuple #[]) ∧ (TabC w' g 0 1 1 tabF ∧ Chg w w' (fun k => k = g)) := by
 have H := Lib.hid h
 clear h
 go_enter Tryz.func305, Tryz.ntmps305
 go_wp2
 go_loopw [2, 3] (fun i0 i wr => ∃ k : Nat, k ≤ 256 ∧ i = .int .i64 k ∧ Hid (TabC wr g 0 1 0 (fun j => if j < k then tabF j else f j)) ∧ Hid (Chg w wr (fun k => k = g))) (fun _ i _ => 256 - (intOf i).toNat)
 case atStart => exact ⟨0, by omega, rfl, Lib.hid (H.out.same fun j _ => by rw [if_neg (by omega)]), Lib.hid (Chg.refl _ _)⟩
 case round =>
  obtain ⟨k, hk, rfl, HT, HC⟩ := hrel
  by_cases hlt : k < 256
  ·have ct := HT.out.kt hlt
   have ft := HT.out.frozen (4 + k)
   have hw : IntKind.u32.wrap (k : Int) = k := by rw [IntKind.wrap_u32']; omega
   go_wp2_with (fail)
   go_region_held3 (fun w' => w'.frozen? ⟨g, 4 + k, none⟩ = false) (go_keep) (first | (go_at_call 323; refine (halved_any k (by omega) _).mono ?_; rintro e w' ⟨rfl, rfl⟩) | fail)
   go_wp2_with (fail)
   go_roundw
   case rel => exact ⟨k + 1, by omega, by go_num, Lib.hid (TabC.drew ((HT.out.st k hlt _).same fun j _ => by
    by_cases hj : j = k
    ·subst hj; simp [tabF]
    ·rw [if_neg hj]
     by_cases h2 : j < k
     ·rw [if_pos h2, if_pos (by omega)]
     ·rw [if_neg h2, if_neg (by omega)])), Lib.hid (Chg.drewN (HC.out.set1 _ _) 1)⟩
   case measure => simp [intOf]; omega
  ·obtain rfl : k = 256 := by omega
   have HT2 : Hid (TabC wr g 0 1 0 tabF) := Lib.hid (HT.out.same fun j hj => by rw [if_pos hj])
   clear HT
   have A := Lib.hid (add_any ⟨g, 3, none⟩ wr HT2.out.k3 (HT2.out.frozen 3))
   go_wp2_with (fail)
   refine A.out.mono ?_
   rintro e w' ⟨rfl, rfl⟩
   go_wp2
   go_end0
   exact ⟨rfl, HT2.out.s3 1, HC.out.set1 _ _⟩
theorem crcFill_enter : ∀ (args : Array Value) (w : World), (callFunc 305 args).run Tryz.prog w = .ok (.enter 305 args) w :=
 enters_of Tryz.func305 (by kernel_rfl) rfl
theorem crcReady_any (g : Nat) (d : Bool) (w : World) (h : Tb w g d) : Calls Tryz.prog 250 #[.pointer (some ⟨g, 0, none⟩)] w fun e w' => e = .returned (.pointer (some ⟨g, 4, none⟩)) ∧ Tb w' g true ∧ Chg w w' (fun k => k = g) := by
 have hmf : ∀ (fn : Fn) (first cap : Array Value) (w : World), (Instr.makeFunc fn first cap).run Tryz.prog w = .ok (.func fn first cap) w := fun _ _ _ _ => rfl
 cases d
 ·have h0 : TabC w g 0 0 0 (fun _ => 0) := h
  have C := crcFill_any g (fun _ => 0) (w.setCell ⟨g, 1, none⟩ (.int .i32 1)) (h0.s1 1)
  have D := Lib.hid (doM_first g 305 crcFill_enter (.pointer (some ⟨g, 0, none⟩)) (fun w2 => TabC w2 g 0 1 1 tabF ∧ Chg (w.setCell ⟨g, 1, none⟩ (.int .i32 1)) w2 (fun k => k = g)) w h0.k0 h0.k1 (h0.frozen 1) C
   (fun w2 hw => ⟨⟨hw.1.k0, hw.1.frozen 0⟩, hw.1.k1, hw.1.frozen 1⟩))
  clear C h h0
  go_enter Tryz.func250, Tryz.ntmps250
  go_wp2_with (fail)
  refine D.out.mono ?_
  rintro e w' ⟨rfl, w2, ⟨h1, h2⟩, hw'⟩
  have HF : Hid (Tb w' g true ∧ Chg w w' (fun k => k = g)) := Lib.hid (by
   subst hw'
   refine ⟨((h1.drew).s0 1).s1 0, ?_⟩
   unfold onced
   have h3 : Chg w w2 (fun k => k = g) := ((Chg.refl w _).set1 1 _).trans h2 (fun _ _ h => h)
   exact (Chg.set1 (Chg.drewN h3 1) 0 _).set1 1 _)
  clear h1 h2 hw' D
  go_wp2
  go_ret
  exact ⟨rfl, HF.out.1, HF.out.2⟩
 ·have h0 : TabC w g 1 0 1 tabF := h
  have D := Lib.hid (do_done g (.func (.func 305) #[.pointer (some ⟨g, 0, none⟩)] #[]) w h0.k0)
  have H := Lib.hid h
  clear h0 h
  go_enter Tryz.func250, Tryz.ntmps250
  go_wp2_with (fail)
  refine D.out.mono ?_
  rintro e w' ⟨rfl, rfl⟩
  go_wp2
  go_ret
  exact ⟨rfl, H.out, Chg.refl _ _⟩
end Go.Proofs.YtmpedblelnpjdaaGreatDoor
/- Package crc: on, More, Of, At, Made, Slow; the reference's Other, Of, More, At. -/
namespace Go.Proofs.YtmpedblelnpjdaaGreatDoor
open Go.RowKit
set_option linter.unusedSimpArgs false
set_option linter.unusedVariables false
set_option maxRecDepth 100000
set_option maxHeartbeats 1000000
theorem crcOn_any (g : Nat) (d : Bool) (A : Option Addr) (n c B s : Nat) (l : List Nat) (hl : isBs l) (hs : s < 4294967296) (w : World) (h : Tb w g d) (hr : Reads w B 1 A n ((bI l).map (Value.int .u8))) (hB : B ≤ w.heap.size)
  (hA : ∀ ad, 0 < n → A = some ad → ad.block ≠ g) (hn : n ≤ 9223372036854775806) :
  Calls Tryz.prog 329 #[.pointer (some ⟨g, 0, none⟩), .int .u32 (s : Int), .slice A n c] w fun e w' => e = .returned (.int .u32 ((onB s l : Nat) : Int)) ∧ Tb w' g true ∧ Chg w w' (fun k => k = g) := by
 have HL := Lib.hid hl
 have HR := Lib.hid hr
 have LN := Lib.hid (reads_len hr)
 have HS := Lib.hid hs
 have HAA := Lib.hid hA
 have C := Lib.hid (crcReady_any g d w h)
 clear hl hr hs h hA
 go_enter Tryz.func329, Tryz.ntmps329
 go_wp2_with (fail)
 refine C.out.mono ?_
 rintro e w1 ⟨rfl, h1, h2⟩
 have HR1 := Lib.hid (h2.reads HR.out hB (fun ad h0 he => HAA.out ad h0 he))
 have H1 : Hid (TabC w1 g 1 0 1 tabF) := Lib.hid h1
 have H2 := Lib.hid h2
 clear h1 h2
 go_wp2
 go_loop [1, 9, 14] (fun v c9 i => ∃ k q : Nat, k ≤ n ∧ q < 4294967296 ∧ i = .int .i64 k ∧ v = .int .u32 (q : Int) ∧ Hid (q = onB s (l.take k))) (fun _ _ i => n - (intOf i).toNat)
 case atStart => exact ⟨0, s, by omega, HS.out, rfl, rfl, Lib.hid rfl⟩
 case round =>
  obtain ⟨k, q, hk, hq, rfl, rfl, HQ⟩ := hrel
  by_cases hlt : k < n
  ·obtain ⟨ad, z, rfl, _, hz, hc⟩ := reads_nat HR1.out hlt
   have hz8 := isBs_get HL.out hz
   have HZ := Lib.hid hz
   clear hz
   obtain ⟨y, hy⟩ : ∃ y, y = (q % 256) ^^^ z := ⟨_, rfl⟩
   have hy8 : y < 256 := by rw [hy]; exact xor8_lt _ _ (by omega) hz8
   have hx : bits .xor .u8 ((q : Int) % 256) (z : Int) = (y : Int) := by rw [hy]; exact u8_xor_nat (q % 256) z (by omega) hz8
   have ht := H1.out.kt hy8
   obtain ⟨t, hte⟩ : ∃ t, t = hv 8 y := ⟨_, rfl⟩
   have htl : t < 4294967296 := by rw [hte]; exact hv_lt _ _ (by omega)
   rw [show tabF y = (t : Int) by rw [hte]; rfl] at ht
   obtain ⟨q', hq'⟩ : ∃ q', q' = hv 8 (q ^^^ z) := ⟨_, rfl⟩
   have hql : q' < 4294967296 := by rw [hq']; exact hv_lt _ _ (xor32_lt _ _ hq (by omega))
   have hx2 : bits .xor .u32 (t : Int) ((q : Int) / 256) = (q' : Int) := by
    rw [hq', ← table_step, ← hy, ← hte]; exact u32_xor_nat t (q / 256) htl (by omega)
   have HQ' := Lib.hid hq'
   clear hy hte hq'
   go_wp2
   go_round
   case rel => exact ⟨k + 1, q', by omega, hql, by go_num, rfl, Lib.hid (by rw [onB_take _ _ _ _ HZ.out, HQ'.out, HQ.out])⟩
   case measure => simp [intOf]; omega
  ·obtain rfl : k = n := by omega
   go_wp2
   go_ret
   exact ⟨ret_int (by rw [HQ.out, List.take_of_length_le (by have := LN.out; omega)]), H1.out, H2.out⟩
theorem other_bits (s : Nat) (hs : s < 4294967296) : bits .xor .u32 IntKind.u32.max (s : Int) = ((other s : Nat) : Int) := by
 have := u32_xor_nat 4294967295 s (by decide) hs
 rw [Nat.xor_comm] at this
 exact this
def more (s : Nat) (l : List Nat) : Nat := other (onB (other s) l)
theorem more_lt (s : Nat) (l : List Nat) (hs : s < 4294967296) (hl : isBs l) : more s l < 4294967296 := other_lt _ (onB_lt _ _ (other_lt _ hs) hl)
theorem more_0 (l : List Nat) : more 0 l = crc l := rfl
theorem more_more (s : Nat) (l m : List Nat) : more (more s l) m = more s (l ++ m) := by
 unfold more
 rw [other_other, onB_append]
theorem crcMore_any (g : Nat) (d : Bool) (A : Option Addr) (n c B s : Nat) (l : List Nat) (hl : isBs l) (hs : s < 4294967296) (w : World) (h : Tb w g d) (hr : Reads w B 1 A n ((bI l).map (Value.int .u8))) (hB : B ≤ w.heap.size)
  (hA : ∀ ad, 0 < n → A = some ad → ad.block ≠ g) (hn : n ≤ 9223372036854775806) :
  Calls Tryz.prog 317 #[.pointer (some ⟨g, 0, none⟩), .int .u32 (s : Int), .slice A n c] w fun e w' => e = .returned (.int .u32 ((more s l : Nat) : Int)) ∧ Tb w' g true ∧ Chg w w' (fun k => k = g) := by
 obtain ⟨p, hp⟩ : ∃ p, p = other s := ⟨_, rfl⟩
 have hpl : p < 4294967296 := by rw [hp]; exact other_lt s hs
 have e1 : bits .xor .u32 IntKind.u32.max (s : Int) = (p : Int) := by rw [hp]; exact other_bits s hs
 have C := Lib.hid (crcOn_any g d A n c B p l hl hpl w h hr hB hA hn)
 have e2 : bits .xor .u32 IntKind.u32.max ((onB p l : Nat) : Int) = ((more s l : Nat) : Int) := by rw [more, ← hp]; exact other_bits _ (onB_lt _ _ hpl hl)
 obtain ⟨r, hr'⟩ : ∃ r, r = more s l := ⟨_, rfl⟩
 rw [← hr'] at e2 ⊢
 generalize onB p l = o at *
 clear hr' h hr hA hp
 go_enter Tryz.func317, Tryz.ntmps317
 go_wp2_with (fail)
 with_reducible refine C.out.mono ?_
 rintro e w' ⟨rfl, h1, h2⟩
 have H1 := Lib.hid h1
 have H2 := Lib.hid h2
 clear h1 h2 C
 go_wp2
 go_ret
 exact ⟨rfl, H1.out, H2.out⟩
end Go.Proofs.YtmpedblelnpjdaaGreatDoor
/- Package crc: Of, At, Slow; the reference's Other, Of, More, At. -/
namespace Go.Proofs.YtmpedblelnpjdaaGreatDoor
open Go.RowKit
set_option linter.unusedSimpArgs false
set_option linter.unusedVariables false
set_option maxRecDepth 100000
set_option maxHeartbeats 1000000
structure Pt where
 A : Option Addr
 n : Nat
 c : Nat
 B : Nat
 l : List Nat
def Pt.v (p : Pt) : Value := .slice p.A p.n p.c
def Pt.ok (w : World) (g : Nat) (p : Pt) : Prop :=
 isBs p.l ∧ Reads w p.B 1 p.A p.n ((bI p.l).map (Value.int .u8)) ∧ p.B ≤ w.heap.size ∧ (∀ ad, 0 < p.n → p.A = some ad → ad.block ≠ g) ∧ p.n ≤ 9223372036854775806
theorem Pt.ok_chg {w w' : World} {g : Nat} {p : Pt} (h : p.ok w g) (hc : Chg w w' (fun k => k = g)) : p.ok w' g :=
 ⟨h.1, hc.reads h.2.1 h.2.2.1 h.2.2.2.1, Nat.le_trans h.2.2.1 hc.size, h.2.2.2⟩
def cat (L : List Pt) : List Nat := L.flatMap Pt.l
theorem cat_take (L : List Pt) (k : Nat) (p : Pt) (h : L[k]? = some p) : cat (L.take (k + 1)) = cat (L.take k) ++ p.l := by
 unfold cat
 rw [List.take_add_one, h, Option.toList_some, List.flatMap_append]
 simp
theorem more_nil0 : 0 = more 0 [] := by decide +kernel
theorem cat_bs (L : List Pt) (w : World) (g : Nat) (h : ∀ p ∈ L, p.ok w g) : isBs (cat L) := by
 intro b hb
 obtain ⟨p, hp, hb⟩ := List.mem_flatMap.1 hb
 exact (h p hp).1 b hb
theorem reads_parts {w : World} {B n k : Nat} {A : Option Addr} {L : List Pt} (h : Reads w B 1 A n (L.map Pt.v)) (hk : k < n) :
  ∃ ad p, A = some ad ∧ ad.block < B ∧ L[k]? = some p ∧ w.cell? (ad.add k) = some (.slice p.A p.n p.c) := by
 obtain ⟨ad, u, hA, hb, hx, hc⟩ := h.at_ hk
 rw [List.getElem?_map] at hx
 cases hz : L[k]? with
 | none => rw [hz] at hx; cases hx
 | some z =>
  rw [hz] at hx
  simp only [Option.map_some, Option.some.injEq] at hx
  subst hx
  exact ⟨ad, z, hA, hb, rfl, hc⟩
theorem crcOf_any (g : Nat) (d : Bool) (SA : Option Addr) (m sc SB : Nat) (L : List Pt) (w : World) (h : Tb w g d) (hr : Reads w SB 1 SA m (L.map Pt.v)) (hB : SB ≤ w.heap.size) (hS : ∀ ad, 0 < m → SA = some ad → ad.block ≠ g)
  (hP : ∀ p ∈ L, p.ok w g) (hm : m ≤ 9223372036854775806) :
  Calls Tryz.prog 287 #[.pointer (some ⟨g, 0, none⟩), .slice SA m sc] w fun e w' => e = .returned (.int .u32 ((crc (cat L) : Nat) : Int)) ∧ Tb w' g true ∧ Chg w w' (fun k => k = g) := by
 have HR := Lib.hid hr
 have LN : Hid (L.length = m) := Lib.hid (by have := hr.1; simpa using this)
 have HP := Lib.hid hP
 have HSS := Lib.hid hS
 have C := Lib.hid (crcReady_any g d w h)
 have HBL := Lib.hid (cat_bs L w g hP)
 clear h hr hS hP
 go_enter Tryz.func287, Tryz.ntmps287
 go_wp2_with (fail)
 with_reducible refine C.out.mono ?_
 rintro e w1 ⟨rfl, h1, h2⟩
 have HR1 := Lib.hid (h2.reads HR.out hB (fun ad h0 he => HSS.out ad h0 he))
 have HB1 := Lib.hid (Nat.le_trans hB h2.size)
 have HP1 : Hid (∀ p ∈ L, p.ok w1 g) := Lib.hid (fun p hp => Pt.ok_chg (HP.out p hp) h2)
 have H1 := Lib.hid h1
 have H2 := Lib.hid h2
 clear h1 h2 C HP HR
 go_wp2_with (fail)
 go_loopw [5, 7, 14] (fun v s7 i wr => ∃ k q : Nat, k ≤ m ∧ q < 4294967296 ∧ i = .int .i64 k ∧ v = .int .u32 (q : Int) ∧ Hid (q = more 0 (cat (L.take k))) ∧ Hid (Tb wr g true) ∧ Hid (Chg w1 wr (fun k => k = g))) (fun _ _ i _ => m - (intOf i).toNat)
 case atStart => exact ⟨0, 0, by omega, by omega, rfl, rfl, Lib.hid more_nil0, H1, Lib.hid (Chg.refl _ _)⟩
 case round =>
  obtain ⟨k, q, hk, hq, rfl, rfl, HQ, HT, HC⟩ := hrel
  by_cases hlt : k < m
  ·have hr2 := HC.out.reads HR1.out HB1.out (fun ad h0 he => HSS.out ad h0 he)
   obtain ⟨ad, p, rfl, _, hz, hc⟩ := reads_parts hr2 hlt
   have hp := Pt.ok_chg (HP1.out p (List.mem_of_getElem? hz)) HC.out
   have M := Lib.hid (crcMore_any g true p.A p.n p.c p.B q p.l hp.1 hq wr HT.out hp.2.1 hp.2.2.1 hp.2.2.2.1 hp.2.2.2.2)
   have hlt2 := more_lt q p.l hq hp.1
   obtain ⟨q', hq'⟩ : ∃ q', q' = more q p.l := ⟨_, rfl⟩
   rw [← hq'] at hlt2 M
   have HQ' := Lib.hid hq'
   have HZ := Lib.hid hz
   clear hz hp hq' hr2
   go_wp2_with (fail)
   with_reducible refine M.out.mono ?_
   rintro e w2 ⟨rfl, h1, h2⟩
   have H3 := Lib.hid h1
   have H4 := Lib.hid h2
   clear h1 h2 M
   go_wp2
   go_roundw
   case rel => exact ⟨k + 1, q', by omega, hlt2, by go_num, rfl, Lib.hid (by rw [cat_take _ _ _ HZ.out, ← more_more, HQ'.out, HQ.out]), H3, Lib.hid (HC.out.trans H4.out (fun _ _ h => h))⟩
   case measure => simp [intOf]; omega
  ·obtain rfl : k = m := by omega
   go_wp2
   go_ret
   exact ⟨ret_int (by rw [HQ.out, more_0, List.take_of_length_le (by have := LN.out; omega)]), HT.out, H2.out.trans HC.out (fun _ _ h => h)⟩
theorem refOther_any (s : Nat) (hs : s < 4294967296) (w : World) : Calls Tryz.prog 327 #[.int .u32 (s : Int)] w fun e w' => e = .returned (.int .u32 ((other s : Nat) : Int)) ∧ w = w' := by
 have e1 : bits .xor .u32 (s : Int) 4294967295 = ((other s : Nat) : Int) := u32_xor_nat s 4294967295 hs (by decide)
 go_enter Tryz.func327, Tryz.ntmps327
 go_wp2
 go_ret
 exact ⟨rfl, rfl⟩
theorem refOf_any (A : Option Addr) (n c B : Nat) (l : List Nat) (hl : isBs l) (w : World) (hr : Reads w B 1 A n ((bI l).map (Value.int .u8))) (hn : n ≤ 9223372036854775806) :
  Calls Tryz.prog 316 #[.slice A n c] w fun e w' => e = .returned (.int .u32 ((crc l : Nat) : Int)) ∧ w = w' := by
 have C := Lib.hid (fun w' (h : Reads w' B 1 A n ((bI l).map (Value.int .u8))) => refOn_any A n c B 4294967295 l hl (by decide) w' h hn)
 have hx := onB_lt 4294967295 l (by decide) hl
 have HR := Lib.hid hr
 have D : Hid (∀ w, Calls Tryz.prog 327 #[.int .u32 ((onB 4294967295 l : Nat) : Int)] w fun e w' => e = .returned (.int .u32 ((crc l : Nat) : Int)) ∧ w = w') := Lib.hid (fun w => refOther_any _ hx w)
 generalize crc l = r at *
 generalize onB 4294967295 l = o at *
 clear hr hl
 go_enter Tryz.func316, Tryz.ntmps316
 go_wp2_with (fail)
 refine (C.out _ HR.out).mono ?_
 rintro e w' ⟨rfl, rfl⟩
 go_wp2_with (fail)
 with_reducible refine (D.out _).mono ?_
 rintro e w' ⟨rfl, rfl⟩
 go_wp2
 go_ret
 exact ⟨rfl, rfl⟩
end Go.Proofs.YtmpedblelnpjdaaGreatDoor
/- Bytes by package fix's texts. -/
namespace Go.Proofs.YtmpedblelnpjdaaGreatDoor
end Go.Proofs.YtmpedblelnpjdaaGreatDoor
/- The law's awake of chapter 2. -/
namespace Go.Proofs.YtmpedblelnpjdaaGreatDoor
open Go.RowKit
set_option linter.unusedSimpArgs false
set_option linter.unusedVariables false
set_option maxRecDepth 100000
set_option maxHeartbeats 1000000
theorem Tb.below {B : Nat} {w w' : World} {g : Nat} {d : Bool} (h : Tb w g d) (hb : Below B w w') (hg : g < B) : Tb w' g d := TabC.below h hb hg
theorem Tb.lt {w : World} {g : Nat} {d : Bool} (h : Tb w g d) : g < w.heap.size := TabC.lt h
theorem one_part {w : World} {A : Option Addr} {n c B : Nat} {l : List Nat} :
  Reads (w.alloc (.cells #[.slice A n c] 22)) (w.heap.size + 1) 1 (some ⟨w.heap.size, 0, none⟩) 1 ([(⟨A, n, c, B, l⟩ : Pt)].map Pt.v) := by
 refine ⟨rfl, fun _ => ⟨_, rfl, by simp, fun j u hu => ?_⟩⟩
 exact cells_new _ _ _ _ _ hu
theorem of_one (g : Nat) (d : Bool) (A : Option Addr) (n c B : Nat) (l : List Nat) (hl : isBs l) (w : World) (h : Tb w g d) (hr : Reads w B 1 A n ((bI l).map (Value.int .u8))) (hB : B ≤ w.heap.size)
  (hA : ∀ ad, 0 < n → A = some ad → ad.block ≠ g) (hn : n ≤ 9223372036854775806) :
  Calls Tryz.prog 287 #[.pointer (some ⟨g, 0, none⟩), .slice (some ⟨w.heap.size, 0, none⟩) 1 1] (w.alloc (.cells #[.slice A n c] 22)) fun e w' => e = .returned (.int .u32 ((crc l : Nat) : Int)) ∧ Tb w' g true ∧ Chg w w' (fun k => k = g) := by
 have hg := h.lt
 have hb1 : Below w.heap.size w (w.alloc (.cells #[.slice A n c] 22)) := (Below.refl _ _).alloc (Nat.le_refl _) _
 refine (crcOf_any g d (some ⟨w.heap.size, 0, none⟩) 1 1 (w.heap.size + 1) [⟨A, n, c, B, l⟩] _ (h.below hb1 hg) one_part (by simp) (fun ad _ he => by injection he with he; subst he; simp; omega) (fun p hp => ?_) (by decide)).mono ?_
 ·simp only [List.mem_singleton] at hp
  subst hp
  exact ⟨hl, hr.alloc hB _, by simp; omega, hA, hn⟩
 ·rintro e w' ⟨rfl, h1, h2⟩
  exact ⟨ret_int (by simp [cat]), h1, (Chg.of_below hb1 _).trans h2 (fun _ _ h => h)⟩
end Go.Proofs.YtmpedblelnpjdaaGreatDoor
/- The walk of CrcSums. -/
namespace Go.Proofs.YtmpedblelnpjdaaGreatDoor
open Go.RowKit
set_option linter.unusedSimpArgs false
set_option linter.unusedVariables false
set_option maxRecDepth 100000
set_option maxHeartbeats 1000000
theorem nats_of (bs : List Int) (h : ∀ z ∈ bs, 0 ≤ z ∧ z < 256) : ∃ l : List Nat, bI l = bs ∧ isBs l := by
 induction bs with
 | nil => exact ⟨[], rfl, by intro b hb; cases hb⟩
 | cons z bs ih =>
  obtain ⟨l, h1, h2⟩ := ih (fun x hx => h x (by simp [hx]))
  have hz := h z (by simp)
  obtain ⟨n, rfl⟩ := Int.eq_ofNat_of_zero_le hz.1
  refine ⟨n :: l, by rw [← h1]; rfl, ?_⟩
  intro b hb
  rcases List.mem_cons.1 hb with rfl | hb
  ·omega
  ·exact h2 b hb
theorem bI_take_map (l : List Nat) (k : Nat) : ((bI l).map (Value.int .u8)).take k = (bI (l.take k)).map (Value.int .u8) := by
 simp [bI, List.map_take]
theorem bI_drop_map (l : List Nat) (k : Nat) : ((bI l).map (Value.int .u8)).drop k = (bI (l.drop k)).map (Value.int .u8) := by
 simp [bI, List.map_drop]
end Go.Proofs.YtmpedblelnpjdaaGreatDoor
/- Package crc: behind, Seal; slices.Equal. -/
namespace Go.Proofs.YtmpedblelnpjdaaGreatDoor
open Go.RowKit
set_option linter.unusedSimpArgs false
set_option linter.unusedVariables false
set_option maxRecDepth 100000
set_option maxHeartbeats 1000000
theorem behind_any (g : Nat) (d : Bool) (A : Option Addr) (n c B : Nat) (l : List Nat) (hl : isBs l) (w : World) (h : Tb w g d) (hr : Reads w B 1 A n ((bI l).map (Value.int .u8))) (hB : B ≤ w.heap.size)
  (hA : ∀ ad, 0 < n → A = some ad → ad.block ≠ g) (hn : n ≤ 9223372036854775806) :
  Calls Tryz.prog 228 #[.pointer (some ⟨g, 0, none⟩), .slice A n c] w fun e w' => ∃ v, e = .returned v ∧ w'.ownsRow w.heap.size 5 1 v 4 ((bI (le4 (crc l))).map (Value.int .u8)) ∧ Tb w' g true ∧ Chg w w' (fun k => k = g) := by
 have C := Lib.hid (of_one g d A n c B l hl w h hr hB hA hn)
 have hlt := crc_lt l hl
 generalize crc l = r at *
 clear h hr hA
 have hmk : ∀ w : World, (Instr.makeSlice 22 (.int .i64 4) (.int .i64 4)).run Tryz.prog w = .ok (.slice (some ⟨w.heap.size, 0, none⟩) 4 4) (w.alloc (.cells #[.int .u8 0, .int .u8 0, .int .u8 0, .int .u8 0] 5)) := fun _ => by kernel_rfl
 go_enter Tryz.func228, Tryz.ntmps228
 go_wp2_with (fail)
 with_reducible refine C.out.mono ?_
 rintro e w1 ⟨rfl, h1, h2⟩
 have H1 := Lib.hid h1
 have H2 := Lib.hid h2
 clear h1 h2 C
 go_wp2_with (fail)
 refine wp_loop_rounds 5 ?_
 rw [rounds_succ]
 go_wp2
 rw [rounds_succ]
 go_wp2
 rw [rounds_succ]
 go_wp2
 rw [rounds_succ]
 go_wp2
 rw [rounds_succ]
 go_wp2
 go_ret
 have hb : Below w1.heap.size w1 (w1.alloc (.cells #[.int .u8 ((r : Int) % 256), .int .u8 ((r : Int) / 256 % 256), .int .u8 ((r : Int) / 65536 % 256), .int .u8 ((r : Int) / 16777216)] 5)) := (Below.refl _ _).alloc (Nat.le_refl _) _
 have hle : (bI (le4 r)).map (Value.int .u8) = [.int .u8 ((r : Int) % 256), .int .u8 ((r : Int) / 256 % 256), .int .u8 ((r : Int) / 65536 % 256), .int .u8 ((r : Int) / 16777216)] := by
  simp [bI, le4]; omega
 rw [hle]
 refine ⟨_, rfl, ⟨rfl, .inr ⟨_, _, _, rfl, H2.out.size, heap_alloc_new _ _, Nat.le_refl _, by decide, rfl, rfl⟩⟩, H1.out.below hb H1.out.lt, H2.out.trans (Chg.of_below hb (fun k => k = g)) (fun _ _ h => h)⟩
theorem crcSeal_any (g : Nat) (d : Bool) (A : Option Addr) (n c B : Nat) (l : List Nat) (hl : isBs l) (w : World) (h : Tb w g d) (hr : Reads w B 1 A n ((bI l).map (Value.int .u8))) (hB : B ≤ w.heap.size)
  (hA : ∀ ad, 0 < n → A = some ad → ad.block ≠ g) (hn : n ≤ 900000000) :
  Calls Tryz.prog 135 #[.pointer (some ⟨g, 0, none⟩), .slice A n c] w fun e w' => ∃ v, e = .returned v ∧ w'.ownsRow w.heap.size 5 1 v (n + 4) ((bI (sealB l)).map (Value.int .u8)) ∧ Tb w' g true ∧ Chg w w' (fun k => k = g) := by
 have HR := Lib.hid hr
 have HAA := Lib.hid hA
 have C := Lib.hid (behind_any g d A n c B l hl w h hr hB hA (by omega))
 clear h hr hA
 go_enter Tryz.func135, Tryz.ntmps135
 go_wp2_with (fail)
 with_reducible refine C.out.mono ?_
 rintro e w1 ⟨v, rfl, h0, h1, h2⟩
 obtain ⟨A1, c1, rfl, h3, h4, _⟩ := own_slice h0
 have H0 := Lib.hid h0
 have H1 := Lib.hid h1
 have H2 := Lib.hid h2
 have HR1 := Lib.hid (h2.reads HR.out hB (fun ad h0 he => HAA.out ad h0 he))
 have H3 := Lib.hid h3
 have hs := h2.size
 have hne : ∀ ad, A1 = some ad → w.heap.size ≤ ad.block := fun ad he => (H0.out.lt ad.block (by rw [he]; rfl)).1
 clear h0 h1 h2 C h3 h4 hne
 have hb : Below w1.heap.size w1 (w1.alloc (.cells #[.slice A n c, .slice A1 4 c1] 22)) := (Below.refl _ _).alloc (Nat.le_refl _) _
 have D := Lib.hid (concat_any A A1 n 4 c c1 w1.heap.size w1.heap.size (bI l) (bI (le4 (crc l))) (w1.alloc (.cells #[.slice A n c, .slice A1 4 c1] 22)) (by simp) (by simp)
  ((HR1.out.more (by omega)).below hb) (H3.out.below hb) w1.heap.size (by exact cells_new_at _ _ _ _ rfl 0 _ rfl) (by exact cells_new_at _ _ _ _ rfl 1 _ rfl) (by simp) (by omega) (by omega))
 have HB := Lib.hid hb
 clear hb
 go_wp2_with (fail)
 with_reducible refine D.out.mono ?_
 rintro e w2 ⟨v, rfl, h5, h6⟩
 have HF : Hid (w2.ownsRow w.heap.size 5 1 v (n + 4) ((bI (sealB l)).map (Value.int .u8)) ∧ Tb w2 g true ∧ Chg w w2 (fun k => k = g)) := Lib.hid ⟨by
   rw [sealB, bI_append]
   exact Go.Joins.ownsRow_le h5 (by simp; omega), (H1.out.below HB.out H1.out.lt).below h6 (by simp; have := H1.out.lt; omega), (H2.out.trans (Chg.of_below HB.out (fun k => k = g)) (fun _ _ h => h)).trans (Chg.of_below h6 (fun k => k = g)) (fun _ _ h => h)⟩
 clear h5 h6 D
 go_wp2
 go_ret
 exact ⟨_, rfl, HF.out⟩
theorem slEqual_any (A C : Option Addr) (n m c d B D : Nat) (x y : List Int) (w : World) (hB : B ≤ w.heap.size) (hD : D ≤ w.heap.size) (hx : Reads w B 1 A n (x.map (Value.int .u8))) (hy : Reads w D 1 C m (y.map (Value.int .u8))) (hn : n ≤ 9223372036854775806) :
  Calls Tryz.prog 251 #[.slice A n c, .slice C m d] w fun e w' => e = .returned (.bool (decide (x = y))) ∧ ∃ k, w' = w.drewN k := by
 have lx : x.length = n := by have := hx.1; simpa using this
 have ly : y.length = m := by have := hy.1; simpa using this
 by_cases hnm : n = m
 ·have hX : Hid (y.length = x.length) := Lib.hid (by omega)
  subst hnm
  have HX := Lib.hid hx
  have HY := Lib.hid hy
  have LX := Lib.hid lx
  have LY := Lib.hid ly
  clear hx hy lx ly
  go_enter Tryz.func251, Tryz.ntmps251
  go_wp2
  go_loopw [5, 13] (fun i5 i wr => ∃ k : Nat, k ≤ n ∧ i = .int .i64 k ∧ Hid (x.take k = y.take k) ∧ Hid (∃ q, wr = w.drewN q)) (fun _ i _ => n - (intOf i).toNat)
  case atStart => exact ⟨0, by omega, rfl, Lib.hid rfl, Lib.hid ⟨0, rfl⟩⟩
  case round =>
   obtain ⟨k, hk, rfl, hT, hb⟩ := hrel
   obtain ⟨q, hq⟩ := hb.out
   by_cases hlt : k < n
   ·obtain ⟨ad1, z1, rfl, _, hz1, hc1⟩ := reads_int (HX.out.drewN q) hlt
    obtain ⟨ad2, z2, rfl, _, hz2, hc2⟩ := reads_int (HY.out.drewN q) hlt
    rw [← hq] at hc1 hc2
    have Z1 := Lib.hid hz1
    have Z2 := Lib.hid hz2
    have HQ := Lib.hid hq
    clear hz1 hz2 hq hb
    have hk0 : (k : Int) < n := by omega
    by_cases hz : z1 = z2
    ·have hz' : (z1 != z2) = false := by simp [hz]
     have HZ := Lib.hid hz
     clear hz
     go_wp2_with (fail)
     go_quiet (fail)
     go_wp2
     go_roundw
     case rel =>
      refine ⟨k + 1, by omega, by go_num, Lib.hid ?_, Lib.hid ⟨_, by rw [HQ.out]; exact World.drewN_drewN _ _ _⟩⟩
      rw [List.take_add_one, List.take_add_one, Z1.out, Z2.out, hT.out, HZ.out]
     case measure => simp [intOf]; omega
    ·have hz' : (z1 != z2) = true := by simp [hz]
     have HZ := Lib.hid hz
     clear hz
     go_wp2_with (fail)
     go_quiet (fail)
     go_wp2
     go_ret
     refine ⟨ret_bool ?_, _, by rw [HQ.out]; exact World.drewN_drewN _ _ _⟩
     symm
     rw [decide_eq_false_iff_not]
     intro e
     have := Z2.out
     rw [← e, Z1.out] at this
     exact HZ.out (by injection this)
   ·obtain rfl : k = n := by omega
    have HQ := Lib.hid hq
    clear hq hb
    go_wp2
    go_ret
    refine ⟨ret_bool ?_, q, HQ.out⟩
    symm
    rw [decide_eq_true_eq]
    have := hT.out
    rw [List.take_of_length_le (by have := LX.out; omega), List.take_of_length_le (by have := LY.out; omega)] at this
    exact this
 ·have he : ¬ x = y := fun e => by subst e; omega
  have hd : decide (x = y) = false := by simp [he]
  rw [hd]
  have hnm' : ((n : Int) != m) = true := by simp; omega
  clear hx hy hnm he hd
  go_enter Tryz.func251, Tryz.ntmps251
  go_wp2
  go_ret
  exact ⟨rfl, 0, rfl⟩
end Go.Proofs.YtmpedblelnpjdaaGreatDoor
/- Package crc: Fits; the reference's Seal, Fits. -/
namespace Go.Proofs.YtmpedblelnpjdaaGreatDoor
open Go.RowKit
set_option linter.unusedSimpArgs false
set_option linter.unusedVariables false
set_option maxRecDepth 100000
set_option maxHeartbeats 1000000
theorem fits_parts (l : List Nat) (m : Nat) (h : l.length = m + 4) : fitsL l = decide (bI (l.drop m) = bI (le4 (crc (l.take m)))) := by
 have hinj : ∀ x y : List Nat, bI x = bI y ↔ x = y := fun x y => ⟨fun e => (List.map_inj_right (fun a b hab => by omega)).1 e, fun e => by rw [e]⟩
 unfold fitsL sealB
 rw [h, show m + 4 - 4 = m by omega, decide_eq_true (by omega), Bool.true_and, Bool.eq_iff_iff, decide_eq_true_eq, decide_eq_true_eq, hinj]
 have e := List.take_append_drop m l
 constructor
 ·intro h1
  exact (List.append_cancel_left (h1.trans e.symm)).symm
 ·intro h1
  rw [← h1]; exact e
theorem crcFits_any (g : Nat) (d : Bool) (A : Option Addr) (n c B : Nat) (l : List Nat) (hl : isBs l) (w : World) (h : Tb w g d) (hr : Reads w B 1 A n ((bI l).map (Value.int .u8))) (hB : B ≤ w.heap.size)
  (hA : ∀ ad, 0 < n → A = some ad → ad.block ≠ g) (hn : n ≤ 900000000) (hnc : n ≤ c) (hc : c ≤ 9223372036854775807) :
  Calls Tryz.prog 178 #[.pointer (some ⟨g, 0, none⟩), .slice A n c] w fun e w' => e = .returned (.bool (fitsL l)) ∧ Tb w' g true ∧ Chg w w' (fun k => k = g) := by
 have HR := Lib.hid hr
 have HAA := Lib.hid hA
 have LN := Lib.hid (reads_len hr)
 have C := Lib.hid (crcReady_any g d w h)
 by_cases h4 : 4 ≤ n
 ·obtain ⟨m, rfl⟩ : ∃ m, n = m + 4 := ⟨n - 4, by omega⟩
  have HF := Lib.hid (fits_parts l m LN.out)
  rw [HF.out]
  obtain ⟨ad, hAd, _, _⟩ := hr.2 (by omega)
  subst hAd
  clear h hr hA h4
  have hg0 : decide ((0 : Int) ≤ (m : Int)) = true := by simp
  have hm0 : (0 : Int) ≤ (m : Int) := by omega
  have hm1 : (m : Int) ≤ (m : Int) + 4 := by omega
  have hm2 : (m : Int) ≤ (c : Int) := by omega
  have hm3 : (m : Int) + 4 ≤ (c : Int) := by omega
  have hcm : ¬ c = m := by omega
  go_enter Tryz.func178, Tryz.ntmps178
  go_wp2_with (fail)
  with_reducible refine C.out.mono ?_
  rintro e w1 ⟨rfl, h1, h2⟩
  have HR1 := Lib.hid (h2.reads HR.out hB (fun ad h0 he => HAA.out ad h0 he))
  have H1 := Lib.hid h1
  have H2 := Lib.hid h2
  clear h1 h2 C
  have hs1 : B ≤ w1.heap.size := Nat.le_trans hB H2.out.size
  have ht := HR1.out.take (k := m) (by omega)
  rw [bI_take_map] at ht
  have hd := HR1.out.cut (k := m) (cap := c) (by omega) (by omega)
  rw [Nat.mul_one, bI_drop_map, if_neg hcm, show m + 4 - m = 4 by omega] at hd
  have HD := Lib.hid hd
  have CB := Lib.hid (behind_any g true (some ad) m c B (l.take m) (isBs_take hl m) w1.drew H1.out ht.drew hs1 (fun ad' h0 he => HAA.out ad' (by omega) he) (by omega))
  have HS1 := Lib.hid hs1
  have HNE : Hid (∀ ad' : Addr, 0 < 4 → (some ad).map (fun x : Addr => x.add m) = some ad' → ad'.block ≠ g) := Lib.hid (by
   intro ad' _ he
   simp only [Option.map_some, Option.some.injEq] at he
   subst he
   rw [block_of_add]
   exact HAA.out ad (by omega) rfl)
  clear ht hd hs1
  go_wp2_with (fail)
  go_region_held3 (fun w' => True) (trivial) (first
   | (go_at_call 228; refine CB.out.mono ?_; rintro e w2 ⟨v, rfl, h0, h1, h2⟩; obtain ⟨A1, c1, rfl, h3, _, _⟩ := own_slice h0; have H0 := Lib.hid h0; have H5 := Lib.hid h1; have H6 := Lib.hid h2; have H7 := Lib.hid h3; have E1 := Lib.hid (h2.reads HD.out.drew HS1.out HNE.out); have E2 := Lib.hid (Nat.le_trans HS1.out h2.size); clear h0 h1 h2 h3)
   | (go_at_call 251; refine (slEqual_any (some (ad.add m)) A1 4 4 (c - m) c1 B w2.heap.size (bI (l.drop m)) (bI (le4 (crc (l.take m)))) w2 E2.out (Nat.le_refl _) E1.out H7.out (Nat.le_of_ble_eq_true rfl)).mono ?_; rintro e w3 ⟨rfl, k, rfl⟩)
   | fail)
  go_wp2_with (fail)
  go_ret
  exact ⟨rfl, TabC.drewN H5.out _, (H2.out.trans (Chg.drewN (Chg.refl w1 (fun k => k = g)) 1) (fun _ _ h => h)).trans (Chg.drewN H6.out _) (fun _ _ h => h)⟩
 ·have hf : Hid (fitsL l = false) := Lib.hid (by
   unfold fitsL
   rw [decide_eq_false (by have := LN.out; omega), Bool.false_and])
  rw [hf.out]
  clear h hr hA
  have hd : decide (4 ≤ (n : Int)) = false := by simp; omega
  go_enter Tryz.func178, Tryz.ntmps178
  go_wp2_with (fail)
  with_reducible refine C.out.mono ?_
  rintro e w1 ⟨rfl, h1, h2⟩
  have H1 := Lib.hid h1
  have H2 := Lib.hid h2
  clear h1 h2 C
  go_wp2_with (fail)
  go_quiet (fail)
  go_wp2
  go_ret
  exact ⟨rfl, H1.out.drewN _, H2.out.drewN _⟩
end Go.Proofs.YtmpedblelnpjdaaGreatDoor
/- Package crc: the reference's Seal, Fits. -/
namespace Go.Proofs.YtmpedblelnpjdaaGreatDoor
open Go.RowKit
set_option linter.unusedSimpArgs false
set_option linter.unusedVariables false
set_option maxRecDepth 100000
set_option maxHeartbeats 1000000
theorem big4 (r : Nat) : big r 4 = [((r / 16777216 % 256 : Nat) : Int), ((r / 65536 % 256 : Nat) : Int), ((r / 256 % 256 : Nat) : Int), ((r % 256 : Nat) : Int)] := by
 simp [big, digit, List.range, List.range.loop]
theorem le4_ints (r : Nat) : bI (le4 r) = [((r % 256 : Nat) : Int), ((r / 256 % 256 : Nat) : Int), ((r / 65536 % 256 : Nat) : Int), ((r / 16777216 % 256 : Nat) : Int)] := rfl
theorem own_drew {w : World} {base : Nat} {e : TypeId} {size : Nat} {v : Value} {n : Nat} {xs : List Value} (h : w.ownsRow base e size v n xs) : w.drew.ownsRow base e size v n xs := h
theorem news4 {w : World} {cs : Array Value} {t : TypeId} {xs : List Value} (n : Nat) (hx : xs.length = n * 1) (hc : cs.toList = xs) : Reads (w.alloc (.cells cs t)).drew (w.heap.size + 1) 1 (some ⟨w.heap.size, 0, none⟩) n xs :=
 ⟨hx, fun _ => ⟨_, rfl, by simp, fun j u hu => by rw [World.cell?_drew]; exact cells_new _ _ _ j u (by rw [hc]; exact hu)⟩⟩
theorem refSeal_any (A : Option Addr) (n c B : Nat) (l : List Nat) (hl : isBs l) (w : World) (hr : Reads w B 1 A n ((bI l).map (Value.int .u8))) (hB : B ≤ w.heap.size) (hn : n ≤ 900000000) :
  Calls Tryz.prog 285 #[.slice A n c] w fun e w' => ∃ v, e = .returned v ∧ w'.ownsRow w.heap.size 5 1 v (n + 4) ((bI (sealB l)).map (Value.int .u8)) ∧ Below w.heap.size w w' := by
 obtain ⟨i0, hi, hz0, hz1, hz2⟩ := info_parts byteInfo
 have HR := Lib.hid hr
 have HLT := crc_lt l hl
 have HS : Hid (bI (sealB l) = bI l ++ bI (le4 (crc l))) := Lib.hid (bI_append _ _)
 rw [HS.out]
 have D := Lib.hid (fun w' h => refOf_any A n c B l hl w' h (by omega))
 obtain ⟨r, hrr⟩ : ∃ r, r = crc l := ⟨_, rfl⟩
 rw [← hrr] at HLT D ⊢
 clear hr hrr HS
 have e1 : IntKind.u64.wrap (r : Int) = r := by rw [IntKind.wrap_u64]; omega
 go_enter Tryz.func285, Tryz.ntmps285
 go_wp2_with (at_builtin; go_must (refine wpList_append_any _ rfl (.const (.slice none 0 0)) (.tmp 5) _ rfl w.heap.size 5 i0 _ 1 1 Tryz.underlying22 hi hz0 hz1 hz2 rfl (by omega) _ _ _ rfl (World.ownsRow_nil _ _ _ _) B A n c ((bI l).map (Value.int .u8)) rfl HR.out ?c1 ?c2 ?c3 ?c4 ?_))
 case c1 => exact u8_one _
 case c2 => unfold maxLen; omega
 case c3 => omega
 case c4 => exact Nat.le_refl _
 intro v1 w1 h5 h6 _
 have HB1 := Lib.hid ((Below.refl w.heap.size w).grown h6 (Nat.le_refl _) (fun k hk => by simp [Value.ownBlock] at hk))
 obtain ⟨A1, c1, rfl, _, _, _⟩ := own_slice h5
 have HO1 := Lib.hid h5
 have HR1 := Lib.hid (HR.out.below (HB1.out.mono hB))
 have hs1 := HB1.out.size
 clear h5 h6
 go_wp2_with (fail)
 refine (D.out _ HR1.out).mono ?_
 rintro e w' ⟨rfl, rfl⟩
 go_wp2_with (fail)
 refine (refBig_any r 4 _ (by first | rfl | assumption) (by omega) (by omega) (by omega) (by rw [fitsB, decide_eq_true_eq]; omega) _).mono ?_
 rintro e w2 ⟨v, rfl, h1, h2⟩
 obtain ⟨g2, c2, rfl, _, hg2⟩ := h1.form (by omega)
 have h3 := Reads.of_own h1
 have HO2 : Hid (w2.ownsRow w.heap.size 5 1 (.slice A1 n c1) n ((bI l).map (Value.int .u8))) := Lib.hid (own_block_same HO1.out (fun k hk => h2.block k (HO1.out.lt k hk).2))
 have HB2 := Lib.hid (HB1.out.trans (h2.mono hs1))
 have hs2 := h2.size
 rw [big4] at h3
 obtain ⟨ad', z0, hA2, _, k0, p0⟩ := reads_int h3 (k := 0) (by omega)
 cases hA2
 obtain ⟨ad', z1, hA2, _, k1, p1⟩ := reads_int h3 (k := 1) (by omega)
 cases hA2
 obtain ⟨ad', z2, hA2, _, k2, p2⟩ := reads_int h3 (k := 2) (by omega)
 cases hA2
 obtain ⟨ad', z3, hA2, _, k3, p3⟩ := reads_int h3 (k := 3) (by omega)
 cases hA2
 simp only [Go.WideShapes.add_plain, Nat.zero_add] at p0 p1 p2 p3
 simp only [List.getElem?_cons_zero, List.getElem?_cons_succ, Option.some.injEq] at k0 k1 k2 k3
 have HLE : Hid (bI (le4 r) = [z3, z2, z1, z0]) := Lib.hid (by rw [le4_ints, ← k0, ← k1, ← k2, ← k3])
 clear k0 k1 k2 k3 h1 h2 h3 D HR1 HB1
 go_wp2_with (fail)
 have hne : Hid (∀ k, (Value.slice A1 n c1).ownBlock = some k → g2 ≠ k) := Lib.hid (fun k hk e => by have := (HO1.out.lt k hk).2; omega)
 have q1 : n + 4 ≤ maxLen := by unfold maxLen; omega
 have q2 : (n + 4) * 1 ≤ 140737488355328 := by omega
 have q3 : w.heap.size ≤ (w2.alloc (.cells #[.int .u8 z3, .int .u8 z2, .int .u8 z1, .int .u8 z0] 5)).drew.heap.size := by have := HB2.out.size; simp; omega
 have Q1 := Lib.hid q1
 have Q2 := Lib.hid q2
 have Q3 := Lib.hid q3
 have HK : Hid (∀ (v3 : Value) (w3 : World), (w2.alloc (.cells #[.int .u8 z3, .int .u8 z2, .int .u8 z1, .int .u8 z0] 5)).drew.grownBy w3 (Value.slice A1 n c1).ownBlock → ∀ p : Addr, p.block = g2 → w3.cell? p = w2.cell? p) := Lib.hid (by
  intro v3 w3 hg p hp
  refine (World.cell?_of_block (hg.block p.block (by simp; omega) (fun e => hne.out g2 (by rw [← e, hp]) rfl))).trans ?_
  rw [World.cell?_drew]
  exact World.cell?_alloc_lt _ _ _ (by omega))
 clear q1 q2 q3
 go_region_held3 (fun w' => w'.cell? ⟨g2, 0, none⟩ = some (.int .u8 z0) ∧ w'.cell? ⟨g2, 1, none⟩ = some (.int .u8 z1) ∧ w'.cell? ⟨g2, 2, none⟩ = some (.int .u8 z2) ∧ w'.cell? ⟨g2, 3, none⟩ = some (.int .u8 z3)) (go_keep) (first
  | (refine step_append_any _ ?_ (.tmp 11) (.tmp 24) 22 ?_ w.heap.size 5 i0 (.int .u8 0) 1 1 Tryz.underlying22 hi hz0 hz1 hz2 rfl (by omega) (.slice A1 n c1) n ((bI l).map (Value.int .u8)) ?_ ?_ (w2.heap.size + 1) (some ⟨w2.heap.size, 0, none⟩) 4 4 ([z3, z2, z1, z0].map (Value.int .u8)) ?_ ?_ ?_ ?_ ?_ ?_ ?_; (· rfl); (· rfl); (· rfl); (· exact own_drew (HO2.out.alloc _)); (· rfl); (· exact news4 4 rfl rfl); (· exact u8_one _); (· exact Q1.out); (· exact Q2.out); (· exact Q3.out); intro v3 w3 h5 h6 _; have c0 := (HK.out v3 w3 h6 ⟨g2, 0, none⟩ rfl).trans p0; have c1' := (HK.out v3 w3 h6 ⟨g2, 1, none⟩ rfl).trans p1; have c2' := (HK.out v3 w3 h6 ⟨g2, 2, none⟩ rfl).trans p2; have c3 := (HK.out v3 w3 h6 ⟨g2, 3, none⟩ rfl).trans p3; have HG := Lib.hid h6; have HO3 := Lib.hid h5; clear h5 h6)
  | fail)
 have HB3 := Lib.hid (((HB2.out.alloc HB2.out.size (.cells #[.int .u8 z3, .int .u8 z2, .int .u8 z1, .int .u8 z0] 5)).drew).grown HG.out Q3.out (fun k hk => (HO2.out.lt k hk).1))
 go_wp2_with (fail)
 go_ret
 exact ⟨_, rfl, by rw [HLE.out, List.map_append]; exact HO3.out, HB3.out⟩
end Go.Proofs.YtmpedblelnpjdaaGreatDoor
/- Package crc: the reference's Fits; Turn. -/
namespace Go.Proofs.YtmpedblelnpjdaaGreatDoor
open Go.RowKit
set_option linter.unusedSimpArgs false
set_option linter.unusedVariables false
set_option maxRecDepth 100000
set_option maxHeartbeats 1000000
theorem fits_ref (l : List Nat) (m : Nat) (h : l.length = m + 4) : fitsL l = decide (bI (sealB (l.take m)) = bI l) := by
 have hinj : ∀ x y : List Nat, bI x = bI y ↔ x = y := fun x y => ⟨fun e => (List.map_inj_right (fun a b hab => by omega)).1 e, fun e => by rw [e]⟩
 unfold fitsL
 rw [h, show m + 4 - 4 = m by omega, decide_eq_true (by omega), Bool.true_and, Bool.eq_iff_iff, decide_eq_true_eq, decide_eq_true_eq, hinj]
theorem refFits_any (A : Option Addr) (n c B : Nat) (l : List Nat) (hl : isBs l) (w : World) (hr : Reads w B 1 A n ((bI l).map (Value.int .u8))) (hB : B ≤ w.heap.size) (hn : n ≤ 900000000) (hnc : n ≤ c) (hc : c ≤ 9223372036854775807) :
  Calls Tryz.prog 223 #[.slice A n c] w fun e w' => e = .returned (.bool (fitsL l)) ∧ Below w.heap.size w w' := by
 have HR := Lib.hid hr
 have LN := Lib.hid (reads_len hr)
 by_cases h4 : 4 ≤ n
 ·obtain ⟨m, rfl⟩ : ∃ m, n = m + 4 := ⟨n - 4, by omega⟩
  have HF := Lib.hid (fits_ref l m LN.out)
  rw [HF.out]
  have ht := hr.take (k := m) (by omega)
  rw [bI_take_map] at ht
  have C := Lib.hid (refSeal_any A m c B (l.take m) (isBs_take hl m) w ht hB (by omega))
  clear hr h4 ht
  have hm0 : (0 : Int) ≤ (m : Int) := by omega
  have hm2 : (m : Int) ≤ (c : Int) := by omega
  go_enter Tryz.func223, Tryz.ntmps223
  go_wp2_with (fail)
  refine C.out.mono ?_
  rintro e w1 ⟨v, rfl, h0, h1⟩
  obtain ⟨A1, c1, rfl, h3, _, _⟩ := own_slice h0
  have HR1 := Lib.hid (HR.out.below (h1.mono hB))
  have H1 := Lib.hid h1
  have H3 := Lib.hid h3
  have hs := h1.size
  clear h0 h1 h3 C
  go_wp2_with (fail)
  refine (same_any A1 A (m + 4) (m + 4) c1 c w1.heap.size B (bI (sealB (l.take m))) (bI l) w1 (Nat.le_refl _) (by omega) H3.out HR1.out (by omega)).mono ?_
  rintro e w2 ⟨rfl, h2⟩
  have H2 := Lib.hid (H1.out.trans (h2.mono hs))
  clear h2
  go_wp2
  go_ret
  exact ⟨rfl, H2.out⟩
 ·have hf : Hid (fitsL l = false) := Lib.hid (by
   unfold fitsL
   rw [decide_eq_false (by have := LN.out; omega), Bool.false_and])
  rw [hf.out]
  clear hr
  have hd : decide (4 ≤ (n : Int)) = false := by simp; omega
  go_enter Tryz.func223, Tryz.ntmps223
  go_wp2_with (fail)
  go_ret
  exact ⟨rfl, Below.refl _ _⟩
end Go.Proofs.YtmpedblelnpjdaaGreatDoor
/- Package crc: the reference's Turn. -/
namespace Go.Proofs.YtmpedblelnpjdaaGreatDoor
open Go.RowKit
set_option linter.unusedSimpArgs false
set_option linter.unusedVariables false
set_option maxRecDepth 100000
set_option maxHeartbeats 1000000
end Go.Proofs.YtmpedblelnpjdaaGreatDoor
/- The walks of CrcSeals and CrcBursts. -/
namespace Go.Proofs.YtmpedblelnpjdaaGreatDoor
open Go.RowKit
set_option linter.unusedSimpArgs false
set_option linter.unusedVariables false
set_option maxRecDepth 100000
set_option maxHeartbeats 2000000
theorem own_far {w : World} {base g n : Nat} {v : Value} {xs : List Value} (h : w.ownsRow base 5 1 v n xs) (hg : g < base) :
  ∃ A c, v = .slice A n c ∧ Reads w w.heap.size 1 A n xs ∧ (∀ ad, 0 < n → A = some ad → ad.block ≠ g) ∧ n ≤ c ∧ c ≤ maxLen := by
 obtain ⟨A, c, rfl, hr, h1, h2⟩ := own_slice h
 refine ⟨A, c, rfl, hr, fun ad h0 he => ?_, h1, h2⟩
 obtain ⟨g', cap, hv, hb, _⟩ := h.form h0
 subst he
 injection hv with hv
 injection hv with hv
 subst hv
 show g' ≠ g
 have := (h.lt g' rfl).1
 omega
end Go.Proofs.YtmpedblelnpjdaaGreatDoor
/- The walk of CrcBursts. -/
namespace Go.Proofs.YtmpedblelnpjdaaGreatDoor
open Go.RowKit
set_option linter.unusedSimpArgs false
set_option linter.unusedVariables false
set_option maxRecDepth 100000
set_option maxHeartbeats 2000000
end Go.Proofs.YtmpedblelnpjdaaGreatDoor
