/- GE: FrmA FrmB FrmC FrmD FrmE FrmF -/
import Derived.Test.YtmpedblelnpjdaaGreatDoorZGB
import Derived.Test.YtmpedblelnpjdaaGreatDoorZTq
import Derived.Test.YtmpedblelnpjdaaGreatDoorZGD
import Derived.Laws.BytesArg
import Derived.Shelf.Bytes.SlSmallAll
/- Bytes: bytes.Equal, bytes.Clone; the reference's Num; counters of uint64. -/
namespace Go.Proofs.YtmpedblelnpjdaaGreatDoor
open Go.RowKit
set_option linter.unusedSimpArgs false
set_option linter.unusedVariables false
set_option maxRecDepth 100000
set_option maxHeartbeats 1000000
theorem conv_reads {w : World} {B n c : Nat} {A : Option Addr} {l : List Nat} (h : Reads w B 1 A n ((bI l).map (Value.int .u8))) :
  (convert 22 9 (.slice A n c)).run Tryz.prog w = .ok (.string (strOfNums (bI l))) w := by
 have hl := reads_len h
 rcases Nat.eq_zero_or_pos n with hn | hn
 ·subst hn
  obtain rfl : l = [] := List.eq_nil_of_length_eq_zero hl
  exact run_convert_bytes_zero (P := Tryz.prog) w 22 5 Tryz.underlying22 Tryz.underlying5 A c 9 Tryz.underlying9
 ·obtain ⟨ad, hA, _, hc⟩ := h.2 hn
  subst hA
  obtain ⟨b, o, spot⟩ := ad
  have h0 : spot = none := by
   have h00 : ((bI l).map (Value.int .u8))[0]? = some (((bI l).map (Value.int .u8))[0]'(by simp [bI]; omega)) := List.getElem?_eq_getElem _
   have := World.cell?_spot (hc 0 _ h00)
   simpa [Addr.add] using this
  subst h0
  refine run_convert_bytes_arg (P := Tryz.prog) w 22 5 Tryz.underlying22 Tryz.underlying5 b o n c (bI l) (by rw [bI_len]; exact hl) (fun i hi => ?_) 9 Tryz.underlying9
  have hli : i < (bI l).length := by rw [bI_len]; omega
  have := hc i (.int .u8 (bI l)[i]) (by rw [List.getElem?_map, List.getElem?_eq_getElem hli]; rfl)
  rw [Go.WideShapes.add_plain] at this
  rw [this, List.getD_eq_getElem?_getD, List.getElem?_eq_getElem hli]; rfl
theorem u8_inj (x y : List Nat) (hx : isBs x) (hy : isBs y) (h : x.map (fun n => UInt8.ofNat n) = y.map (fun n => UInt8.ofNat n)) : x = y := by
 induction x generalizing y with
 | nil => cases y with
  | nil => rfl
  | cons b y => simp at h
 | cons a x ih =>
  cases y with
  | nil => simp at h
  | cons b y =>
   simp only [List.map_cons, List.cons.injEq] at h
   have ha := hx a (by simp)
   have hb := hy b (by simp)
   have e1 : a = b := by
    have h2 := congrArg UInt8.toNat h.1
    simp only [UInt8.toNat_ofNat'] at h2
    omega
   rw [e1, ih y (fun z hz => hx z (by simp [hz])) (fun z hz => hy z (by simp [hz])) h.2]
theorem str_list (x : List Nat) : (strOfNums (bI x)).toList = x.map fun n => UInt8.ofNat n := by
 rw [Lib.strOfNums_toList]
 simp [Lib.bytesOf, bI]
theorem str_eq (x y : List Nat) (hx : isBs x) (hy : isBs y) : ((strOfNums (bI x)).toList == (strOfNums (bI y)).toList) = decide (x = y) := by
 rw [str_list, str_list, Bool.eq_iff_iff, beq_iff_eq, decide_eq_true_eq]
 exact ⟨u8_inj x y hx hy, fun h => by rw [h]⟩
theorem bytesEqual_any (A C : Option Addr) (n m c d B D : Nat) (x y : List Nat) (w : World) (hx : Reads w B 1 A n ((bI x).map (Value.int .u8))) (hy : Reads w D 1 C m ((bI y).map (Value.int .u8))) (bx : isBs x) (by' : isBs y) :
  Calls Tryz.prog 206 #[.slice A n c, .slice C m d] w fun e w' => e = .returned (.bool (decide (x = y))) ∧ w = w' := by
 have h1 := conv_reads (c := c) hx
 have h2 := conv_reads (c := d) hy
 have HI := Lib.hid (str_eq x y bx by')
 generalize strOfNums (bI x) = sx at *
 generalize strOfNums (bI y) = sy at *
 clear hx hy
 go_enter Tryz.func206, Tryz.ntmps206
 go_wp2
 go_ret
 exact ⟨ret_bool HI.out, rfl⟩
theorem bytesClone_any (A : Option Addr) (n c B : Nat) (b : List Int) (w : World) (hB : B ≤ w.heap.size) (hr : Reads w B 1 A n (b.map (Value.int .u8))) (hn : n ≤ 1000000000) :
  Calls Tryz.prog 75 #[.slice A n c] w fun e w' => ∃ v, e = .returned v ∧ w'.ownsRow w.heap.size 5 1 v n (b.map (Value.int .u8)) ∧ Below w.heap.size w w' := by
 obtain ⟨i0, hi, hz0, hz1, hz2⟩ := info_parts byteInfo
 have HR := Lib.hid hr
 have hnil := fun w => Lib.run_eql_slice_nil (P := Tryz.prog) w 22 5 A n c 0 0 Tryz.underlying22
 rcases A with _ | ad
 ·have h0 : n = 0 := by
   rcases Nat.eq_zero_or_pos n with h | h
   ·exact h
   ·obtain ⟨ad, h, _⟩ := hr.2 h; cases h
  subst h0
  have hb0 : b = [] := by have := hr.1; simpa using this
  subst hb0
  clear hr
  go_enter Tryz.func75, Tryz.ntmps75
  go_wp2
  go_ret
  exact ⟨_, rfl, World.ownsRow_nil _ _ _ _, Below.refl _ _⟩
 ·clear hr
  go_enter Tryz.func75, Tryz.ntmps75
  exact rp36
def numN (l : List Nat) : Nat := l.foldl (fun n c => n * 256 + c) 0
theorem numN_take (l : List Nat) (k z : Nat) (hz : l[k]? = some z) : numN (l.take (k + 1)) = numN (l.take k) * 256 + z := by
 unfold numN
 rw [List.take_add_one, hz, Option.toList_some, List.foldl_append]; rfl
theorem foldN_lt (l : List Nat) (h : isBs l) (a : Nat) : l.foldl (fun n c => n * 256 + c) a < (a + 1) * 256 ^ l.length := by
 induction l generalizing a with
 | nil => simp
 | cons z l ih =>
  have hz := h z (by simp)
  have h1 := ih (fun b hb => h b (by simp [hb])) (a * 256 + z)
  simp only [List.foldl_cons, List.length_cons]
  have h2 : (a * 256 + z + 1) * 256 ^ l.length ≤ ((a + 1) * 256) * 256 ^ l.length := Nat.mul_le_mul_right _ (by omega)
  rw [Nat.pow_succ, Nat.mul_comm (256 ^ l.length) 256, ← Nat.mul_assoc]
  omega
theorem numN_lt (l : List Nat) (h : isBs l) : numN l < 256 ^ l.length := by
 have := foldN_lt l h 0
 simpa [numN] using this
theorem refNumF_any (A : Option Addr) (n c B : Nat) (l : List Nat) (w : World) (hr : Reads w B 1 A n ((bI l).map (Value.int .u8))) (hl : isBs l) (hn : n ≤ 8) :
  Calls Tryz.prog 222 #[.slice A n c] w fun e w' => e = .returned (.int .u64 ((numN l : Nat) : Int)) ∧ w = w' := by
 have HL := Lib.hid hl
 have HR := Lib.hid hr
 have LN := Lib.hid (reads_len hr)
 clear hl hr
 go_enter Tryz.func222, Tryz.ntmps222
 go_wp2
 go_loop [3, 4] (fun v i => ∃ k q : Nat, k ≤ n ∧ i = .int .i64 k ∧ v = .int .u64 (q : Int) ∧ Hid (q = numN (l.take k))) (fun _ i => n - (intOf i).toNat)
 case atStart => exact ⟨0, 0, by omega, rfl, rfl, Lib.hid rfl⟩
 case round =>
  obtain ⟨k, q, hk, rfl, rfl, HQ⟩ := hrel
  by_cases hlt : k < n
  ·obtain ⟨ad, z, rfl, _, hz, hc⟩ := reads_nat HR.out hlt
   have hz8 := isBs_get HL.out hz
   have hq : q < 72057594037927936 := by
    have h1 := numN_lt (l.take k) (isBs_take HL.out k)
    have h2 : 256 ^ (l.take k).length ≤ 256 ^ 7 := Nat.pow_le_pow_right (by decide) (by rw [List.length_take]; omega)
    rw [HQ.out]
    omega
   have HZ := Lib.hid hz
   clear hz
   go_wp2
   go_round
   case rel => exact ⟨k + 1, q * 256 + z, by omega, by go_num, by go_num, Lib.hid (by rw [numN_take _ _ _ HZ.out, HQ.out])⟩
   case measure => simp [intOf]; omega
  ·obtain rfl : k = n := by omega
   go_wp2
   go_ret
   exact ⟨ret_int (by rw [HQ.out, List.take_of_length_le (by have := LN.out; omega)]), rfl⟩
theorem add64_any (a : Addr) (x y s : Int) (w : World) (hs : IntKind.u64.wrap (x + y) = s) (hc : w.cell? a = some (.int .u64 x)) (hz : w.frozen? a = false) :
  Calls Tryz.prog 179 #[.pointer (some a), .int .u64 y] w fun e w' => e = .returned (.int .u64 s) ∧ w' = w.setCell a (.int .u64 s) := by
 have hadd := run_call_add (P := Tryz.prog) Tryz.func252 (by kernel_rfl) (by kernel_rfl) (by kernel_rfl) .u64 (by kernel_rfl) (y := y) (s := s) hc hz (by simp [go_sem, hs])
 go_enter Tryz.func179, Tryz.ntmps179
 go_wp2
 go_ret
 exact ⟨rfl, rfl⟩
end Go.Proofs.YtmpedblelnpjdaaGreatDoor
/- Package frame: what a frame's bytes are, plain; New, told, Counts, Size, Same; the law's ours, like. -/
namespace Go.Proofs.YtmpedblelnpjdaaGreatDoor
open Go.RowKit
set_option linter.unusedSimpArgs false
set_option linter.unusedVariables false
set_option maxRecDepth 100000
set_option maxHeartbeats 2000000
def frN (b : List Nat) : Nat := numN ((b.drop 1).take 2)
def cutE (b : List Nat) : Nat :=
 if b.length < 3 then 3 else if b.getD 0 0 = 0 then 4 else if 16384 < frN b then 6 else if b.length < frN b + 7 then 3 else if fitsL (b.take (frN b + 7)) then 0 else 5
def cutK (b : List Nat) : Nat := if cutE b = 0 then b.getD 0 0 else 0
def cutB (b : List Nat) : List Nat := if cutE b = 0 then (b.drop 3).take (frN b) else []
def cutL (b : List Nat) : Nat := if cutE b = 0 then frN b + 7 else 0
theorem cut_zero (b : List Nat) (h : cutE b ≠ 0) : cutK b = 0 ∧ cutB b = [] ∧ cutL b = 0 := by
 unfold cutK cutB cutL
 rw [if_neg h, if_neg h, if_neg h]; exact ⟨rfl, rfl, rfl⟩
theorem cut_some (b : List Nat) (h : cutE b = 0) : cutK b = b.getD 0 0 ∧ cutB b = (b.drop 3).take (frN b) ∧ cutL b = frN b + 7 := by
 unfold cutK cutB cutL
 rw [if_pos h, if_pos h, if_pos h]; exact ⟨rfl, rfl, rfl⟩
theorem frN_lt (b : List Nat) (h : isBs b) : frN b < 65536 := by
 have h1 := numN_lt ((b.drop 1).take 2) (isBs_take (isBs_drop h 1) 2)
 have h2 : 256 ^ ((b.drop 1).take 2).length ≤ 256 ^ 2 := Nat.pow_le_pow_right (by decide) (by rw [List.length_take]; omega)
 unfold frN
 omega
def hd1 (b : List Nat) : FI × Nat := FI.upto ⟨bI (b.take 3), 0⟩ 1 18446744073709551615
def hd2 (b : List Nat) : FI × Nat := FI.upto (hd1 b).1 2 18446744073709551615
theorem hd_ok (b : List Nat) (hb : isBs b) (h : 3 ≤ b.length) : (hd1 b).2 = b.getD 0 0 ∧ (hd2 b).2 = frN b ∧ (hd2 b).1.e = 0 := by
 match b, h with
 | x :: y :: z :: l, _ =>
  have hx := hb x (by simp)
  have hy := hb y (by simp)
  have hz := hb z (by simp)
  have e1 : hd1 (x :: y :: z :: l) = (⟨[(y : Int), (z : Int)], 0⟩, x) := by
   unfold hd1 FI.upto FI.next
   have h1 : ¬ 18446744073709551615 < x := by omega
   simp [bI, knownB, numB, h1]
  have e2 : hd2 (x :: y :: z :: l) = (⟨[], 0⟩, y * 256 + z) := by
   unfold hd2
   rw [e1]
   unfold FI.upto FI.next
   have h1 : ¬ 18446744073709551615 < y * 256 + z := by omega
   simp [bI, knownB, numB, h1]
  rw [e1, e2]
  refine ⟨by simp, ?_, rfl⟩
  simp [frN, numN]
theorem hd_short (b : List Nat) (hb : isBs b) (h : b.length < 3) : (hd2 b).1.e ≠ 0 := by
 match b, h with
 | [], _ => decide
 | [x], _ =>
  exact rp64
 | [x, y], _ =>
  exact rp62
def Cd (w : World) (c g : Nat) (d : Bool) (x y : Int) : Prop := Blk w c 109 #[.pointer (some ⟨g, 0, none⟩), .int .u64 x, .int .u64 y] ∧ Tb w g d
theorem Cd.below {B : Nat} {w w' : World} {c g : Nat} {d : Bool} {x y : Int} (h : Cd w c g d x y) (hb : Below B w w') (hc : c < B) (hg : g < B) : Cd w' c g d x y := ⟨h.1.below hb hc, h.2.below hb hg⟩
theorem tb_ne {w : World} {c g : Nat} {d : Bool} {T : TypeId} {cs : Array Value} (h : Blk w c T cs) (ht : Tb w g d) (hT : T ≠ 218) : c ≠ g := by
 obtain ⟨cs', b, _⟩ := ht
 exact Blk.ne_ h b hT
theorem frNew_nil (w : World) : Calls Tryz.prog 8 #[.pointer none] w fun e w' => ∃ c, e = .returned (.pointer (some ⟨c, 0, none⟩)) ∧ w.heap.size ≤ c ∧ Cd w' c w.heap.size false 0 0 ∧ Below w.heap.size w w' := by
 go_enter Tryz.func8, Tryz.ntmps8
 go_wp2_with (fail)
 refine (crcNew_any _).mono ?_
 rintro e w1 ⟨rfl, h1, h2⟩
 have H1 := Lib.hid h1
 have H2 := Lib.hid h2
 have hs := h2.size
 clear h1 h2
 go_wp2
 go_ret
 exact ⟨_, rfl, hs, ⟨Blk.new _ _ _, H1.out.below ((Below.refl w1.heap.size w1).alloc (Nat.le_refl _) _) H1.out.lt⟩, H2.out.alloc hs _⟩
theorem told_any (c g : Nat) (d : Bool) (x y : Int) (k e : Nat) (w : World) (h : Cd w c g d x y) (hx : 0 ≤ x ∧ x + k < 18446744073709551616) (hy : 0 ≤ y ∧ y + 1 < 18446744073709551616) :
  Calls Tryz.prog 112 #[.pointer (some ⟨c, 0, none⟩), .int .u64 k, .int .i64 e] w fun e' w' => e' = .returned (.int .i64 e) ∧ Cd w' c g d (x + k) (if e = 0 then y else y + 1) ∧ Chg w w' (fun k => k = c) := by
 have k1 : w.cell? ⟨c, 1, none⟩ = some (.int .u64 x) := h.1.cell 1
 have f1 := h.1.frozen 1
 have hne := tb_ne h.1 h.2 (by decide)
 have A := Lib.hid (add64_any ⟨c, 1, none⟩ x k (x + k) w (by rw [IntKind.wrap_u64]; omega) k1 f1)
 have b1 := h.1.set_ 1 (.int .u64 (x + k))
 have t1 : Hid (Tb (w.setCell ⟨c, 1, none⟩ (.int .u64 (x + k))) g d) := Lib.hid (TabC.chg (S := fun k => k = c) h.2 ((Chg.refl w (fun k => k = c)).set1 1 _) (fun e => hne e.symm))
 have k2 : (w.setCell ⟨c, 1, none⟩ (.int .u64 (x + k))).cell? ⟨c, 2, none⟩ = some (.int .u64 y) := b1.cell 2
 have f2 := b1.frozen 2
 have A2 := Lib.hid (add64_any ⟨c, 2, none⟩ y 1 (y + 1) _ (by rw [IntKind.wrap_u64]; omega) k2 f2)
 have B1 := Lib.hid b1
 have HNE := Lib.hid hne
 have c1 : Hid (Chg w (w.setCell ⟨c, 1, none⟩ (.int .u64 (x + k))) (fun k => k = c)) := Lib.hid ((Chg.refl w (fun k => k = c)).set1 1 _)
 generalize w.setCell ⟨c, 1, none⟩ (.int .u64 (x + k)) = w1 at *
 clear h k1 f1 b1 k2 f2 hne
 by_cases he : e = 0
 ·subst he
  go_enter Tryz.func112, Tryz.ntmps112
  go_wp2_with (fail)
  refine A.out.mono ?_
  rintro e' w' ⟨rfl, rfl⟩
  go_wp2_with (fail)
  go_ret
  exact ⟨rfl, ⟨B1.out, t1.out⟩, c1.out⟩
 ·have he' : ((e : Int) != 0) = true := by simp; omega
  have hE : Hid ((if e = 0 then y else y + 1) = y + 1) := Lib.hid (if_neg he)
  rw [hE.out]
  go_enter Tryz.func112, Tryz.ntmps112
  go_wp2_with (fail)
  refine A.out.mono ?_
  rintro e' w' ⟨rfl, rfl⟩
  go_wp2_with (fail)
  refine A2.out.mono ?_
  rintro e' w' ⟨rfl, rfl⟩
  go_wp2_with (fail)
  go_ret
  exact ⟨rfl, ⟨B1.out.set_ 2 _, TabC.chg (S := fun k => k = c) t1.out ((Chg.refl _ (fun k => k = c)).set1 2 _) (fun e => HNE.out e.symm)⟩, c1.out.set1 2 _⟩
end Go.Proofs.YtmpedblelnpjdaaGreatDoor
/- Package frame: first. -/
namespace Go.Proofs.YtmpedblelnpjdaaGreatDoor
open Go.RowKit
set_option linter.unusedSimpArgs false
set_option linter.unusedVariables false
set_option maxRecDepth 100000
set_option maxHeartbeats 1500000
theorem bytesB_bI (l : List Nat) (h : isBs l) : bytesB (bI l) := by
 intro z hz
 obtain ⟨x, hx, rfl⟩ := List.mem_map.1 hz
 have := h x hx
 omega
theorem Chg.setNew {w w' : World} {S : Nat → Prop} (h : Chg w w' S) {p : Addr} (hp : w.heap.size ≤ p.block) (v : Value) : Chg w (w'.setCell p v) S :=
 ⟨h.os, h.tape, h.output, by simpa [World.setCell] using h.size, fun k hk hn => (Below.heap_setCell w' p v k (by omega)).trans (h.block k hk hn)⟩
theorem cut_cases (b : List Nat) (n : Nat) (hn : b.length = n) :
  (n < 3 ∧ cutE b = 3) ∨ (3 ≤ n ∧ b.getD 0 0 = 0 ∧ cutE b = 4) ∨ (3 ≤ n ∧ b.getD 0 0 ≠ 0 ∧ 16384 < frN b ∧ cutE b = 6) ∨ (3 ≤ n ∧ b.getD 0 0 ≠ 0 ∧ frN b ≤ 16384 ∧ n < frN b + 7 ∧ cutE b = 3) ∨
  (3 ≤ n ∧ b.getD 0 0 ≠ 0 ∧ frN b ≤ 16384 ∧ frN b + 7 ≤ n ∧ cutE b = if fitsL (b.take (frN b + 7)) then 0 else 5) := by
 unfold cutE
 rw [hn]
 by_cases h1 : n < 3
 ·exact .inl ⟨h1, if_pos h1⟩
 right
 rw [if_neg h1]
 by_cases h2 : b.getD 0 0 = 0
 ·exact .inl ⟨by omega, h2, if_pos h2⟩
 right
 rw [if_neg h2]
 by_cases h3 : 16384 < frN b
 ·exact .inl ⟨by omega, h2, h3, if_pos h3⟩
 right
 rw [if_neg h3]
 by_cases h4 : n < frN b + 7
 ·exact .inl ⟨by omega, h2, by omega, h4, if_pos h4⟩
 right
 rw [if_neg h4]
 exact ⟨by omega, h2, by omega, by omega, rfl⟩
theorem hd2_lt (b : List Nat) (hb : isBs b) : (hd2 b).2 < 65536 := by
 by_cases h : 3 ≤ b.length
 ·rw [(hd_ok b hb h).2.1]; exact frN_lt b hb
 ·match b, h with
  | [], _ => decide
  | [x], _ =>
   exact rp64
  | [x, y], _ =>
   exact rp62
  | _ :: _ :: _ :: _, h => simp at h
theorem first_any (c g : Nat) (d : Bool) (x y : Int) (A : Option Addr) (n cp B : Nat) (b : List Nat) (w : World) (h : Cd w c g d x y) (hr : Reads w B 1 A n ((bI b).map (Value.int .u8))) (hb : isBs b) (hB : B ≤ w.heap.size)
  (hA : ∀ ad, 0 < n → A = some ad → ad.block ≠ g) (hn : n ≤ 900000000) (hnc : n ≤ cp) (hc : cp ≤ 9223372036854775807) :
  Calls Tryz.prog 111 #[.pointer (some ⟨c, 0, none⟩), .slice A n cp] w fun e w' => ∃ v, e = .returned (.tuple #[.agg #[.int .u8 (cutK b), v], .int .i64 (cutL b), .int .i64 (cutE b)]) ∧
   w'.ownsRow w.heap.size 5 1 v (cutB b).length ((bI (cutB b)).map (Value.int .u8)) ∧ (∃ d', Tb w' g d') ∧ Chg w w' (fun k => k = g) := by
 have HR := Lib.hid hr
 have HBS := Lib.hid hb
 have LN := Lib.hid (reads_len hr)
 have HAA := Lib.hid hA
 have hcl := h.1.lt
 have hgl := h.2.lt
 have HT := Lib.hid h.2
 have HC : Hid (Blk w c 109 #[.pointer (some ⟨g, 0, none⟩), .int .u64 x, .int .u64 y]) := Lib.hid h.1
 clear h hb hA
 obtain ⟨m, hm⟩ : ∃ m : Nat, m = min n 3 := ⟨_, rfl⟩
 have hm1 : m ≤ n := by omega
 have hm2 : m ≤ 3 := by omega
 have hmi : min (n : Int) 3 = (m : Int) := by omega
 have ht := hr.take (k := m) hm1
 rw [bI_take_map, show b.take m = b.take 3 by
  by_cases h3 : n < 3
  ·rw [List.take_of_length_le (by have := LN.out; omega), List.take_of_length_le (by have := LN.out; omega)]
  ·rw [show m = 3 by omega]] at ht
 have HM := Lib.hid ht
 have HM3 := Lib.hid hm
 clear hr ht hm
 go_enter Tryz.func111, Tryz.ntmps111
 go_wp2_with (fail)
 refine (of_any A m cp B (bI (b.take 3)) _ (by simp; omega) (Reads.alloc HM.out hB _) (bytesB_bI _ (isBs_take HBS.out 3)) (by omega)).mono ?_
 rintro e w1 ⟨gi, rfl, h1, h2, h3⟩
 have hb1 : Below w.heap.size w w1 := ((Below.refl w.heap.size w).alloc (Nat.le_refl _) (.cells #[.int .u8 0, .slice none 0 0] 111)).trans (h3.mono (by simp))
 have R1 : Blk w1 w.heap.size 111 #[.int .u8 0, .slice none 0 0] := (Blk.new w _ _).below h3 (by simp)
 have hgi : w.heap.size < gi := by simp at h1; omega
 have hIn := h2
 clear h1 h2 h3
 have G1 := Lib.hid (get_any gi ⟨bI (b.take 3), 0⟩ 1 _ w1 hIn)
 have HR1 := Lib.hid R1
 have HB1 := Lib.hid hb1
 clear R1 hb1 hIn
 go_wp2_with (fail)
 refine G1.out.mono ?_
 rintro e w2 ⟨rfl, h1, h2⟩
 have G2 := Lib.hid (get_any gi (hd1 b).1 2 _ w2 h1)
 have HR2 := Lib.hid (h2.blk HR1.out (show ¬ w.heap.size = gi by omega))
 have HB2 := Lib.hid (HB1.out.trans (h2.below (B := w.heap.size) HB1.out.size (fun k hk e => by have : k = gi := e; omega)))
 clear h1 h2 G1 HR1 HB1
 go_wp2_with (fail)
 refine G2.out.mono ?_
 rintro e w3 ⟨rfl, h1, h2⟩
 have E3 := Lib.hid (err_any gi (hd2 b).1 _ w3 h1)
 have HR3 := Lib.hid (h2.blk HR2.out (show ¬ w.heap.size = gi by omega))
 have HB3 := Lib.hid (HB2.out.trans (h2.below (B := w.heap.size) HB2.out.size (fun k hk e => by have : k = gi := e; omega)))
 clear h1 h2 G2 HR2 HB2
 have q1 : (FI.upto ⟨bI (b.take 3), 0⟩ 1 18446744073709551615).2 = (hd1 b).2 := rfl
 have q2 : (FI.upto (hd1 b).1 2 18446744073709551615).2 = (hd2 b).2 := rfl
 rw [q1, q2]
 clear q1 q2
 obtain ⟨k1, hk1⟩ : ∃ k1, k1 = (hd1 b).2 := ⟨_, rfl⟩
 obtain ⟨k2, hk2⟩ : ∃ k2, k2 = (hd2 b).2 := ⟨_, rfl⟩
 obtain ⟨ee, hee⟩ : ∃ ee, ee = (hd2 b).1.e := ⟨_, rfl⟩
 rw [← hk1, ← hk2]
 rw [← hee] at E3
 have HK1 := Lib.hid hk1
 have HK2 := Lib.hid hk2
 have HEE := Lib.hid hee
 clear hk1 hk2 hee
 have hk2b : k2 < 65536 := by rw [HK2.out]; exact hd2_lt b HBS.out
 go_wp2_with (fail)
 refine E3.out.mono ?_
 rintro e w4 ⟨rfl, rfl⟩
 have c0 : w3.cell? ⟨w.heap.size, 0, none⟩ = some (.int .u8 0) := HR3.out.cell 0
 have c1 : w3.cell? ⟨w.heap.size, 1, none⟩ = some (.slice none 0 0) := HR3.out.cell 1
 have f0 := HR3.out.frozen 0
 have f1 := HR3.out.frozen 1
 rcases cut_cases b n LN.out with ⟨h3, hE⟩ | ⟨h3, h0, hE⟩ | ⟨h3, h0, hb1, hE⟩ | ⟨h3, h0, hb1, hb2, hE⟩ | ⟨h3, h0, hb1, hb2, hE⟩
 ·have he : (ee != 0) = true := by rw [HEE.out]; simpa using hd_short b HBS.out (by have := LN.out; omega)
  have ZZ := Lib.hid (cut_zero b (by rw [hE]; decide))
  have HE := Lib.hid hE
  clear hE
  exact rp40
 ·have ZZ := Lib.hid (cut_zero b (by rw [hE]; decide))
  have HE := Lib.hid hE
  have hok := hd_ok b HBS.out (by have := LN.out; omega)
  have he : (ee != 0) = false := by rw [HEE.out, hok.2.2]; rfl
  obtain rfl : k1 = 0 := by rw [HK1.out, hok.1, h0]
  clear hE hok h0
  go_wp2_with (fail)
  refine bodyPost_ret (v := .tuple #[.agg #[.int .u8 0, .slice none 0 0], .int .i64 0, .int .i64 4]) (by simp [results, Tryz.results111, go_sem, *]) rfl ⟨.slice none 0 0, by rw [HE.out, ZZ.out.1, ZZ.out.2.2]; rfl, by rw [ZZ.out.2.1]; exact World.ownsRow_nil _ _ _ _, ?_, ?_⟩
  ·exact ⟨d, (HT.out.below HB3.out hgl).below (((Below.refl w.heap.size w3).setCell (Nat.le_refl _) _).setCell (Nat.le_refl _) _) hgl⟩
  ·exact Chg.of_below ((HB3.out.setCell (Nat.le_refl _) _).setCell (Nat.le_refl _) _) _
 ·have ZZ := Lib.hid (cut_zero b (by rw [hE]; decide))
  have HE := Lib.hid hE
  have hok := hd_ok b HBS.out (by have := LN.out; omega)
  have he : (ee != 0) = false := by rw [HEE.out, hok.2.2]; rfl
  have hk1 : ((k1 : Int) == 0) = false := by simp; rw [HK1.out, hok.1]; omega
  have hk2 : ((16384 : Int) < k2) := by have := hok.2.1; have := HK2.out; omega
  clear hE hok h0 hb1
  go_wp2_with (fail)
  refine bodyPost_ret (v := .tuple #[.agg #[.int .u8 0, .slice none 0 0], .int .i64 0, .int .i64 6]) (by simp [results, Tryz.results111, go_sem, *]) rfl ⟨.slice none 0 0, by rw [HE.out, ZZ.out.1, ZZ.out.2.2]; rfl, by rw [ZZ.out.2.1]; exact World.ownsRow_nil _ _ _ _, ?_, ?_⟩
  ·exact ⟨d, (HT.out.below HB3.out hgl).below (((Below.refl w.heap.size w3).setCell (Nat.le_refl _) _).setCell (Nat.le_refl _) _) hgl⟩
  ·exact Chg.of_below ((HB3.out.setCell (Nat.le_refl _) _).setCell (Nat.le_refl _) _) _
 ·have ZZ := Lib.hid (cut_zero b (by rw [hE]; decide))
  have HE := Lib.hid hE
  have hok := hd_ok b HBS.out (by have := LN.out; omega)
  have he : (ee != 0) = false := by rw [HEE.out, hok.2.2]; rfl
  have hk1 : ((k1 : Int) == 0) = false := by simp; rw [HK1.out, hok.1]; omega
  have hk2 : ((k2 : Int) ≤ 16384) := by have := hok.2.1; have := HK2.out; omega
  have hk3 : ((n : Int) < 3 + k2 + 4) := by have := hok.2.1; have := HK2.out; omega
  clear hE hok h0 hb1 hb2
  exact rp40
 ·have HE := Lib.hid hE
  have H0 := Lib.hid h0
  have hok := hd_ok b HBS.out (by have := LN.out; omega)
  have he : (ee != 0) = false := by rw [HEE.out, hok.2.2]; rfl
  have hk1 : ((k1 : Int) == 0) = false := by simp; rw [HK1.out, hok.1]; omega
  have hk2 : ((k2 : Int) ≤ 16384) := by have := hok.2.1; have := HK2.out; omega
  have HK : Hid (k1 = b.getD 0 0 ∧ k2 = frN b) := Lib.hid ⟨by rw [HK1.out, hok.1], by rw [HK2.out, hok.2.1]⟩
  obtain ⟨sz, hsz⟩ : ∃ sz : Nat, 3 + (k2 : Int) + 4 = (sz : Int) := ⟨k2 + 7, by omega⟩
  have hsn : sz ≤ n := by have := HK.out.2; omega
  have hk4 : decide ((n : Int) < (sz : Int)) = false := by simp; omega
  have d0 : w3.cell? ⟨c, 0, none⟩ = some (.pointer (some ⟨g, 0, none⟩)) := (HC.out.below HB3.out hcl).cell 0
  have hr3 := HR.out.below (HB3.out.mono hB)
  have hr4 := hr3.take (k := sz) hsn
  rw [bI_take_map] at hr4
  have hsz2 : sz = k2 + 7 := by omega
  have C := Lib.hid (crcFits_any g d A sz sz B (b.take sz) (isBs_take HBS.out sz) w3 (HT.out.below HB3.out hgl) hr4 (Nat.le_trans hB HB3.out.size) (fun ad h0 he => HAA.out ad (by omega) he) (by omega) (Nat.le_refl _) (by omega))
  have HFT : Hid (fitsL (b.take sz) = fitsL (b.take (frN b + 7))) := Lib.hid (by rw [hsz2, HK.out.2])
  rw [HFT.out] at C
  have hA1 : ∃ b0 o, A = some ⟨b0, o, none⟩ := by
   obtain ⟨ad, hA, _, hc⟩ := HR.out.2 (by omega)
   obtain ⟨b0, o, spot⟩ := ad
   have h00 : ((bI b).map (Value.int .u8))[0]? = some (((bI b).map (Value.int .u8))[0]'(by simp [bI]; have := LN.out; omega)) := List.getElem?_eq_getElem _
   have := World.cell?_spot (hc 0 _ h00)
   exact ⟨b0, o, by rw [hA]; congr 1; simpa [Addr.add] using this⟩
  obtain ⟨b0, o, rfl⟩ := hA1
  have hr5 := (hr4.cut (k := 3) (cap := sz) (by omega) (Nat.le_refl _)).take (k := k2) (by omega)
  rw [Nat.mul_one, bI_drop_map, bI_take_map, if_neg (by omega)] at hr5
  have HR5 : Hid (Reads w3 B 1 (some ⟨b0, o + 3, none⟩) k2 ((bI ((b.drop 3).take k2)).map (Value.int .u8))) := Lib.hid (by
   have e : ((b.take sz).drop 3).take k2 = (b.drop 3).take k2 := by
    rw [List.drop_take, List.take_take, Nat.min_eq_left (by omega)]
   rw [e] at hr5
   exact hr5)
  have HNE := Lib.hid (HAA.out ⟨b0, o, none⟩ (by omega) rfl)
  generalize hfb : fitsL (b.take (frN b + 7)) = fb at *
  have hw : IntKind.u8.wrap (k1 : Int) = k1 := by
   have := HBS.out (b.getD 0 0) (by rw [List.getD_eq_getElem?_getD, List.getElem?_eq_getElem (show 0 < b.length by have := LN.out; omega)]; exact List.getElem_mem _)
   have := HK.out.1
   rw [IntKind.wrap_u8']; omega
  have hk256 : k1 < 256 := by
   have := HBS.out (b.getD 0 0) (by rw [List.getD_eq_getElem?_getD, List.getElem?_eq_getElem (show 0 < b.length by have := LN.out; omega)]; exact List.getElem_mem _)
   have := HK.out.1
   omega
  have HSZ := Lib.hid hsz2
  clear hE hok h0 hb1 hb2 hr3 hr4 hr5 hfb hsz2
  cases fb
  ·have ZZ := Lib.hid (cut_zero b (by rw [HE.out]; decide))
   go_wp2_with (fail)
   with_reducible refine C.out.mono ?_
   rintro e w4 ⟨rfl, h1, h2⟩
   have H1 := Lib.hid h1
   have H2 := Lib.hid h2
   have c0' : w4.cell? ⟨w.heap.size, 0, none⟩ = some (.int .u8 0) := (h2.blk HR3.out (by omega)).cell 0
   have c1' : w4.cell? ⟨w.heap.size, 1, none⟩ = some (.slice none 0 0) := (h2.blk HR3.out (by omega)).cell 1
   have f0' := (h2.blk HR3.out (by omega)).frozen 0
   have f1' := (h2.blk HR3.out (by omega)).frozen 1
   have hs4 := h2.size
   clear h1 h2 C c0 c1 f0 f1 d0
   go_wp2_with (fail)
   refine bodyPost_ret (v := .tuple #[.agg #[.int .u8 0, .slice none 0 0], .int .i64 0, .int .i64 5]) (by simp [results, Tryz.results111, go_sem, *]) rfl ⟨.slice none 0 0, by rw [HE.out, ZZ.out.1, ZZ.out.2.2]; rfl, by rw [ZZ.out.2.1]; exact World.ownsRow_nil _ _ _ _, ?_, ?_⟩
   ·exact ⟨true, H1.out.below (((Below.refl w.heap.size w4).setCell (Nat.le_refl _) _).setCell (Nat.le_refl _) _) hgl⟩
   ·exact Chg.setNew (Chg.setNew ((Chg.of_below HB3.out (fun k => k = g)).trans H2.out (fun _ _ h => h)) (Nat.le_refl _) _) (Nat.le_refl _) _
  ·have CC := Lib.hid (cut_some b (by rw [HE.out]; rfl))
   go_wp2_with (fail)
   with_reducible refine C.out.mono ?_
   rintro e w4 ⟨rfl, h1, h2⟩
   have H1 := Lib.hid h1
   have H2 := Lib.hid h2
   have HR6 := Lib.hid (h2.reads HR5.out (Nat.le_trans hB HB3.out.size) (fun ad h0 he => by injection he with he; subst he; exact HNE.out))
   have HR4 := Lib.hid (h2.blk HR3.out (by omega))
   have hs4 := h2.size
   have hs3 := HB3.out.size
   have hlt4 := HR4.out.lt
   have hw3 : wrap64 ((3 : Int) + k2) = 3 + k2 := by unfold wrap64; omega
   clear h1 h2 C c0 c1 f0 f1 d0 hw3
   go_wp2_with (fail)
   have D := Lib.hid (bytesClone_any (some ⟨b0, o + 3, none⟩) k2 (sz - 3) B (bI ((b.drop 3).take k2)) w4 (by omega) HR6.out (by omega))
   with_reducible refine D.out.mono ?_
   rintro e w5 ⟨v, rfl, h1, h2⟩
   obtain ⟨A5, c5, rfl, _, _, _⟩ := own_slice h1
   have H5 := Lib.hid h1
   have HB5 := Lib.hid h2
   have r5 := HR4.out.below h2 hlt4
   have c0' : w5.cell? ⟨w.heap.size, 0, none⟩ = some (.int .u8 0) := r5.cell 0
   have c1' : w5.cell? ⟨w.heap.size, 1, none⟩ = some (.slice none 0 0) := r5.cell 1
   have f0' := r5.frozen 0
   have f1' := r5.frozen 1
   clear h1 h2 D r5
   go_wp2_with (fail)
   refine bodyPost_ret (v := .tuple #[.agg #[.int .u8 k1, .slice A5 k2 c5], .int .i64 sz, .int .i64 0]) (by simp [results, Tryz.results111, go_sem, *]) rfl ⟨.slice A5 k2 c5, ?_, ?_, ?_, ?_⟩
   ·rw [HE.out, CC.out.1, CC.out.2.2, ← HK.out.1, ← HK.out.2, HSZ.out]; rfl
   ·have hlen : ((b.drop 3).take k2).length = k2 := by rw [List.length_take, List.length_drop]; have := LN.out; have := HSZ.out; omega
    rw [CC.out.2.1, ← HK.out.2, hlen]
    exact Go.Joins.ownsRow_le (ownsRow_setCell_below (ownsRow_setCell_below H5.out hlt4 _) hlt4 _) (by omega)
   ·exact ⟨true, ((H1.out.below HB5.out (by omega)).below (((Below.refl w.heap.size w5).setCell (Nat.le_refl _) _).setCell (Nat.le_refl _) _) hgl)⟩
   ·exact Chg.setNew (Chg.setNew (((Chg.of_below HB3.out (fun k => k = g)).trans H2.out (fun _ _ h => h)).trans (Chg.of_below HB5.out (fun k => k = g)) (fun _ _ h => h)) (Nat.le_refl _) _) (Nat.le_refl _) _
end Go.Proofs.YtmpedblelnpjdaaGreatDoor
/- Package frame: Cut, Get. -/
namespace Go.Proofs.YtmpedblelnpjdaaGreatDoor
open Go.RowKit
set_option linter.unusedSimpArgs false
set_option linter.unusedVariables false
set_option maxRecDepth 100000
set_option maxHeartbeats 2000000
theorem Chg.sub {w w' : World} {S T : Nat → Prop} (h : Chg w w' S) (hT : ∀ i, S i → T i) : Chg w w' T := h.mono (fun i _ hi => hT i hi)
theorem Cd.chg {w w' : World} {c g : Nat} {d d' : Bool} {x y : Int} (h : Cd w c g d x y) (hc : Chg w w' (fun k => k = g)) (ht : Tb w' g d') : Cd w' c g d' x y :=
 ⟨hc.blk h.1 (tb_ne h.1 h.2 (by decide)), ht⟩
theorem own_chg2 {w w' : World} {base n c : Nat} {v : Value} {xs : List Value} (h : w.ownsRow base 5 1 v n xs) (hc : Chg w w' (fun k => k = c)) (hb : c < base) : w'.ownsRow base 5 1 v n xs :=
 hc.own h (fun k hk e => by have := (h.lt k hk).1; omega)
def cntX (x : Int) (e : Nat) : Int := if e = 0 then x + 1 else x
def cntY (y : Int) (e : Nat) : Int := if e = 0 then y else y + 1
def getE (b : List Nat) : Nat := if cutE b = 0 ∧ cutL b < b.length then 4 else cutE b
def getK (b : List Nat) : Nat := if getE b = 0 then cutK b else 0
def getB (b : List Nat) : List Nat := if getE b = 0 then cutB b else []
theorem getE_eq (b : List Nat) : getE b = if cutE b = 0 ∧ cutL b < b.length then 4 else cutE b := rfl
theorem get_zero (b : List Nat) (h : getE b ≠ 0) : getK b = 0 ∧ getB b = [] := by
 unfold getK getB
 rw [if_neg h, if_neg h]; exact ⟨rfl, rfl⟩
theorem get_some (b : List Nat) (h : getE b = 0) : getK b = cutK b ∧ getB b = cutB b := by
 unfold getK getB
 rw [if_pos h, if_pos h]; exact ⟨rfl, rfl⟩
theorem cdGet_any (c g : Nat) (d : Bool) (x y : Int) (A : Option Addr) (n cp B : Nat) (b : List Nat) (w : World) (h : Cd w c g d x y) (hr : Reads w B 1 A n ((bI b).map (Value.int .u8))) (hb : isBs b) (hB : B ≤ w.heap.size)
  (hA : ∀ ad, 0 < n → A = some ad → ad.block ≠ g) (hn : n ≤ 900000000) (hnc : n ≤ cp) (hc : cp ≤ 9223372036854775807) (hx : 0 ≤ x ∧ x ≤ 1000000) (hy : 0 ≤ y ∧ y ≤ 1000000) :
  Calls Tryz.prog 43 #[.pointer (some ⟨c, 0, none⟩), .slice A n cp] w fun e w' => ∃ v, e = .returned (.tuple #[.agg #[.int .u8 (getK b), v], .int .i64 (getE b)]) ∧
   w'.ownsRow w.heap.size 5 1 v (getB b).length ((bI (getB b)).map (Value.int .u8)) ∧ (∃ d', Cd w' c g d' (cntX x (getE b)) (cntY y (getE b))) ∧ Chg w w' (fun k => k = g ∨ k = c) := by
 have hcl := h.1.lt
 have hgl := h.2.lt
 have hb0 : Below w.heap.size w (w.alloc (.cells #[.int .u8 0, .slice none 0 0] 111)) := (Below.refl _ _).alloc (Nat.le_refl _) _
 have hcd0 := h.below hb0 hcl hgl
 have F := Lib.hid (first_any c g d x y A n cp B b _ hcd0 (hr.alloc hB _) hb (by simp; omega) hA hn hnc hc)
 have R0 : Hid (Blk (w.alloc (.cells #[.int .u8 0, .slice none 0 0] 111)) w.heap.size 111 #[.int .u8 0, .slice none 0 0]) := Lib.hid (Blk.new w _ _)
 have HB0 := Lib.hid hb0
 have CD0 := Lib.hid hcd0
 have HZ := Lib.hid (get_zero b)
 have HO := Lib.hid (get_some b)
 have LN := Lib.hid (reads_len hr)
 have HGE := Lib.hid (getE_eq b)
 have hs0 : (w.alloc (.cells #[.int .u8 0, .slice none 0 0] 111)).heap.size = w.heap.size + 1 := by simp
 have HS0 := Lib.hid hs0
 rw [LN.out] at HGE
 generalize getE b = ge at *
 generalize getK b = gk at *
 generalize getB b = gb at *
 generalize cutE b = ee at *
 generalize cutK b = kk at *
 generalize cutL b = ll at *
 generalize cutB b = body at *
 clear h hr hb hA hb0 hcd0 hs0
 go_enter Tryz.func43, Tryz.ntmps43
 go_wp2_with (fail)
 refine F.out.mono ?_
 rintro e w1 ⟨v, rfl, h1, ⟨d', h2⟩, h3⟩
 obtain ⟨A1, c1, rfl, _, _, _⟩ := own_slice h1
 have hw1 : w.heap.size < w1.heap.size := by have := h3.size; simp at this; omega
 obtain ⟨w5, hw5⟩ : ∃ w5, w5 = w1.alloc (.cells #[.int .u8 kk, .slice A1 body.length c1] 111) := ⟨_, rfl⟩
 have hb5 : Below w1.heap.size w1 w5 := by rw [hw5]; exact (Below.refl _ _).alloc (Nat.le_refl _) _
 have FB : Hid (Blk w5 w1.heap.size 111 #[.int .u8 kk, .slice A1 body.length c1]) := Lib.hid (by rw [hw5]; exact Blk.new _ _ _)
 have RB : Hid (Blk w5 w.heap.size 111 #[.int .u8 0, .slice none 0 0]) := Lib.hid ((h3.blk R0.out (by omega)).below hb5 hw1)
 have CD5 : Hid (Cd w5 c g d' x y) := Lib.hid ((CD0.out.chg h3 h2).below hb5 (by omega) (by omega))
 have OW5 : Hid (w5.ownsRow (w.heap.size + 1) 5 1 (.slice A1 body.length c1) body.length ((bI body).map (Value.int .u8))) := Lib.hid (by rw [← HS0.out]; exact own_block_same h1 (fun k hk => hb5.block k (h1.lt k hk).2))
 have CH5 : Hid (Chg w w5 (fun k => k = g ∨ k = c)) := Lib.hid (((Chg.of_below HB0.out (fun k => k = g ∨ k = c)).trans (h3.sub (fun i hi => Or.inl hi)) (fun _ _ h => h)).trans (Chg.of_below hb5 _) (fun _ _ h => h))
 have hsz5 := hb5.size
 clear h1 h2 h3 hb5 F CD0 R0 HB0
 have HW5 := Lib.hid hw5
 by_cases he : ee = 0 ∧ ¬ ll < n
 ·obtain ⟨he, hl⟩ := he
  subst he
  have hge : ge = 0 := by rw [HGE.out, if_neg (fun h => hl h.2)]
  have OO := Lib.hid (HO.out hge)
  subst hge
  have hd2 : (n : Int) ≤ (ll : Int) := by omega
  clear hl
  have T := Lib.hid (told_any c g d' x y 1 0 w5.drew CD5.out (by omega) (by omega))
  clear hw5
  go_wp2_with (fail)
  rw [← HW5.out]
  have p0 : w5.cell? ⟨w1.heap.size, 0, none⟩ = some (.int .u8 kk) := FB.out.cell 0
  have p1 : w5.cell? ⟨w1.heap.size, 1, none⟩ = some (.slice A1 body.length c1) := FB.out.cell 1
  have hfb := FB.out.lt
  have hcf : Hid (c ≠ w1.heap.size ∧ c ≠ w.heap.size) := Lib.hid ⟨by omega, by omega⟩
  have hne1 : w1.heap.size ≠ w.heap.size := by omega
  have hne2 : w.heap.size ≠ w1.heap.size := by omega
  clear HW5
  generalize w1.heap.size = fB at *
  go_region_held3 (fun w' => w'.cell? ⟨fB, 0, none⟩ = some (.int .u8 kk) ∧ w'.cell? ⟨fB, 1, none⟩ = some (.slice A1 body.length c1)) (go_keep) (first
   | (go_at_call 112; refine T.out.mono ?_; rintro e w6 ⟨rfl, h1, h2⟩; have q0 := (h2.cell (p := ⟨fB, 0, none⟩) hfb (fun e => hcf.out.1 e.symm)).trans p0; have q1 := (h2.cell (p := ⟨fB, 1, none⟩) hfb (fun e => hcf.out.1 e.symm)).trans p1; have RB6 := Lib.hid (h2.blk RB.out (fun e => hcf.out.2 e.symm)); have r0 : w6.cell? ⟨w.heap.size, 0, none⟩ = some (.int .u8 0) := RB6.out.cell 0; have r1 : w6.cell? ⟨w.heap.size, 1, none⟩ = some (.slice none 0 0) := RB6.out.cell 1; have f0 := RB6.out.frozen 0; have f1 := RB6.out.frozen 1; have H1 := Lib.hid h1; have H2 := Lib.hid h2; clear h1 h2)
   | fail)
  go_wp2_with (fail)
  refine bodyPost_ret (v := .tuple #[.agg #[.int .u8 kk, .slice A1 body.length c1], .int .i64 0]) (by simp [results, Tryz.results43, go_sem, *]) rfl ⟨.slice A1 body.length c1, by rw [OO.out.1]; rfl, ?_, ?_, ?_⟩
  ·rw [OO.out.2]; refine Go.Joins.ownsRow_le (ownsRow_setCell_below (ownsRow_setCell_below (own_chg2 (w := w5.drew) (c := c) OW5.out H2.out (by omega)) (Nat.lt_succ_self _) _) (Nat.lt_succ_self _) _) (Nat.le_succ _)
  ·refine ⟨d', ?_⟩
   exact rp66
  ·exact Chg.setNew (Chg.setNew (CH5.out.trans ((Chg.refl w5 (fun k => k = c)).drewN 1 |>.trans (H2.out) (fun _ _ h => h) |>.sub (fun i hi => Or.inr hi)) (fun _ _ h => h)) (Nat.le_refl _) _) (Nat.le_refl _) _
 ·have hge : ge ≠ 0 := by rw [HGE.out]; split <;> omega
  have Z := Lib.hid (HZ.out hge)
  have T := Lib.hid (told_any c g d' x y 0 ge w5 CD5.out (by omega) (by omega))
  have HX : Hid (cntX x ge = x + ((0 : Nat) : Int) ∧ cntY y ge = if ge = 0 then y else y + 1) := Lib.hid ⟨by rw [cntX, if_neg hge]; simp, rfl⟩
  have hcase : (ee = 0 ∧ ll < n ∧ ge = 4) ∨ (ee ≠ 0 ∧ ge = ee) := by
   by_cases h0 : ee = 0
   ·have hl : ll < n := by
     rcases Nat.lt_or_ge ll n with h | h
     ·exact h
     ·exact absurd ⟨h0, by omega⟩ he
    exact .inl ⟨h0, hl, by rw [HGE.out, if_pos ⟨h0, hl⟩]⟩
   ·exact .inr ⟨h0, by rw [HGE.out, if_neg (fun h => h0 h.1)]⟩
  clear he hge
  rw [hw5] at T
  clear hw5
  rcases hcase with ⟨rfl, hl, rfl⟩ | ⟨h0, rfl⟩
  ·have hd2 : (ll : Int) < (n : Int) := by omega
   go_wp2_with (fail)
   refine T.out.mono ?_
   rintro e w6 ⟨rfl, h1, h2⟩
   rw [← HW5.out] at h2
   have r6 := h2.blk RB.out (by omega)
   have r0 : w6.cell? ⟨w.heap.size, 0, none⟩ = some (.int .u8 0) := r6.cell 0
   have r1 : w6.cell? ⟨w.heap.size, 1, none⟩ = some (.slice none 0 0) := r6.cell 1
   have f0 := r6.frozen 0
   have f1 := r6.frozen 1
   have H1 := Lib.hid h1
   have H2 := Lib.hid (CH5.out.trans (h2.sub (fun i hi => Or.inr hi)) (fun _ _ h => h))
   have hs6 := h2.size
   clear h1 h2 T r6
   go_wp2_with (fail)
   refine bodyPost_ret (v := .tuple #[.agg #[.int .u8 0, .slice none 0 0], .int .i64 4]) (by simp [results, Tryz.results43, go_sem, *]) rfl ⟨.slice none 0 0, by rw [Z.out.1]; rfl, by rw [Z.out.2]; exact World.ownsRow_nil _ _ _ _, ?_, ?_⟩
   ·refine ⟨d', ?_⟩
    rw [HX.out.1, HX.out.2]
    exact rp66
   ·exact Chg.setNew (Chg.setNew H2.out (Nat.le_refl _) _) (Nat.le_refl _) _
  ·have he1 : ((ge : Int) != 0) = true := by simp; omega
   have he2 : ((ge : Int) == 0) = false := by simp; omega
   clear h0
   go_wp2_with (fail)
   refine T.out.mono ?_
   rintro e w6 ⟨rfl, h1, h2⟩
   rw [← HW5.out] at h2
   have r6 := h2.blk RB.out (by omega)
   have r0 : w6.cell? ⟨w.heap.size, 0, none⟩ = some (.int .u8 0) := r6.cell 0
   have r1 : w6.cell? ⟨w.heap.size, 1, none⟩ = some (.slice none 0 0) := r6.cell 1
   have f0 := r6.frozen 0
   have f1 := r6.frozen 1
   have H1 := Lib.hid h1
   have H2 := Lib.hid (CH5.out.trans (h2.sub (fun i hi => Or.inr hi)) (fun _ _ h => h))
   have hs6 := h2.size
   clear h1 h2 T r6
   go_wp2_with (fail)
   refine bodyPost_ret (v := .tuple #[.agg #[.int .u8 0, .slice none 0 0], .int .i64 ge]) (by simp [results, Tryz.results43, go_sem, *]) rfl ⟨.slice none 0 0, by rw [Z.out.1]; rfl, by rw [Z.out.2]; exact World.ownsRow_nil _ _ _ _, ?_, ?_⟩
   ·refine ⟨d', ?_⟩
    rw [HX.out.1, HX.out.2]
    exact rp66
   ·exact Chg.setNew (Chg.setNew H2.out (Nat.le_refl _) _) (Nat.le_refl _) _
end Go.Proofs.YtmpedblelnpjdaaGreatDoor
/- Package frame: the reference's Cut, Get; the law's like. -/
namespace Go.Proofs.YtmpedblelnpjdaaGreatDoor
open Go.RowKit
set_option linter.unusedSimpArgs false
set_option linter.unusedVariables false
set_option maxRecDepth 100000
set_option maxHeartbeats 2000000
theorem plain_addr {w : World} {B n : Nat} {A : Option Addr} {l : List Nat} (h : Reads w B 1 A n ((bI l).map (Value.int .u8))) (hn : 0 < n) : ∃ b0 o, A = some ⟨b0, o, none⟩ ∧ b0 < B := by
 have hl := reads_len h
 obtain ⟨ad, hA, hb, hc⟩ := h.2 hn
 obtain ⟨b0, o, spot⟩ := ad
 have h00 : ((bI l).map (Value.int .u8))[0]? = some (((bI l).map (Value.int .u8))[0]'(by simp [bI]; omega)) := List.getElem?_eq_getElem _
 have := World.cell?_spot (hc 0 _ h00)
 exact ⟨b0, o, by rw [hA]; congr 1; simpa [Addr.add] using this, hb⟩
end Go.Proofs.YtmpedblelnpjdaaGreatDoor
/- Package frame: Put, and of no codec; the law's awake. -/
namespace Go.Proofs.YtmpedblelnpjdaaGreatDoor
open Go.RowKit
set_option linter.unusedSimpArgs false
set_option linter.unusedVariables false
set_option maxRecDepth 100000
set_option maxHeartbeats 2000000
def putE (k : Nat) (l : List Nat) : Nat := if k = 0 then 4 else if 16384 < l.length then 6 else 0
def putB (k : Nat) (l : List Nat) : List Nat := k :: (l.length / 256) :: (l.length % 256) :: l
def putS (k : Nat) (l : List Nat) : List Nat := if putE k l = 0 then sealB (putB k l) else []
theorem putS_len (k : Nat) (l : List Nat) (h : putE k l = 0) : (putS k l).length = l.length + 7 := by
 unfold putS; rw [if_pos h]; simp [sealB, putB, le4]
theorem putB_bs (k : Nat) (l : List Nat) (hk : k < 256) (hl : isBs l) (hn : l.length < 65536) : isBs (putB k l) := by
 intro b hb
 simp only [putB, List.mem_cons] at hb
 rcases hb with rfl | rfl | rfl | hb
 ·exact hk
 ·omega
 ·omega
 ·exact hl b hb
theorem big1 (k : Nat) (h : k < 256) : big k 1 = [(k : Int)] := by
 simp [big, digit, List.range, List.range.loop]; omega
theorem big2 (n : Nat) (h : n < 65536) : big n 2 = [((n / 256 : Nat) : Int), ((n % 256 : Nat) : Int)] := by
 simp [big, digit, List.range, List.range.loop]; omega
theorem put_fo1 (k : Nat) (m : Int) (hk : k < 256) (hm : 1 ≤ m) : FO.num ⟨[], m, 0⟩ k 1 = ⟨[(k : Int)], m, 0⟩ := by
 unfold FO.num FO.put
 rw [show knownB 1 = true from rfl, if_pos rfl, show ((1 : Int).toNat) = 1 from rfl, show fitsB k 1 = true by rw [fitsB, decide_eq_true_eq]; omega, if_pos rfl, big1 k hk]
 have h2 : ¬ m - ((([] : List Int).length : Nat) : Int) < (([(k : Int)].length : Nat) : Int) := by simp; omega
 simp only [if_true, if_neg h2]
 rfl
theorem put_fo2 (k : Nat) (l : List Nat) (m : Int) (hn : l.length < 65536) (hm : (l.length : Int) + 3 ≤ m) : FO.text ⟨[(k : Int)], m, 0⟩ (bI l) = ⟨bI (putB k l), m, 0⟩ := by
 unfold FO.text FO.put
 rw [bI_len, if_neg (by omega), big2 l.length hn]
 have h2 : ¬ m - (([(k : Int)].length : Nat) : Int) < ((([((l.length / 256 : Nat) : Int), ((l.length % 256 : Nat) : Int)] ++ bI l).length : Nat) : Int) := by simp [bI_len]; omega
 simp only [if_true, if_neg h2]
 rfl
theorem cdPut_any (c g : Nat) (d : Bool) (x y : Int) (k : Nat) (A : Option Addr) (n cp B : Nat) (l : List Nat) (w : World) (h : Cd w c g d x y) (hr : Reads w B 1 A n ((bI l).map (Value.int .u8))) (hl : isBs l) (hB : B ≤ w.heap.size)
  (hA : ∀ ad, 0 < n → A = some ad → ad.block ≠ g) (hn : n ≤ 900000000) (hk : k < 256) :
  Calls Tryz.prog 61 #[.pointer (some ⟨c, 0, none⟩), .agg #[.int .u8 k, .slice A n cp]] w fun e w' => ∃ v, e = .returned (.tuple #[v, .int .i64 (putE k l)]) ∧
   w'.ownsRow w.heap.size 5 1 v (putS k l).length ((bI (putS k l)).map (Value.int .u8)) ∧ (∃ d', Cd w' c g d' x y) ∧ Chg w w' (fun k => k = g) := by
 have hcl := h.1.lt
 have hgl := h.2.lt
 have H := Lib.hid h
 have LN := Lib.hid (reads_len hr)
 have hb0 : Below w.heap.size w (w.alloc (.cells #[.int .u8 k, .slice A n cp] 111)) := (Below.refl _ _).alloc (Nat.le_refl _) _
 have HB0 := Lib.hid hb0
 have HR0 := Lib.hid (hr.alloc hB (.cells #[.int .u8 k, .slice A n cp] 111))
 have BX : Hid (Blk (w.alloc (.cells #[.int .u8 k, .slice A n cp] 111)) w.heap.size 111 #[.int .u8 k, .slice A n cp]) := Lib.hid (Blk.new w _ _)
 clear h hr hb0
 by_cases h0 : k = 0
 ·subst h0
  have HE : Hid (putE 0 l = 4 ∧ putS 0 l = []) := Lib.hid ⟨rfl, rfl⟩
  go_enter Tryz.func61, Tryz.ntmps61
  go_wp2_with (fail)
  go_ret2
  exact ⟨.slice none 0 0, by rw [HE.out.1]; rfl, by rw [HE.out.2]; exact World.ownsRow_nil _ _ _ _, ⟨d, H.out.below HB0.out hcl hgl⟩, Chg.of_below HB0.out _⟩
 have hk0 : ((k : Int) == 0) = false := by simp; omega
 by_cases h1 : 16384 < n
 ·have HE : Hid (putE k l = 6 ∧ putS k l = []) := Lib.hid (by
   have e : putE k l = 6 := by unfold putE; rw [if_neg h0, if_pos (by rw [LN.out]; exact h1)]
   exact ⟨e, by unfold putS; rw [e]; rfl⟩)
  have h1' : (16384 : Int) < n := by omega
  clear h0 h1
  go_enter Tryz.func61, Tryz.ntmps61
  go_wp2_with (fail)
  go_ret2
  exact ⟨.slice none 0 0, by rw [HE.out.1]; rfl, by rw [HE.out.2]; exact World.ownsRow_nil _ _ _ _, ⟨d, H.out.below HB0.out hcl hgl⟩, Chg.of_below HB0.out _⟩
 ·have HE : Hid (putE k l = 0 ∧ putS k l = sealB (putB k l)) := Lib.hid (by
   have e : putE k l = 0 := by unfold putE; rw [if_neg h0, if_neg (by rw [LN.out]; exact h1)]
   exact ⟨e, by unfold putS; rw [e]; rfl⟩)
  have h1' : (n : Int) ≤ 16384 := by omega
  obtain ⟨m, hm⟩ : ∃ m : Int, m = 3 + (n : Int) := ⟨_, rfl⟩
  have HM := Lib.hid hm
  clear h0 h1 hm
  go_enter Tryz.func61, Tryz.ntmps61
  go_wp2_with (fail)
  refine (new_any (3 + (n : Int)) (by omega) _).mono ?_
  rintro e w2 ⟨rfl, g1, g2⟩
  have hgo : (w.alloc (.cells #[.int .u8 k, .slice A n cp] 111)).heap.size = w.heap.size + 1 := by simp
  rw [hgo] at g1 g2
  rw [atLeast0, if_pos (by omega), ← HM.out] at g1
  have HB2 := Lib.hid (g2)
  have b2 := BX.out.below g2 (by omega)
  have HR2 := Lib.hid (HR0.out.below (g2.mono (by omega)))
  have e0 : w2.cell? ⟨w.heap.size, 0, none⟩ = some (.int .u8 k) := b2.cell 0
  have e1 : w2.cell? ⟨w.heap.size, 1, none⟩ = some (.slice A n cp) := b2.cell 1
  have P1 := putNum_any (w.heap.size + 1) _ ⟨[], m, 0⟩ k 1 w2 (by omega) g1 (by simp)
  rw [put_fo1 k m hk (by have := HM.out; omega)] at P1
  have BX2 := Lib.hid b2
  have P1 := Lib.hid P1
  have hs2 := g2.size
  have hg2 := g1.1.lt
  clear g1 g2 b2
  go_wp2_with (fail)
  refine P1.out.mono ?_
  rintro e w3 ⟨rfl, v3, o3, s3⟩
  have hb3 : Below (w.heap.size + 1) w2 w3 := s3.2.below (by omega) (fun k hk e => by
   rcases e with e | e
   ·omega
   ·simp [Value.ownBlock] at e)
  have BX3 := BX2.out.below hb3 (by omega)
  have f0 : w3.cell? ⟨w.heap.size, 0, none⟩ = some (.int .u8 k) := BX3.cell 0
  have f1 : w3.cell? ⟨w.heap.size, 1, none⟩ = some (.slice A n cp) := BX3.cell 1
  have T := text_any (w.heap.size + 1) v3 ⟨[(k : Int)], m, 0⟩ A n cp B (bI l) w3 o3 (by have := hb3.size; omega) (HR2.out.below (hb3.mono (by omega))) (by rw [bI_len, LN.out]) (by simp) (by omega)
  rw [put_fo2 k l m (by have := LN.out; omega) (by have := HM.out; have := LN.out; omega)] at T
  have T := Lib.hid T
  have S3 := Lib.hid s3
  clear o3 s3 hb3 BX3 e0 e1
  go_wp2_with (fail)
  refine T.out.mono ?_
  rintro e w4 ⟨rfl, v4, o4, s4⟩
  have hs4 := (S3.out.trans s4).2
  have hb4 : Below (w.heap.size + 1) w2 w4 := hs4.below (by omega) (fun k hk e => by
   rcases e with e | e
   ·omega
   ·simp [Value.ownBlock] at e)
  have D := Lib.hid (done_any (w.heap.size + 1) v4 _ w4 o4 (by rw [bI_len]; have := LN.out; simp [putB]; omega))
  have HB4 := Lib.hid (HB0.out.trans ((HB2.out.trans hb4).mono (by omega)))
  have hz4 := hb4.size
  clear o4 s4 hs4 hb4 f0 f1 T
  simp only [if_true] at D
  go_wp2_with (fail)
  refine D.out.mono ?_
  rintro e w5 ⟨u, rfl, h1, h2⟩
  obtain ⟨A5, c5, he5, r5, a5, l5, m5⟩ := own_far (g := g) h1 (by omega)
  subst he5
  have HB5 := Lib.hid (HB4.out.trans (h2.mono (by omega)))
  have CD5 := Lib.hid (H.out.below HB5.out hcl hgl)
  have k0 : w5.cell? ⟨c, 0, none⟩ = some (.pointer (some ⟨g, 0, none⟩)) := CD5.out.1.cell 0
  have hln : (bI (putB k l)).length = n + 3 := by rw [bI_len]; have := LN.out; simp [putB]; omega
  have hlb : isBs (putB k l) := putB_bs k l hk hl (by have := LN.out; omega)
  have SL := Lib.hid (crcSeal_any g d A5 (bI (putB k l)).length c5 w5.heap.size (putB k l) hlb w5 CD5.out.2 r5 (Nat.le_refl _) a5 (by omega))
  have hs5 := HB5.out.size
  clear h1 h2 D r5 a5
  generalize (bI (putB k l)).length = pl at *
  have HLN := Lib.hid hln
  clear hln
  go_wp2_with (fail)
  with_reducible refine SL.out.mono ?_
  rintro e w6 ⟨v, rfl, h0, h1, h2⟩
  have HS6 : Hid (w6.ownsRow w.heap.size 5 1 v (putS k l).length ((bI (putS k l)).map (Value.int .u8))) := Lib.hid (by
   have hq : (putS k l).length = pl + 4 := by rw [putS_len k l HE.out.1]; have e1 := LN.out; have e2 := HLN.out; omega
   rw [hq, HE.out.2]
   exact Go.Joins.ownsRow_le h0 hs5)
  have H6 : Hid (Cd w6 c g true x y) := Lib.hid (CD5.out.chg h2 h1)
  have C6 := Lib.hid ((Chg.of_below HB5.out (fun k => k = g)).trans h2 (fun _ _ h => h))
  clear h0 h1 h2 SL
  go_wp2_with (fail)
  go_ret2
  exact ⟨v, by rw [HE.out.1]; rfl, HS6.out, ⟨true, H6.out⟩, C6.out⟩
end Go.Proofs.YtmpedblelnpjdaaGreatDoor
