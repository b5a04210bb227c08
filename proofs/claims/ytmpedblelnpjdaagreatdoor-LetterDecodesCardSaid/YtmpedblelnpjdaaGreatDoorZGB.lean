/- GB: FixA FixB FixC FixD FixE FixF FixG FixH FixI FixP -/
import Derived.Test.YtmpedblelnpjdaaGreatDoorZGA
import Derived.Test.YtmpedblelnpjdaaGreatDoorZTq
import Derived.Test.YtmpedblelnpjdaaGreatDoorRows
import Derived.Lib.AppendZerosOnto
import Derived.Shelf.SlGeneric
import Derived.Laws.BitsAllLaws
import Derived.Lib.SlBytesConst
import Derived.Laws.BytesArg
import Derived.Lib.SmallJoins
/- Contracts of package fix: known, fits, laid. -/
namespace Go.Proofs.YtmpedblelnpjdaaGreatDoor
open Go.RowKit Go.Deep
set_option linter.unusedSimpArgs false
set_option linter.unusedVariables false
set_option maxHeartbeats 1000000
def knownB (w : Int) : Bool := decide (1 ≤ w) && decide (w ≤ 8)
theorem knownB_iff (w : Int) : knownB w = true ↔ 1 ≤ w ∧ w ≤ 8 := by simp [knownB]
theorem knownB_no (w : Int) (h : ¬ (1 ≤ w ∧ w ≤ 8)) : knownB w = false := by
 cases hh : knownB w
 ·rfl
 ·exact absurd ((knownB_iff w).1 hh) h
theorem known_any (i : Int) (w : World) :
  Calls Tryz.prog 129 #[.int .i64 i] w fun e w' => e = .returned (.bool (knownB i)) ∧ w = w' := by
 unfold knownB
 by_cases h1 : 1 ≤ i
 all_goals by_cases h2 : i ≤ 8
 all_goals
  go_enter Tryz.func129, Tryz.ntmps129
  go_wp2
  go_ret
  exact ⟨by simp; omega, rfl⟩
def fitsB (n : Nat) (w : Nat) : Bool := decide (n < 256 ^ w)
theorem pow256 (w : Nat) : 2 ^ (8 * w) = 256 ^ w := by rw [Nat.pow_mul]
theorem fits_eq (n k : Nat) : ((n : Int) / 2 ^ (8 * k) == 0) = fitsB n k := by
 have e : ((n : Int) / 2 ^ (8 * k)) = ((n / 256 ^ k : Nat) : Int) := by rw [← pow256]; simp
 rw [e, fitsB, Bool.eq_iff_iff, beq_iff_eq, decide_eq_true_eq]
 have hp : 0 < 256 ^ k := Nat.pow_pos (by decide)
 constructor
 ·intro h
  have h0 : n / 256 ^ k = 0 := by omega
  exact (Nat.div_eq_zero_iff_lt hp).1 h0
 ·intro h
  rw [Nat.div_eq_of_lt h]; rfl
theorem fits_any (n k : Nat) (hn : n < 18446744073709551616) (hk : 1 ≤ k) (hk8 : k ≤ 8) (w : World) :
  Calls Tryz.prog 131 #[.int .u64 n, .int .i64 k] w fun e w' => e = .returned (.bool (fitsB n k)) ∧ w = w' := by
 by_cases h8 : k = 8
 ·subst h8
  go_enter Tryz.func131, Tryz.ntmps131
  go_wp2
  go_ret
  exact ⟨ret_bool (by rw [fitsB]; simp; omega), rfl⟩
 ·have h8' : ((k : Int) == 8) = false := by simp; omega
  go_enter Tryz.func131, Tryz.ntmps131
  go_wp2
  go_ret
  exact ⟨ret_bool (fits_eq n k), rfl⟩
theorem byteInfo : (Tryz.prog.info? 5).map (fun i => (i.zero, i.size, i.bytes)) = some (some (.int .u8 0), 1, 1) := by kernel_rfl
def digit (n w j : Nat) : Nat := n / 256 ^ (w - 1 - j) % 256
def big (n w : Nat) : List Int := (List.range w).map fun j => ((digit n w j : Nat) : Int)
theorem digit_wrap (n w i : Nat) (hi : i < w) : IntKind.u8.wrap ((n : Int) / 2 ^ (8 * i)) = ((digit n w (w - 1 - i) : Nat) : Int) := by
 have e : ((n : Int) / 2 ^ (8 * i)) = ((n / 256 ^ i : Nat) : Int) := by rw [← pow256]; simp
 rw [e, IntKind.wrap_u8', digit, show w - 1 - (w - 1 - i) = i from by omega]
 rfl
theorem own_of_rowIs {w : World} {base b : Nat} {t : TypeId} {n : Nat} {f : Nat → Value} (h : w.rowIs b t n f) (hb : base ≤ b) (hn : n ≤ maxLen) :
  w.ownsRow base t 1 (.slice (some ⟨b, 0, none⟩) n n) n ((List.range n).map f) := by
 obtain ⟨c, hc, hs, hf⟩ := h
 refine ⟨by simp, .inr ⟨b, n, c, rfl, hb, hc, Nat.le_refl _, hn, by simp [hs], ?_⟩⟩
 rw [Nat.mul_one]
 apply List.ext_getElem?
 intro i
 by_cases hi : i < n
 ·rw [List.getElem?_take_of_lt hi, Array.getElem?_toList, hf i hi, List.getElem?_map, List.getElem?_range hi]; rfl
 ·rw [List.getElem?_eq_none (by rw [List.length_take, Array.length_toList]; omega), List.getElem?_eq_none (by simp; omega)]
theorem laid_any (n k : Nat) (hn : n < 18446744073709551616) (hk : k ≤ 8) (w : World) :
  Calls Tryz.prog 133 #[.int .u64 n, .int .i64 k] w fun e w' => ∃ v, e = .returned v ∧ w'.ownsRow w.heap.size 5 1 v k ((big n k).map (Value.int .u8)) ∧ Below w.heap.size w w' := by
 have hmk := run_make_row' (P := Tryz.prog) 22 5 (.int .u8 0) 1 Tryz.underlying22 byteInfo rfl .i64 .i64 k (by omega) (by omega)
 go_enter Tryz.func133, Tryz.ntmps133
 go_wp2
 clear hmk
 go_loopw [11] (fun i wr => ∃ j : Nat, j ≤ k ∧ i = .int .i64 j ∧ wr.rowIs w.heap.size 5 k (fun x => if k - j ≤ x then .int .u8 (digit n k x : Nat) else .int .u8 0) ∧ Below w.heap.size w wr) (fun i _ => k - (intOf i).toNat)
 case atStart => exact ⟨0, by omega, rfl, (World.rowIs_made w (.int .u8 0) k 5).congr (fun i hi => by rw [if_neg (by omega)]), (Below.refl _ _).alloc (Nat.le_refl _) _⟩
 case round =>
  obtain ⟨j, hj, rfl, hrow, hb⟩ := hrel
  have HR := Lib.hid hrow
  have HB := Lib.hid hb
  by_cases hlt : j < k
  ·have hc := hrow.cell (i := k - 1 - j) (by omega)
   rw [if_neg (by omega)] at hc
   have hf := hrow.frozen (k - 1 - j)
   have hd := digit_wrap n k j hlt
   clear hrow hb
   go_wp2
   go_roundw
   case rel =>
    refine ⟨j + 1, by omega, by go_num, ((HR.out.set (k - 1 - j) _).congr ?_), HB.out.setCell (by simp) _⟩
    intro i hi
    by_cases e : i = k - 1 - j
    ·rw [if_pos e, if_pos (by omega), e]
    ·rw [if_neg e]
     by_cases e2 : k - j ≤ i
     ·rw [if_pos e2, if_pos (by omega)]
     ·rw [if_neg e2, if_neg (by omega)]
   case measure => simp [intOf]; omega
  ·obtain rfl : j = k := by omega
   clear hrow hb
   go_wp2
   go_ret
   refine ⟨_, rfl, ?_, HB.out⟩
   have := own_of_rowIs HR.out (Nat.le_refl _) (by unfold maxLen; omega)
   rw [big, List.map_map]
   simpa [Function.comp_def] using this
end Go.Proofs.YtmpedblelnpjdaaGreatDoor
/- Package fix: what is put (Out), as data, and in memory; contracts of New, fail, put, Raw, Put, Bool. -/
namespace Go.Proofs.YtmpedblelnpjdaaGreatDoor
open Go.RowKit
set_option linter.unusedSimpArgs false
set_option linter.unusedVariables false
set_option maxRecDepth 100000
set_option maxHeartbeats 1000000
structure FO where
 l : List Int
 m : Int
 e : Int
def FO.fail (s : FO) (x : Int) : FO := if s.e = 0 then { s with e := x } else s
def FO.put (s : FO) (b : List Int) : FO := if s.e = 0 then (if s.m - s.l.length < b.length then { s with e := 6 } else { s with l := s.l ++ b }) else s
def FO.num (s : FO) (n : Nat) (w : Int) : FO := if knownB w then (if fitsB n w.toNat then s.put (big n w.toNat) else s.fail 4) else s.fail 1
def FO.text (s : FO) (b : List Int) : FO := if 65535 < b.length then s.fail 4 else s.put (big b.length 2 ++ b)
def FO.bool (s : FO) (x : Bool) : FO := if x then s.num 1 1 else s.num 0 1
def OutAt (w : World) (g : Nat) (v : Value) (s : FO) : Prop :=
 Blk w g 242 #[v, .int .i64 s.m, .int .i64 s.e] ∧ w.ownsRow (g + 1) 5 1 v s.l.length (s.l.map (Value.int .u8)) ∧ (0 ≤ s.m ∧ s.m ≤ 9223372036854775807)
def OutStep (w w' : World) (g : Nat) (v v' : Value) : Prop :=
 (v'.ownBlock = v.ownBlock ∨ ∀ k, v'.ownBlock = some k → w.heap.size ≤ k) ∧ Chg w w' (fun k => k = g ∨ v.ownBlock = some k)
theorem OutStep.refl (w : World) (g : Nat) (v : Value) : OutStep w w g v v := ⟨.inl rfl, Chg.refl _ _⟩
theorem OutStep.trans {a b c : World} {g : Nat} {u v x : Value} (h : OutStep a b g u v) (k : OutStep b c g v x) : OutStep a c g u x := by
 refine ⟨?_, h.2.trans k.2 ?_⟩
 ·rcases k.1 with e | e
  ·rw [e]; exact h.1
  ·exact .inr fun i hi => Nat.le_trans h.2.size (e i hi)
 ·intro i hi hx
  rcases hx with hx | hx
  ·exact .inl hx
  ·rcases h.1 with e | e
   ·rw [e] at hx; exact .inr hx
   ·exact absurd (e i hx) (by omega)
theorem OutStep.pre {a b c : World} {g : Nat} {u v : Value} (h : Below a.heap.size a b) (k : OutStep b c g u v) : OutStep a c g u v :=
 ⟨k.1.imp id (fun e i hi => Nat.le_trans h.size (e i hi)), (Chg.of_below h _).trans k.2 (fun _ _ x => x)⟩
theorem OutAt.chg {w w' : World} {g : Nat} {v : Value} {s : FO} {S : Nat → Prop} (h : OutAt w g v s) (hc : Chg w w' S) (hg : ¬ S g) (hv : ∀ k, v.ownBlock = some k → ¬ S k) : OutAt w' g v s :=
 ⟨hc.blk h.1 hg, hc.own h.2.1 hv, h.2.2⟩
theorem OutAt.below {w w' : World} {g : Nat} {v : Value} {s : FO} (h : OutAt w g v s) (hb : Below w.heap.size w w') : OutAt w' g v s :=
 ⟨h.1.below hb h.1.lt, own_block_same h.2.1 (fun k hk => hb.block k (h.2.1.lt k hk).2), h.2.2⟩
def atLeast0 (m : Int) : Int := if 0 ≤ m then m else 0
theorem new_any (m : Int) (hm : m ≤ 9223372036854775807) (w : World) :
  Calls Tryz.prog 58 #[.int .i64 m] w fun e w' => e = .returned (.pointer (some ⟨w.heap.size, 0, none⟩)) ∧ OutAt w' w.heap.size (.slice none 0 0) ⟨[], atLeast0 m, 0⟩ ∧ Below w.heap.size w w' := by
 by_cases h : 0 ≤ m
 ·rw [atLeast0, if_pos h]
  go_enter Tryz.func58, Tryz.ntmps58
  go_wp2
  go_ret
  exact ⟨rfl, ⟨Blk.new _ _ _, World.ownsRow_nil _ _ _ _, by simp; omega⟩, (Below.refl _ _).alloc (Nat.le_refl _) _⟩
 ·rw [atLeast0, if_neg h]
  go_enter Tryz.func58, Tryz.ntmps58
  go_wp2
  go_ret
  exact ⟨rfl, ⟨Blk.new _ _ _, World.ownsRow_nil _ _ _ _, by simp⟩, (Below.refl _ _).alloc (Nat.le_refl _) _⟩
theorem fail_any (g : Nat) (v : Value) (s : FO) (x : Int) (w : World) (h : OutAt w g v s) :
  Calls Tryz.prog 130 #[.pointer (some ⟨g, 0, none⟩), .int .i64 x] w fun e w' => e = .returned (.tuple #[]) ∧ OutAt w' g v (s.fail x) ∧ OutStep w w' g v v := by
 have H := Lib.hid h
 have c2 := h.1.cell 2
 have f2 := h.1.frozen 2
 simp only [List.getElem?_toArray, List.getElem?_cons_succ, List.getElem?_cons_zero] at c2
 by_cases he : s.e = 0
 ·have hF : Hid (s.fail x = { s with e := x }) := Lib.hid (by rw [FO.fail, if_pos he])
  rw [hF.out]
  have he' : (s.e == 0) = true := by simp [he]
  clear h he
  go_enter Tryz.func130, Tryz.ntmps130
  go_wp2
  go_end0
  refine ⟨rfl, ⟨(H.out.1.set_ 2 (.int .i64 x)), own_block_same H.out.2.1 (fun k hk => Below.heap_setCell _ _ _ _ (by have := (H.out.2.1.lt k hk).1; show k ≠ g; omega)), H.out.2.2⟩, .inl rfl, ?_⟩
  exact (Chg.of_grown (only_setCell (World.grownBy.refl w (some g)) (p := ⟨g, 2, none⟩) (.inl rfl) (.int .i64 x))).mono (fun i _ hi => .inl (by injection hi))
 ·have hF : Hid (s.fail x = s) := Lib.hid (by rw [FO.fail, if_neg he])
  rw [hF.out]
  have he' : (s.e == 0) = false := by simp [he]
  clear h he
  go_enter Tryz.func130, Tryz.ntmps130
  go_wp2
  go_end0
  exact ⟨rfl, H.out, OutStep.refl _ _ _⟩
theorem chg_append {w W w1 : World} {row : Option Nat} (hb : Below w.heap.size w W) (hg : W.grownBy w1 row) (g o : Nat) (u : Value) : Chg w (w1.setCell ⟨g, o, none⟩ u) (fun k => k = g ∨ row = some k) where
 os := hg.os.trans hb.os
 tape := hg.tape.trans hb.tape
 output := hg.output.trans hb.output
 size := by have := hg.size; have := hb.size; simp [World.setCell]; omega
 block := fun k hk hn => (Below.heap_setCell w1 ⟨g, o, none⟩ u k (fun e => hn (.inl e))).trans ((hg.block k (Nat.lt_of_lt_of_le hk hb.size) (fun e => hn (.inr e.symm))).trans (hb.block k hk))
theorem u8_one (l : List Int) : ∀ u ∈ l.map (Value.int .u8), u.oneCell' = true := by
 intro u hu; obtain ⟨z, _, rfl⟩ := List.mem_map.1 hu; rfl
theorem put_any (g : Nat) (v : Value) (s : FO) (A : Option Addr) (n c B : Nat) (b : List Int) (w : World) (h : OutAt w g v s) (hB : B ≤ w.heap.size) (hr : Reads w B 1 A n (b.map (Value.int .u8))) (hn : n = b.length)
  (hl : s.l.length + n ≤ 1000000000) :
  Calls Tryz.prog 132 #[.pointer (some ⟨g, 0, none⟩), .slice A n c] w fun e w' => e = .returned (.tuple #[]) ∧ ∃ v', OutAt w' g v' (s.put b) ∧ OutStep w w' g v v' := by
 obtain ⟨i0, hi, hz0, hz1, hz2⟩ := info_parts byteInfo
 have H := Lib.hid h
 have HR := Lib.hid hr
 have HN := Lib.hid hn
 clear hn
 obtain ⟨A0, c0, rfl, _, _, _⟩ := own_slice h.2.1
 have k0 := h.1.cell 0
 have k1 := h.1.cell 1
 have k2 := h.1.cell 2
 have f0 := h.1.frozen 0
 have hm := h.2.2
 have hlt := h.1.lt
 simp only [List.getElem?_toArray, List.getElem?_cons_succ, List.getElem?_cons_zero] at k0 k1 k2
 clear h hr
 by_cases he : s.e = 0
 ·have he' : (s.e != 0) = false := by simp [he]
  by_cases hlong : s.m - s.l.length < n
  ·have hP : Hid (s.put b = s.fail 6) := Lib.hid (by rw [FO.put, if_pos he, if_pos (by rw [← HN.out]; exact hlong), FO.fail, if_pos he])
   rw [hP.out]
   clear he
   go_enter Tryz.func132, Tryz.ntmps132
   go_wp2_with (fail)
   go_quiet (fail)
   go_wp2_with (fail)
   refine (fail_any g _ s 6 _ (H.out.below (by exact below_drewN (Below.refl _ _) _))).mono ?_
   rintro e w1 ⟨rfl, h1, h2⟩
   have H1 := Lib.hid h1
   have H2 := Lib.hid h2
   clear h1 h2
   go_wp2
   go_end0
   exact ⟨rfl, _, H1.out, OutStep.pre (below_drewN (Below.refl _ _) _) H2.out⟩
  ·have hP : Hid (s.put b = { s with l := s.l ++ b }) := Lib.hid (by rw [FO.put, if_pos he, if_neg (by rw [← HN.out]; exact hlong)])
   rw [hP.out]
   clear he
   go_enter Tryz.func132, Tryz.ntmps132
   go_wp2_with (fail)
   go_quiet (fail)
   go_wp2_with (at_builtin; go_must (refine wpList_append_any _ rfl (.tmp 8) (.tmp 9) _ rfl (g + 1) 5 i0 _ 1 1 Tryz.underlying22 hi hz0 hz1 hz2 rfl (by omega) _ _ _ rfl (own_drewN H.out.2.1 _) B A n c (b.map (Value.int .u8)) rfl (Reads.drewN HR.out _) ?c1 ?c2 ?c3 ?c4 ?_))
   case c1 => exact u8_one b
   case c2 => unfold maxLen; omega
   case c3 => omega
   case c4 => simp; omega
   intro v1 w1 hown hg hat
   have hgne : some g ≠ Value.ownBlock (.slice A0 s.l.length c0) := fun e => by
    have := (H.out.2.1.lt g e.symm).1; omega
   have hblk := ((H.out.1.drewN nq).grown hg hgne)
   have q0 := hblk.cell 0
   have z0 := hblk.frozen 0
   simp only [List.getElem?_toArray, List.getElem?_cons_zero] at q0
   rw [← List.map_append] at hown
   obtain ⟨A1, c1, rfl, _, _, _⟩ := own_slice hown
   have HO := Lib.hid hown
   have HG := Lib.hid hg
   have HA := Lib.hid hat
   have HK := Lib.hid hblk
   clear hown hg hat hblk k0 k1 k2 f0
   go_wp2
   go_end0
   refine ⟨rfl, _, ⟨HK.out.set_ 0 _, ?_, hm⟩, ?_, ?_⟩
   ·have ho := own_block_same (w' := w1.setCell ⟨g, 0, none⟩ (.slice A1 (s.l.length + n) c1)) HO.out (fun k hk => Below.heap_setCell _ _ _ _ (by have := (HO.out.lt k hk).1; show k ≠ g; omega))
    show World.ownsRow _ _ _ _ _ (s.l ++ b).length _
    rw [List.length_append, ← HN.out]
    exact ho
   ·rcases HA.out with e | e
    ·exact .inl e
    ·refine .inr fun k hk => ?_
     rw [e] at hk
     injection hk with hk
     have : (w.drewN nq).heap.size = w.heap.size := rfl
     omega
   ·exact chg_append (below_drewN (Below.refl _ _) nq) HG.out g 0 _
 ·have hP : Hid (s.put b = s) := Lib.hid (by rw [FO.put, if_neg he])
  rw [hP.out]
  have he' : (s.e != 0) = true := by simp [he]
  clear he
  go_enter Tryz.func132, Tryz.ntmps132
  go_wp2
  go_end0
  exact ⟨rfl, _, H.out, OutStep.refl _ _ _⟩
theorem putNum_any (g : Nat) (v : Value) (s : FO) (n : Nat) (k : Int) (w : World) (hn : n < 18446744073709551616) (h : OutAt w g v s) (hl : s.l.length ≤ 999999000) :
  Calls Tryz.prog 59 #[.pointer (some ⟨g, 0, none⟩), .int .u64 n, .int .i64 k] w fun e w' => e = .returned (.tuple #[]) ∧ ∃ v', OutAt w' g v' (s.num n k) ∧ OutStep w w' g v v' := by
 have H := Lib.hid h
 clear h
 by_cases hk : 1 ≤ k ∧ k ≤ 8
 ·have hK := (knownB_iff k).2 hk
  obtain ⟨j, rfl⟩ := Int.eq_ofNat_of_zero_le (show 0 ≤ k by omega)
  cases hf : fitsB n j
  ·have hP : Hid (s.num n j = s.fail 4) := Lib.hid (by rw [FO.num, hK, if_pos rfl, Int.toNat_natCast, hf]; rfl)
   rw [hP.out]
   go_enter Tryz.func59, Tryz.ntmps59
   go_wp2_with (first | (go_at_call 129; refine (known_any _ _).mono ?_; rintro e w' ⟨rfl, rfl⟩) | (go_at_call 131; refine (fits_any n j hn (by omega) (by omega) _).mono ?_; rintro e w' ⟨rfl, rfl⟩) | fail)
   refine (fail_any g v s 4 _ H.out).mono ?_
   rintro e w1 ⟨rfl, h1⟩
   have H1 := Lib.hid h1
   clear h1
   go_wp2
   go_end0
   exact ⟨rfl, _, H1.out⟩
  ·have hP : Hid (s.num n j = s.put (big n j)) := Lib.hid (by rw [FO.num, hK, if_pos rfl, Int.toNat_natCast, hf]; rfl)
   rw [hP.out]
   go_enter Tryz.func59, Tryz.ntmps59
   go_wp2_with (first | (go_at_call 129; refine (known_any _ _).mono ?_; rintro e w' ⟨rfl, rfl⟩) | (go_at_call 131; refine (fits_any n j hn (by omega) (by omega) _).mono ?_; rintro e w' ⟨rfl, rfl⟩) | fail)
   refine (laid_any n j hn (by omega) _).mono ?_
   rintro e w1 ⟨u, rfl, hu, hb⟩
   obtain ⟨A, c, rfl, hr, _, _⟩ := own_slice hu
   have HR := Lib.hid hr
   have HB := Lib.hid hb
   clear hu hr hb
   go_wp2_with (fail)
   refine (put_any g v s A j c w1.heap.size (big n j) _ (H.out.below HB.out) (Nat.le_refl _) HR.out (by simp [big]) (by omega)).mono ?_
   rintro e w2 ⟨rfl, v2, h1, h2⟩
   have H1 := Lib.hid h1
   have H2 := Lib.hid (OutStep.pre HB.out h2)
   clear h1 h2
   go_wp2
   go_end0
   exact ⟨rfl, _, H1.out, H2.out⟩
 ·have hK := knownB_no k hk
  have hP : Hid (s.num n k = s.fail 1) := Lib.hid (by rw [FO.num, hK]; rfl)
  rw [hP.out]
  clear hk
  go_enter Tryz.func59, Tryz.ntmps59
  go_wp2_with (first | (go_at_call 129; refine (known_any _ _).mono ?_; rintro e w' ⟨rfl, rfl⟩) | fail)
  refine (fail_any g v s 1 _ H.out).mono ?_
  rintro e w1 ⟨rfl, h1⟩
  have H1 := Lib.hid h1
  clear h1
  go_wp2
  go_end0
  exact ⟨rfl, _, H1.out⟩
theorem putBool_any (g : Nat) (v : Value) (s : FO) (x : Bool) (w : World) (h : OutAt w g v s) (hl : s.l.length ≤ 999999000) :
  Calls Tryz.prog 308 #[.pointer (some ⟨g, 0, none⟩), .bool x] w fun e w' => e = .returned (.tuple #[]) ∧ ∃ v', OutAt w' g v' (s.bool x) ∧ OutStep w w' g v v' := by
 have H := Lib.hid h
 clear h
 cases x
 ·go_enter Tryz.func308, Tryz.ntmps308
  go_wp2_with (fail)
  refine (putNum_any g v s 0 1 _ (by omega) H.out hl).mono ?_
  rintro e w1 ⟨rfl, h1⟩
  have H1 := Lib.hid h1
  clear h1
  go_wp2
  go_end0
  exact ⟨rfl, H1.out⟩
 ·go_enter Tryz.func308, Tryz.ntmps308
  go_wp2_with (fail)
  refine (putNum_any g v s 1 1 _ (by omega) H.out hl).mono ?_
  rintro e w1 ⟨rfl, h1⟩
  have H1 := Lib.hid h1
  clear h1
  go_wp2
  refine bodyPost_ret (results_none rfl _ _ _) rfl ?_
  exact ⟨rfl, H1.out⟩
end Go.Proofs.YtmpedblelnpjdaaGreatDoor
/- Package fix: Clone, Concat, Text, Done. -/
namespace Go.Proofs.YtmpedblelnpjdaaGreatDoor
open Go.RowKit
set_option linter.unusedSimpArgs false
set_option linter.unusedVariables false
set_option maxHeartbeats 1000000
theorem clone_any (A : Option Addr) (n c B : Nat) (b : List Int) (w : World) (hB : B ≤ w.heap.size) (hr : Reads w B 1 A n (b.map (Value.int .u8))) (hn : n ≤ 1000000000) :
  Calls Tryz.prog 113 #[.slice A n c] w fun e w' => ∃ v, e = .returned v ∧ w'.ownsRow w.heap.size 5 1 v n (b.map (Value.int .u8)) ∧ Below w.heap.size w w' := by
 obtain ⟨i0, hi, hz0, hz1, hz2⟩ := info_parts byteInfo
 have HR := Lib.hid hr
 have hnil := fun w => Lib.run_eql_slice_nil (P := Tryz.prog) w 22 5 A n c 0 0 Tryz.underlying22
 rcases A with _ | ad
 ·have h0 : n = 0 := by
   rcases Nat.eq_zero_or_pos n with h | h
   ·exact h
   ·obtain ⟨ad, h, _⟩ := hr.2 h; cases h
  subst h0
  have hb0 : b = [] := by have := hr.1; simpa using this
  subst hb0
  clear hr
  go_enter Tryz.func113, Tryz.ntmps113
  go_wp2
  go_ret
  exact ⟨_, rfl, World.ownsRow_nil _ _ _ _, Below.refl _ _⟩
 ·clear hr
  go_enter Tryz.func113, Tryz.ntmps113
  exact rp36
theorem done_any (g : Nat) (v : Value) (s : FO) (w : World) (h : OutAt w g v s) (hl : s.l.length ≤ 1000000000) :
  Calls Tryz.prog 60 #[.pointer (some ⟨g, 0, none⟩)] w fun e w' => ∃ u, e = .returned (.tuple #[u, .int .i64 s.e]) ∧ w'.ownsRow w.heap.size 5 1 u (if s.e = 0 then s.l else []).length ((if s.e = 0 then s.l else []).map (Value.int .u8)) ∧ Below w.heap.size w w' := by
 obtain ⟨A0, c0, rfl, hr, _, _⟩ := own_slice h.2.1
 have HR := Lib.hid hr
 have k0 := h.1.cell 0
 have k2 := h.1.cell 2
 simp only [List.getElem?_toArray, List.getElem?_cons_succ, List.getElem?_cons_zero] at k0 k2
 clear h hr
 by_cases he : s.e = 0
 ·rw [if_pos he, he]
  have he' : (s.e != 0) = false := by simp [he]
  clear he
  go_enter Tryz.func60, Tryz.ntmps60
  go_wp2_with (fail)
  refine (clone_any A0 s.l.length c0 w.heap.size s.l _ (Nat.le_refl _) HR.out hl).mono ?_
  rintro e w1 ⟨u, rfl, h1, h2⟩
  have H1 := Lib.hid h1
  have H2 := Lib.hid h2
  clear h1 h2
  go_wp2
  go_ret2
  exact ⟨_, rfl, H1.out, H2.out⟩
 ·rw [if_neg he]
  have he' : (s.e != 0) = true := by simp [he]
  clear he
  go_enter Tryz.func60, Tryz.ntmps60
  go_wp2_with (fail)
  go_quiet (fail)
  go_wp2_with (fail)
  go_ret2
  exact ⟨_, rfl, World.ownsRow_nil _ _ _ _, below_drewN (Below.refl _ _) _⟩
theorem zeroCells_u8 (n : Nat) : (Builtin.zeroCells #[Value.int .u8 0] n).size = n := by
 simp [Builtin.zeroCells]
theorem grow_any (n : Nat) (w : World) (h0 : 0 < n) (hn : n ≤ 1000000000) :
  Calls Tryz.prog 286 #[.slice none 0 0, .int .i64 n] w fun e w' => ∃ v, e = .returned v ∧ w'.ownsRow w.heap.size 5 1 v 0 [] ∧ Below w.heap.size w w' := by
 obtain ⟨i0, hi, hz0, hz1, hz2⟩ := info_parts byteInfo
 have h1 : ¬ ((n : Int) < 0) := by omega
 have h3 : wrap64 (n : Int) = (n : Int) := by unfold wrap64; omega
 have h4 : (n : Int) > 0 := by omega
 have hrz : ∀ ty, (Builtin.append_ #[22, 3] ty #[.slice none 0 0, .int .i64 (n : Int)]).run Tryz.prog w =
   .ok (.slice (some ⟨w.heap.size, 0, none⟩) (0 + n) (grownCap w (0 + n) 0 5)) (w.drew.alloc (.cells (#[] ++ Builtin.zeroCells (Value.int .u8 0).cells n ++ Builtin.zeroCells (Value.int .u8 0).cells (grownCap w (0 + n) 0 5 - (0 + n))) 5)) := fun ty => by
  have hm : n * i0.bytes ≤ 140737488355328 := by rw [hz2]; omega
  have h := Lib.run_append_grow_zeros w 22 3 ty 5 i0 (.int .u8 0) .i64 .i64 Tryz.underlying22 Tryz.underlying3 hi hz0 none 0 0 [] (run_firstCells_none w.drew i0.size 0 0 0) n (by omega) (by omega) (by omega) (by omega)
   (by omega)
   (growslice_fits (by omega) (by rw [Nat.zero_add]; exact hm))
  exact h
 have hGn : n ≤ grownCap w (0 + n) 0 5 := by have := grownCap_ge w (0 + n) 0 5; omega
 obtain ⟨G, hG⟩ : ∃ G, G = grownCap w (0 + n) 0 5 := ⟨_, rfl⟩
 rw [← hG] at hrz hGn
 have hG63 : G ≤ maxLen := by
  have := grownCap_le_maxLen w (0 + n) 0 5 (by unfold maxLen; omega)
  rw [← hG] at this
  exact this
 clear hG
 go_enter Tryz.func286, Tryz.ntmps286
 go_wp2_with (at_builtin; refine Lib.wpList_append_run _ rfl _ _ _ _ rfl _ _ rfl rfl _ _ (hrz _) ?_)
 go_ret
 refine ⟨_, rfl, ?_, ((Below.refl _ _).drew).alloc (Nat.le_refl _) _⟩
 exact World.ownsRow_made w.drew _ G (Nat.le_refl _) hG63 (by simp [Value.cells, zeroCells_u8]; omega)
theorem grow_at (z : Int) (n : Nat) (hz : z = (n : Int)) (w : World) (h0 : 0 < n) (hn : n ≤ 1000000000) :
  Calls Tryz.prog 286 #[.slice none 0 0, .int .i64 z] w fun e w' => ∃ v, e = .returned v ∧ w'.ownsRow w.heap.size 5 1 v 0 [] ∧ Below w.heap.size w w' := by
 subst hz; exact grow_any n w h0 hn
theorem concat_any (A B : Option Addr) (n m c d b1 b2 : Nat) (x y : List Int) (w : World) (h1 : b1 ≤ w.heap.size) (h2 : b2 ≤ w.heap.size) (hx : Reads w b1 1 A n (x.map (Value.int .u8))) (hy : Reads w b2 1 B m (y.map (Value.int .u8)))
  (sb : Nat) (hs : w.cell? ⟨sb, 0, none⟩ = some (.slice A n c)) (hs2 : w.cell? ⟨sb, 1, none⟩ = some (.slice B m d)) (hsb : sb < w.heap.size) (h0 : 0 < n + m) (hn : n + m ≤ 1000000000) :
  Calls Tryz.prog 227 #[.slice (some ⟨sb, 0, none⟩) 2 2] w fun e w' => ∃ v, e = .returned v ∧ w'.ownsRow w.heap.size 5 1 v (n + m) ((x ++ y).map (Value.int .u8)) ∧ Below w.heap.size w w' := by
 obtain ⟨i0, hi, hz0, hz1, hz2⟩ := info_parts byteInfo
 have HX := Lib.hid hx
 have HY := Lib.hid hy
 have HN := Lib.hid hn
 have H0 := Lib.hid h0
 have a1 : wrap64 (n : Int) = n := by unfold wrap64; omega
 have a2 : wrap64 ((n : Int) + m) = (n : Int) + m := by unfold wrap64; omega
 have a3 : ((n : Int) < 0) = False := by simp
 have a4 : ((n : Int) + m < 0) = False := by simp; omega
 clear hx hy hn h0
 go_enter Tryz.func227, Tryz.ntmps227
 go_wp2
 refine wp_loop_rounds 3 ?_
 rw [rounds_succ]
 go_wp2
 rw [rounds_succ]
 go_wp2
 rw [rounds_succ]
 go_wp2_with (fail)
 have hn := HN.out
 have h0 := H0.out
 refine (grow_at _ (n + m) (by simp) _ (by omega) (by omega)).mono ?_
 rintro e w1 ⟨u, rfl, h3, h4⟩
 have HO := Lib.hid h3
 have HB := Lib.hid h4
 have q1 := cell_relay hs hsb h4 (Below.refl _ _)
 have q2 := cell_relay hs2 hsb h4 (Below.refl _ _)
 clear hs hs2 hn h0
 obtain ⟨A0, c0, rfl, _, _, _⟩ := own_slice h3
 clear h3 h4
 go_wp2
 refine wp_loop_rounds 3 ?_
 rw [rounds_succ]
 go_wp2_with (at_builtin; go_must (refine wpList_append_any _ rfl (.tmp 31) (.tmp 32) _ rfl w.heap.size 5 i0 _ 1 1 Tryz.underlying22 hi hz0 hz1 hz2 rfl (by omega) _ _ _ rfl HO.out b1 A n c (x.map (Value.int .u8)) rfl (HX.out.below (HB.out.mono h1)) ?c1 ?c2 ?c3 ?c4 ?_))
 case c1 => exact u8_one x
 case c2 => have := HN.out; unfold maxLen; omega
 case c3 => have := HN.out; omega
 case c4 => have := HB.out.size; omega
 intro v1 w2 h5 h6 _
 have hne : ∀ k, (Value.slice A0 0 c0).ownBlock = some k → w.heap.size ≤ k := fun k hk => (HO.out.lt k hk).1
 have q3 : w2.cell? ⟨sb, 1, none⟩ = some (.slice B m d) :=
  (World.cell?_of_block (h6.block sb (by have := HB.out.size; omega) (fun e => by have := hne _ e.symm; omega))).trans q2
 have HB2 := Lib.hid (HB.out.grown h6 HB.out.size (fun k hk => hne k hk))
 clear q1 q2 hne h6
 have HO2 := Lib.hid h5
 obtain ⟨A1, c1, rfl, _, _, _⟩ := own_slice h5
 clear h5
 go_wp2
 rw [rounds_succ]
 go_wp2_with (at_builtin; go_must (refine wpList_append_any _ rfl (.tmp 31) (.tmp 32) _ rfl w.heap.size 5 i0 _ 1 1 Tryz.underlying22 hi hz0 hz1 hz2 rfl (by omega) _ _ _ rfl HO2.out b2 B m d (y.map (Value.int .u8)) rfl (HY.out.below (HB2.out.mono h2)) ?c1 ?c2 ?c3 ?c4 ?_))
 case c1 => exact u8_one y
 case c2 => have := HN.out; unfold maxLen; omega
 case c3 => have := HN.out; omega
 case c4 => have := HB2.out.size; omega
 intro v3 w3 h5 h6 _
 have hne : ∀ k, (Value.slice A1 n c1).ownBlock = some k → w.heap.size ≤ k := fun k hk => (HO2.out.lt k hk).1
 have HB3 := Lib.hid (HB2.out.grown h6 HB2.out.size (fun k hk => hne k hk))
 have HO3 := Lib.hid h5
 clear q3 hne h6 h5
 go_wp2
 rw [rounds_succ]
 go_wp2
 go_ret
 refine ⟨_, rfl, by rw [List.map_append]; exact HO3.out, HB3.out⟩
end Go.Proofs.YtmpedblelnpjdaaGreatDoor
/- Package fix: Text; the reference's Cut, Put, Big, Text, Yes, Same. -/
namespace Go.Proofs.YtmpedblelnpjdaaGreatDoor
open Go.RowKit
set_option linter.unusedSimpArgs false
set_option linter.unusedVariables false
set_option maxHeartbeats 1000000
theorem big_succ (n j : Nat) : big n (j + 1) = ((n / 256 ^ j % 256 : Nat) : Int) :: big n j := by
 unfold big digit
 rw [List.range_succ_eq_map, List.map_cons, List.map_map]
 congr 1
 apply List.map_congr_left
 intro i hi
 have hi := List.mem_range.1 hi
 simp only [Function.comp]
 rw [show j + 1 - 1 - (i + 1) = j - 1 - i by omega]
theorem big_len (n j : Nat) : (big n j).length = j := by simp [big]
theorem same_any (A C : Option Addr) (n m c d B D : Nat) (x y : List Int) (w : World) (hB : B ≤ w.heap.size) (hD : D ≤ w.heap.size) (hx : Reads w B 1 A n (x.map (Value.int .u8))) (hy : Reads w D 1 C m (y.map (Value.int .u8))) (hn : n ≤ 9223372036854775806) :
  Calls Tryz.prog 13 #[.slice A n c, .slice C m d] w fun e w' => e = .returned (.bool (decide (x = y))) ∧ Below w.heap.size w w' := by
 have lx : x.length = n := by have := hx.1; simpa using this
 have ly : y.length = m := by have := hy.1; simpa using this
 by_cases hnm : n = m
 ·have hX : Hid (y.length = x.length) := Lib.hid (by omega)
  subst hnm
  have HX := Lib.hid hx
  have HY := Lib.hid hy
  have LX := Lib.hid lx
  have LY := Lib.hid ly
  clear hx hy lx ly
  go_enter Tryz.func13, Tryz.ntmps13
  go_wp2
  go_loopw [5] (fun i wr => ∃ k : Nat, k ≤ n ∧ i = .int .i64 k ∧ Hid (x.take k = y.take k) ∧ Hid (Below w.heap.size w wr)) (fun i _ => n - (intOf i).toNat)
  case atStart => exact ⟨0, by omega, rfl, Lib.hid rfl, Lib.hid (Below.refl _ _)⟩
  case round =>
   obtain ⟨k, hk, rfl, hT, hb⟩ := hrel
   by_cases hlt : k < n
   ·obtain ⟨ad1, z1, rfl, _, hz1, hc1⟩ := reads_int (HX.out.below (hb.out.mono hB)) hlt
    obtain ⟨ad2, z2, rfl, _, hz2, hc2⟩ := reads_int (HY.out.below (hb.out.mono hD)) hlt
    have Z1 := Lib.hid hz1
    have Z2 := Lib.hid hz2
    clear hz1 hz2
    by_cases hz : z1 = z2
    ·have hz' : (z1 != z2) = false := by simp [hz]
     have HZ := Lib.hid hz
     clear hz
     go_wp2_with (fail)
     go_quiet (fail)
     go_wp2
     go_roundw
     case rel =>
      refine ⟨k + 1, by omega, by go_num, Lib.hid ?_, Lib.hid (below_drewN hb.out _)⟩
      rw [List.take_add_one, List.take_add_one, Z1.out, Z2.out, hT.out, HZ.out]
     case measure => simp [intOf]; omega
    ·have hz' : (z1 != z2) = true := by simp [hz]
     have HZ := Lib.hid hz
     clear hz
     go_wp2_with (fail)
     go_quiet (fail)
     go_wp2
     go_ret
     refine ⟨ret_bool ?_, below_drewN hb.out _⟩
     symm
     rw [decide_eq_false_iff_not]
     intro e
     have := Z2.out
     rw [← e, Z1.out] at this
     exact HZ.out (by injection this)
   ·obtain rfl : k = n := by omega
    go_wp2
    go_ret
    refine ⟨ret_bool ?_, hb.out⟩
    symm
    rw [decide_eq_true_eq]
    have := hT.out
    rw [List.take_of_length_le (by have := LX.out; omega), List.take_of_length_le (by have := LY.out; omega)] at this
    exact this
 ·have he : ¬ x = y := fun e => by subst e; omega
  have hd : decide (x = y) = false := by simp [he]
  rw [hd]
  have hnm' : ((n : Int) != m) = true := by simp; omega
  clear hx hy hnm he hd
  go_enter Tryz.func13, Tryz.ntmps13
  go_wp2
  go_ret
  exact ⟨rfl, Below.refl _ _⟩
theorem own_lit1 (w : World) (z : Int) (base : Nat) (hb : base ≤ w.heap.size) : (w.alloc (.cells #[.int .u8 z] 5)).ownsRow base 5 1 (.slice (some ⟨w.heap.size, 0, none⟩) 1 1) 1 ([z].map (Value.int .u8)) :=
 ⟨rfl, .inr ⟨_, _, _, rfl, hb, heap_alloc_new _ _, Nat.le_refl _, by decide, rfl, rfl⟩⟩
theorem div_le' (n j : Nat) (h : n < 18446744073709551616) : n / 256 ^ j < 18446744073709551616 := Nat.lt_of_le_of_lt (Nat.div_le_self _ _) h
theorem refPut_ok (n k : Nat) (hn : n < 18446744073709551616) (hk : 1 ≤ k) (hk8 : k ≤ 8) (hf : fitsB n k = true) (w : World) :
  Calls Tryz.prog 298 #[.int .u64 n, .int .i64 k] w fun e w' => ∃ v, e = .returned (.tuple #[v, .int .i64 0]) ∧ w'.ownsRow w.heap.size 5 1 v k ((big n k).map (Value.int .u8)) ∧ Below w.heap.size w w' := by
 obtain ⟨i0, hi, hz0, hz1, hz2⟩ := info_parts byteInfo
 have HN := Lib.hid hn
 have HF := Lib.hid hf
 clear hn hf
 have b1 : ((k : Int) < 1) = False := by simp; omega
 have b2 : ((k : Int) > 8) = False := by simp; omega
 go_enter Tryz.func298, Tryz.ntmps298
 go_wp2
 go_loopw [0, 6, 7] (fun m v i wr => ∃ (j q : Nat), j ≤ k ∧ i = .int .i64 j ∧ m = .int .u64 q ∧ Hid (q = n / 256 ^ j) ∧ Hid (wr.ownsRow w.heap.size 5 1 v j ((big n j).map (Value.int .u8))) ∧ Hid (Below w.heap.size w wr)) (fun _ _ i _ => k - (intOf i).toNat)
 case atStart => exact ⟨0, n, by omega, rfl, rfl, Lib.hid (by simp), Lib.hid (World.ownsRow_nil _ _ _ _), Lib.hid (Below.refl _ _)⟩
 case round =>
  obtain ⟨j, q, hj, rfl, rfl, hq, hO, hB⟩ := hrel
  obtain ⟨A, c, rfl, hr, _, _⟩ := own_slice hO.out
  have HR := Lib.hid hr
  clear hr
  by_cases hlt : j < k
  ·obtain ⟨z, hz⟩ : ∃ z : Int, z = ((q % 256 : Nat) : Int) := ⟨_, rfl⟩
   obtain ⟨q', hq'⟩ : ∃ q' : Nat, q' = q / 256 := ⟨_, rfl⟩
   have e1 : (q : Int).tmod 256 = z := by rw [hz, Int.tmod_eq_emod_of_nonneg (by omega)]; rfl
   have e2 : z % 256 = z := by omega
   have e3 : (q : Int).tdiv 256 = q' := by rw [hq', Int.tdiv_eq_ediv_of_nonneg (by omega)]; rfl
   have e4 : (q : Int) / 256 = q' := by omega
   have hqb : q < 18446744073709551616 := by rw [hq.out]; exact div_le' n j HN.out
   have hqb' : q' < 18446744073709551616 := by omega
   clear hqb
   have HZ := Lib.hid hz
   have HQ := Lib.hid hq'
   have hsz := hB.out.size
   clear hz hq'
   go_wp2_with (at_builtin; go_must (refine wpList_append_any _ rfl (.tmp 22) (.tmp 23) _ rfl w.heap.size 5 i0 _ 1 1 Tryz.underlying22 hi hz0 hz1 hz2 rfl (by omega) _ _ _ rfl (own_lit1 _ z w.heap.size hB.out.size) wr.heap.size A j c ((big n j).map (Value.int .u8)) rfl (Reads.alloc HR.out (Nat.le_refl _) _) ?c1 ?c2 ?c3 ?c4 ?_))
   case c1 => exact u8_one _
   case c2 => unfold maxLen; omega
   case c3 => omega
   case c4 => simp; try omega
   intro v1 w1 h5 h6 _
   have hb := (hB.out.alloc hB.out.size (.cells #[.int .u8 z] 5)).grown h6 (by simp; omega) (fun k hk => by simp [Value.ownBlock] at hk; omega)
   have HB := Lib.hid hb
   have HO := Lib.hid h5
   clear hb h5 h6
   go_wp2
   go_roundw
   case rel =>
    refine ⟨j + 1, q', by omega, by go_num, rfl, Lib.hid ?_, Lib.hid ?_, HB⟩
    ·rw [HQ.out, hq.out, Nat.div_div_eq_div_mul, Nat.pow_succ]
    ·rw [big_succ, ← hq.out, ← HZ.out]
     have := HO.out
     rw [Nat.add_comm 1 j] at this
     exact this
   case measure => simp [intOf]; omega
  ·obtain rfl : j = k := by omega
   obtain rfl : q = 0 := by
    have := HF.out
    rw [fitsB, decide_eq_true_eq] at this
    rw [hq.out, Nat.div_eq_of_lt this]
   go_wp2
   go_ret2
   exact ⟨_, rfl, hO.out, hB.out⟩
end Go.Proofs.YtmpedblelnpjdaaGreatDoor
/- Package fix: the reference's Big, Text; Out.Text. -/
namespace Go.Proofs.YtmpedblelnpjdaaGreatDoor
open Go.RowKit
set_option linter.unusedSimpArgs false
set_option linter.unusedVariables false
set_option maxRecDepth 100000
set_option maxHeartbeats 1000000
theorem refBig_any (n k : Nat) (z : Int) (hz : z = n) (hn : n < 18446744073709551616) (hk : 1 ≤ k) (hk8 : k ≤ 8) (hf : fitsB n k = true) (w : World) :
  Calls Tryz.prog 245 #[.int .u64 z, .int .i64 k] w fun e w' => ∃ v, e = .returned v ∧ w'.ownsRow w.heap.size 5 1 v k ((big n k).map (Value.int .u8)) ∧ Below w.heap.size w w' := by
 subst hz
 go_enter Tryz.func245, Tryz.ntmps245
 go_wp2_with (fail)
 refine (refPut_ok n k hn hk hk8 hf _).mono ?_
 rintro e w1 ⟨v, rfl, h1, h2⟩
 have H1 := Lib.hid h1
 have H2 := Lib.hid h2
 clear h1 h2
 go_wp2
 go_ret
 exact ⟨_, rfl, H1.out, H2.out⟩
theorem laid_at (z : Int) (n k : Nat) (hz : z = n) (hn : n < 18446744073709551616) (hk : k ≤ 8) (w : World) :
  Calls Tryz.prog 133 #[.int .u64 z, .int .i64 k] w fun e w' => ∃ v, e = .returned v ∧ w'.ownsRow w.heap.size 5 1 v k ((big n k).map (Value.int .u8)) ∧ Below w.heap.size w w' := by
 subst hz; exact laid_any n k hn hk w
theorem text_any (g : Nat) (v : Value) (s : FO) (A : Option Addr) (n c B : Nat) (b : List Int) (w : World) (h : OutAt w g v s) (hB : B ≤ w.heap.size) (hr : Reads w B 1 A n (b.map (Value.int .u8))) (hn : n = b.length)
  (hl : s.l.length ≤ 900000000) (hn2 : n ≤ 65535) :
  Calls Tryz.prog 134 #[.pointer (some ⟨g, 0, none⟩), .slice A n c] w fun e w' => e = .returned (.tuple #[]) ∧ ∃ v', OutAt w' g v' (s.text b) ∧ OutStep w w' g v v' := by
 have H := Lib.hid h
 have HR := Lib.hid hr
 have HN := Lib.hid hn
 have e1 : IntKind.u64.wrap (n : Int) = n := by rw [IntKind.wrap_u64]; omega
 have hP : Hid (s.text b = s.put (big b.length 2 ++ b)) := Lib.hid (by rw [FO.text, if_neg (by omega)])
 rw [hP.out]
 clear hr hn h hP
 go_enter Tryz.func134, Tryz.ntmps134
 go_wp2_with (fail)
 refine (laid_at _ n 2 (by first | rfl | assumption) (by omega) (by omega) _).mono ?_
 rintro e w1 ⟨u, rfl, h1, h2⟩
 have H2 := Lib.hid h2
 obtain ⟨A1, c1, rfl, h3, _, _⟩ := own_slice h1
 have H3 := Lib.hid h3
 have hs := h2.size
 clear h1 h2 h3
 go_wp2_with (fail)
 have hb1 : Below w1.heap.size w1 (w1.alloc (.cells #[Value.slice A1 2 c1, Value.slice A n c] 22)) := (Below.refl _ _).alloc (Nat.le_refl _) _
 refine (concat_any A1 A 2 n c1 c w1.heap.size B (big n 2) b _ (by simp) (by simp; omega) (H3.out.below hb1) (HR.out.below ((H2.out.mono hB).trans (hb1.mono (Nat.le_trans hB hs)))) w1.heap.size
  (by exact cells_new_at _ _ _ _ rfl 0 _ rfl) (by exact cells_new_at _ _ _ _ rfl 1 _ rfl) (by simp) (by omega) (by omega)).mono ?_
 rintro e w2 ⟨u, rfl, h4, h5⟩
 have HB := Lib.hid ((H2.out).trans ((hb1.mono hs).trans (h5.mono (by simp; omega))))
 obtain ⟨A2, c2, rfl, h6, _, _⟩ := own_slice h4
 have H6 := Lib.hid h6
 clear h4 h5 h6 hb1
 go_wp2_with (fail)
 refine (put_any g v s A2 (2 + n) c2 _ (big b.length 2 ++ b) w2 (H.out.below HB.out) (Nat.le_refl _) (by rw [← HN.out]; exact H6.out) (by rw [List.length_append, big_len, ← HN.out]) (by omega)).mono ?_
 rintro e w3 ⟨rfl, v', h7, h8⟩
 have H7 := Lib.hid h7
 have H8 := Lib.hid h8
 clear h7 h8
 go_wp2
 go_end0
 exact ⟨rfl, v', H7.out, OutStep.pre HB.out H8.out⟩
end Go.Proofs.YtmpedblelnpjdaaGreatDoor
/- Package fix: In: contracts of Of, fail, next, number, Upto, Get, Raw, Text, Bool, Left, Err, Done. -/
namespace Go.Proofs.YtmpedblelnpjdaaGreatDoor
open Go.RowKit
set_option linter.unusedSimpArgs false
set_option linter.unusedVariables false
set_option maxHeartbeats 1000000
def numB (l : List Int) : Nat := l.foldl (fun n c => n * 256 + c.toNat) 0
theorem numB_take (l : List Int) (k : Nat) (z : Int) (hz : l[k]? = some z) : numB (l.take (k + 1)) = numB (l.take k) * 256 + z.toNat := by
 unfold numB; rw [List.take_add_one, hz]; simp
def bytesB (l : List Int) : Prop := ∀ z ∈ l, 0 ≤ z ∧ z < 256
theorem numB_lt (l : List Int) (h : bytesB l) : numB l < 256 ^ l.length := by
 rw [← List.reverse_reverse l] at h ⊢
 generalize l.reverse = m at h ⊢
 induction m with
 | nil => decide
 | cons a m ih =>
  have h1 : numB (a :: m).reverse = numB m.reverse * 256 + a.toNat := by unfold numB; simp
  have h2 := ih (fun z hz => h z (by rw [List.reverse_cons, List.mem_append]; exact .inl hz))
  have h3 := h a (by simp)
  rw [h1, List.reverse_cons, List.length_append, List.length_singleton, Nat.pow_succ]
  omega
theorem or256 (q : Nat) (z : Int) (hq : q < 72057594037927936) (h : 0 ≤ z ∧ z < 256) : bits .or .u64 ((q : Int) * 256) z = ((q * 256 + z.toNat : Nat) : Int) := by
 obtain ⟨y, rfl⟩ := Int.eq_ofNat_of_zero_le h.1
 have := u64_or_nat (q * 256) y (by omega) (by omega)
 rw [show ((q : Int) * 256) = ((q * 256 : Nat) : Int) by omega]
 show bits .or .u64 _ (y : Int) = _
 rw [this, Int.toNat_natCast, Nat.mul_comm q 256, ← Nat.two_pow_add_eq_or_of_lt (i := 8) (by omega) q]
theorem number_any (A : Option Addr) (n c B : Nat) (b : List Int) (w : World) (hr : Reads w B 1 A n (b.map (Value.int .u8))) (hb : bytesB b) (hn : n ≤ 8) :
  Calls Tryz.prog 182 #[.slice A n c] w fun e w' => e = .returned (.int .u64 (numB b)) ∧ w = w' := by
 have HR := Lib.hid hr
 have HB := Lib.hid hb
 clear hr hb
 go_enter Tryz.func182, Tryz.ntmps182
 go_wp2
 go_loopw [3, 8] (fun m i wr => ∃ (k q : Nat), k ≤ n ∧ i = .int .i64 k ∧ m = .int .u64 q ∧ Hid (q = numB (b.take k)) ∧ w = wr) (fun _ i _ => n - (intOf i).toNat)
 case atStart => exact ⟨0, 0, by omega, rfl, rfl, Lib.hid (by rfl), rfl⟩
 case round =>
  obtain ⟨k, q, hk, rfl, rfl, hq, rfl⟩ := hrel
  by_cases hlt : k < n
  ·obtain ⟨ad, z, rfl, _, hz, hc⟩ := reads_int HR.out hlt
   have hz2 := HB.out z (List.mem_of_getElem? hz)
   have HZ := Lib.hid hz
   have hqb : q < 72057594037927936 := by
    have h1 := numB_lt (b.take k) (fun z hz => HB.out z (List.mem_of_mem_take hz))
    have h2 : 256 ^ (b.take k).length ≤ 256 ^ 7 := Nat.pow_le_pow_right (by decide) (by rw [List.length_take]; omega)
    rw [hq.out]; omega
   have e1 : IntKind.u64.wrap ((q : Int) * 256) = (q : Int) * 256 := by rw [IntKind.wrap_u64]; omega
   have e2 := or256 q z hqb hz2
   have e3 : IntKind.u64.wrap z = z := by rw [IntKind.wrap_u64]; omega
   obtain ⟨q', hq'⟩ : ∃ q', q' = q * 256 + z.toNat := ⟨_, rfl⟩
   rw [← hq'] at e2
   have HQ := Lib.hid hq'
   clear hz hq' hqb hz2
   go_wp2
   go_roundw
   case rel =>
    refine ⟨k + 1, q', by omega, by go_num, rfl, Lib.hid ?_, trivial⟩
    rw [numB_take b k z HZ.out, ← hq.out, HQ.out]
   case measure => simp [intOf]; omega
  ·obtain rfl : k = n := by omega
   go_wp2
   go_ret
   refine ⟨?_, rfl⟩
   rw [hq.out, List.take_of_length_le (by have := HR.out.1; simp at this; omega)]
   rfl
structure FI where
 l : List Int
 e : Int
def FI.fail (s : FI) (x : Int) : FI := ⟨[], if s.e = 0 then x else s.e⟩
def FI.next (s : FI) (n : Nat) : FI × List Int × Bool :=
 if s.e ≠ 0 then (s, [], false) else if s.l.length < n then (s.fail 3, [], false) else (⟨s.l.drop n, 0⟩, s.l.take n, true)
def FI.upto (s : FI) (w : Int) (most : Nat) : FI × Nat :=
 if s.e ≠ 0 then (s, 0) else if knownB w then (if (s.next w.toNat).2.2 then (if most < numB (s.next w.toNat).2.1 then ((s.next w.toNat).1.fail 4, 0) else ((s.next w.toNat).1, numB (s.next w.toNat).2.1)) else ((s.next w.toNat).1, 0)) else (s.fail 1, 0)
def FI.raw (s : FI) (n : Int) : FI × List Int :=
 if n < 0 then (s.fail 1, []) else ((s.next n.toNat).1, (s.next n.toNat).2.1)
def FI.text (s : FI) (most : Int) : FI × List Int :=
 if (s.next 2).2.2 then (if most < numB (s.next 2).2.1 then ((s.next 2).1.fail 6, []) else (s.next 2).1.raw (numB (s.next 2).2.1)) else ((s.next 2).1, [])
def FI.done (s : FI) : Int := if s.e ≠ 0 then s.e else if s.l = [] then 0 else 4
structure InAt (w : World) (g B : Nat) (s : FI) : Prop where
 mem : ∃ (A : Option Addr) (c : Nat), Blk w g 223 #[.slice A s.l.length c, .int .i64 s.e] ∧ Reads w B 1 A s.l.length (s.l.map (Value.int .u8)) ∧ (∀ ad, A = some ad → ad.block ≠ g) ∧ s.l.length ≤ c ∧ c ≤ maxLen
 bytes : bytesB s.l
 lt : g < B
 le : B ≤ w.heap.size
def isG (g : Nat) : Nat → Prop := fun k => k = g
theorem reads_chg {w w' : World} {g n B : Nat} {A : Option Addr} {xs : List Value} (h : Reads w B 1 A n xs) (hB : B ≤ w.heap.size) (hc : Chg w w' (isG g)) (ha : ∀ ad, A = some ad → ad.block ≠ g) : Reads w' B 1 A n xs := by
 refine ⟨h.1, fun h0 => ?_⟩
 obtain ⟨ad, hA, hb, hr⟩ := h.2 h0
 refine ⟨ad, hA, hb, fun j u hu => ?_⟩
 exact (World.cell?_of_block (hc.block _ (by rw [block_of_add]; omega) (by rw [block_of_add]; exact ha ad hA))).trans (hr j u hu)
theorem InAt.below {w w' : World} {g B : Nat} {s : FI} (h : InAt w g B s) (hb : Below B w w') : InAt w' g B s := by
 obtain ⟨A, c, h1, h2, h3⟩ := h.mem
 exact ⟨⟨A, c, h1.below hb h.lt, h2.below hb, h3⟩, h.bytes, h.lt, Nat.le_trans h.le hb.size⟩
theorem failIn_any (g : Nat) (s : FI) (x : Int) (B : Nat) (w : World) (h : InAt w g B s) :
  Calls Tryz.prog 180 #[.pointer (some ⟨g, 0, none⟩), .int .i64 x] w fun e w' => e = .returned (.tuple #[]) ∧ InAt w' g B (s.fail x) ∧ Chg w w' (isG g) := by
 obtain ⟨A, c, hb, hr, hA, hc1, hc2⟩ := h.mem
 have c0 := hb.cell 0
 have c1 := hb.cell 1
 have f0 := hb.frozen 0
 have f1 := hb.frozen 1
 simp only [List.getElem?_toArray, List.getElem?_cons_succ, List.getElem?_cons_zero] at c0 c1
 have HB := Lib.hid hb
 have hlt := hb.lt
 have hgB := h.lt
 have hBle := h.le
 clear hb h hr
 by_cases he : s.e = 0
 ·have hF : s.fail x = ⟨[], x⟩ := by rw [FI.fail, if_pos he]
  rw [hF]
  have he' : (s.e == 0) = true := by simp [he]
  clear he hF
  go_enter Tryz.func180, Tryz.ntmps180
  go_wp2
  go_end0
  refine ⟨rfl, ⟨⟨none, 0, (HB.out.set_ 1 _).set_ 0 _, Reads.none_, by simp, Nat.le_refl _, by decide⟩, fun z hz => (by cases hz), hgB, by simpa using hBle⟩, ?_⟩
  exact (Chg.of_grown (only_setCell (only_setCell (World.grownBy.refl w (some g)) (p := ⟨g, 1, none⟩) (.inl rfl) (.int .i64 x)) (p := ⟨g, 0, none⟩) (.inl rfl) (.slice none 0 0))).mono (fun i _ hi => by injection hi)
 ·have hF : s.fail x = ⟨[], s.e⟩ := by rw [FI.fail, if_neg he]
  rw [hF]
  have he' : (s.e == 0) = false := by simp [he]
  clear he hF
  go_enter Tryz.func180, Tryz.ntmps180
  go_wp2
  go_end0
  refine ⟨rfl, ⟨⟨none, 0, HB.out.set_ 0 _, Reads.none_, by simp, Nat.le_refl _, by decide⟩, fun z hz => (by cases hz), hgB, by simpa using hBle⟩, ?_⟩
  exact (Chg.of_grown (only_setCell (World.grownBy.refl w (some g)) (p := ⟨g, 0, none⟩) (.inl rfl) (.slice none 0 0))).mono (fun i _ hi => by injection hi)
theorem chg_set0 (w : World) (g : Nat) (u : Value) (o : Nat) : Chg w (w.setCell ⟨g, o, none⟩ u) (isG g) :=
 (Chg.of_grown (only_setCell (World.grownBy.refl w (some g)) (p := ⟨g, o, none⟩) (.inl rfl) u)).mono (fun i _ hi => by injection hi)
theorem next_any (g : Nat) (s : FI) (n B : Nat) (w : World) (h : InAt w g B s) (hn : n ≤ 9223372036854775807) :
  Calls Tryz.prog 181 #[.pointer (some ⟨g, 0, none⟩), .int .i64 n] w fun e w' => ∃ A c, e = .returned (.tuple #[.slice A (s.next n).2.1.length c, .bool (s.next n).2.2]) ∧ InAt w' g B (s.next n).1 ∧ Chg w w' (isG g) ∧
   Reads w' B 1 A (s.next n).2.1.length ((s.next n).2.1.map (Value.int .u8)) := by
 obtain ⟨A, c, hb, hr, hA, hc1, hc2⟩ := h.mem
 have c0 := hb.cell 0
 have c1 := hb.cell 1
 have f0 := hb.frozen 0
 simp only [List.getElem?_toArray, List.getElem?_cons_succ, List.getElem?_cons_zero] at c0 c1
 have hgB := h.lt
 have hBle := h.le
 have HI := Lib.hid h
 have HB := Lib.hid hb
 have HR := Lib.hid hr
 have HA := Lib.hid hA
 unfold maxLen at hc2
 by_cases he : s.e = 0
 ·have he' : (s.e != 0) = false := by simp [he]
  by_cases hs : s.l.length < n
  ·have hN : s.next n = (s.fail 3, [], false) := by rw [FI.next, if_neg (by simp [he]), if_pos hs]
   rw [hN]
   clear hb h hr hA he hN
   go_enter Tryz.func181, Tryz.ntmps181
   go_wp2_with (fail)
   refine (failIn_any g s 3 B _ HI.out).mono ?_
   rintro e w1 ⟨rfl, h1, h2⟩
   have H1 := Lib.hid h1
   have H2 := Lib.hid h2
   clear h1 h2
   go_wp2
   go_ret2
   exact ⟨none, 0, rfl, H1.out, H2.out, Reads.none_⟩
  ·have hN : s.next n = (⟨s.l.drop n, 0⟩, s.l.take n, true) := by rw [FI.next, if_neg (by simp [he]), if_neg hs]
   have ho : (s.l.take n).length = n := by rw [List.length_take]; omega
   have hd : (s.l.drop n).length = s.l.length - n := List.length_drop
   have hR1 := hr.take (Nat.le_of_not_lt hs)
   have hR2 := hr.cut (Nat.le_of_not_lt hs) hc1
   rw [← List.map_take] at hR1
   rw [Nat.mul_one, ← List.map_drop] at hR2
   have hby : bytesB (s.l.drop n) := fun z hz => HI.out.bytes z (List.mem_of_mem_drop hz)
   obtain ⟨o, eo⟩ : ∃ o, o = s.l.take n := ⟨_, rfl⟩
   obtain ⟨d, ed⟩ : ∃ d, d = s.l.drop n := ⟨_, rfl⟩
   rw [← eo] at ho hR1 hN
   rw [← ed] at hd hR2 hby hN
   rw [hN]
   have HO := Lib.hid ho
   have HD := Lib.hid hd
   have HR1 := Lib.hid hR1
   have HR2 := Lib.hid hR2
   have HY := Lib.hid hby
   have HE := Lib.hid he
   have hle := Nat.le_of_not_lt hs
   clear hb h hr hA he hN ho hd hR1 hR2 hby eo ed HI HR hs
   by_cases hcn : c = n
   ·subst hcn
    go_enter Tryz.func181, Tryz.ntmps181
    go_wp2_with (fail)
    go_ret2
    have HR3 := HR2.out
    rw [if_pos trivial] at HR3
    refine ⟨A, ⟨c, by rw [HO.out]; rfl⟩, ⟨⟨A, 0, ?_, ?_, HA.out, by rw [HD.out]; omega, by decide⟩, HY.out, hgB, by simpa using hBle⟩, chg_set0 _ _ _ _, ?_⟩
    ·have h0 : s.l.length - c = 0 := by omega
     rw [HD.out, h0]
     have := HB.out.set_ 0 (.slice A 0 0)
     rw [HE.out] at this
     exact this
    ·rw [HD.out]; exact reads_chg HR3 hBle (chg_set0 _ _ _ _) HA.out
    ·rw [HO.out]; exact reads_chg HR1.out hBle (chg_set0 _ _ _ _) HA.out
   ·have hcn' : ((c : Int) = n) = False := by simp; omega
    go_enter Tryz.func181, Tryz.ntmps181
    go_wp2_with (fail)
    go_ret2
    have HR3 := HR2.out
    rw [if_neg hcn] at HR3
    refine ⟨A, n, by rw [HO.out]; rfl, ⟨⟨A.map (·.add n), c - n, ?_, ?_, ?_, by rw [HD.out]; omega, by unfold maxLen; omega⟩, HY.out, hgB, by simpa using hBle⟩, chg_set0 _ _ _ _, ?_⟩
    ·rw [HD.out]
     have := HB.out.set_ 0 (.slice (A.map (·.add n)) (s.l.length - n) (c - n))
     rw [HE.out] at this
     exact this
    ·rw [HD.out]; exact reads_chg HR3 hBle (chg_set0 _ _ _ _) (fun ad e => by
      cases A with
      | none => cases e
      | some a => simp at e; subst e; rw [block_of_add]; exact HA.out a rfl)
    ·intro ad e
     cases A with
     | none => cases e
     | some a => simp at e; subst e; rw [block_of_add]; exact HA.out a rfl
    ·rw [HO.out]; exact reads_chg HR1.out hBle (chg_set0 _ _ _ _) HA.out
 ·have he' : (s.e != 0) = true := by simp [he]
  have hN : s.next n = (s, [], false) := by rw [FI.next, if_pos he]
  rw [hN]
  clear hb h hr hA he hN
  go_enter Tryz.func181, Tryz.ntmps181
  go_wp2_with (fail)
  go_ret2
  exact ⟨none, 0, rfl, HI.out, Chg.refl _ _, Reads.none_⟩
end Go.Proofs.YtmpedblelnpjdaaGreatDoor
/- Package fix: In: contracts of Upto, Get, Bool, Raw, Text, Left, Err, Done, Of. -/
namespace Go.Proofs.YtmpedblelnpjdaaGreatDoor
open Go.RowKit
set_option linter.unusedSimpArgs false
set_option linter.unusedVariables false
set_option maxHeartbeats 1000000
theorem FI.next_len (s : FI) (n : Nat) : (s.next n).2.1.length ≤ n := by
 unfold FI.next; split
 ·simp
 ·split
  ·simp
  ·simp; omega
theorem FI.next_bytes (s : FI) (n : Nat) (h : bytesB s.l) : bytesB (s.next n).2.1 := by
 unfold FI.next; split
 ·intro z hz; cases hz
 ·split
  ·intro z hz; cases hz
  ·exact fun z hz => h z (List.mem_of_mem_take hz)
theorem upto_any (g : Nat) (s : FI) (k : Int) (most B : Nat) (w : World) (h : InAt w g B s) :
  Calls Tryz.prog 114 #[.pointer (some ⟨g, 0, none⟩), .int .i64 k, .int .u64 most] w fun e w' => e = .returned (.int .u64 (s.upto k most).2) ∧ InAt w' g B (s.upto k most).1 ∧ Chg w w' (isG g) := by
 obtain ⟨A, c, hb, hr, hA, hc1, hc2⟩ := h.mem
 have c1 := hb.cell 1
 simp only [List.getElem?_toArray, List.getElem?_cons_succ, List.getElem?_cons_zero] at c1
 have HI := Lib.hid h
 clear hb hr hA h
 by_cases he : s.e = 0
 ·have he' : (s.e != 0) = false := by simp [he]
  cases hk : knownB k
  ·have hU : s.upto k most = (s.fail 1, 0) := by rw [FI.upto, if_neg (by simp [he]), hk]; rfl
   rw [hU]
   clear he hU
   go_enter Tryz.func114, Tryz.ntmps114
   go_wp2_with (first | (go_at_call 129; refine (known_any _ _).mono ?_; rintro e w' ⟨rfl, rfl⟩) | fail)
   refine (failIn_any g s 1 B _ HI.out).mono ?_
   rintro e w1 ⟨rfl, h1, h2⟩
   have H1 := Lib.hid h1
   have H2 := Lib.hid h2
   clear h1 h2
   go_wp2
   go_ret
   exact ⟨rfl, H1.out, H2.out⟩
  ·obtain ⟨hk1, hk8⟩ := (knownB_iff k).1 hk
   obtain ⟨j, rfl⟩ := Int.eq_ofNat_of_zero_le (show 0 ≤ k by omega)
   have hU : s.upto j most = if (s.next j).2.2 then (if most < numB (s.next j).2.1 then ((s.next j).1.fail 4, 0) else ((s.next j).1, numB (s.next j).2.1)) else ((s.next j).1, 0) := by
    rw [FI.upto, if_neg (by simp [he]), hk, if_pos rfl, Int.toNat_natCast]
   rw [hU]
   clear he hU
   have HL := Lib.hid (s.next_len j)
   have HB := Lib.hid (s.next_bytes j HI.out.bytes)
   have N := next_any g s j B w HI.out (by omega)
   generalize s.next j = r at N HL HB ⊢
   obtain ⟨s', b, ok⟩ := r
   cases ok
   ·go_enter Tryz.func114, Tryz.ntmps114
    go_wp2_with (first | (go_at_call 129; refine (known_any _ _).mono ?_; rintro e w' ⟨rfl, rfl⟩) | fail)
    refine N.mono ?_
    rintro e w1 ⟨A1, n1, rfl, h1, h2, h3⟩
    have H1 := Lib.hid h1
    have H2 := Lib.hid h2
    clear h1 h2 h3
    go_wp2
    go_ret
    exact ⟨rfl, H1.out, H2.out⟩
   ·by_cases hm : most < numB b
    ·go_enter Tryz.func114, Tryz.ntmps114
     go_wp2_with (first | (go_at_call 129; refine (known_any _ _).mono ?_; rintro e w' ⟨rfl, rfl⟩) | fail)
     refine N.mono ?_
     rintro e w1 ⟨A1, n1, rfl, h1, h2, h3⟩
     have H1 := Lib.hid h1
     have H2 := Lib.hid h2
     have H3 := Lib.hid h3
     clear h1 h2 h3
     go_wp2_with (first | (go_at_call 182; refine (number_any _ _ _ _ _ _ H3.out HB.out (Nat.le_trans HL.out (by omega))).mono ?_; rintro e w' ⟨rfl, rfl⟩) | fail)
     refine (failIn_any g s' 4 B _ H1.out).mono ?_
     rintro e w2 ⟨rfl, h1, h2⟩
     have H4 := Lib.hid h1
     have H5 := Lib.hid (H2.out.trans h2 (fun _ _ x => x))
     clear h1 h2
     go_wp2
     go_ret
     refine ⟨?_, ?_, H5.out⟩
     ·first | rfl | (rw [if_pos rfl, if_pos hm]; rfl)
     ·first | exact H4.out | (rw [if_pos rfl, if_pos hm]; exact H4.out)
    ·go_enter Tryz.func114, Tryz.ntmps114
     go_wp2_with (first | (go_at_call 129; refine (known_any _ _).mono ?_; rintro e w' ⟨rfl, rfl⟩) | fail)
     refine N.mono ?_
     rintro e w1 ⟨A1, n1, rfl, h1, h2, h3⟩
     have H1 := Lib.hid h1
     have H2 := Lib.hid h2
     have H3 := Lib.hid h3
     clear h1 h2 h3
     go_wp2_with (first | (go_at_call 182; refine (number_any _ _ _ _ _ _ H3.out HB.out (Nat.le_trans HL.out (by omega))).mono ?_; rintro e w' ⟨rfl, rfl⟩) | fail)
     go_ret
     refine ⟨?_, ?_, H2.out⟩
     ·first | rfl | (rw [if_pos rfl, if_neg hm]; rfl)
     ·first | exact H1.out | (rw [if_pos rfl, if_neg hm]; exact H1.out)
 ·have he' : (s.e != 0) = true := by simp [he]
  have hU : s.upto k most = (s, 0) := by rw [FI.upto, if_pos he]
  rw [hU]
  clear he hU
  go_enter Tryz.func114, Tryz.ntmps114
  go_wp2_with (fail)
  go_ret
  exact ⟨rfl, HI.out, Chg.refl _ _⟩
theorem upto_at (g : Nat) (s : FI) (k z : Int) (most B : Nat) (hz : z = most) (w : World) (h : InAt w g B s) :
  Calls Tryz.prog 114 #[.pointer (some ⟨g, 0, none⟩), .int .i64 k, .int .u64 z] w fun e w' => e = .returned (.int .u64 (s.upto k most).2) ∧ InAt w' g B (s.upto k most).1 ∧ Chg w w' (isG g) := by
 subst hz; exact upto_any g s k most B w h
theorem get_any (g : Nat) (s : FI) (k : Int) (B : Nat) (w : World) (h : InAt w g B s) :
  Calls Tryz.prog 46 #[.pointer (some ⟨g, 0, none⟩), .int .i64 k] w fun e w' => e = .returned (.int .u64 (s.upto k 18446744073709551615).2) ∧ InAt w' g B (s.upto k 18446744073709551615).1 ∧ Chg w w' (isG g) := by
 have HI := Lib.hid h
 clear h
 go_enter Tryz.func46, Tryz.ntmps46
 go_wp2_with (fail)
 refine (upto_at g s k _ 18446744073709551615 B rfl _ HI.out).mono ?_
 rintro e w1 ⟨rfl, h1, h2⟩
 have H1 := Lib.hid h1
 have H2 := Lib.hid h2
 clear h1 h2
 go_wp2
 go_ret
 exact ⟨rfl, H1.out, H2.out⟩
theorem bool_any (g : Nat) (s : FI) (B : Nat) (w : World) (h : InAt w g B s) :
  Calls Tryz.prog 325 #[.pointer (some ⟨g, 0, none⟩)] w fun e w' => e = .returned (.bool (decide ((s.upto 1 1).2 = 1))) ∧ InAt w' g B (s.upto 1 1).1 ∧ Chg w w' (isG g) := by
 have HI := Lib.hid h
 clear h
 go_enter Tryz.func325, Tryz.ntmps325
 go_wp2_with (fail)
 refine (upto_at g s 1 _ 1 B rfl _ HI.out).mono ?_
 rintro e w1 ⟨rfl, h1, h2⟩
 have H1 := Lib.hid h1
 have H2 := Lib.hid h2
 clear h1 h2
 go_wp2
 go_ret
 refine ⟨ret_bool ?_, H1.out, H2.out⟩
 rw [Bool.eq_iff_iff]; simp; omega
theorem err_any (g : Nat) (s : FI) (B : Nat) (w : World) (h : InAt w g B s) :
  Calls Tryz.prog 116 #[.pointer (some ⟨g, 0, none⟩)] w fun e w' => e = .returned (.int .i64 s.e) ∧ w = w' := by
 obtain ⟨A, c, hb, hr, hA, hc1, hc2⟩ := h.mem
 have c1 := hb.cell 1
 simp only [List.getElem?_toArray, List.getElem?_cons_succ, List.getElem?_cons_zero] at c1
 clear hb hr hA h
 go_enter Tryz.func116, Tryz.ntmps116
 go_wp2
 go_ret
 exact ⟨rfl, rfl⟩
theorem doneIn_any (g : Nat) (s : FI) (B : Nat) (w : World) (h : InAt w g B s) :
  Calls Tryz.prog 48 #[.pointer (some ⟨g, 0, none⟩)] w fun e w' => e = .returned (.int .i64 s.done) ∧ w = w' := by
 obtain ⟨A, c, hb, hr, hA, hc1, hc2⟩ := h.mem
 have c0 := hb.cell 0
 simp only [List.getElem?_toArray, List.getElem?_cons_succ, List.getElem?_cons_zero] at c0
 have HI := Lib.hid h
 clear hb hr hA h
 by_cases he : s.e = 0
 ·have he' : (s.e != 0) = false := by simp [he]
  by_cases hl : s.l = []
  ·have hD : s.done = 0 := by rw [FI.done, if_neg (by simp [he]), if_pos hl]
   rw [hD]
   have h0 : ¬ 0 < s.l.length := by simp [hl]
   clear he hl hD
   exact rp57
  ·have hD : s.done = 4 := by rw [FI.done, if_neg (by simp [he]), if_neg hl]
   rw [hD]
   have h0 : 0 < s.l.length := List.length_pos_iff.2 hl
   clear he hl hD
   exact rp57
 ·have he' : (s.e != 0) = true := by simp [he]
  have hD : s.done = s.e := by rw [FI.done, if_pos he]
  rw [hD]
  clear he hD
  exact rp57
end Go.Proofs.YtmpedblelnpjdaaGreatDoor
/- Package fix: In: Raw, Text, Of. -/
namespace Go.Proofs.YtmpedblelnpjdaaGreatDoor
open Go.RowKit
set_option linter.unusedSimpArgs false
set_option linter.unusedVariables false
set_option maxHeartbeats 1000000
theorem FI.next_false (s : FI) (n : Nat) (h : (s.next n).2.2 = false) : (s.next n).2.1 = [] := by
 unfold FI.next at h ⊢
 split
 ·rfl
 ·split
  ·rfl
  ·next h1 h2 => rw [if_neg h1, if_neg h2] at h; cases h
theorem FI.next_short (s : FI) (n : Nat) : (s.next n).2.1.length ≤ s.l.length := by
 unfold FI.next; split
 ·simp
 ·split
  ·simp
  ·rw [List.length_take]; omega
theorem FI.next_short1 (s : FI) (n : Nat) : (s.next n).1.l.length ≤ s.l.length := by
 unfold FI.next; split
 ·exact Nat.le_refl _
 ·split
  ·simp [FI.fail]
  ·rw [List.length_drop]; omega
theorem FI.fail_e (s : FI) (x : Int) (hx : x ≠ 0) : (s.fail x).e ≠ 0 := by
 unfold FI.fail; simp; split <;> omega
theorem FI.next_of_e (s : FI) (n : Nat) (h : s.e ≠ 0) : s.next n = (s, [], false) := by rw [FI.next, if_pos h]
theorem of_any (A : Option Addr) (n c B : Nat) (b : List Int) (w : World) (hB : B ≤ w.heap.size) (hr : Reads w B 1 A n (b.map (Value.int .u8))) (hb : bytesB b) (hn : n ≤ 1000000000) :
  Calls Tryz.prog 45 #[.slice A n c] w fun e w' => ∃ g, e = .returned (.pointer (some ⟨g, 0, none⟩)) ∧ w.heap.size ≤ g ∧ InAt w' g w'.heap.size ⟨b, 0⟩ ∧ Below w.heap.size w w' := by
 have HR := Lib.hid hr
 have HB := Lib.hid hb
 have hbl : Hid (b.length = n) := Lib.hid (by have := hr.1; simpa using this)
 clear hr hb
 go_enter Tryz.func45, Tryz.ntmps45
 go_wp2_with (fail)
 refine (clone_any A n c B b _ hB HR.out hn).mono ?_
 rintro e w1 ⟨u, rfl, h1, h2⟩
 obtain ⟨A2, c2, rfl, h3, h4, h5⟩ := own_slice h1
 have H1 := Lib.hid h1
 have H2 := Lib.hid h2
 have H3 := Lib.hid h3
 have hs := h2.size
 clear h1 h2 h3
 go_wp2
 go_ret
 refine ⟨w1.heap.size, rfl, hs, ⟨⟨A2, c2, ?_, ?_, ?_, by rw [hbl.out]; exact h4, h5⟩, HB.out, by simp, Nat.le_refl _⟩, H2.out.alloc hs _⟩
 ·rw [hbl.out]; exact Blk.new _ _ _
 ·rw [hbl.out]; exact (H3.out.alloc (Nat.le_refl _) _).more (by simp)
 ·intro ad e
  subst e
  have := (H1.out.lt ad.block rfl).2
  omega
end Go.Proofs.YtmpedblelnpjdaaGreatDoor
/- The law's awake. -/
namespace Go.Proofs.YtmpedblelnpjdaaGreatDoor
open Go.RowKit
set_option linter.unusedSimpArgs false
set_option linter.unusedVariables false
set_option maxHeartbeats 1000000
end Go.Proofs.YtmpedblelnpjdaaGreatDoor
/- Package fix, plain: bytes that are read as numbers are put as the same bytes. -/
namespace Go.Proofs.YtmpedblelnpjdaaGreatDoor
open Go.RowKit
set_option linter.unusedSimpArgs false
set_option linter.unusedVariables false
theorem big_snoc (q j a : Nat) (ha : a < 256) : big (q * 256 + a) (j + 1) = big q j ++ [(a : Int)] := by
 unfold big
 rw [List.range_succ, List.map_append]
 congr 1
 ·apply List.map_congr_left
  intro i hi
  have hi := List.mem_range.1 hi
  unfold digit
  have e : j + 1 - 1 - i = (j - 1 - i) + 1 := by omega
  have e2 : (q * 256 + a) / 256 = q := by omega
  rw [e, Nat.pow_succ, Nat.mul_comm (256 ^ (j - 1 - i)) 256, ← Nat.div_div_eq_div_mul, e2]
 ·simp [digit]; omega
theorem numB_snoc (m : List Int) (a : Int) : numB (m ++ [a]) = numB m * 256 + a.toNat := by unfold numB; simp
theorem big_numB (t : List Int) (h : bytesB t) : big (numB t) t.length = t := by
 rw [← List.reverse_reverse t] at h ⊢
 generalize t.reverse = m at h ⊢
 induction m with
 | nil => rfl
 | cons a m ih =>
  have h2 := ih (fun z hz => h z (by rw [List.reverse_cons, List.mem_append]; exact .inl hz))
  have h3 := h a (by simp)
  rw [List.reverse_cons, numB_snoc, List.length_append, List.length_singleton, big_snoc _ _ _ (by omega), h2]
  congr 2
  omega
theorem bytesB_take (l : List Int) (k : Nat) (h : bytesB l) : bytesB (l.take k) := fun z hz => h z (List.mem_of_mem_take hz)
end Go.Proofs.YtmpedblelnpjdaaGreatDoor
