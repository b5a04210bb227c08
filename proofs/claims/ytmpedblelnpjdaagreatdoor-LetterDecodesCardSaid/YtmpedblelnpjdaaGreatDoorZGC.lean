/- GC: FixU FixV FixW FixY UpdA LtuA LtuP LtuC LtuD -/
import Derived.Test.YtmpedblelnpjdaaGreatDoorZGB
import Derived.Test.YtmpedblelnpjdaaGreatDoorZTq
import Derived.Test.YtmpedblelnpjdaaGreatDoorRows
import Derived.Shelf.Abstract
import Derived.Test.YtmpedblelnpjdaaGreatDoorZGA
/- The reference's reading: In as a struct; contracts of Fail, Raw, Num, Upto, Get, Read, Bool, Done. -/
namespace Go.Proofs.YtmpedblelnpjdaaGreatDoor
open Go.RowKit
set_option linter.unusedSimpArgs false
set_option linter.unusedVariables false
set_option maxHeartbeats 4000000
structure RI where
 A : Option Addr
 cap : Nat
 s : FI
def RI.agg (x : RI) : Value := .agg #[.slice x.A x.s.l.length x.cap, .int .i64 x.s.e]
def RI.cells (x : RI) : Array Value := #[.slice x.A x.s.l.length x.cap, .int .i64 x.s.e]
structure RIn (w : World) (B : Nat) (x : RI) : Prop where
 rd : Reads w B 1 x.A x.s.l.length (x.s.l.map (Value.int .u8))
 hc : x.s.l.length ≤ x.cap
 hm : x.cap ≤ maxLen
 by_ : bytesB x.s.l
 inv : x.s.e ≠ 0 → x.s.l = []
theorem RIn.below {w w' : World} {B : Nat} {x : RI} (h : RIn w B x) (hb : Below B w w') : RIn w' B x := ⟨h.rd.below hb, h.hc, h.hm, h.by_, h.inv⟩
theorem RIn.alloc {w : World} {B : Nat} {x : RI} (h : RIn w B x) (hB : B ≤ w.heap.size) (o : Obj) : RIn (w.alloc o) B x := ⟨h.rd.alloc hB o, h.hc, h.hm, h.by_, h.inv⟩
theorem RIn.drewN {w : World} {B : Nat} {x : RI} (h : RIn w B x) (k : Nat) : RIn (w.drewN k) B x := ⟨h.rd, h.hc, h.hm, h.by_, h.inv⟩
theorem RIn.drew {w : World} {B : Nat} {x : RI} (h : RIn w B x) : RIn w.drew B x := ⟨h.rd, h.hc, h.hm, h.by_, h.inv⟩
theorem RIn.set2 {w : World} {B g : Nat} {x : RI} (h : RIn w B x) (hB : B ≤ g) (u v : Value) : RIn ((w.setCell ⟨g, 0, none⟩ u).setCell ⟨g, 1, none⟩ v) B x :=
 ⟨(h.rd.setCell (p := ⟨g, 0, none⟩) hB u).setCell (p := ⟨g, 1, none⟩) hB v, h.hc, h.hm, h.by_, h.inv⟩
def RI.nil (e : Int) : RI := ⟨none, 0, ⟨[], e⟩⟩
theorem RIn.nil (w : World) (B : Nat) (e : Int) : RIn w B (RI.nil e) := ⟨Reads.none_, Nat.le_refl _, Nat.zero_le _, (fun z hz => by cases hz), fun _ => rfl⟩
theorem fail_same {x : RI} (h : x.s.e ≠ 0) (hi : x.s.e ≠ 0 → x.s.l = []) (e : Int) : x.s.fail e = x.s := by
 have := hi h
 rw [FI.fail, if_neg h]
 cases hs : x.s with
 | mk l e => rw [hs] at this; simp at this; rw [this]
theorem ri_cells {w : World} {g : Nat} {t : TypeId} {x : RI} (h : Blk w g t x.cells) : w.cell? ⟨g, 0, none⟩ = some (.slice x.A x.s.l.length x.cap) ∧ w.cell? ⟨g, 1, none⟩ = some (.int .i64 x.s.e) := by
 refine ⟨?_, ?_⟩ <;> (rw [h.cell]; rfl)
theorem blk_at (w : World) (t : TypeId) (cs : Array Value) (g : Nat) (h : g = w.heap.size) : Blk (w.alloc (.cells cs t)) g t cs := by subst h; exact Blk.new w t cs
theorem box2_below {w w1 : World} {o p : Obj} (h : Below ((w.alloc o).alloc p).heap.size ((w.alloc o).alloc p) w1) : Below w.heap.size w w1 := (((Below.refl _ _).alloc (Nat.le_refl _) _).alloc (by simp) _).trans (h.mono (by simp <;> omega))
attribute [local go_sem] RI.agg RI.cells RI.nil
theorem refFail_any (x : RI) (ev : Int) (hev : ev ≠ 0) (B : Nat) (w : World) (hx : RIn w B x) (hB : B ≤ w.heap.size) :
  Calls Tryz.prog 123 #[x.agg, .int .i64 ev] w fun e w' => ∃ y : RI, e = .returned y.agg ∧ y.s = x.s.fail ev ∧ RIn w' B y ∧ Below w.heap.size w w' := by
 have HX := Lib.hid hx
 have HE := Lib.hid hev
 clear hx hev
 by_cases he : x.s.e = 0
 ·have he' : (x.s.e != 0) = false := by simp [he]
  have hF : Hid (x.s.fail ev = ⟨[], ev⟩) := Lib.hid (by rw [FI.fail, if_pos he])
  clear he
  go_enter Tryz.func123, Tryz.ntmps123
  go_wp2
  refine bodyPost_ret (v := (RI.nil ev).agg) (by simp [results, Tryz.results123, go_sem]) rfl ⟨RI.nil ev, rfl, hF.out.symm, RIn.nil _ _ _, ?_⟩
  ·exact rp4
 ·have he' : (x.s.e != 0) = true := by simp [he]
  have hF := Lib.hid (fail_same he HX.out.inv ev)
  clear he
  go_enter Tryz.func123, Tryz.ntmps123
  go_wp2
  refine bodyPost_ret (v := x.agg) (by simp [results, Tryz.results123, go_sem]) rfl ⟨x, rfl, hF.out.symm, ?_, ?_⟩
  ·exact rp53
  ·exact rp4
theorem refNum_any (A : Option Addr) (n c B : Nat) (b : List Int) (w : World) (hr : Reads w B 1 A n (b.map (Value.int .u8))) (hb : bytesB b) (hn : n ≤ 8) :
  Calls Tryz.prog 222 #[.slice A n c] w fun e w' => e = .returned (.int .u64 (numB b)) ∧ w = w' := by
 have HR := Lib.hid hr
 have HB := Lib.hid hb
 clear hr hb
 go_enter Tryz.func222, Tryz.ntmps222
 go_wp2
 go_loopw [3, 4] (fun m i wr => ∃ (k q : Nat), k ≤ n ∧ i = .int .i64 k ∧ m = .int .u64 q ∧ Hid (q = numB (b.take k)) ∧ w = wr) (fun _ i _ => n - (intOf i).toNat)
 case atStart => exact ⟨0, 0, by omega, rfl, rfl, Lib.hid (by rfl), rfl⟩
 case round =>
  obtain ⟨k, q, hk, rfl, rfl, hq, rfl⟩ := hrel
  by_cases hlt : k < n
  ·obtain ⟨ad, z, rfl, _, hz, hc⟩ := reads_int HR.out hlt
   have hz2 := HB.out z (List.mem_of_getElem? hz)
   have HZ := Lib.hid hz
   have hqb : q < 72057594037927936 := by
    have h1 := numB_lt (b.take k) (fun z hz => HB.out z (List.mem_of_mem_take hz))
    have h2 : 256 ^ (b.take k).length ≤ 256 ^ 7 := Nat.pow_le_pow_right (by decide) (by rw [List.length_take]; omega)
    rw [hq.out]; omega
   have e1 : IntKind.u64.wrap ((q : Int) * 256) = (q : Int) * 256 := by rw [IntKind.wrap_u64]; omega
   have e3 : IntKind.u64.wrap z = z := by rw [IntKind.wrap_u64]; omega
   obtain ⟨q', hq'⟩ : ∃ q', q' = q * 256 + z.toNat := ⟨_, rfl⟩
   have e4 : IntKind.u64.wrap ((q : Int) * 256 + z) = q' := by rw [IntKind.wrap_u64]; omega
   have HQ := Lib.hid hq'
   clear hz hq' hqb hz2
   go_wp2
   go_roundw
   case rel =>
    refine ⟨k + 1, q', by omega, by go_num, rfl, Lib.hid ?_, (by first | rfl | trivial)⟩
    rw [numB_take b k z HZ.out, ← hq.out, HQ.out]
   case measure => simp [intOf]; omega
  ·obtain rfl : k = n := by omega
   go_wp2
   go_ret
   refine ⟨?_, rfl⟩
   rw [hq.out, List.take_of_length_le (by have := HR.out.1; simp at this; omega)]
   rfl
theorem refDone_any (x : RI) (B : Nat) (w : World) (hx : RIn w B x) (hB : B ≤ w.heap.size) :
  Calls Tryz.prog 54 #[x.agg] w fun e w' => e = .returned (.int .i64 x.s.done) ∧ Below w.heap.size w w' := by
 have HX := Lib.hid hx
 clear hx
 by_cases he : x.s.e = 0
 ·have he' : (x.s.e == 0) = true := by simp [he]
  have HE := Lib.hid he
  clear he
  by_cases hl : x.s.l.length = 0
  ·have hd : Hid (x.s.done = x.s.e) := Lib.hid (by rw [FI.done, if_neg (by simp [HE.out]), if_pos (List.eq_nil_of_length_eq_zero hl), HE.out])
   have hl' : ¬ (0 : Int) < x.s.l.length := by omega
   clear hl
   go_enter Tryz.func54, Tryz.ntmps54
   go_wp2
   go_ret
   exact ⟨ret_int hd.out.symm, (Below.refl _ _).alloc (Nat.le_refl _) _⟩
  ·have hd : Hid (x.s.done = 4) := Lib.hid (by rw [FI.done, if_neg (by simp [HE.out]), if_neg (fun e => hl (by rw [e]; rfl))])
   have hl' : (0 : Int) < x.s.l.length := by omega
   clear hl
   go_enter Tryz.func54, Tryz.ntmps54
   go_wp2
   go_ret
   exact ⟨ret_int hd.out.symm, (Below.refl _ _).alloc (Nat.le_refl _) _⟩
 ·have he' : (x.s.e == 0) = false := by simp [he]
  have hd : Hid (x.s.done = x.s.e) := Lib.hid (by rw [FI.done, if_pos he])
  clear he
  go_enter Tryz.func54, Tryz.ntmps54
  go_wp2
  go_ret
  exact ⟨ret_int hd.out.symm, (Below.refl _ _).alloc (Nat.le_refl _) _⟩
def RPost (B : Nat) (w : World) (r : FI × List Int) (e : Ending) (w' : World) : Prop :=
 ∃ (y : RI) (A2 : Option Addr) (c2 : Nat), e = .returned (.tuple #[y.agg, .slice A2 r.2.length c2]) ∧ y.s = r.1 ∧ RIn w' B y ∧ Reads w' B 1 A2 r.2.length (r.2.map (Value.int .u8)) ∧ Below w.heap.size w w'
theorem RIn.drop {w : World} {B : Nat} {x : RI} (h : RIn w B x) {k : Nat} (hk : k ≤ x.s.l.length) : RIn w B ⟨if x.cap = k then x.A else x.A.map (·.add k), x.cap - k, ⟨x.s.l.drop k, 0⟩⟩ := by
 have hr := h.rd.cut hk h.hc
 rw [Nat.mul_one, ← List.map_drop] at hr
 have h1 := h.hc
 have h2 := h.hm
 refine ⟨?_, ?_, ?_, fun z hz => h.by_ z (List.mem_of_mem_drop hz), fun hh => absurd rfl hh⟩
 ·show Reads w B 1 _ (x.s.l.drop k).length _
  rw [List.length_drop]; exact hr
 ·show (x.s.l.drop k).length ≤ x.cap - k
  rw [List.length_drop]; omega
 ·show x.cap - k ≤ maxLen
  omega
theorem refRaw_any (x : RI) (n : Int) (B : Nat) (w : World) (hx : RIn w B x) (hB : B ≤ w.heap.size) :
  Calls Tryz.prog 224 #[x.agg, .int .i64 n] w (RPost B w (x.s.raw n)) := by
 have HX := Lib.hid hx
 have hm := hx.hm
 have hc := hx.hc
 unfold maxLen at hm
 clear hx
 by_cases he : x.s.e = 0
 rotate_left
 ·have he' : (x.s.e != 0) = true := by simp [he]
  have hR : Hid (x.s.raw n = (x.s, [])) := Lib.hid (by
   by_cases h0 : n < 0
   ·rw [FI.raw, if_pos h0, fail_same he HX.out.inv]
   ·rw [FI.raw, if_neg h0, FI.next, if_pos he])
  rw [hR.out]
  clear he
  go_enter Tryz.func224, Tryz.ntmps224
  go_wp2
  refine bodyPost_ret (v := .tuple #[x.agg, .slice none 0 0]) (by simp [results, Tryz.results224, go_sem]) rfl ⟨x, none, 0, rfl, rfl, ?_, Reads.none_, ?_⟩
  ·exact rp53
  ·exact rp4
 have he' : (x.s.e != 0) = false := by simp [he]
 have HE := Lib.hid he
 clear he
 by_cases h0 : n < 0
 ·have hR : Hid (x.s.raw n = (x.s.fail 1, [])) := Lib.hid (by rw [FI.raw, if_pos h0])
  rw [hR.out]
  go_enter Tryz.func224, Tryz.ntmps224
  go_wp2_with (fail)
  refine (refFail_any x 1 (by decide) B _ (by repeat (first | with_reducible exact HX.out | with_reducible refine RIn.alloc ?_ (by first | omega | (simp; omega)) _ | with_reducible refine RIn.drewN ?_ _ | with_reducible refine RIn.drew ?_)) (by simp; omega)).mono ?_
  exact rp73
 obtain ⟨k, rfl⟩ := Int.eq_ofNat_of_zero_le (show 0 ≤ n by omega)
 have hRk : x.s.raw k = ((x.s.next k).1, (x.s.next k).2.1) := by rw [FI.raw, if_neg h0, Int.toNat_natCast]
 rw [hRk]
 clear h0 hRk
 by_cases hl : x.s.l.length < k
 ·have hl' : (x.s.l.length : Int) < k := by omega
  have hN : Hid (x.s.next k = (x.s.fail 3, [], false)) := Lib.hid (by rw [FI.next, if_neg (by simp [HE.out]), if_pos hl])
  rw [hN.out]
  have hk0 : ¬ (k : Int) < 0 := by omega
  go_enter Tryz.func224, Tryz.ntmps224
  go_wp2_with (fail)
  refine (refFail_any x 3 (by decide) B _ (by repeat (first | with_reducible exact HX.out | with_reducible refine RIn.alloc ?_ (by first | omega | (simp; omega)) _ | with_reducible refine RIn.drewN ?_ _ | with_reducible refine RIn.drew ?_)) (by simp; omega)).mono ?_
  exact rp73
 ·have hl' : (k : Int) ≤ x.s.l.length := by omega
  have hN : Hid (x.s.next k = (⟨x.s.l.drop k, 0⟩, x.s.l.take k, true)) := Lib.hid (by rw [FI.next, if_neg (by simp [HE.out]), if_neg hl])
  rw [hN.out]
  have hk0 : ¬ (k : Int) < 0 := by omega
  have hk1 : (0 : Int) ≤ k := by omega
  have hkc : (k : Int) ≤ x.cap := by omega
  have hlc : (x.s.l.length : Int) ≤ x.cap := by omega
  have HL := Lib.hid hl
  clear hl
  go_enter Tryz.func224, Tryz.ntmps224
  go_wp2_with (fail)
  go_region
  all_goals (try go_wp2)
  ·have hck : x.cap = k := by assumption
   have hlk : x.s.l.length = k := by omega
   refine bodyPost_ret (v := .tuple #[.agg #[.slice x.A (x.s.l.length - k) 0, .int .i64 0], .slice x.A k k]) (by simp [results, Tryz.results224, go_sem]) rfl ?_
   refine ⟨⟨x.A, 0, ⟨x.s.l.drop k, 0⟩⟩, x.A, k, ?_, rfl, ?_, ?_, ?_⟩
   ·show _ = Ending.returned (.tuple #[.agg #[.slice x.A (x.s.l.drop k).length 0, .int .i64 0], .slice x.A (x.s.l.take k).length k])
    rw [List.length_drop, List.length_take, Nat.min_eq_left (by omega)]
   ·have := HX.out.drop (k := k) (by omega)
    rw [if_pos hck, hck, Nat.sub_self] at this
    exact ((this.alloc hB _).alloc (by simp; omega) _).drew
   ·exact rp43
   ·exact rp4
  ·have hck : ¬ x.cap = k := by assumption
   refine bodyPost_ret (v := .tuple #[.agg #[.slice (x.A.map (·.add k)) (x.s.l.length - k) (x.cap - k), .int .i64 0], .slice x.A k x.cap]) (by simp [results, Tryz.results224, go_sem]) rfl ?_
   refine ⟨⟨x.A.map (·.add k), x.cap - k, ⟨x.s.l.drop k, 0⟩⟩, x.A, x.cap, ?_, rfl, ?_, ?_, ?_⟩
   ·show _ = Ending.returned (.tuple #[.agg #[.slice _ (x.s.l.drop k).length _, .int .i64 0], .slice x.A (x.s.l.take k).length _])
    rw [List.length_drop, List.length_take, Nat.min_eq_left (by omega)]
   ·have := HX.out.drop (k := k) (by omega)
    rw [if_neg hck] at this
    exact ((this.alloc hB _).alloc (by simp; omega) _).drew
   ·exact rp43
   ·exact rp4
def UPost (B : Nat) (w : World) (r : FI × Nat) (e : Ending) (w' : World) : Prop :=
 ∃ y : RI, e = .returned (.tuple #[y.agg, .int .u64 r.2]) ∧ y.s = r.1 ∧ RIn w' B y ∧ Below w.heap.size w w'
theorem raw_len (s : FI) (k : Nat) : (s.raw k).2.length ≤ k := by
 rw [FI.raw, if_neg (by omega), Int.toNat_natCast]; exact s.next_len k
theorem raw_bytes (s : FI) (k : Nat) (h : bytesB s.l) : bytesB (s.raw k).2 := by
 rw [FI.raw, if_neg (by omega), Int.toNat_natCast]; exact s.next_bytes k h
theorem upto_raw (s : FI) (j : Nat) (most : Nat) (hk : knownB j = true) (hi : s.e ≠ 0 → s.l = []) : s.upto j most = if (s.raw j).1.e ≠ 0 then ((s.raw j).1, 0) else if most < numB (s.raw j).2 then ((s.raw j).1.fail 4, 0) else ((s.raw j).1, numB (s.raw j).2) := by
 have hr : s.raw (j : Int) = ((s.next j).1, (s.next j).2.1) := by rw [FI.raw, if_neg (show ¬ (j : Int) < 0 by omega), Int.toNat_natCast]
 rw [hr]
 by_cases he : s.e = 0
 ·rw [FI.upto, if_neg (by simp [he]), hk, if_pos rfl, Int.toNat_natCast]
  by_cases hl : s.l.length < j
  ·have hN : s.next j = (s.fail 3, [], false) := by rw [FI.next, if_neg (by simp [he]), if_pos hl]
   rw [hN]
   have := s.fail_e 3 (by decide)
   simp only [Bool.false_eq_true, if_false]
   rw [if_pos this]
  ·have hN : s.next j = (⟨s.l.drop j, 0⟩, s.l.take j, true) := by rw [FI.next, if_neg (by simp [he]), if_neg hl]
   rw [hN]
   simp
 ·have hN : s.next j = (s, [], false) := by rw [FI.next, if_pos he]
  rw [FI.upto, if_pos he, hN]
  simp only []
  rw [if_pos he]
theorem upto_bad (s : FI) (k : Int) (most : Nat) (hk : knownB k = false) (hi : s.e ≠ 0 → s.l = []) : s.upto k most = (s.fail 1, 0) := by
 by_cases he : s.e = 0
 ·rw [FI.upto, if_neg (by simp [he]), hk]; rfl
 ·rw [FI.upto, if_pos he, FI.fail, if_neg he]
  have := hi he
  cases s with
  | mk l e => simp at this; rw [this]
end Go.Proofs.YtmpedblelnpjdaaGreatDoor
/- The reference's Upto, Get, Read, Bool. -/
namespace Go.Proofs.YtmpedblelnpjdaaGreatDoor
open Go.RowKit
set_option linter.unusedSimpArgs false
set_option linter.unusedVariables false
set_option maxHeartbeats 8000000
attribute [local go_sem] RI.agg RI.cells RI.nil
theorem RIn.setC {w : World} {B : Nat} {x : RI} (h : RIn w B x) {p : Addr} (hB : B ≤ p.block) (u : Value) : RIn (w.setCell p u) B x := ⟨h.rd.setCell hB u, h.hc, h.hm, h.by_, h.inv⟩
theorem refUpto_any (x : RI) (k : Int) (most : Nat) (B : Nat) (w : World) (hx : RIn w B x) (hB : B ≤ w.heap.size) :
  Calls Tryz.prog 121 #[x.agg, .int .i64 k, .int .u64 most] w (UPost B w (x.s.upto k most)) := by
 have HX := Lib.hid hx
 have hinv := hx.inv
 have HBY := Lib.hid hx.by_
 clear hx
 cases hk : knownB k
 ·have hU := Lib.hid (upto_bad x.s k most hk hinv)
  rw [hU.out]
  have hkn : k < 1 ∨ (¬ k < 1 ∧ 8 < k) := by
   have : ¬ (1 ≤ k ∧ k ≤ 8) := fun h => by rw [(knownB_iff k).2 h] at hk; cases hk
   omega
  clear hinv
  rcases hkn with h1 | ⟨h1, h8⟩
  all_goals
   go_enter Tryz.func121, Tryz.ntmps121
   go_wp2_with (fail)
   refine (refFail_any x 1 (by decide) B _ (by repeat (first | with_reducible exact HX.out | with_reducible refine RIn.alloc ?_ (by first | omega | (simp; omega)) _ | with_reducible refine RIn.drewN ?_ _ | with_reducible refine RIn.drew ?_)) (by simp; omega)).mono ?_
   rintro e w1 ⟨y, rfl, hy, h1, h2⟩
   have HY := Lib.hid hy
   have HY1 := Lib.hid h1
   have hrs := (blk_at (w.alloc (.cells x.cells 130)) 130 (RI.nil 0).cells (w.heap.size + 1) (by simp)).below h2 (by simp); obtain ⟨r0, r1⟩ := ri_cells hrs; have f0 := hrs.frozen 0; have f1 := hrs.frozen 1; have q6 := hrs.lt; have HRS := Lib.hid hrs; dsimp only [RI.nil] at r0 r1; have HB1 := Lib.hid (box2_below h2); have hBw := Nat.le_trans hB HB1.out.size; clear h2 hrs
   clear hy h1
   go_wp2
   refine bodyPost_ret (v := .tuple #[y.agg, .int .u64 0]) (by simp [results, Tryz.results121, go_sem, r0, r1, q6]) rfl ⟨y, rfl, HY.out, ?_, ?_⟩
   ·exact (HY1.out.set2 (by omega) _ _)
   ·exact rp4
 ·obtain ⟨hk1, hk8⟩ := (knownB_iff k).1 hk
  obtain ⟨j, rfl⟩ := Int.eq_ofNat_of_zero_le (show 0 ≤ k by omega)
  have hU := Lib.hid (upto_raw x.s j most hk hinv)
  rw [hU.out]
  have HRL := Lib.hid (Nat.le_trans (raw_len x.s j) (show j ≤ 8 by omega))
  have HRB := Lib.hid (raw_bytes x.s j HBY.out)
  have R := fun w => refRaw_any x j B w
  clear hinv hU
  generalize x.s.raw j = r at *
  obtain ⟨s', l⟩ := r
  have hn1 : ¬ (j : Int) < 1 := by omega
  have hn8 : ¬ (8 : Int) < j := by omega
  by_cases he : s'.e = 0
  ·simp only [he, ne_eq, not_true_eq_false, if_false]
   by_cases hm : most < numB l
   ·rw [if_pos hm]
    have hm' : (most : Int) < numB l := by omega
    go_enter Tryz.func121, Tryz.ntmps121
    go_wp2_with (fail)
    refine (R _ (by repeat (first | with_reducible exact HX.out | with_reducible refine RIn.alloc ?_ (by first | omega | (simp; omega)) _ | with_reducible refine RIn.drewN ?_ _ | with_reducible refine RIn.drew ?_)) (by simp; omega)).mono ?_
    rintro e w1 ⟨y, A2, c2, rfl, hy, h1, h3, h2⟩
    have HY1 := Lib.hid h1
    have H3 := Lib.hid h3
    have hye : (y.s.e != 0) = false := by rw [hy]; simp [he]
    have HYS := Lib.hid hy
    have hrs := (blk_at (w.alloc (.cells x.cells 130)) 130 (RI.nil 0).cells (w.heap.size + 1) (by simp)).below h2 (by simp); obtain ⟨r0, r1⟩ := ri_cells hrs; have f0 := hrs.frozen 0; have f1 := hrs.frozen 1; have q6 := hrs.lt; have HRS := Lib.hid hrs; dsimp only [RI.nil] at r0 r1; have HB1 := Lib.hid (box2_below h2); have hBw := Nat.le_trans hB HB1.out.size; clear h2 hrs
    clear hy h1 h3
    go_wp2_with (first | (go_at_call 222; refine (refNum_any A2 _ c2 B l _ (H3.out.alloc hBw _) HRB.out HRL.out).mono ?_; rintro e w' ⟨rfl, rfl⟩) | fail)
    refine (refFail_any y 4 (by decide) B _ (by repeat (first | with_reducible exact HY1.out | with_reducible refine RIn.alloc ?_ (by first | omega | (simp; omega)) _ | with_reducible refine RIn.setC ?_ (by first | omega | (simp <;> omega)) _ | with_reducible refine RIn.drewN ?_ _ | with_reducible refine RIn.drew ?_)) (by simp; omega)).mono ?_
    rintro e w2 ⟨z, rfl, hz, h1, h2⟩
    have HZ := Lib.hid hz
    have HZ1 := Lib.hid h1
    have HB2 := Lib.hid (HB1.out.trans ((show Below w1.heap.size w1 w2 from ((Below.refl _ _).alloc (Nat.le_refl _) _).trans (h2.mono (by simp))).mono HB1.out.size))
    have hrs2 := HRS.out.below (show Below w1.heap.size w1 w2 from ((Below.refl _ _).alloc (Nat.le_refl _) _).trans (h2.mono (by simp))) HRS.out.lt
    clear r0 r1 f0 f1 q6 hz h1 h2 HB1
    obtain ⟨r0, r1⟩ := ri_cells hrs2
    have f0 := hrs2.frozen 0
    have f1 := hrs2.frozen 1
    have q6 := hrs2.lt
    dsimp only [RI.nil] at r0 r1
    have HB1 := HB2
    go_wp2
    refine bodyPost_ret (v := .tuple #[z.agg, .int .u64 0]) (by simp [results, Tryz.results121, go_sem, r0, r1, q6]) rfl ⟨z, rfl, HZ.out.trans (by rw [HYS.out]), ?_, ?_⟩
    ·exact (HZ1.out.set2 (by omega) _ _)
    ·exact rp4
   ·rw [if_neg hm]
    have hm' : ¬ (most : Int) < numB l := by omega
    go_enter Tryz.func121, Tryz.ntmps121
    go_wp2_with (fail)
    refine (R _ (by repeat (first | with_reducible exact HX.out | with_reducible refine RIn.alloc ?_ (by first | omega | (simp; omega)) _ | with_reducible refine RIn.drewN ?_ _ | with_reducible refine RIn.drew ?_)) (by simp; omega)).mono ?_
    rintro e w1 ⟨y, A2, c2, rfl, hy, h1, h3, h2⟩
    have HY1 := Lib.hid h1
    have H3 := Lib.hid h3
    have hye : (y.s.e != 0) = false := by rw [hy]; simp [he]
    have HYS := Lib.hid hy
    have hrs := (blk_at (w.alloc (.cells x.cells 130)) 130 (RI.nil 0).cells (w.heap.size + 1) (by simp)).below h2 (by simp); obtain ⟨r0, r1⟩ := ri_cells hrs; have f0 := hrs.frozen 0; have f1 := hrs.frozen 1; have q6 := hrs.lt; have HRS := Lib.hid hrs; dsimp only [RI.nil] at r0 r1; have HB1 := Lib.hid (box2_below h2); have hBw := Nat.le_trans hB HB1.out.size; clear h2 hrs
    clear hy h1 h3
    go_wp2_with (first | (go_at_call 222; refine (refNum_any A2 _ c2 B l _ (H3.out.alloc hBw _) HRB.out HRL.out).mono ?_; rintro e w' ⟨rfl, rfl⟩) | fail)
    have j01 := ri_cells (x := y) (Blk.new w1 130 y.cells)
    have hr3 : Blk (w1.alloc (.cells y.cells 130)) (w.heap.size + 1) 130 (RI.nil 0).cells := HRS.out.alloc _
    have hi3 : RIn (w1.alloc (.cells y.cells 130)) B y := HY1.out.alloc hBw _
    have hd3 : Reads (w1.alloc (.cells y.cells 130)) B 1 A2 l.length (l.map (Value.int .u8)) := H3.out.alloc hBw _
    have hb3 : Below w.heap.size w (w1.alloc (.cells y.cells 130)) := HB1.out.alloc HB1.out.size _
    have hg : w.heap.size + 1 < w1.heap.size := q6
    have hq3 : w1.heap.size < (w1.alloc (.cells y.cells 130)).heap.size := by simp
    unfold RI.cells at *
    generalize w1.alloc (.cells #[.slice y.A y.s.l.length y.cap, .int .i64 y.s.e] 130) = w3 at *
    clear r0 r1 f0 f1 HB1
    obtain ⟨j0, j1⟩ := j01
    have HRS3 : Hid (Blk w3 (w.heap.size + 1) 130 (RI.nil 0).cells) := Lib.hid hr3
    obtain ⟨r0, r1⟩ := ri_cells HRS3.out
    have f0 := HRS3.out.frozen 0
    have f1 := HRS3.out.frozen 1
    dsimp only [RI.nil] at r0 r1
    have HY3 := Lib.hid hi3
    have HR3 := Lib.hid hd3
    have HB1 := Lib.hid hb3
    clear hr3 hi3 hd3 hb3
    have n1 : (w1.heap.size = w.heap.size + 1) = False := by simp; omega
    have n2 : (w.heap.size + 1 = w1.heap.size) = False := by simp; omega
    go_region_held3 (fun w' => w'.cell? ⟨w1.heap.size, 0, none⟩ = some (.slice y.A y.s.l.length y.cap) ∧ w'.cell? ⟨w1.heap.size, 1, none⟩ = some (.int .i64 y.s.e)) (go_keep) (first
     | (go_at_call 222; refine (refNum_any A2 _ c2 B l _ ?_ HRB.out HRL.out).mono ?_; (· repeat (first | with_reducible refine Reads.drew ?_ | with_reducible refine Reads.setCell ?_ (by simp <;> omega) _ | with_reducible exact HR3.out)); rintro e w' ⟨rfl, rfl⟩)
     | fail)
    all_goals
     go_wp2
     refine bodyPost_ret (v := .tuple #[y.agg, .int .u64 (numB l)]) (by simp [results, Tryz.results121, go_sem, r0, r1, q6]) rfl ⟨y, rfl, HYS.out, ?_, ?_⟩
     ·repeat (first | with_reducible exact HY3.out | with_reducible refine RIn.setC ?_ (by simp <;> omega) _ | with_reducible refine RIn.drew ?_)
     ·exact rp4
  ·have he1 : ¬ s'.e = 0 := he
   rw [if_pos he]
   go_enter Tryz.func121, Tryz.ntmps121
   go_wp2_with (fail)
   refine (R _ (by repeat (first | with_reducible exact HX.out | with_reducible refine RIn.alloc ?_ (by first | omega | (simp; omega)) _ | with_reducible refine RIn.drewN ?_ _ | with_reducible refine RIn.drew ?_)) (by simp; omega)).mono ?_
   rintro e w1 ⟨y, A2, c2, rfl, hy, h1, h3, h2⟩
   have HY1 := Lib.hid h1
   have hye : (y.s.e != 0) = true := by rw [hy]; simp [he]
   have HYS := Lib.hid hy
   have hrs := (blk_at (w.alloc (.cells x.cells 130)) 130 (RI.nil 0).cells (w.heap.size + 1) (by simp)).below h2 (by simp); obtain ⟨r0, r1⟩ := ri_cells hrs; have f0 := hrs.frozen 0; have f1 := hrs.frozen 1; have q6 := hrs.lt; have HRS := Lib.hid hrs; dsimp only [RI.nil] at r0 r1; have HB1 := Lib.hid (box2_below h2); have hBw := Nat.le_trans hB HB1.out.size; clear h2 hrs
   clear hy h1 h3
   go_wp2
   refine bodyPost_ret (v := .tuple #[y.agg, .int .u64 0]) (by simp [results, Tryz.results121, go_sem, r0, r1, q6]) rfl ⟨y, rfl, HYS.out, ?_, ?_⟩
   ·exact rp30
   ·exact rp4
end Go.Proofs.YtmpedblelnpjdaaGreatDoor
/- The reference's Get, Read, Bool. -/
namespace Go.Proofs.YtmpedblelnpjdaaGreatDoor
open Go.RowKit
set_option linter.unusedSimpArgs false
set_option linter.unusedVariables false
set_option maxHeartbeats 8000000
attribute [local go_sem] RI.agg RI.cells RI.nil
theorem refGet_any (x : RI) (k : Int) (B : Nat) (w : World) (hx : RIn w B x) (hB : B ≤ w.heap.size) :
  Calls Tryz.prog 51 #[x.agg, .int .i64 k] w (UPost B w (x.s.upto k 18446744073709551615)) := by
 have HX := Lib.hid hx
 have R := fun w => refUpto_any x k 18446744073709551615 B w
 clear hx
 generalize x.s.upto k 18446744073709551615 = r at *
 obtain ⟨s', q⟩ := r
 go_enter Tryz.func51, Tryz.ntmps51
 go_wp2_with (fail)
 refine (R _ (by repeat (first | with_reducible exact HX.out | with_reducible refine RIn.alloc ?_ (by first | omega | (simp; omega)) _ | with_reducible refine RIn.drewN ?_ _ | with_reducible refine RIn.drew ?_)) (by simp; omega)).mono ?_
 rintro e w1 ⟨y, rfl, hy, h1, h2⟩
 have HY1 := Lib.hid h1
 have HYS := Lib.hid hy
 have hrs := (blk_at (w.alloc (.cells x.cells 130)) 130 (RI.nil 0).cells (w.heap.size + 1) (by simp)).below h2 (by simp); obtain ⟨r0, r1⟩ := ri_cells hrs; have f0 := hrs.frozen 0; have f1 := hrs.frozen 1; have q6 := hrs.lt; have HRS := Lib.hid hrs; dsimp only [RI.nil] at r0 r1; have HB1 := Lib.hid (box2_below h2); have hBw := Nat.le_trans hB HB1.out.size; clear h2 hrs
 clear hy h1
 go_wp2
 refine bodyPost_ret (v := .tuple #[y.agg, .int .u64 q]) (by simp [results, Tryz.results51, go_sem, r0, r1, q6]) rfl ⟨y, rfl, HYS.out, ?_, ?_⟩
 ·exact rp30
 ·exact rp4
def BPost (B : Nat) (w : World) (s : FI) (v : Bool) (e : Ending) (w' : World) : Prop :=
 ∃ y : RI, e = .returned (.tuple #[y.agg, .bool v]) ∧ y.s = s ∧ RIn w' B y ∧ Below w.heap.size w w'
theorem refBool_any (x : RI) (B : Nat) (w : World) (hx : RIn w B x) (hB : B ≤ w.heap.size) :
  Calls Tryz.prog 225 #[x.agg] w (BPost B w (x.s.upto 1 1).1 (decide ((x.s.upto 1 1).2 = 1))) := by
 have HX := Lib.hid hx
 have R := fun w => refUpto_any x 1 1 B w
 clear hx
 generalize x.s.upto 1 1 = r at *
 obtain ⟨s', q⟩ := r
 have hqq : ((q : Int) == 1) = decide (q = 1) := by
  by_cases h : q = 1
  ·simp [h]
  ·simp [h]; omega
 obtain ⟨bq, hbq⟩ : ∃ bq, bq = decide (q = 1) := ⟨_, rfl⟩
 simp only []
 rw [← hbq] at hqq ⊢
 clear hbq
 go_enter Tryz.func225, Tryz.ntmps225
 go_wp2_with (fail)
 refine (R _ (by repeat (first | with_reducible exact HX.out | with_reducible refine RIn.alloc ?_ (by first | omega | (simp; omega)) _ | with_reducible refine RIn.drewN ?_ _ | with_reducible refine RIn.drew ?_)) (by simp; omega)).mono ?_
 rintro e w1 ⟨y, rfl, hy, h1, h2⟩
 have HY1 := Lib.hid h1
 have HYS := Lib.hid hy
 have hrs := (blk_at (w.alloc (.cells x.cells 130)) 130 (RI.nil 0).cells (w.heap.size + 1) (by simp)).below h2 (by simp); obtain ⟨r0, r1⟩ := ri_cells hrs; have f0 := hrs.frozen 0; have f1 := hrs.frozen 1; have q6 := hrs.lt; have HRS := Lib.hid hrs; dsimp only [RI.nil] at r0 r1; have HB1 := Lib.hid (box2_below h2); have hBw := Nat.le_trans hB HB1.out.size; clear h2 hrs
 clear hy h1
 go_wp2
 refine bodyPost_ret (v := .tuple #[y.agg, .bool bq]) (by simp [results, Tryz.results225, go_sem, r0, r1, q6]) rfl ⟨y, rfl, HYS.out, ?_, ?_⟩
 ·exact rp30
 ·exact rp4
theorem text_upto (s : FI) (most : Int) (hb : bytesB s.l) : s.text most = if (s.upto 2 18446744073709551615).1.e ≠ 0 then ((s.upto 2 18446744073709551615).1, []) else if most < ((s.upto 2 18446744073709551615).2 : Int) then ((s.upto 2 18446744073709551615).1.fail 6, []) else (s.upto 2 18446744073709551615).1.raw (s.upto 2 18446744073709551615).2 := by
 have hk : knownB 2 = true := rfl
 have h2 : (2 : Int).toNat = 2 := rfl
 by_cases he : s.e = 0
 ·by_cases hl : s.l.length < 2
  ·have hN : s.next 2 = (s.fail 3, [], false) := by rw [FI.next, if_neg (by simp [he]), if_pos hl]
   have hU : s.upto 2 18446744073709551615 = (s.fail 3, 0) := by rw [FI.upto, if_neg (by simp [he]), hk, if_pos rfl, h2, hN]; rfl
   have hT : s.text most = (s.fail 3, []) := by rw [FI.text, hN]; rfl
   have := s.fail_e 3 (by decide)
   rw [hU, hT, if_pos this]
  ·have hN : s.next 2 = (⟨s.l.drop 2, 0⟩, s.l.take 2, true) := by rw [FI.next, if_neg (by simp [he]), if_neg hl]
   have hlt := numB_lt (s.l.take 2) (bytesB_take _ _ hb)
   have hp : 256 ^ (s.l.take 2).length ≤ 256 ^ 2 := Nat.pow_le_pow_right (by decide) (by rw [List.length_take]; omega)
   have hU : s.upto 2 18446744073709551615 = (⟨s.l.drop 2, 0⟩, numB (s.l.take 2)) := by
    rw [FI.upto, if_neg (by simp [he]), hk, if_pos rfl, h2, hN]
    simp only [if_true]
    rw [if_neg (by omega)]
   rw [hU, FI.text, hN]
   simp
 ·have hN : s.next 2 = (s, [], false) := by rw [FI.next, if_pos he]
  have hU : s.upto 2 18446744073709551615 = (s, 0) := by rw [FI.upto, if_pos he]
  rw [hU, FI.text, hN]
  simp [he]
theorem upto2_lt (s : FI) (hb : bytesB s.l) : (s.upto 2 18446744073709551615).2 < 65536 := by
 have hk : knownB 2 = true := rfl
 have h2 : (2 : Int).toNat = 2 := rfl
 by_cases he : s.e = 0
 ·by_cases hl : s.l.length < 2
  ·have hN : s.next 2 = (s.fail 3, [], false) := by rw [FI.next, if_neg (by simp [he]), if_pos hl]
   have hU : s.upto 2 18446744073709551615 = (s.fail 3, 0) := by rw [FI.upto, if_neg (by simp [he]), hk, if_pos rfl, h2, hN]; rfl
   rw [hU]; show (0 : Nat) < 65536; decide
  ·have hN : s.next 2 = (⟨s.l.drop 2, 0⟩, s.l.take 2, true) := by rw [FI.next, if_neg (by simp [he]), if_neg hl]
   have hlt := numB_lt (s.l.take 2) (bytesB_take _ _ hb)
   have hp : 256 ^ (s.l.take 2).length ≤ 256 ^ 2 := Nat.pow_le_pow_right (by decide) (by rw [List.length_take]; omega)
   have hU : s.upto 2 18446744073709551615 = (⟨s.l.drop 2, 0⟩, numB (s.l.take 2)) := by
    rw [FI.upto, if_neg (by simp [he]), hk, if_pos rfl, h2, hN]
    simp only [if_true]
    rw [if_neg (by omega)]
   rw [hU]; show numB _ < 65536; omega
 ·have hU : s.upto 2 18446744073709551615 = (s, 0) := by rw [FI.upto, if_pos he]
  rw [hU]; show (0 : Nat) < 65536; decide
end Go.Proofs.YtmpedblelnpjdaaGreatDoor
/- Numbers put and read back, plain; Put of a number that fits; what a step of Out leaves (the parts of SesH, SesI without package sess). -/
namespace Go.Proofs.YtmpedblelnpjdaaGreatDoor
open Go.RowKit
set_option linter.unusedSimpArgs false
set_option linter.unusedVariables false
set_option maxHeartbeats 2000000
set_option maxRecDepth 100000
theorem big_bytes (n j : Nat) : bytesB (big n j) := by
 intro z hz
 unfold big digit at hz
 rw [List.mem_map] at hz
 obtain ⟨i, _, rfl⟩ := hz
 omega
theorem bytesB_drop (l : List Int) (k : Nat) (h : bytesB l) : bytesB (l.drop k) := fun z hz => h z (List.mem_of_mem_drop hz)
theorem bytesB_nil : bytesB [] := fun z hz => by cases hz
theorem bytesB_app {a b : List Int} (ha : bytesB a) (hb : bytesB b) : bytesB (a ++ b) := fun z hz => (List.mem_append.1 hz).elim (ha z) (hb z)
theorem FI.upto_bytes (s : FI) (z : Int) (most : Nat) (h : bytesB s.l) : bytesB (s.upto z most).1.l := by
 have hF : ∀ (t : FI) (x : Int), bytesB (t.fail x).l := fun t x => bytesB_nil
 have hN : ∀ k, bytesB (s.next k).1.l := fun k => by
  unfold FI.next
  split
  ·exact h
  ·split
   ·exact hF _ _
   ·exact bytesB_drop _ _ h
 unfold FI.upto
 split
 ·exact h
 ·split
  ·split
   ·split
    ·exact hF _ _
    ·exact hN _
   ·exact hN _
  ·exact hF _ _
theorem FI.upto_lt (s : FI) (j most : Nat) (h : bytesB s.l) : (s.upto j most).2 < 256 ^ j := by
 have h0 : 0 < 256 ^ j := Nat.pow_pos (by decide)
 unfold FI.upto
 split
 ·exact h0
 ·split
  ·split
   ·split
    ·exact h0
    ·rw [Int.toNat_natCast]
     exact Nat.lt_of_lt_of_le (numB_lt _ (s.next_bytes j h)) (Nat.pow_le_pow_right (by decide) (s.next_len j))
   ·exact h0
  ·exact h0
theorem FI.upto_most (s : FI) (z : Int) (most : Nat) : (s.upto z most).2 ≤ most := by
 unfold FI.upto
 repeat' split
 all_goals (first | exact Nat.zero_le _ | omega)
theorem FI.upto_short (s : FI) (z : Int) (most : Nat) : (s.upto z most).1.l.length ≤ s.l.length := by
 have hN : ∀ k, (s.next k).1.l.length ≤ s.l.length := fun k => s.next_short1 k
 unfold FI.upto
 repeat' split
 all_goals (first | exact Nat.le_refl _ | exact hN _ | (simp [FI.fail]; done))
theorem putNum_ok (g : Nat) (v : Value) (l : List Int) (m z : Int) (n k : Nat) (hz : z = n) (w : World) (hk : 1 ≤ k) (hk8 : k ≤ 8) (hn : n < 256 ^ k) (h : OutAt w g v ⟨l, m, 0⟩) (hm : (l.length : Int) + k ≤ m) (hl : l.length ≤ 999999000) :
  Calls Tryz.prog 59 #[.pointer (some ⟨g, 0, none⟩), .int .u64 z, .int .i64 k] w fun e w' => e = .returned (.tuple #[]) ∧ ∃ v', OutAt w' g v' ⟨l ++ big n k, m, 0⟩ ∧ OutStep w w' g v v' := by
 subst hz
 have hp : 256 ^ k ≤ 256 ^ 8 := Nat.pow_le_pow_right (by decide) hk8
 refine (putNum_any g v ⟨l, m, 0⟩ n k w (Nat.lt_of_lt_of_le hn hp) h hl).mono ?_
 rintro e w' ⟨he, v', h1, h2⟩
 refine ⟨he, v', ?_, h2⟩
 have : (⟨l, m, 0⟩ : FO).num n k = ⟨l ++ big n k, m, 0⟩ := by
  rw [FO.num, (knownB_iff (k : Int)).2 (by omega), if_pos rfl, Int.toNat_natCast, fitsB, decide_eq_true hn, if_pos rfl, FO.put, if_pos rfl, if_neg]
  rw [big_len]
  simp only
  omega
 rwa [this] at h1
def Off (lo hi : Nat) (v : Value) : Prop := ∀ k, v.ownBlock = some k → k < lo ∨ hi ≤ k
theorem OutStep.off {W W' : World} {g lo hi : Nat} {v v' : Value} (h : OutStep W W' g v v') (hd : Off lo hi v) (hh : hi ≤ W.heap.size) : Off lo hi v' := by
 intro k hk
 rcases h.1 with e | e
 ·rw [e] at hk; exact hd k hk
 ·exact .inr (Nat.le_trans hh (e k hk))
theorem OutStep.blk {W W' : World} {g b : Nat} {v v' : Value} {t : TypeId} {cs : Array Value} (h : OutStep W W' g v v') (hb : Blk W b t cs) (hg : g < b) (hd : Off b (b + 1) v) : Blk W' b t cs :=
  h.2.blk hb (by rintro (e | e); · omega
                 · have := hd b e; omega)
theorem OutStep.own {W W' : World} {g base hi n sz : Nat} {v v' rv : Value} {t : TypeId} {xs : List Value} (h : OutStep W W' g v v') (ho : W.ownsRow base t sz rv n xs) (hlt : ∀ k, rv.ownBlock = some k → k < hi) (hg : g < base) (hd : Off base hi v) : W'.ownsRow base t sz rv n xs :=
 h.2.own ho (fun k hk e => by
  have h1 := (ho.lt k hk).1
  have h2 := hlt k hk
  rcases e with e | e
  ·omega
  ·have := hd k e; omega)
theorem OutAt.off {w : World} {g : Nat} {v : Value} {s : FO} (h : OutAt w g v s) (hi : Nat) : Off w.heap.size hi v := fun k hk => .inl (h.2.1.lt k hk).2
theorem own_reads {w : World} {base sz n c : Nat} {t : TypeId} {A : Option Addr} {xs : List Value} (h : w.ownsRow base t sz (.slice A n c) n xs) : Reads w w.heap.size sz A n xs := by
 obtain ⟨A', c', e, hr, _, _⟩ := own_slice h
 cases e
 exact hr
theorem u64_keep {z : Int} (h : 0 ≤ z ∧ z < 18446744073709551616) : IntKind.u64.wrap z = z := by rw [IntKind.wrap_u64]; omega
end Go.Proofs.YtmpedblelnpjdaaGreatDoor
/- Updates: as data, in memory; a slice of them that came in. -/
namespace Go.Proofs.YtmpedblelnpjdaaGreatDoor
open Go.ChangeShapes Go.WideShapes Go.RowKit Go.Deep
set_option linter.unusedSimpArgs false
set_option linter.unusedVariables false
set_option maxHeartbeats 1000000
structure Up where
 seq : Int
 cl : Int
 num : Int
 kd : Int
 key : Int
 ver : Int
 A : Option Addr
 n : Nat
 c : Nat
 bs : List Int
def Up.zero : Up := ⟨0, 0, 0, 0, 0, 0, none, 0, 0, []⟩
def Up.row (u : Up) : List Value := [.int .u64 u.seq, .int .i64 u.cl, .int .u64 u.num, .int .i64 u.kd, .int .u32 u.key, .int .u64 u.ver, .slice u.A u.n u.c]
def Up.agg (u : Up) : Value := .agg #[.int .u64 u.seq, .int .i64 u.cl, .int .u64 u.num, .int .i64 u.kd, .int .u32 u.key, .int .u64 u.ver, .slice u.A u.n u.c]
def Up.cells (u : Up) : Array Value := #[.int .u64 u.seq, .int .i64 u.cl, .int .u64 u.num, .int .i64 u.kd, .int .u32 u.key, .int .u64 u.ver, .slice u.A u.n u.c]
theorem Up.row_len (u : Up) : u.row.length = 7 := rfl
structure Up.wf (u : Up) : Prop where
 seq : 0 ≤ u.seq ∧ u.seq ≤ 18446744073709551615
 cl : -9223372036854775808 ≤ u.cl ∧ u.cl ≤ 9223372036854775807
 num : 0 ≤ u.num ∧ u.num ≤ 18446744073709551615
 kd : -9223372036854775808 ≤ u.kd ∧ u.kd ≤ 9223372036854775807
 key : 0 ≤ u.key ∧ u.key ≤ 4294967295
 ver : 0 ≤ u.ver ∧ u.ver ≤ 18446744073709551615
 bs : ∀ z ∈ u.bs, 0 ≤ z ∧ z ≤ 255
structure UpIn (w : World) (B : Nat) (u : Up) : Prop where
 rd : Reads w B 1 u.A u.n (u.bs.map (Value.int .u8))
 hc : u.n ≤ u.c
 hm : u.c ≤ maxLen
 wf : u.wf
theorem UpIn.below {w w' : World} {B : Nat} {u : Up} (h : UpIn w B u) (hb : Below B w w') : UpIn w' B u := ⟨h.rd.below hb, h.hc, h.hm, h.wf⟩
theorem UpIn.more {w : World} {B B' : Nat} {u : Up} (h : UpIn w B u) (hb : B ≤ B') : UpIn w B' u := ⟨h.rd.more hb, h.hc, h.hm, h.wf⟩
theorem UpIn.len {w : World} {B : Nat} {u : Up} (h : UpIn w B u) : u.bs.length = u.n := by have := h.rd.1; simpa using this
def Up.val (u : Up) : Int × Int × Int × Int × Int × Int × List Int := (u.seq, u.cl, u.num, u.kd, u.key, u.ver, u.bs)
structure UpsIn (w : World) (B : Nat) (A : Option Addr) (n : Nat) (l : List Up) : Prop where
 rd : Reads w B 7 A n (l.flatMap Up.row)
 mem : ∀ u ∈ l, UpIn w B u
theorem UpsIn.below {w w' : World} {B n : Nat} {A : Option Addr} {l : List Up} (h : UpsIn w B A n l) (hb : Below B w w') : UpsIn w' B A n l := ⟨h.rd.below hb, fun u hu => (h.mem u hu).below hb⟩
theorem UpsIn.more {w : World} {B B' n : Nat} {A : Option Addr} {l : List Up} (h : UpsIn w B A n l) (hb : B ≤ B') : UpsIn w B' A n l := ⟨h.rd.more hb, fun u hu => (h.mem u hu).more hb⟩
theorem UpsIn.len {w : World} {B n : Nat} {A : Option Addr} {l : List Up} (h : UpsIn w B A n l) : l.length = n := flat_len Up.row Up.row_len (by omega) h.rd
theorem UpsIn.nil (w : World) (B : Nat) : UpsIn w B none 0 [] := ⟨Reads.none_, fun u hu => by simp at hu⟩
theorem UpsIn.at_ {w : World} {B n k : Nat} {A : Option Addr} {l : List Up} (h : UpsIn w B A n l) (hk : k < n) :
  ∃ b off u, A = some ⟨b, off, none⟩ ∧ b < B ∧ l[k]? = some u ∧ UpIn w B u ∧ (w.cell? ⟨b, off + k * 7, none⟩ = some (.int .u64 u.seq) ∧ w.cell? ⟨b, off + k * 7 + 1, none⟩ = some (.int .i64 u.cl) ∧ w.cell? ⟨b, off + k * 7 + 2, none⟩ = some (.int .u64 u.num) ∧
   w.cell? ⟨b, off + k * 7 + 3, none⟩ = some (.int .i64 u.kd) ∧ w.cell? ⟨b, off + k * 7 + 4, none⟩ = some (.int .u32 u.key) ∧ w.cell? ⟨b, off + k * 7 + 5, none⟩ = some (.int .u64 u.ver) ∧ w.cell? ⟨b, off + k * 7 + 6, none⟩ = some (.slice u.A u.n u.c)) := by
 obtain ⟨b, off, u, hA, hb, hu, hc⟩ := reads_at Up.row Up.row_len (by omega) h.rd hk
 refine ⟨b, off, u, hA, hb, hu, h.mem u (List.mem_of_getElem? hu), hc 0 _ rfl, hc 1 _ rfl, hc 2 _ rfl, hc 3 _ rfl, hc 4 _ rfl, hc 5 _ rfl, hc 6 _ rfl⟩
end Go.Proofs.YtmpedblelnpjdaaGreatDoor
/- An update's bytes; PutUpdate. -/
namespace Go.Proofs.YtmpedblelnpjdaaGreatDoor
open Go.RowKit
set_option linter.unusedSimpArgs false
set_option linter.unusedVariables false
set_option maxHeartbeats 2000000
set_option maxRecDepth 100000
attribute [local go_sem] Up.agg Up.cells
def upB (u : Up) : List Int := big u.seq.toNat 8 ++ big u.cl.toNat 1 ++ big u.num.toNat 8 ++ big u.kd.toNat 1 ++ big u.key.toNat 4 ++ big u.ver.toNat 8 ++ (big u.bs.length 2 ++ u.bs)
theorem upB_len (u : Up) : (upB u).length = 32 + u.bs.length := by simp [upB, big_len]; omega
structure Up.put (u : Up) : Prop where
 cl : 0 ≤ u.cl ∧ u.cl ≤ 255
 kd : 0 ≤ u.kd ∧ u.kd ≤ 255
 bs : u.bs.length ≤ 2048
theorem upB_bytes (u : Up) (h : bytesB u.bs) : bytesB (upB u) :=
 bytesB_app (bytesB_app (bytesB_app (bytesB_app (bytesB_app (bytesB_app (big_bytes _ _) (big_bytes _ _)) (big_bytes _ _)) (big_bytes _ _)) (big_bytes _ _)) (big_bytes _ _)) (bytesB_app (big_bytes _ _) h)
theorem OutStep.bel {W W' : World} {g B : Nat} {v v' : Value} {s : FO} (h : OutStep W W' g v v') (ho : OutAt W g v s) (hB : B ≤ g) : Below B W W' :=
 h.2.below (by have := ho.1.lt; omega) (fun k hk e => by
  rcases e with e | e
  ·omega
  ·have := (ho.2.1.lt k e).1; omega)
theorem text_ok (g : Nat) (v : Value) (l : List Int) (m : Int) (A : Option Addr) (n c B : Nat) (b : List Int) (w : World) (h : OutAt w g v ⟨l, m, 0⟩) (hB : B ≤ w.heap.size) (hr : Reads w B 1 A n (b.map (Value.int .u8))) (hn : n = b.length)
  (hl : l.length ≤ 900000000) (hn2 : n ≤ 65535) (hm : (l.length : Int) + 2 + n ≤ m) :
  Calls Tryz.prog 134 #[.pointer (some ⟨g, 0, none⟩), .slice A n c] w fun e w' => e = .returned (.tuple #[]) ∧ ∃ v', OutAt w' g v' ⟨l ++ (big b.length 2 ++ b), m, 0⟩ ∧ OutStep w w' g v v' := by
 refine (text_any g v ⟨l, m, 0⟩ A n c B b w h hB hr hn hl hn2).mono ?_
 rintro e w' ⟨he, v', h1, h2⟩
 refine ⟨he, v', ?_, h2⟩
 have : (⟨l, m, 0⟩ : FO).text b = ⟨l ++ (big b.length 2 ++ b), m, 0⟩ := by
  rw [FO.text, if_neg (by omega), FO.put, if_pos rfl, if_neg]
  rw [List.length_append, big_len]
  simp only
  omega
 rwa [this] at h1
end Go.Proofs.YtmpedblelnpjdaaGreatDoor
/- Updates read from bytes: plain. -/
namespace Go.Proofs.YtmpedblelnpjdaaGreatDoor
open Go.RowKit
set_option linter.unusedSimpArgs false
set_option linter.unusedVariables false
set_option maxHeartbeats 1000000
def Up.zval : Int × Int × Int × Int × Int × Int × List Int := (0, 0, 0, 0, 0, 0, [])
def g1 (s : FI) : FI × Nat := s.upto 8 18446744073709551615
def g2 (s : FI) : FI × Nat := (g1 s).1.upto 1 18446744073709551615
def g3 (s : FI) : FI × Nat := (g2 s).1.upto 8 18446744073709551615
def g4 (s : FI) : FI × Nat := (g3 s).1.upto 1 18446744073709551615
def g5 (s : FI) : FI × Nat := (g4 s).1.upto 4 18446744073709551615
def g6 (s : FI) : FI × Nat := (g5 s).1.upto 8 18446744073709551615
def g7 (s : FI) : FI × List Int := (g6 s).1.text 2048
def getUv (s : FI) : Int × Int × Int × Int × Int × Int × List Int :=
 if (g7 s).1.e = 0 then ((g1 s).2, (g2 s).2, (g3 s).2, (g4 s).2, (g5 s).2, (g6 s).2, (g7 s).2) else Up.zval
def getUi (s : FI) : FI := (g7 s).1
end Go.Proofs.YtmpedblelnpjdaaGreatDoor
/- Raw and Text of In, with a row of its own; GetUpdate. -/
namespace Go.Proofs.YtmpedblelnpjdaaGreatDoor
open Go.RowKit
set_option linter.unusedSimpArgs false
set_option linter.unusedVariables false
set_option maxHeartbeats 2000000
set_option maxRecDepth 100000
attribute [local go_sem] Up.agg Up.cells
theorem own_base {w : World} {base base' : Nat} {e : TypeId} {size : Nat} {v : Value} {n : Nat} {xs : List Value} (h : w.ownsRow base e size v n xs) (hb : base' ≤ base) : w.ownsRow base' e size v n xs := by
 refine ⟨h.1, ?_⟩
 rcases h.2 with h2 | ⟨g, cap, cur, h1, h2, h3⟩
 ·exact .inl h2
 ·exact .inr ⟨g, cap, cur, h1, by omega, h3⟩
theorem rawInO_any (g : Nat) (s : FI) (n : Int) (B : Nat) (w : World) (h : InAt w g B s) (hn : n ≤ 9223372036854775807) (hl : s.l.length ≤ 1000000000) :
  Calls Tryz.prog 315 #[.pointer (some ⟨g, 0, none⟩), .int .i64 n] w fun e w' => ∃ A c, e = .returned (.slice A (s.raw n).2.length c) ∧ InAt w' g B (s.raw n).1 ∧ Chg w w' (isG g) ∧ w'.ownsRow w.heap.size 5 1 (.slice A (s.raw n).2.length c) (s.raw n).2.length ((s.raw n).2.map (Value.int .u8)) := by
 have HI := Lib.hid h
 clear h
 by_cases h0 : n < 0
 ·have hm : (if (0 : Int) < n then n else 0) = 0 := if_neg (by omega)
  have hR : s.raw n = (s.fail 1, []) := by rw [FI.raw, if_pos h0]
  rw [hR]
  clear hR
  go_enter Tryz.func315, Tryz.ntmps315
  go_wp2_with (fail)
  refine (failIn_any g s 1 B _ HI.out).mono ?_
  rintro e w1 ⟨rfl, h1, h2⟩
  have H1 := Lib.hid h1
  have H2 := Lib.hid h2
  clear h1 h2
  go_wp2_with (fail)
  refine (next_any g (s.fail 1) 0 B _ H1.out (by omega)).mono ?_
  rw [FI.next_of_e _ _ (s.fail_e 1 (by decide))]
  rintro e w2 ⟨A1, n1, rfl, h1, h2, h3⟩
  have H3 := Lib.hid h1
  have H4 := Lib.hid (H2.out.trans h2 (fun _ _ x => x))
  clear h1 h2 h3
  go_wp2
  go_ret
  exact ⟨none, 0, rfl, H3.out, H4.out, World.ownsRow_nil _ _ _ _⟩
 ·obtain ⟨k, rfl⟩ := Int.eq_ofNat_of_zero_le (show 0 ≤ n by omega)
  have hR : s.raw k = ((s.next k).1, (s.next k).2.1) := by rw [FI.raw, if_neg h0, Int.toNat_natCast]
  rw [hR]
  clear hR
  have HF := Lib.hid (s.next_false k)
  have HL := Lib.hid (s.next_short k)
  have N := next_any g s k B w HI.out (by omega)
  generalize s.next k = r at N HF HL ⊢
  obtain ⟨s', b, ok⟩ := r
  cases ok
  ·obtain rfl : b = [] := HF.out rfl
   go_enter Tryz.func315, Tryz.ntmps315
   go_wp2_with (fail)
   refine N.mono ?_
   rintro e w1 ⟨A1, n1, rfl, h1, h2, h3⟩
   have H1 := Lib.hid h1
   have H2 := Lib.hid h2
   clear h1 h2 h3
   go_wp2
   go_ret
   exact ⟨none, 0, rfl, H1.out, H2.out, World.ownsRow_nil _ _ _ _⟩
  ·go_enter Tryz.func315, Tryz.ntmps315
   go_wp2_with (fail)
   refine N.mono ?_
   rintro e w1 ⟨A1, n1, rfl, h1, h2, h3⟩
   have H1 := Lib.hid h1
   have H2 := Lib.hid h2
   have H3 := Lib.hid h3
   clear h1 h2 h3
   go_wp2_with (fail)
   refine (clone_any A1 b.length n1 B b _ H1.out.le H3.out (Nat.le_trans HL.out hl)).mono ?_
   rintro e w2 ⟨u, rfl, h1, h2⟩
   obtain ⟨A2, c2, rfl, h3, _, _⟩ := own_slice h1
   have hz := H2.out.size
   have H4 := Lib.hid (H1.out.below (h2.mono H1.out.le))
   have H5 := Lib.hid (H2.out.trans (Chg.of_below h2 (isG g)) (fun _ _ x => x))
   have H6 := Lib.hid (own_base h1 hz)
   clear h1 h2 h3
   go_wp2
   go_ret
   exact ⟨A2, c2, rfl, H4.out, H5.out, H6.out⟩
theorem textInO_any (g : Nat) (s : FI) (most : Int) (B : Nat) (w : World) (h : InAt w g B s) (hl : s.l.length ≤ 1000000000) :
  Calls Tryz.prog 283 #[.pointer (some ⟨g, 0, none⟩), .int .i64 most] w fun e w' => ∃ A c, e = .returned (.slice A (s.text most).2.length c) ∧ InAt w' g B (s.text most).1 ∧ Chg w w' (isG g) ∧ w'.ownsRow w.heap.size 5 1 (.slice A (s.text most).2.length c) (s.text most).2.length ((s.text most).2.map (Value.int .u8)) := by
 have HI := Lib.hid h
 clear h
 unfold FI.text
 have HF := Lib.hid (s.next_false 2)
 have HL := Lib.hid (s.next_len 2)
 have HL1 := Lib.hid (s.next_short1 2)
 have HB := Lib.hid (s.next_bytes 2 HI.out.bytes)
 have N := next_any g s 2 B w HI.out (by omega)
 generalize s.next 2 = r at N HF HL HL1 HB ⊢
 obtain ⟨s', b, ok⟩ := r
 cases ok
 ·simp only [Bool.false_eq_true, if_false]
  go_enter Tryz.func283, Tryz.ntmps283
  go_wp2_with (fail)
  refine N.mono ?_
  rintro e w1 ⟨A1, n1, rfl, h1, h2, h3⟩
  have H1 := Lib.hid h1
  have H2 := Lib.hid h2
  clear h1 h2 h3
  go_wp2
  go_ret
  exact ⟨none, 0, rfl, H1.out, H2.out, World.ownsRow_nil _ _ _ _⟩
 ·simp only [if_true]
  have hq : numB b < 65536 := by
   have h1 := numB_lt b HB.out
   have h2 : 256 ^ b.length ≤ 256 ^ 2 := Nat.pow_le_pow_right (by decide) HL.out
   omega
  have hw : IntKind.i64.wrap (numB b : Int) = numB b := by rw [IntKind.wrap_i64]; omega
  by_cases hm : most < numB b
  ·rw [if_pos hm]
   go_enter Tryz.func283, Tryz.ntmps283
   go_wp2_with (fail)
   refine N.mono ?_
   rintro e w1 ⟨A1, n1, rfl, h1, h2, h3⟩
   have H1 := Lib.hid h1
   have H2 := Lib.hid h2
   have H3 := Lib.hid h3
   clear h1 h2 h3
   go_wp2_with (first | (go_at_call 182; refine (number_any _ _ _ _ _ _ H3.out HB.out (Nat.le_trans HL.out (by omega))).mono ?_; rintro e w' ⟨rfl, rfl⟩) | fail)
   refine (failIn_any g s' 6 B _ H1.out).mono ?_
   rintro e w2 ⟨rfl, h1, h2⟩
   have H4 := Lib.hid h1
   have H5 := Lib.hid (H2.out.trans h2 (fun _ _ x => x))
   clear h1 h2
   go_wp2
   go_ret
   exact ⟨none, 0, rfl, H4.out, H5.out, World.ownsRow_nil _ _ _ _⟩
  ·rw [if_neg hm]
   go_enter Tryz.func283, Tryz.ntmps283
   go_wp2_with (fail)
   refine N.mono ?_
   rintro e w1 ⟨A1, n1, rfl, h1, h2, h3⟩
   have H1 := Lib.hid h1
   have H2 := Lib.hid h2
   have H3 := Lib.hid h3
   clear h1 h2 h3
   go_wp2_with (first | (go_at_call 182; refine (number_any _ _ _ _ _ _ H3.out HB.out (Nat.le_trans HL.out (by omega))).mono ?_; rintro e w' ⟨rfl, rfl⟩) | fail)
   refine (rawInO_any g s' _ B _ H1.out (by omega) (Nat.le_trans HL1.out hl)).mono ?_
   rintro e w2 ⟨A2, n2, rfl, h1, h2, h3⟩
   have hz := H2.out.size
   have H4 := Lib.hid h1
   have H5 := Lib.hid (H2.out.trans h2 (fun _ _ x => x))
   have H6 := Lib.hid (own_base h3 hz)
   clear h1 h2 h3
   go_wp2
   go_ret
   exact ⟨A2, n2, rfl, H4.out, H5.out, H6.out⟩
end Go.Proofs.YtmpedblelnpjdaaGreatDoor
/- GetUpdate of package letter. -/
namespace Go.Proofs.YtmpedblelnpjdaaGreatDoor
open Go.RowKit
set_option linter.unusedSimpArgs false
set_option linter.unusedVariables false
set_option maxHeartbeats 4000000
set_option maxRecDepth 100000
attribute [local go_sem] Up.agg Up.cells
theorem gs_bytes (s : FI) (h : bytesB s.l) : bytesB (g1 s).1.l ∧ bytesB (g2 s).1.l ∧ bytesB (g3 s).1.l ∧ bytesB (g4 s).1.l ∧ bytesB (g5 s).1.l ∧ bytesB (g6 s).1.l := by
 have h1 : bytesB (g1 s).1.l := FI.upto_bytes _ _ _ h
 have h2 : bytesB (g2 s).1.l := FI.upto_bytes _ _ _ h1
 have h3 : bytesB (g3 s).1.l := FI.upto_bytes _ _ _ h2
 have h4 : bytesB (g4 s).1.l := FI.upto_bytes _ _ _ h3
 have h5 : bytesB (g5 s).1.l := FI.upto_bytes _ _ _ h4
 exact ⟨h1, h2, h3, h4, h5, FI.upto_bytes _ _ _ h5⟩
theorem gs_lt (s : FI) (h : bytesB s.l) : (g1 s).2 < 18446744073709551616 ∧ (g2 s).2 < 256 ∧ (g3 s).2 < 18446744073709551616 ∧ (g4 s).2 < 256 ∧ (g5 s).2 < 4294967296 ∧ (g6 s).2 < 18446744073709551616 := by
 obtain ⟨h1, h2, h3, h4, h5, h6⟩ := gs_bytes s h
 exact ⟨FI.upto_lt s 8 _ h, FI.upto_lt _ 1 _ h1, FI.upto_lt _ 8 _ h2, FI.upto_lt _ 1 _ h3, FI.upto_lt _ 4 _ h4, FI.upto_lt _ 8 _ h5⟩
theorem gs_short (s : FI) : (g6 s).1.l.length ≤ s.l.length := by
 have h1 : (g1 s).1.l.length ≤ s.l.length := FI.upto_short _ _ _
 have h2 : (g2 s).1.l.length ≤ (g1 s).1.l.length := FI.upto_short _ _ _
 have h3 : (g3 s).1.l.length ≤ (g2 s).1.l.length := FI.upto_short _ _ _
 have h4 : (g4 s).1.l.length ≤ (g3 s).1.l.length := FI.upto_short _ _ _
 have h5 : (g5 s).1.l.length ≤ (g4 s).1.l.length := FI.upto_short _ _ _
 have h6 : (g6 s).1.l.length ≤ (g5 s).1.l.length := FI.upto_short _ _ _
 omega
theorem chg_new {w w' : World} {S : Nat → Prop} (h : Chg w w' S) {p : Addr} (hp : w.heap.size ≤ p.block) (v : Value) : Chg w (w'.setCell p v) S :=
 ⟨h.os, h.tape, h.output, by simpa [World.setCell] using h.size, fun k hk hn => (Below.heap_setCell w' p v k (by omega)).trans (h.block k hk hn)⟩
theorem FI.next_l (s : FI) (k : Nat) (h : bytesB s.l) : bytesB (s.next k).1.l := by
 unfold FI.next
 split
 ·exact h
 ·split
  ·exact bytesB_nil
  ·exact bytesB_drop _ _ h
theorem FI.text_bytes (s : FI) (most : Int) (h : bytesB s.l) : bytesB (s.text most).2 := by
 unfold FI.text
 split
 ·split
  ·exact bytesB_nil
  ·exact raw_bytes _ _ (FI.next_l _ _ h)
 ·exact bytesB_nil
theorem FI.text_short (s : FI) (most : Int) : (s.text most).1.l.length ≤ s.l.length := by
 have h1 := s.next_short1 2
 unfold FI.text
 split
 ·split
  ·simp [FI.fail]
  ·rw [FI.raw, if_neg (by omega)]
   exact Nat.le_trans (FI.next_short1 _ _) h1
 ·exact h1
theorem cellsu7 {w : World} {g : Nat} {t : TypeId} {a0 a1 a2 a3 a4 a5 a6 : Value} (h : Blk w g t #[a0, a1, a2, a3, a4, a5, a6]) : w.cell? ⟨g, 0, none⟩ = some a0 ∧ w.cell? ⟨g, 1, none⟩ = some a1 ∧ w.cell? ⟨g, 2, none⟩ = some a2 ∧ w.cell? ⟨g, 3, none⟩ = some a3 ∧ w.cell? ⟨g, 4, none⟩ = some a4 ∧ w.cell? ⟨g, 5, none⟩ = some a5 ∧ w.cell? ⟨g, 6, none⟩ = some a6 :=
 ⟨h.cell 0, h.cell 1, h.cell 2, h.cell 3, h.cell 4, h.cell 5, h.cell 6⟩
theorem frozenu7 {w : World} {g : Nat} {t : TypeId} {cs : Array Value} (h : Blk w g t cs) : w.frozen? ⟨g, 0, none⟩ = false ∧ w.frozen? ⟨g, 1, none⟩ = false ∧ w.frozen? ⟨g, 2, none⟩ = false ∧ w.frozen? ⟨g, 3, none⟩ = false ∧ w.frozen? ⟨g, 4, none⟩ = false ∧ w.frozen? ⟨g, 5, none⟩ = false ∧ w.frozen? ⟨g, 6, none⟩ = false :=
 ⟨h.frozen 0, h.frozen 1, h.frozen 2, h.frozen 3, h.frozen 4, h.frozen 5, h.frozen 6⟩
theorem set7_chg (W : World) (g : Nat) (a0 a1 a2 a3 a4 a5 a6 : Value) : Chg W (((((((W.setCell ⟨g, 0, none⟩ a0).setCell ⟨g, 1, none⟩ a1).setCell ⟨g, 2, none⟩ a2).setCell ⟨g, 3, none⟩ a3).setCell ⟨g, 4, none⟩ a4).setCell ⟨g, 5, none⟩ a5).setCell ⟨g, 6, none⟩ a6) (isG g) :=
 ((((((chg_set0 W g a0 0).trans (chg_set0 _ g a1 1) (fun _ _ x => x)).trans (chg_set0 _ g a2 2) (fun _ _ x => x)).trans (chg_set0 _ g a3 3) (fun _ _ x => x)).trans (chg_set0 _ g a4 4) (fun _ _ x => x)).trans (chg_set0 _ g a5 5) (fun _ _ x => x)).trans (chg_set0 _ g a6 6) (fun _ _ x => x)
theorem set7_blk {W : World} {g : Nat} {t : TypeId} {b0 b1 b2 b3 b4 b5 b6 : Value} (h : Blk W g t #[b0, b1, b2, b3, b4, b5, b6]) (a0 a1 a2 a3 a4 a5 a6 : Value) : Blk (((((((W.setCell ⟨g, 0, none⟩ a0).setCell ⟨g, 1, none⟩ a1).setCell ⟨g, 2, none⟩ a2).setCell ⟨g, 3, none⟩ a3).setCell ⟨g, 4, none⟩ a4).setCell ⟨g, 5, none⟩ a5).setCell ⟨g, 6, none⟩ a6) g t #[a0, a1, a2, a3, a4, a5, a6] :=
 ((((((h.set_ 0 a0).set_ 1 a1).set_ 2 a2).set_ 3 a3).set_ 4 a4).set_ 5 a5).set_ 6 a6
def GuP (g B : Nat) (s : FI) (w : World) (e : Ending) (w' : World) : Prop :=
 ∃ x : Up, e = .returned x.agg ∧ x.val = getUv s ∧ x.wf ∧ w'.ownsRow w.heap.size 5 1 (.slice x.A x.n x.c) x.n (x.bs.map (Value.int .u8)) ∧ InAt w' g B (getUi s) ∧ Chg w w' (isG g)
theorem getUpdate_any (g B : Nat) (s : FI) (w : World) (h : InAt w g B s) (hl : s.l.length ≤ 1000000) :
  Calls Tryz.prog 314 #[.pointer (some ⟨g, 0, none⟩)] w (GuP g B s w) := by
 obtain ⟨l1, l2, l3, l4, l5, l6⟩ := gs_lt s h.bytes
 have hs := gs_short s
 have hB := h.le
 have hg := h.lt
 have G1 := Lib.hid (fun W (i : InAt W g B s) => get_any g s 8 B W i)
 have G2 := Lib.hid (fun W (i : InAt W g B (g1 s).1) => get_any g (g1 s).1 1 B W i)
 have G3 := Lib.hid (fun W (i : InAt W g B (g2 s).1) => get_any g (g2 s).1 8 B W i)
 have G4 := Lib.hid (fun W (i : InAt W g B (g3 s).1) => get_any g (g3 s).1 1 B W i)
 have G5 := Lib.hid (fun W (i : InAt W g B (g4 s).1) => get_any g (g4 s).1 4 B W i)
 have G6 := Lib.hid (fun W (i : InAt W g B (g5 s).1) => get_any g (g5 s).1 8 B W i)
 have G7 := Lib.hid (fun W (i : InAt W g B (g6 s).1) => textInO_any g (g6 s).1 2048 B W i (by omega))
 have V : Hid (getUv s = if (g7 s).1.e = 0 then (((g1 s).2 : Int), ((g2 s).2 : Int), ((g3 s).2 : Int), ((g4 s).2 : Int), ((g5 s).2 : Int), ((g6 s).2 : Int), (g7 s).2) else Up.zval) := Lib.hid rfl
 have VI : Hid (getUi s = (g7 s).1) := Lib.hid rfl
 change Hid (∀ W, _ → Calls Tryz.prog 46 _ W fun e w' => e = .returned (.int .u64 (g1 s).2) ∧ InAt w' g B (g1 s).1 ∧ Chg W w' (isG g)) at G1
 change Hid (∀ W, _ → Calls Tryz.prog 46 _ W fun e w' => e = .returned (.int .u64 (g2 s).2) ∧ InAt w' g B (g2 s).1 ∧ Chg W w' (isG g)) at G2
 change Hid (∀ W, _ → Calls Tryz.prog 46 _ W fun e w' => e = .returned (.int .u64 (g3 s).2) ∧ InAt w' g B (g3 s).1 ∧ Chg W w' (isG g)) at G3
 change Hid (∀ W, _ → Calls Tryz.prog 46 _ W fun e w' => e = .returned (.int .u64 (g4 s).2) ∧ InAt w' g B (g4 s).1 ∧ Chg W w' (isG g)) at G4
 change Hid (∀ W, _ → Calls Tryz.prog 46 _ W fun e w' => e = .returned (.int .u64 (g5 s).2) ∧ InAt w' g B (g5 s).1 ∧ Chg W w' (isG g)) at G5
 change Hid (∀ W, _ → Calls Tryz.prog 46 _ W fun e w' => e = .returned (.int .u64 (g6 s).2) ∧ InAt w' g B (g6 s).1 ∧ Chg W w' (isG g)) at G6
 have T7 : g7 s = (g6 s).1.text 2048 := rfl
 rw [← T7] at G7
 clear T7
 have HBY : Hid (bytesB (g7 s).2) := Lib.hid (FI.text_bytes (g6 s).1 2048 (gs_bytes s h.bytes).2.2.2.2.2)
 generalize g1 s = p1 at *
 generalize g2 s = p2 at *
 generalize g3 s = p3 at *
 generalize g4 s = p4 at *
 generalize g5 s = p5 at *
 generalize g6 s = p6 at *
 generalize g7 s = p7 at *
 obtain ⟨s1, n1⟩ := p1
 obtain ⟨s2, n2⟩ := p2
 obtain ⟨s3, n3⟩ := p3
 obtain ⟨s4, n4⟩ := p4
 obtain ⟨s5, n5⟩ := p5
 obtain ⟨s6, n6⟩ := p6
 obtain ⟨s7, bs⟩ := p7
 simp only at G1 G2 G3 G4 G5 G6 G7 V VI l1 l2 l3 l4 l5 l6 hs
 have c2 : IntKind.i64.wrap (n2 : Int) = n2 := by rw [IntKind.wrap_i64]; omega
 have c4 : IntKind.i64.wrap (n4 : Int) = n4 := by rw [IntKind.wrap_i64]; omega
 have c5 : IntKind.u32.wrap (n5 : Int) = n5 := by rw [IntKind.wrap_u32]; omega
 have I0 := Lib.hid (h.below ((Below.refl B w).alloc hB (.cells Up.zero.cells 145)))
 have BZ := Lib.hid (Blk.new w 145 Up.zero.cells)
 have C0 : Hid (Chg w (w.alloc (.cells Up.zero.cells 145)) (isG g)) := Lib.hid (Chg.of_below ((Below.refl w.heap.size w).alloc (Nat.le_refl _) _) _)
 have hbz : ¬ isG g w.heap.size := by unfold isG; omega
 clear h
 go_enter Tryz.func314, Tryz.ntmps314
 go_wp2_with (fail)
 refine (G1.out _ I0.out).mono ?_
 rintro e w1 ⟨rfl, i1, q1⟩
 have I1 := Lib.hid i1; have C0 := Lib.hid (C0.out.trans q1 (fun _ _ x => x)); have BZ := Lib.hid (q1.blk BZ.out hbz); clear i1 q1; go_wp2_with (fail)
 refine (G2.out _ I1.out).mono ?_
 rintro e w2 ⟨rfl, i1, q1⟩
 have I1 := Lib.hid i1; have C0 := Lib.hid (C0.out.trans q1 (fun _ _ x => x)); have BZ := Lib.hid (q1.blk BZ.out hbz); clear i1 q1; go_wp2_with (fail)
 refine (G3.out _ I1.out).mono ?_
 rintro e w3 ⟨rfl, i1, q1⟩
 have I1 := Lib.hid i1; have C0 := Lib.hid (C0.out.trans q1 (fun _ _ x => x)); have BZ := Lib.hid (q1.blk BZ.out hbz); clear i1 q1; go_wp2_with (fail)
 refine (G4.out _ I1.out).mono ?_
 rintro e w4 ⟨rfl, i1, q1⟩
 have I1 := Lib.hid i1; have C0 := Lib.hid (C0.out.trans q1 (fun _ _ x => x)); have BZ := Lib.hid (q1.blk BZ.out hbz); clear i1 q1; go_wp2_with (fail)
 refine (G5.out _ I1.out).mono ?_
 rintro e w5 ⟨rfl, i1, q1⟩
 have I1 := Lib.hid i1; have C0 := Lib.hid (C0.out.trans q1 (fun _ _ x => x)); have BZ := Lib.hid (q1.blk BZ.out hbz); clear i1 q1; go_wp2_with (fail)
 refine (G6.out _ I1.out).mono ?_
 rintro e w6 ⟨rfl, i1, q1⟩
 have I1 := Lib.hid i1; have C0 := Lib.hid (C0.out.trans q1 (fun _ _ x => x)); have BZ := Lib.hid (q1.blk BZ.out hbz); clear i1 q1; go_wp2_with (fail)
 obtain ⟨W6, hW6⟩ : ∃ W6, W6 = w6.alloc (.cells #[Value.int .u64 n1, Value.int .i64 n2, Value.int .u64 n3, Value.int .i64 n4, Value.int .u32 n5, Value.int .u64 n6, Value.slice none 0 0] 145) := ⟨_, rfl⟩
 rw [← hW6]
 have h66 : Below w6.heap.size w6 W6 := by rw [hW6]; exact (Below.refl _ _).alloc (Nat.le_refl _) _
 have hX : Blk W6 w6.heap.size 145 #[Value.int .u64 n1, Value.int .i64 n2, Value.int .u64 n3, Value.int .i64 n4, Value.int .u32 n5, Value.int .u64 n6, Value.slice none 0 0] := by rw [hW6]; exact Blk.new _ _ _
 have hz0 := C0.out.size
 have hne : w.heap.size ≠ w6.heap.size := by have := BZ.out.lt; omega
 have I6 := Lib.hid (I1.out.below (h66.mono I1.out.le))
 have C6 : Hid (Chg w W6 (isG g)) := Lib.hid (C0.out.trans (Chg.of_below h66 _) (fun _ _ x => x))
 have BZ6 := Lib.hid (BZ.out.below h66 BZ.out.lt)
 have hsx : w6.heap.size < W6.heap.size := hX.lt
 have hbx : ¬ isG g w6.heap.size := by unfold isG; omega
 have BX := Lib.hid hX
 clear hW6 h66 hX I1 C0 BZ I0 G1 G2 G3 G4 G5 G6
 refine (G7.out _ I6.out).mono ?_
 rintro e w7 ⟨A, cp, rfl, i1, q1, o1⟩
 have hX := q1.blk BX.out hbx
 have hZ := q1.blk BZ6.out hbz
 have x6 := (hX.cell 6).trans (show _ = some (Value.slice none 0 0) from rfl)
 have f6 := hX.frozen 6
 have I7 := Lib.hid i1
 have O7 := Lib.hid o1
 have C7 := Lib.hid (C6.out.trans q1 (fun _ _ x => x))
 have BX7 := Lib.hid hX
 have BZ7 := Lib.hid hZ
 have hs7 := q1.size
 clear i1 q1 o1 hX hZ BX BZ6 C6 I6 G7
 have hnb : bs.length ≤ 2048 + bs.length := by omega
 go_wp2_with (fail)
 obtain ⟨W8, hW8⟩ : ∃ W8, W8 = w7.setCell ⟨w6.heap.size, 6, none⟩ (Value.slice A bs.length cp) := ⟨_, rfl⟩
 rw [← hW8]
 have b8 : Below B w7 W8 := by rw [hW8]; exact (Below.refl _ _).setCell (by simp only; omega) _
 have hX : Blk W8 w6.heap.size 145 #[Value.int .u64 n1, Value.int .i64 n2, Value.int .u64 n3, Value.int .i64 n4, Value.int .u32 n5, Value.int .u64 n6, Value.slice A bs.length cp] := by
  rw [hW8]; exact BX7.out.set_ 6 (Value.slice A bs.length cp)
 have hZ : Blk W8 w.heap.size 145 Up.zero.cells := by
  rw [hW8]; exact (chg_set0 w7 w6.heap.size _ 6).blk BZ7.out (by unfold isG; omega)
 have hO : W8.ownsRow W6.heap.size 5 1 (.slice A bs.length cp) bs.length (bs.map (Value.int .u8)) := own_block_same O7.out (fun k hk => by
  have := (O7.out.lt k hk).1
  rw [hW8]; exact Below.heap_setCell _ _ _ _ (by show k ≠ w6.heap.size; omega))
 have I8 := Lib.hid (I7.out.below b8)
 have C8 : Hid (Chg w W8 (isG g)) := Lib.hid (by rw [hW8]; exact chg_new C7.out (by simp only; omega) _)
 have O8 := Lib.hid hO
 have BX8 := Lib.hid hX
 have BZ8 := Lib.hid hZ
 have z8 := C8.out.size
 clear hW8 b8 hX hZ hO I7 C7 O7 BX7 BZ7
 refine (err_any g s7 B W8 I8.out).mono ?_
 rintro e w8 ⟨rfl, rfl⟩
 obtain ⟨x0, x1, x2, x3, x4, x5, x6⟩ := cellsu7 BX8.out
 obtain ⟨r0, r1, r2, r3, r4, r5, r6⟩ := cellsu7 BZ8.out
 obtain ⟨f0, f1, f2, f3, f4, f5, f6⟩ := frozenu7 BZ8.out
 have lx := BX8.out.lt
 have lz := BZ8.out.lt
 by_cases he : s7.e = 0
 ·have he' : (s7.e != 0) = false := by simp [he]
  have HE := Lib.hid he
  clear he
  go_wp2_with (fail)
  have HC := Lib.hid (set7_chg W8 w.heap.size (.int .u64 n1) (.int .i64 n2) (.int .u64 n3) (.int .i64 n4) (.int .u32 n5) (.int .u64 n6) (.slice A bs.length cp))
  have HKB := Lib.hid (set7_blk BZ8.out (.int .u64 n1) (.int .i64 n2) (.int .u64 n3) (.int .i64 n4) (.int .u32 n5) (.int .u64 n6) (.slice A bs.length cp))
  obtain ⟨wz, hwz⟩ : ∃ wz, wz = (((((((W8.setCell ⟨w.heap.size, 0, none⟩ (.int .u64 n1)).setCell ⟨w.heap.size, 1, none⟩ (.int .i64 n2)).setCell ⟨w.heap.size, 2, none⟩ (.int .u64 n3)).setCell ⟨w.heap.size, 3, none⟩ (.int .i64 n4)).setCell ⟨w.heap.size, 4, none⟩ (.int .u32 n5)).setCell ⟨w.heap.size, 5, none⟩ (.int .u64 n6)).setCell ⟨w.heap.size, 6, none⟩ (.slice A bs.length cp)) := ⟨_, rfl⟩
  rw [← hwz] at HC HKB ⊢
  clear hwz r0 r1 r2 r3 r4 r5 r6 f0 f1 f2 f3 f4 f5 f6 x0 x1 x2 x3 x4 x5 x6
  obtain ⟨k0, k1, k2, k3, k4, k5, k6⟩ := cellsu7 HKB.out
  go_wp2_with (fail)
  refine bodyPost_ret (v := .agg #[.int .u64 n1, .int .i64 n2, .int .u64 n3, .int .i64 n4, .int .u32 n5, .int .u64 n6, .slice A bs.length cp]) (by simp [results, Tryz.results314, go_sem, k0, k1, k2, k3, k4, k5, k6]) rfl ?_
  refine ⟨⟨n1, n2, n3, n4, n5, n6, A, bs.length, cp, bs⟩, rfl, by rw [V.out, if_pos HE.out]; rfl, ⟨by constructor <;> (simp only; omega), by constructor <;> (simp only; omega), by constructor <;> (simp only; omega), by constructor <;> (simp only; omega), by constructor <;> (simp only; omega), by constructor <;> (simp only; omega), fun z hz => by have := HBY.out z hz; omega⟩, ?_, ?_, ?_⟩
  ·exact own_base (HC.out.own O8.out (fun k hk e => by have := (O8.out.lt k hk).1; simp only [isG] at e; omega)) (by omega)
  ·rw [VI.out]; exact I8.out.below (HC.out.below I8.out.le (fun k hk e => by simp only [isG] at e; omega))
  ·exact C8.out.trans HC.out (fun k hk e => by simp only [isG] at e; omega)
 ·have he' : (s7.e != 0) = true := by simpa using he
  have HE := Lib.hid he
  clear he
  go_wp2_with (fail)
  have HC := Lib.hid (set7_chg W8 w.heap.size (.int .u64 0) (.int .i64 0) (.int .u64 0) (.int .i64 0) (.int .u32 0) (.int .u64 0) (.slice none 0 0))
  have HKB := Lib.hid (set7_blk BZ8.out (.int .u64 0) (.int .i64 0) (.int .u64 0) (.int .i64 0) (.int .u32 0) (.int .u64 0) (.slice none 0 0))
  obtain ⟨wz, hwz⟩ : ∃ wz, wz = (((((((W8.setCell ⟨w.heap.size, 0, none⟩ (.int .u64 0)).setCell ⟨w.heap.size, 1, none⟩ (.int .i64 0)).setCell ⟨w.heap.size, 2, none⟩ (.int .u64 0)).setCell ⟨w.heap.size, 3, none⟩ (.int .i64 0)).setCell ⟨w.heap.size, 4, none⟩ (.int .u32 0)).setCell ⟨w.heap.size, 5, none⟩ (.int .u64 0)).setCell ⟨w.heap.size, 6, none⟩ (.slice none 0 0)) := ⟨_, rfl⟩
  rw [← hwz] at HC HKB ⊢
  clear hwz r0 r1 r2 r3 r4 r5 r6 f0 f1 f2 f3 f4 f5 f6 x0 x1 x2 x3 x4 x5 x6
  obtain ⟨k0, k1, k2, k3, k4, k5, k6⟩ := cellsu7 HKB.out
  go_wp2_with (fail)
  refine bodyPost_ret (v := .agg #[.int .u64 0, .int .i64 0, .int .u64 0, .int .i64 0, .int .u32 0, .int .u64 0, .slice none 0 0]) (by simp [results, Tryz.results314, go_sem, k0, k1, k2, k3, k4, k5, k6]) rfl ?_
  refine ⟨Up.zero, rfl, by rw [V.out, if_neg HE.out]; rfl, ⟨by constructor <;> (simp only [Up.zero]; omega), by constructor <;> (simp only [Up.zero]; omega), by constructor <;> (simp only [Up.zero]; omega), by constructor <;> (simp only [Up.zero]; omega), by constructor <;> (simp only [Up.zero]; omega), by constructor <;> (simp only [Up.zero]; omega), fun z hz => by cases hz⟩, World.ownsRow_nil _ _ _ _, ?_, ?_⟩
  ·rw [VI.out]; exact I8.out.below (HC.out.below I8.out.le (fun k hk e => by simp only [isG] at e; omega))
  ·exact C8.out.trans HC.out (fun k hk e => by simp only [isG] at e; omega)
end Go.Proofs.YtmpedblelnpjdaaGreatDoor
