/- The reference's reading: In as a struct; contracts of Fail, Raw, Num, Upto, Get, Read, Bool, Done. -/
import Derived.Test.YtcmaekkfeilclaaFixI
import Derived.Test.YtcmaekkfeilclaaFixP
namespace Go.Proofs.Ytcmaekkfeilclaa
open Go.RowKit
set_option linter.unusedSimpArgs false
set_option linter.unusedVariables false
set_option maxHeartbeats 4000000

structure RI where
  A : Option Addr
  cap : Nat
  s : FI
def RI.agg (x : RI) : Value := .agg #[.slice x.A x.s.l.length x.cap, .int .i64 x.s.e]
def RI.cells (x : RI) : Array Value := #[.slice x.A x.s.l.length x.cap, .int .i64 x.s.e]
structure RIn (w : World) (B : Nat) (x : RI) : Prop where
  rd : Reads w B 1 x.A x.s.l.length (x.s.l.map (Value.int .u8))
  hc : x.s.l.length ≤ x.cap
  hm : x.cap ≤ maxLen
  by_ : bytesB x.s.l
  inv : x.s.e ≠ 0 → x.s.l = []
theorem RIn.below {w w' : World} {B : Nat} {x : RI} (h : RIn w B x) (hb : Below B w w') : RIn w' B x := ⟨h.rd.below hb, h.hc, h.hm, h.by_, h.inv⟩
theorem RIn.alloc {w : World} {B : Nat} {x : RI} (h : RIn w B x) (hB : B ≤ w.heap.size) (o : Obj) : RIn (w.alloc o) B x := ⟨h.rd.alloc hB o, h.hc, h.hm, h.by_, h.inv⟩
theorem RIn.drewN {w : World} {B : Nat} {x : RI} (h : RIn w B x) (k : Nat) : RIn (w.drewN k) B x := ⟨h.rd, h.hc, h.hm, h.by_, h.inv⟩
theorem RIn.drew {w : World} {B : Nat} {x : RI} (h : RIn w B x) : RIn w.drew B x := ⟨h.rd, h.hc, h.hm, h.by_, h.inv⟩
theorem RIn.set2 {w : World} {B g : Nat} {x : RI} (h : RIn w B x) (hB : B ≤ g) (u v : Value) : RIn ((w.setCell ⟨g, 0, none⟩ u).setCell ⟨g, 1, none⟩ v) B x :=
  ⟨(h.rd.setCell (p := ⟨g, 0, none⟩) hB u).setCell (p := ⟨g, 1, none⟩) hB v, h.hc, h.hm, h.by_, h.inv⟩
def RI.nil (e : Int) : RI := ⟨none, 0, ⟨[], e⟩⟩
theorem RIn.nil (w : World) (B : Nat) (e : Int) : RIn w B (RI.nil e) := ⟨Reads.none_, Nat.le_refl _, Nat.zero_le _, (fun z hz => by cases hz), fun _ => rfl⟩
theorem fail_same {x : RI} (h : x.s.e ≠ 0) (hi : x.s.e ≠ 0 → x.s.l = []) (e : Int) : x.s.fail e = x.s := by
  have := hi h
  rw [FI.fail, if_neg h]
  cases hs : x.s with
  | mk l e => rw [hs] at this; simp at this; rw [this]
theorem ri_cells {w : World} {g : Nat} {t : TypeId} {x : RI} (h : Blk w g t x.cells) : w.cell? ⟨g, 0, none⟩ = some (.slice x.A x.s.l.length x.cap) ∧ w.cell? ⟨g, 1, none⟩ = some (.int .i64 x.s.e) := by
  refine ⟨?_, ?_⟩ <;> (rw [h.cell]; rfl)
theorem blk_at (w : World) (t : TypeId) (cs : Array Value) (g : Nat) (h : g = w.heap.size) : Blk (w.alloc (.cells cs t)) g t cs := by subst h; exact Blk.new w t cs
theorem box2_below {w w1 : World} {o p : Obj} (h : Below ((w.alloc o).alloc p).heap.size ((w.alloc o).alloc p) w1) : Below w.heap.size w w1 := (((Below.refl _ _).alloc (Nat.le_refl _) _).alloc (by simp) _).trans (h.mono (by simp <;> omega))
attribute [local go_sem] RI.agg RI.cells RI.nil



theorem refFail_any (x : RI) (ev : Int) (hev : ev ≠ 0) (B : Nat) (w : World) (hx : RIn w B x) (hB : B ≤ w.heap.size) :
    Calls Try.prog 50 #[x.agg, .int .i64 ev] w fun e w' => ∃ y : RI, e = .returned y.agg ∧ y.s = x.s.fail ev ∧ RIn w' B y ∧ Below w.heap.size w w' := by
  have HX := Lib.hid hx
  have HE := Lib.hid hev
  clear hx hev
  by_cases he : x.s.e = 0
  · have he' : (x.s.e != 0) = false := by simp [he]
    have hF : Hid (x.s.fail ev = ⟨[], ev⟩) := Lib.hid (by rw [FI.fail, if_pos he])
    clear he
    go_enter Try.func50, Try.ntmps50
    go_wp2
    refine bodyPost_ret (v := (RI.nil ev).agg) (by simp [results, Try.results50, go_sem]) rfl ⟨RI.nil ev, rfl, hF.out.symm, RIn.nil _ _ _, ?_⟩
    · repeat (first | with_reducible exact Below.refl _ _ | with_reducible exact HB1.out | with_reducible refine Below.setCell ?_ (by simp <;> omega) _ | with_reducible refine Below.alloc ?_ (by first | omega | (simp <;> omega)) _ | with_reducible refine below_drewN ?_ _ | with_reducible refine Below.drew ?_)
  · have he' : (x.s.e != 0) = true := by simp [he]
    have hF := Lib.hid (fail_same he HX.out.inv ev)
    clear he
    go_enter Try.func50, Try.ntmps50
    go_wp2
    refine bodyPost_ret (v := x.agg) (by simp [results, Try.results50, go_sem]) rfl ⟨x, rfl, hF.out.symm, ?_, ?_⟩
    · repeat (first | with_reducible exact HX.out | with_reducible refine RIn.alloc ?_ (by first | omega | (simp; omega)) _ | with_reducible refine RIn.drewN ?_ _ | with_reducible refine RIn.drew ?_)
    · repeat (first | with_reducible exact Below.refl _ _ | with_reducible exact HB1.out | with_reducible refine Below.setCell ?_ (by simp <;> omega) _ | with_reducible refine Below.alloc ?_ (by first | omega | (simp <;> omega)) _ | with_reducible refine below_drewN ?_ _ | with_reducible refine Below.drew ?_)

theorem refNum_any (A : Option Addr) (n c B : Nat) (b : List Int) (w : World) (hr : Reads w B 1 A n (b.map (Value.int .u8))) (hb : bytesB b) (hn : n ≤ 8) :
    Calls Try.prog 52 #[.slice A n c] w fun e w' => e = .returned (.int .u64 (numB b)) ∧ w = w' := by
  have HR := Lib.hid hr
  have HB := Lib.hid hb
  clear hr hb
  go_enter Try.func52, Try.ntmps52
  go_wp2
  go_loopw [3, 4] (fun m i wr => ∃ (k q : Nat), k ≤ n ∧ i = .int .i64 k ∧ m = .int .u64 q ∧ Hid (q = numB (b.take k)) ∧ w = wr) (fun _ i _ => n - (intOf i).toNat)
  case atStart => exact ⟨0, 0, by omega, rfl, rfl, Lib.hid (by rfl), rfl⟩
  case round =>
    obtain ⟨k, q, hk, rfl, rfl, hq, rfl⟩ := hrel
    by_cases hlt : k < n
    · obtain ⟨ad, z, rfl, _, hz, hc⟩ := reads_int HR.out hlt
      have hz2 := HB.out z (List.mem_of_getElem? hz)
      have HZ := Lib.hid hz
      have hqb : q < 72057594037927936 := by
        have h1 := numB_lt (b.take k) (fun z hz => HB.out z (List.mem_of_mem_take hz))
        have h2 : 256 ^ (b.take k).length ≤ 256 ^ 7 := Nat.pow_le_pow_right (by decide) (by rw [List.length_take]; omega)
        rw [hq.out]; omega
      have e1 : IntKind.u64.wrap ((q : Int) * 256) = (q : Int) * 256 := by rw [IntKind.wrap_u64]; omega
      have e3 : IntKind.u64.wrap z = z := by rw [IntKind.wrap_u64]; omega
      obtain ⟨q', hq'⟩ : ∃ q', q' = q * 256 + z.toNat := ⟨_, rfl⟩
      have e4 : IntKind.u64.wrap ((q : Int) * 256 + z) = q' := by rw [IntKind.wrap_u64]; omega
      have HQ := Lib.hid hq'
      clear hz hq' hqb hz2
      go_wp2
      go_roundw
      case rel =>
        refine ⟨k + 1, q', by omega, by go_num, rfl, Lib.hid ?_, (by first | rfl | trivial)⟩
        rw [numB_take b k z HZ.out, ← hq.out, HQ.out]
      case measure => simp [intOf]; omega
    · obtain rfl : k = n := by omega
      go_wp2
      go_ret
      refine ⟨?_, rfl⟩
      rw [hq.out, List.take_of_length_le (by have := HR.out.1; simp at this; omega)]
      rfl

def RPost (B : Nat) (w : World) (r : FI × List Int) (e : Ending) (w' : World) : Prop :=
  ∃ (y : RI) (A2 : Option Addr) (c2 : Nat), e = .returned (.tuple #[y.agg, .slice A2 r.2.length c2]) ∧ y.s = r.1 ∧ RIn w' B y ∧ Reads w' B 1 A2 r.2.length (r.2.map (Value.int .u8)) ∧ Below w.heap.size w w'
theorem RIn.drop {w : World} {B : Nat} {x : RI} (h : RIn w B x) {k : Nat} (hk : k ≤ x.s.l.length) : RIn w B ⟨if x.cap = k then x.A else x.A.map (·.add k), x.cap - k, ⟨x.s.l.drop k, 0⟩⟩ := by
  have hr := h.rd.cut hk h.hc
  rw [Nat.mul_one, ← List.map_drop] at hr
  have h1 := h.hc
  have h2 := h.hm
  refine ⟨?_, ?_, ?_, fun z hz => h.by_ z (List.mem_of_mem_drop hz), fun hh => absurd rfl hh⟩
  · show Reads w B 1 _ (x.s.l.drop k).length _
    rw [List.length_drop]; exact hr
  · show (x.s.l.drop k).length ≤ x.cap - k
    rw [List.length_drop]; omega
  · show x.cap - k ≤ maxLen
    omega
theorem refRaw_any (x : RI) (n : Int) (B : Nat) (w : World) (hx : RIn w B x) (hB : B ≤ w.heap.size) :
    Calls Try.prog 51 #[x.agg, .int .i64 n] w (RPost B w (x.s.raw n)) := by
  have HX := Lib.hid hx
  have hm := hx.hm
  have hc := hx.hc
  unfold maxLen at hm
  clear hx
  by_cases he : x.s.e = 0
  rotate_left
  · have he' : (x.s.e != 0) = true := by simp [he]
    have hR : Hid (x.s.raw n = (x.s, [])) := Lib.hid (by
      by_cases h0 : n < 0
      · rw [FI.raw, if_pos h0, fail_same he HX.out.inv]
      · rw [FI.raw, if_neg h0, FI.next, if_pos he])
    rw [hR.out]
    clear he
    go_enter Try.func51, Try.ntmps51
    go_wp2
    refine bodyPost_ret (v := .tuple #[x.agg, .slice none 0 0]) (by simp [results, Try.results51, go_sem]) rfl ⟨x, none, 0, rfl, rfl, ?_, Reads.none_, ?_⟩
    · repeat (first | with_reducible exact HX.out | with_reducible refine RIn.alloc ?_ (by first | omega | (simp; omega)) _ | with_reducible refine RIn.drewN ?_ _ | with_reducible refine RIn.drew ?_)
    · repeat (first | with_reducible exact Below.refl _ _ | with_reducible exact HB1.out | with_reducible refine Below.setCell ?_ (by simp <;> omega) _ | with_reducible refine Below.alloc ?_ (by first | omega | (simp <;> omega)) _ | with_reducible refine below_drewN ?_ _ | with_reducible refine Below.drew ?_)
  have he' : (x.s.e != 0) = false := by simp [he]
  have HE := Lib.hid he
  clear he
  by_cases h0 : n < 0
  · have hR : Hid (x.s.raw n = (x.s.fail 1, [])) := Lib.hid (by rw [FI.raw, if_pos h0])
    rw [hR.out]
    go_enter Try.func51, Try.ntmps51
    go_wp2_with (fail)
    refine (refFail_any x 1 (by decide) B _ (by repeat (first | with_reducible exact HX.out | with_reducible refine RIn.alloc ?_ (by first | omega | (simp; omega)) _ | with_reducible refine RIn.drewN ?_ _ | with_reducible refine RIn.drew ?_)) (by simp; omega)).mono ?_
    rintro e w1 ⟨y, rfl, hy, h1, h2⟩
    have HY := Lib.hid hy
    have HY1 := Lib.hid h1
    have HB1 := Lib.hid (box2_below h2)
    have hrs := (blk_at (w.alloc (.cells x.cells 63)) 63 (RI.nil 0).cells (w.heap.size + 1) (by simp)).below h2 (by simp)
    obtain ⟨r0, r1⟩ := ri_cells hrs
    have f0 := hrs.frozen 0
    have f1 := hrs.frozen 1
    have q6 := hrs.lt
    clear hy h1 h2 hrs
    dsimp only [RI.nil] at r0 r1
    go_wp2
    refine bodyPost_ret (v := .tuple #[y.agg, .slice none 0 0]) (by simp [results, Try.results51, go_sem, r0, r1, q6]) rfl ⟨y, none, 0, rfl, HY.out, ?_, Reads.none_, ?_⟩
    · exact (HY1.out.set2 (by omega) _ _)
    · repeat (first | with_reducible exact Below.refl _ _ | with_reducible exact HB1.out | with_reducible refine Below.setCell ?_ (by simp <;> omega) _ | with_reducible refine Below.alloc ?_ (by first | omega | (simp <;> omega)) _ | with_reducible refine below_drewN ?_ _ | with_reducible refine Below.drew ?_)
  obtain ⟨k, rfl⟩ := Int.eq_ofNat_of_zero_le (show 0 ≤ n by omega)
  have hRk : x.s.raw k = ((x.s.next k).1, (x.s.next k).2.1) := by rw [FI.raw, if_neg h0, Int.toNat_natCast]
  rw [hRk]
  clear h0 hRk
  by_cases hl : x.s.l.length < k
  · have hl' : (x.s.l.length : Int) < k := by omega
    have hN : Hid (x.s.next k = (x.s.fail 3, [], false)) := Lib.hid (by rw [FI.next, if_neg (by simp [HE.out]), if_pos hl])
    rw [hN.out]
    have hk0 : ¬ (k : Int) < 0 := by omega
    go_enter Try.func51, Try.ntmps51
    go_wp2_with (fail)
    refine (refFail_any x 3 (by decide) B _ (by repeat (first | with_reducible exact HX.out | with_reducible refine RIn.alloc ?_ (by first | omega | (simp; omega)) _ | with_reducible refine RIn.drewN ?_ _ | with_reducible refine RIn.drew ?_)) (by simp; omega)).mono ?_
    rintro e w1 ⟨y, rfl, hy, h1, h2⟩
    have HY := Lib.hid hy
    have HY1 := Lib.hid h1
    have HB1 := Lib.hid (box2_below h2)
    have hrs := (blk_at (w.alloc (.cells x.cells 63)) 63 (RI.nil 0).cells (w.heap.size + 1) (by simp)).below h2 (by simp)
    obtain ⟨r0, r1⟩ := ri_cells hrs
    have f0 := hrs.frozen 0
    have f1 := hrs.frozen 1
    have q6 := hrs.lt
    clear hy h1 h2 hrs
    dsimp only [RI.nil] at r0 r1
    go_wp2
    refine bodyPost_ret (v := .tuple #[y.agg, .slice none 0 0]) (by simp [results, Try.results51, go_sem, r0, r1, q6]) rfl ⟨y, none, 0, rfl, HY.out, ?_, Reads.none_, ?_⟩
    · exact (HY1.out.set2 (by omega) _ _)
    · repeat (first | with_reducible exact Below.refl _ _ | with_reducible exact HB1.out | with_reducible refine Below.setCell ?_ (by simp <;> omega) _ | with_reducible refine Below.alloc ?_ (by first | omega | (simp <;> omega)) _ | with_reducible refine below_drewN ?_ _ | with_reducible refine Below.drew ?_)
  · have hl' : (k : Int) ≤ x.s.l.length := by omega
    have hN : Hid (x.s.next k = (⟨x.s.l.drop k, 0⟩, x.s.l.take k, true)) := Lib.hid (by rw [FI.next, if_neg (by simp [HE.out]), if_neg hl])
    rw [hN.out]
    have hk0 : ¬ (k : Int) < 0 := by omega
    have hk1 : (0 : Int) ≤ k := by omega
    have hkc : (k : Int) ≤ x.cap := by omega
    have hlc : (x.s.l.length : Int) ≤ x.cap := by omega
    have HL := Lib.hid hl
    clear hl
    go_enter Try.func51, Try.ntmps51
    go_wp2_with (fail)
    go_region
    all_goals (try go_wp2)
    · have hck : x.cap = k := by assumption
      have hlk : x.s.l.length = k := by omega
      refine bodyPost_ret (v := .tuple #[.agg #[.slice x.A (x.s.l.length - k) 0, .int .i64 0], .slice x.A k k]) (by simp [results, Try.results51, go_sem]) rfl ?_
      refine ⟨⟨x.A, 0, ⟨x.s.l.drop k, 0⟩⟩, x.A, k, ?_, rfl, ?_, ?_, ?_⟩
      · show _ = Ending.returned (.tuple #[.agg #[.slice x.A (x.s.l.drop k).length 0, .int .i64 0], .slice x.A (x.s.l.take k).length k])
        rw [List.length_drop, List.length_take, Nat.min_eq_left (by omega)]
      · have := HX.out.drop (k := k) (by omega)
        rw [if_pos hck, hck, Nat.sub_self] at this
        exact ((this.alloc hB _).alloc (by simp; omega) _).drew
      · have := HX.out.rd.take (k := k) (by omega)
        rw [← List.map_take] at this
        rw [List.length_take, Nat.min_eq_left (by omega)]
        exact ((this.alloc hB _).alloc (by simp; omega) _).drew
      · repeat (first | with_reducible exact Below.refl _ _ | with_reducible exact HB1.out | with_reducible refine Below.setCell ?_ (by simp <;> omega) _ | with_reducible refine Below.alloc ?_ (by first | omega | (simp <;> omega)) _ | with_reducible refine below_drewN ?_ _ | with_reducible refine Below.drew ?_)
    · have hck : ¬ x.cap = k := by assumption
      refine bodyPost_ret (v := .tuple #[.agg #[.slice (x.A.map (·.add k)) (x.s.l.length - k) (x.cap - k), .int .i64 0], .slice x.A k x.cap]) (by simp [results, Try.results51, go_sem]) rfl ?_
      refine ⟨⟨x.A.map (·.add k), x.cap - k, ⟨x.s.l.drop k, 0⟩⟩, x.A, x.cap, ?_, rfl, ?_, ?_, ?_⟩
      · show _ = Ending.returned (.tuple #[.agg #[.slice _ (x.s.l.drop k).length _, .int .i64 0], .slice x.A (x.s.l.take k).length _])
        rw [List.length_drop, List.length_take, Nat.min_eq_left (by omega)]
      · have := HX.out.drop (k := k) (by omega)
        rw [if_neg hck] at this
        exact ((this.alloc hB _).alloc (by simp; omega) _).drew
      · have := HX.out.rd.take (k := k) (by omega)
        rw [← List.map_take] at this
        rw [List.length_take, Nat.min_eq_left (by omega)]
        exact ((this.alloc hB _).alloc (by simp; omega) _).drew
      · repeat (first | with_reducible exact Below.refl _ _ | with_reducible exact HB1.out | with_reducible refine Below.setCell ?_ (by simp <;> omega) _ | with_reducible refine Below.alloc ?_ (by first | omega | (simp <;> omega)) _ | with_reducible refine below_drewN ?_ _ | with_reducible refine Below.drew ?_)

/-- numbers that are read -/
def UPost (B : Nat) (w : World) (r : FI × Nat) (e : Ending) (w' : World) : Prop :=
  ∃ y : RI, e = .returned (.tuple #[y.agg, .int .u64 r.2]) ∧ y.s = r.1 ∧ RIn w' B y ∧ Below w.heap.size w w'
theorem raw_len (s : FI) (k : Nat) : (s.raw k).2.length ≤ k := by
  rw [FI.raw, if_neg (by omega), Int.toNat_natCast]; exact s.next_len k
theorem raw_bytes (s : FI) (k : Nat) (h : bytesB s.l) : bytesB (s.raw k).2 := by
  rw [FI.raw, if_neg (by omega), Int.toNat_natCast]; exact s.next_bytes k h
theorem upto_raw (s : FI) (j : Nat) (most : Nat) (hk : knownB j = true) (hi : s.e ≠ 0 → s.l = []) : s.upto j most = if (s.raw j).1.e ≠ 0 then ((s.raw j).1, 0) else if most < numB (s.raw j).2 then ((s.raw j).1.fail 4, 0) else ((s.raw j).1, numB (s.raw j).2) := by
  have hr : s.raw (j : Int) = ((s.next j).1, (s.next j).2.1) := by rw [FI.raw, if_neg (show ¬ (j : Int) < 0 by omega), Int.toNat_natCast]
  rw [hr]
  by_cases he : s.e = 0
  · rw [FI.upto, if_neg (by simp [he]), hk, if_pos rfl, Int.toNat_natCast]
    by_cases hl : s.l.length < j
    · have hN : s.next j = (s.fail 3, [], false) := by rw [FI.next, if_neg (by simp [he]), if_pos hl]
      rw [hN]
      have := s.fail_e 3 (by decide)
      simp only [Bool.false_eq_true, if_false]
      rw [if_pos this]
    · have hN : s.next j = (⟨s.l.drop j, 0⟩, s.l.take j, true) := by rw [FI.next, if_neg (by simp [he]), if_neg hl]
      rw [hN]
      simp
  · have hN : s.next j = (s, [], false) := by rw [FI.next, if_pos he]
    rw [FI.upto, if_pos he, hN]
    simp only []
    rw [if_pos he]
theorem upto_bad (s : FI) (k : Int) (most : Nat) (hk : knownB k = false) (hi : s.e ≠ 0 → s.l = []) : s.upto k most = (s.fail 1, 0) := by
  by_cases he : s.e = 0
  · rw [FI.upto, if_neg (by simp [he]), hk]; rfl
  · rw [FI.upto, if_pos he, FI.fail, if_neg he]
    have := hi he
    cases s with
    | mk l e => simp at this; rw [this]
end Go.Proofs.Ytcmaekkfeilclaa
