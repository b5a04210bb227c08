/- Package fix: In: contracts of Of, fail, next, number, Upto, Get, Raw, Text, Bool, Left, Err, Done. -/
import Derived.Test.YtcmaekkfeilclaaFixE
import Derived.Laws.BitsAllLaws
namespace Go.Proofs.Ytcmaekkfeilclaa
open Go.RowKit
set_option linter.unusedSimpArgs false
set_option linter.unusedVariables false
set_option maxHeartbeats 1000000

/-- the number that bytes are -/
def numB (l : List Int) : Nat := l.foldl (fun n c => n * 256 + c.toNat) 0
theorem numB_take (l : List Int) (k : Nat) (z : Int) (hz : l[k]? = some z) : numB (l.take (k + 1)) = numB (l.take k) * 256 + z.toNat := by
  unfold numB; rw [List.take_add_one, hz]; simp
def bytesB (l : List Int) : Prop := ∀ z ∈ l, 0 ≤ z ∧ z < 256
theorem numB_lt (l : List Int) (h : bytesB l) : numB l < 256 ^ l.length := by
  rw [← List.reverse_reverse l] at h ⊢
  generalize l.reverse = m at h ⊢
  induction m with
  | nil => decide
  | cons a m ih =>
    have h1 : numB (a :: m).reverse = numB m.reverse * 256 + a.toNat := by unfold numB; simp
    have h2 := ih (fun z hz => h z (by rw [List.reverse_cons, List.mem_append]; exact .inl hz))
    have h3 := h a (by simp)
    rw [h1, List.reverse_cons, List.length_append, List.length_singleton, Nat.pow_succ]
    omega

theorem or256 (q : Nat) (z : Int) (hq : q < 72057594037927936) (h : 0 ≤ z ∧ z < 256) : bits .or .u64 ((q : Int) * 256) z = ((q * 256 + z.toNat : Nat) : Int) := by
  obtain ⟨y, rfl⟩ := Int.eq_ofNat_of_zero_le h.1
  have := u64_or_nat (q * 256) y (by omega) (by omega)
  rw [show ((q : Int) * 256) = ((q * 256 : Nat) : Int) by omega]
  show bits .or .u64 _ (y : Int) = _
  rw [this, Int.toNat_natCast, Nat.mul_comm q 256, ← Nat.two_pow_add_eq_or_of_lt (i := 8) (by omega) q]

theorem number_any (A : Option Addr) (n c B : Nat) (b : List Int) (w : World) (hr : Reads w B 1 A n (b.map (Value.int .u8))) (hb : bytesB b) (hn : n ≤ 8) :
    Calls Try.prog 49 #[.slice A n c] w fun e w' => e = .returned (.int .u64 (numB b)) ∧ w = w' := by
  have HR := Lib.hid hr
  have HB := Lib.hid hb
  clear hr hb
  go_enter Try.func49, Try.ntmps49
  go_wp2
  go_loopw [3, 8] (fun m i wr => ∃ (k q : Nat), k ≤ n ∧ i = .int .i64 k ∧ m = .int .u64 q ∧ Hid (q = numB (b.take k)) ∧ w = wr) (fun _ i _ => n - (intOf i).toNat)
  case atStart => exact ⟨0, 0, by omega, rfl, rfl, Lib.hid (by rfl), rfl⟩
  case round =>
    obtain ⟨k, q, hk, rfl, rfl, hq, rfl⟩ := hrel
    by_cases hlt : k < n
    · obtain ⟨ad, z, rfl, _, hz, hc⟩ := reads_int HR.out hlt
      have hz2 := HB.out z (List.mem_of_getElem? hz)
      have HZ := Lib.hid hz
      have hqb : q < 72057594037927936 := by
        have h1 := numB_lt (b.take k) (fun z hz => HB.out z (List.mem_of_mem_take hz))
        have h2 : 256 ^ (b.take k).length ≤ 256 ^ 7 := Nat.pow_le_pow_right (by decide) (by rw [List.length_take]; omega)
        rw [hq.out]; omega
      have e1 : IntKind.u64.wrap ((q : Int) * 256) = (q : Int) * 256 := by rw [IntKind.wrap_u64]; omega
      have e2 := or256 q z hqb hz2
      have e3 : IntKind.u64.wrap z = z := by rw [IntKind.wrap_u64]; omega
      obtain ⟨q', hq'⟩ : ∃ q', q' = q * 256 + z.toNat := ⟨_, rfl⟩
      rw [← hq'] at e2
      have HQ := Lib.hid hq'
      clear hz hq' hqb hz2
      go_wp2
      go_roundw
      case rel =>
        refine ⟨k + 1, q', by omega, by go_num, rfl, Lib.hid ?_, trivial⟩
        rw [numB_take b k z HZ.out, ← hq.out, HQ.out]
      case measure => simp [intOf]; omega
    · obtain rfl : k = n := by omega
      go_wp2
      go_ret
      refine ⟨?_, rfl⟩
      rw [hq.out, List.take_of_length_le (by have := HR.out.1; simp at this; omega)]
      rfl

structure FI where
  l : List Int
  e : Int
def FI.fail (s : FI) (x : Int) : FI := ⟨[], if s.e = 0 then x else s.e⟩
def FI.next (s : FI) (n : Nat) : FI × List Int × Bool :=
  if s.e ≠ 0 then (s, [], false) else if s.l.length < n then (s.fail 3, [], false) else (⟨s.l.drop n, 0⟩, s.l.take n, true)
def FI.upto (s : FI) (w : Int) (most : Nat) : FI × Nat :=
  if s.e ≠ 0 then (s, 0) else if knownB w then (if (s.next w.toNat).2.2 then (if most < numB (s.next w.toNat).2.1 then ((s.next w.toNat).1.fail 4, 0) else ((s.next w.toNat).1, numB (s.next w.toNat).2.1)) else ((s.next w.toNat).1, 0)) else (s.fail 1, 0)
def FI.raw (s : FI) (n : Int) : FI × List Int :=
  if n < 0 then (s.fail 1, []) else ((s.next n.toNat).1, (s.next n.toNat).2.1)
def FI.text (s : FI) (most : Int) : FI × List Int :=
  if (s.next 2).2.2 then (if most < numB (s.next 2).2.1 then ((s.next 2).1.fail 6, []) else (s.next 2).1.raw (numB (s.next 2).2.1)) else ((s.next 2).1, [])
def FI.done (s : FI) : Int := if s.e ≠ 0 then s.e else if s.l = [] then 0 else 4

structure InAt (w : World) (g B : Nat) (s : FI) : Prop where
  mem : ∃ (A : Option Addr) (c : Nat), Blk w g 81 #[.slice A s.l.length c, .int .i64 s.e] ∧ Reads w B 1 A s.l.length (s.l.map (Value.int .u8)) ∧ (∀ ad, A = some ad → ad.block ≠ g) ∧ s.l.length ≤ c ∧ c ≤ maxLen
  bytes : bytesB s.l
  lt : g < B
  le : B ≤ w.heap.size
def isG (g : Nat) : Nat → Prop := fun k => k = g
theorem reads_chg {w w' : World} {g n B : Nat} {A : Option Addr} {xs : List Value} (h : Reads w B 1 A n xs) (hB : B ≤ w.heap.size) (hc : Chg w w' (isG g)) (ha : ∀ ad, A = some ad → ad.block ≠ g) : Reads w' B 1 A n xs := by
  refine ⟨h.1, fun h0 => ?_⟩
  obtain ⟨ad, hA, hb, hr⟩ := h.2 h0
  refine ⟨ad, hA, hb, fun j u hu => ?_⟩
  exact (World.cell?_of_block (hc.block _ (by rw [block_of_add]; omega) (by rw [block_of_add]; exact ha ad hA))).trans (hr j u hu)
theorem InAt.below {w w' : World} {g B : Nat} {s : FI} (h : InAt w g B s) (hb : Below B w w') : InAt w' g B s := by
  obtain ⟨A, c, h1, h2, h3⟩ := h.mem
  exact ⟨⟨A, c, h1.below hb h.lt, h2.below hb, h3⟩, h.bytes, h.lt, Nat.le_trans h.le hb.size⟩

theorem failIn_any (g : Nat) (s : FI) (x : Int) (B : Nat) (w : World) (h : InAt w g B s) :
    Calls Try.prog 47 #[.pointer (some ⟨g, 0, none⟩), .int .i64 x] w fun e w' => e = .returned (.tuple #[]) ∧ InAt w' g B (s.fail x) ∧ Chg w w' (isG g) := by
  obtain ⟨A, c, hb, hr, hA, hc1, hc2⟩ := h.mem
  have c0 := hb.cell 0
  have c1 := hb.cell 1
  have f0 := hb.frozen 0
  have f1 := hb.frozen 1
  simp only [List.getElem?_toArray, List.getElem?_cons_succ, List.getElem?_cons_zero] at c0 c1
  have HB := Lib.hid hb
  have hlt := hb.lt
  have hgB := h.lt
  have hBle := h.le
  clear hb h hr
  by_cases he : s.e = 0
  · have hF : s.fail x = ⟨[], x⟩ := by rw [FI.fail, if_pos he]
    rw [hF]
    have he' : (s.e == 0) = true := by simp [he]
    clear he hF
    go_enter Try.func47, Try.ntmps47
    go_wp2
    go_end0
    refine ⟨rfl, ⟨⟨none, 0, (HB.out.set_ 1 _).set_ 0 _, Reads.none_, by simp, Nat.le_refl _, by decide⟩, fun z hz => (by cases hz), hgB, by simpa using hBle⟩, ?_⟩
    exact (Chg.of_grown (only_setCell (only_setCell (World.grownBy.refl w (some g)) (p := ⟨g, 1, none⟩) (.inl rfl) (.int .i64 x)) (p := ⟨g, 0, none⟩) (.inl rfl) (.slice none 0 0))).mono (fun i _ hi => by injection hi)
  · have hF : s.fail x = ⟨[], s.e⟩ := by rw [FI.fail, if_neg he]
    rw [hF]
    have he' : (s.e == 0) = false := by simp [he]
    clear he hF
    go_enter Try.func47, Try.ntmps47
    go_wp2
    go_end0
    refine ⟨rfl, ⟨⟨none, 0, HB.out.set_ 0 _, Reads.none_, by simp, Nat.le_refl _, by decide⟩, fun z hz => (by cases hz), hgB, by simpa using hBle⟩, ?_⟩
    exact (Chg.of_grown (only_setCell (World.grownBy.refl w (some g)) (p := ⟨g, 0, none⟩) (.inl rfl) (.slice none 0 0))).mono (fun i _ hi => by injection hi)

theorem chg_set0 (w : World) (g : Nat) (u : Value) (o : Nat) : Chg w (w.setCell ⟨g, o, none⟩ u) (isG g) :=
  (Chg.of_grown (only_setCell (World.grownBy.refl w (some g)) (p := ⟨g, o, none⟩) (.inl rfl) u)).mono (fun i _ hi => by injection hi)

theorem next_any (g : Nat) (s : FI) (n B : Nat) (w : World) (h : InAt w g B s) (hn : n ≤ 9223372036854775807) :
    Calls Try.prog 48 #[.pointer (some ⟨g, 0, none⟩), .int .i64 n] w fun e w' => ∃ A c, e = .returned (.tuple #[.slice A (s.next n).2.1.length c, .bool (s.next n).2.2]) ∧ InAt w' g B (s.next n).1 ∧ Chg w w' (isG g) ∧
      Reads w' B 1 A (s.next n).2.1.length ((s.next n).2.1.map (Value.int .u8)) := by
  obtain ⟨A, c, hb, hr, hA, hc1, hc2⟩ := h.mem
  have c0 := hb.cell 0
  have c1 := hb.cell 1
  have f0 := hb.frozen 0
  simp only [List.getElem?_toArray, List.getElem?_cons_succ, List.getElem?_cons_zero] at c0 c1
  have hgB := h.lt
  have hBle := h.le
  have HI := Lib.hid h
  have HB := Lib.hid hb
  have HR := Lib.hid hr
  have HA := Lib.hid hA
  unfold maxLen at hc2
  by_cases he : s.e = 0
  · have he' : (s.e != 0) = false := by simp [he]
    by_cases hs : s.l.length < n
    · have hN : s.next n = (s.fail 3, [], false) := by rw [FI.next, if_neg (by simp [he]), if_pos hs]
      rw [hN]
      clear hb h hr hA he hN
      go_enter Try.func48, Try.ntmps48
      go_wp2_with (fail)
      refine (failIn_any g s 3 B _ HI.out).mono ?_
      rintro e w1 ⟨rfl, h1, h2⟩
      have H1 := Lib.hid h1
      have H2 := Lib.hid h2
      clear h1 h2
      go_wp2
      go_ret2
      exact ⟨none, 0, rfl, H1.out, H2.out, Reads.none_⟩
    · have hN : s.next n = (⟨s.l.drop n, 0⟩, s.l.take n, true) := by rw [FI.next, if_neg (by simp [he]), if_neg hs]
      have ho : (s.l.take n).length = n := by rw [List.length_take]; omega
      have hd : (s.l.drop n).length = s.l.length - n := List.length_drop
      have hR1 := hr.take (Nat.le_of_not_lt hs)
      have hR2 := hr.cut (Nat.le_of_not_lt hs) hc1
      rw [← List.map_take] at hR1
      rw [Nat.mul_one, ← List.map_drop] at hR2
      have hby : bytesB (s.l.drop n) := fun z hz => HI.out.bytes z (List.mem_of_mem_drop hz)
      obtain ⟨o, eo⟩ : ∃ o, o = s.l.take n := ⟨_, rfl⟩
      obtain ⟨d, ed⟩ : ∃ d, d = s.l.drop n := ⟨_, rfl⟩
      rw [← eo] at ho hR1 hN
      rw [← ed] at hd hR2 hby hN
      rw [hN]
      have HO := Lib.hid ho
      have HD := Lib.hid hd
      have HR1 := Lib.hid hR1
      have HR2 := Lib.hid hR2
      have HY := Lib.hid hby
      have HE := Lib.hid he
      have hle := Nat.le_of_not_lt hs
      clear hb h hr hA he hN ho hd hR1 hR2 hby eo ed HI HR hs
      by_cases hcn : c = n
      · subst hcn
        go_enter Try.func48, Try.ntmps48
        go_wp2_with (fail)
        go_ret2
        have HR3 := HR2.out
        rw [if_pos trivial] at HR3
        refine ⟨A, ⟨c, by rw [HO.out]; rfl⟩, ⟨⟨A, 0, ?_, ?_, HA.out, by rw [HD.out]; omega, by decide⟩, HY.out, hgB, by simpa using hBle⟩, chg_set0 _ _ _ _, ?_⟩
        · have h0 : s.l.length - c = 0 := by omega
          rw [HD.out, h0]
          have := HB.out.set_ 0 (.slice A 0 0)
          rw [HE.out] at this
          exact this
        · rw [HD.out]; exact reads_chg HR3 hBle (chg_set0 _ _ _ _) HA.out
        · rw [HO.out]; exact reads_chg HR1.out hBle (chg_set0 _ _ _ _) HA.out
      · have hcn' : ((c : Int) = n) = False := by simp; omega
        go_enter Try.func48, Try.ntmps48
        go_wp2_with (fail)
        go_ret2
        have HR3 := HR2.out
        rw [if_neg hcn] at HR3
        refine ⟨A, n, by rw [HO.out]; rfl, ⟨⟨A.map (·.add n), c - n, ?_, ?_, ?_, by rw [HD.out]; omega, by unfold maxLen; omega⟩, HY.out, hgB, by simpa using hBle⟩, chg_set0 _ _ _ _, ?_⟩
        · rw [HD.out]
          have := HB.out.set_ 0 (.slice (A.map (·.add n)) (s.l.length - n) (c - n))
          rw [HE.out] at this
          exact this
        · rw [HD.out]; exact reads_chg HR3 hBle (chg_set0 _ _ _ _) (fun ad e => by
            cases A with
            | none => cases e
            | some a => simp at e; subst e; rw [block_of_add]; exact HA.out a rfl)
        · intro ad e
          cases A with
          | none => cases e
          | some a => simp at e; subst e; rw [block_of_add]; exact HA.out a rfl
        · rw [HO.out]; exact reads_chg HR1.out hBle (chg_set0 _ _ _ _) HA.out
  · have he' : (s.e != 0) = true := by simp [he]
    have hN : s.next n = (s, [], false) := by rw [FI.next, if_pos he]
    rw [hN]
    clear hb h hr hA he hN
    go_enter Try.func48, Try.ntmps48
    go_wp2_with (fail)
    go_ret2
    exact ⟨none, 0, rfl, HI.out, Chg.refl _ _, Reads.none_⟩
end Go.Proofs.Ytcmaekkfeilclaa
