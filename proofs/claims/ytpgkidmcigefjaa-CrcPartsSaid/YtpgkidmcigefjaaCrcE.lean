/- Package crc: Of, At, Slow; the reference's Other, Of, More, At. -/
import Derived.Test.YtpgkidmcigefjaaCrcD
namespace Go.Proofs.Ytpgkidmcigefjaa
open Go.RowKit
set_option linter.unusedSimpArgs false
set_option linter.unusedVariables false
set_option maxRecDepth 100000
set_option maxHeartbeats 1000000

/-- a part: a slice of bytes, and the bytes -/
structure Pt where
  A : Option Addr
  n : Nat
  c : Nat
  B : Nat
  l : List Nat
def Pt.v (p : Pt) : Value := .slice p.A p.n p.c
def Pt.ok (w : World) (g : Nat) (p : Pt) : Prop :=
  isBs p.l ∧ Reads w p.B 1 p.A p.n ((bI p.l).map (Value.int .u8)) ∧ p.B ≤ w.heap.size ∧ (∀ ad, 0 < p.n → p.A = some ad → ad.block ≠ g) ∧ p.n ≤ 9223372036854775806
theorem Pt.ok_chg {w w' : World} {g : Nat} {p : Pt} (h : p.ok w g) (hc : Chg w w' (fun k => k = g)) : p.ok w' g :=
  ⟨h.1, hc.reads h.2.1 h.2.2.1 h.2.2.2.1, Nat.le_trans h.2.2.1 hc.size, h.2.2.2⟩
def cat (L : List Pt) : List Nat := L.flatMap Pt.l
theorem cat_take (L : List Pt) (k : Nat) (p : Pt) (h : L[k]? = some p) : cat (L.take (k + 1)) = cat (L.take k) ++ p.l := by
  unfold cat
  rw [List.take_add_one, h, Option.toList_some, List.flatMap_append]
  simp
theorem more_nil0 : 0 = more 0 [] := by decide +kernel
theorem cat_bs (L : List Pt) (w : World) (g : Nat) (h : ∀ p ∈ L, p.ok w g) : isBs (cat L) := by
  intro b hb
  obtain ⟨p, hp, hb⟩ := List.mem_flatMap.1 hb
  exact (h p hp).1 b hb
theorem reads_parts {w : World} {B n k : Nat} {A : Option Addr} {L : List Pt} (h : Reads w B 1 A n (L.map Pt.v)) (hk : k < n) :
    ∃ ad p, A = some ad ∧ ad.block < B ∧ L[k]? = some p ∧ w.cell? (ad.add k) = some (.slice p.A p.n p.c) := by
  obtain ⟨ad, u, hA, hb, hx, hc⟩ := h.at_ hk
  rw [List.getElem?_map] at hx
  cases hz : L[k]? with
  | none => rw [hz] at hx; cases hx
  | some z =>
    rw [hz] at hx
    simp only [Option.map_some, Option.some.injEq] at hx
    subst hx
    exact ⟨ad, z, hA, hb, rfl, hc⟩
theorem crcOf_any (g : Nat) (d : Bool) (SA : Option Addr) (m sc SB : Nat) (L : List Pt) (w : World) (h : Tb w g d) (hr : Reads w SB 1 SA m (L.map Pt.v)) (hB : SB ≤ w.heap.size) (hS : ∀ ad, 0 < m → SA = some ad → ad.block ≠ g)
    (hP : ∀ p ∈ L, p.ok w g) (hm : m ≤ 9223372036854775806) :
    Calls Try.prog 11 #[.pointer (some ⟨g, 0, none⟩), .slice SA m sc] w fun e w' => e = .returned (.int .u32 ((crc (cat L) : Nat) : Int)) ∧ Tb w' g true ∧ Chg w w' (fun k => k = g) := by
  have HR := Lib.hid hr
  have LN : Hid (L.length = m) := Lib.hid (by have := hr.1; simpa using this)
  have HP := Lib.hid hP
  have HSS := Lib.hid hS
  have C := Lib.hid (crcReady_any g d w h)
  have HBL := Lib.hid (cat_bs L w g hP)
  clear h hr hS hP
  go_enter Try.func11, Try.ntmps11
  go_wp2_with (fail)
  with_reducible refine C.out.mono ?_
  rintro e w1 ⟨rfl, h1, h2⟩
  have HR1 := Lib.hid (h2.reads HR.out hB (fun ad h0 he => HSS.out ad h0 he))
  have HB1 := Lib.hid (Nat.le_trans hB h2.size)
  have HP1 : Hid (∀ p ∈ L, p.ok w1 g) := Lib.hid (fun p hp => Pt.ok_chg (HP.out p hp) h2)
  have H1 := Lib.hid h1
  have H2 := Lib.hid h2
  clear h1 h2 C HP HR
  go_wp2_with (fail)
  go_loopw [5, 7, 14] (fun v s7 i wr => ∃ k q : Nat, k ≤ m ∧ q < 4294967296 ∧ i = .int .i64 k ∧ v = .int .u32 (q : Int) ∧ Hid (q = more 0 (cat (L.take k))) ∧ Hid (Tb wr g true) ∧ Hid (Chg w1 wr (fun k => k = g))) (fun _ _ i _ => m - (intOf i).toNat)
  case atStart => exact ⟨0, 0, by omega, by omega, rfl, rfl, Lib.hid more_nil0, H1, Lib.hid (Chg.refl _ _)⟩
  case round =>
    obtain ⟨k, q, hk, hq, rfl, rfl, HQ, HT, HC⟩ := hrel
    by_cases hlt : k < m
    · have hr2 := HC.out.reads HR1.out HB1.out (fun ad h0 he => HSS.out ad h0 he)
      obtain ⟨ad, p, rfl, _, hz, hc⟩ := reads_parts hr2 hlt
      have hp := Pt.ok_chg (HP1.out p (List.mem_of_getElem? hz)) HC.out
      have M := Lib.hid (crcMore_any g true p.A p.n p.c p.B q p.l hp.1 hq wr HT.out hp.2.1 hp.2.2.1 hp.2.2.2.1 hp.2.2.2.2)
      have hlt2 := more_lt q p.l hq hp.1
      obtain ⟨q', hq'⟩ : ∃ q', q' = more q p.l := ⟨_, rfl⟩
      rw [← hq'] at hlt2 M
      have HQ' := Lib.hid hq'
      have HZ := Lib.hid hz
      clear hz hp hq' hr2
      go_wp2_with (fail)
      with_reducible refine M.out.mono ?_
      rintro e w2 ⟨rfl, h1, h2⟩
      have H3 := Lib.hid h1
      have H4 := Lib.hid h2
      clear h1 h2 M
      go_wp2
      go_roundw
      case rel => exact ⟨k + 1, q', by omega, hlt2, by go_num, rfl, Lib.hid (by rw [cat_take _ _ _ HZ.out, ← more_more, HQ'.out, HQ.out]), H3, Lib.hid (HC.out.trans H4.out (fun _ _ h => h))⟩
      case measure => simp [intOf]; omega
    · obtain rfl : k = m := by omega
      go_wp2
      go_ret
      exact ⟨ret_int (by rw [HQ.out, more_0, List.take_of_length_le (by have := LN.out; omega)]), HT.out, H2.out.trans HC.out (fun _ _ h => h)⟩
theorem crcOf_nil (A : Option Addr) (n c sb : Nat) (w : World) (hc : w.cell? ⟨sb, 0, none⟩ = some (.slice A n c)) :
    Calls Try.prog 11 #[.pointer none, .slice (some ⟨sb, 0, none⟩) 1 1] w fun e w' => e = .returned (.int .u32 0) ∧ w = w' := by
  go_enter Try.func11, Try.ntmps11
  go_wp2_with (fail)
  refine wp_loop_rounds 2 ?_
  rw [rounds_succ]
  go_wp2_with (fail)
  with_reducible refine (crcMore_nil 0 (.slice A n c) _).mono ?_
  rintro e w2 ⟨rfl, rfl⟩
  go_wp2
  rw [rounds_succ]
  go_wp2
  go_ret
  exact ⟨rfl, rfl⟩
theorem crcAt_any (g : Nat) (d : Bool) (i : Int) (w : World) (h : Tb w g d) :
    Calls Try.prog 16 #[.pointer (some ⟨g, 0, none⟩), .int .i64 i] w fun e w' => e = .returned (.int .u32 (if 0 ≤ i ∧ i ≤ 255 then tabF i.toNat else 0)) ∧ Tb w' g (d || decide (0 ≤ i ∧ i ≤ 255)) ∧ Chg w w' (fun k => k = g) := by
  have hnp : ∀ w, (binOp .eql 23 (.pointer (some ⟨g, 0, none⟩)) (.pointer none)).run Try.prog w = .ok (.bool false) w := fun _ => by kernel_rfl
  have C := Lib.hid (crcReady_any g d w h)
  by_cases hi : 0 ≤ i ∧ i ≤ 255
  · rw [if_pos hi, decide_eq_true hi, Bool.or_true]
    obtain ⟨k, rfl⟩ := Int.eq_ofNat_of_zero_le hi.1
    have hk : k < 256 := by omega
    clear hi h
    go_enter Try.func16, Try.ntmps16
    go_wp2_with (fail)
    with_reducible refine C.out.mono ?_
    rintro e w1 ⟨rfl, h1, h2⟩
    have ht := TabC.kt h1 hk
    have H1 := Lib.hid h1
    have H2 := Lib.hid h2
    clear h1 h2 C
    go_wp2
    go_ret
    exact ⟨ret_int (by simp), H1.out, H2.out⟩
  · rw [if_neg hi, decide_eq_false hi, Bool.or_false]
    have H := Lib.hid h
    clear h C
    by_cases h0 : 0 ≤ i
    · have h2 : ¬ i ≤ 255 := fun h2 => hi ⟨h0, h2⟩
      clear hi
      go_enter Try.func16, Try.ntmps16
      go_wp2
      go_ret
      exact ⟨rfl, H.out, Chg.refl _ _⟩
    · clear hi
      go_enter Try.func16, Try.ntmps16
      go_wp2
      go_ret
      exact ⟨rfl, H.out, Chg.refl _ _⟩
theorem crcAt_nil (i : Int) (w : World) : Calls Try.prog 16 #[.pointer none, .int .i64 i] w fun e w' => e = .returned (.int .u32 0) ∧ w = w' := by
  go_enter Try.func16, Try.ntmps16
  go_wp2
  go_ret
  exact ⟨rfl, rfl⟩
theorem crcSlow_any (A : Option Addr) (n c B : Nat) (l : List Nat) (hl : isBs l) (w : World) (hr : Reads w B 1 A n ((bI l).map (Value.int .u8))) (hn : n ≤ 9223372036854775806) :
    Calls Try.prog 14 #[.slice A n c] w fun e w' => e = .returned (.int .u32 ((crc l : Nat) : Int)) ∧ w = w' := by
  have HL := Lib.hid hl
  have HR := Lib.hid hr
  have LN := Lib.hid (reads_len hr)
  clear hl hr
  go_enter Try.func14, Try.ntmps14
  go_wp2
  go_loop [3, 5, 8] (fun v c5 i => ∃ k q : Nat, k ≤ n ∧ q < 4294967296 ∧ i = .int .i64 k ∧ v = .int .u32 (q : Int) ∧ Hid (q = onB 4294967295 (l.take k))) (fun _ _ i => n - (intOf i).toNat)
  case atStart => exact ⟨0, 4294967295, by omega, by omega, rfl, rfl, Lib.hid rfl⟩
  case round =>
    obtain ⟨k, q, hk, hq, rfl, rfl, HQ⟩ := hrel
    by_cases hlt : k < n
    · obtain ⟨ad, z, rfl, _, hz, hc⟩ := reads_nat HR.out hlt
      have hz8 := isBs_get HL.out hz
      have HZ := Lib.hid hz
      clear hz
      have B8 := Lib.hid (fun w => byte32_any q z hq hz8 w)
      obtain ⟨y, hy⟩ : ∃ y, y = (q % 256) ^^^ z := ⟨_, rfl⟩
      have hy8 : y < 256 := by rw [hy]; exact xor8_lt _ _ (by omega) hz8
      rw [← hy] at B8
      obtain ⟨t, hte⟩ : ∃ t, t = hv 8 y := ⟨_, rfl⟩
      have H8 := Lib.hid (fun w => halved_any y (by omega) w)
      rw [← hte] at H8
      have htl : t < 4294967296 := by rw [hte]; exact hv_lt _ _ (by omega)
      obtain ⟨q', hq'⟩ : ∃ q', q' = hv 8 (q ^^^ z) := ⟨_, rfl⟩
      have hql : q' < 4294967296 := by rw [hq']; exact hv_lt _ _ (xor32_lt _ _ hq (by omega))
      have hx2 : bits .xor .u32 (t : Int) ((q : Int) / 256) = (q' : Int) := by
        rw [hq', ← table_step, ← hy, ← hte]; exact u32_xor_nat t (q / 256) htl (by omega)
      have HQ' := Lib.hid hq'
      clear hy hte hq'
      go_wp2_with (fail)
      with_reducible refine (B8.out _).mono ?_
      rintro e w' ⟨rfl, rfl⟩
      go_wp2_with (fail)
      with_reducible refine (H8.out _).mono ?_
      rintro e w' ⟨rfl, rfl⟩
      go_wp2
      go_round
      case rel => exact ⟨k + 1, q', by omega, hql, by go_num, rfl, Lib.hid (by rw [onB_take _ _ _ _ HZ.out, HQ'.out, HQ.out])⟩
      case measure => simp [intOf]; omega
    · obtain rfl : k = n := by omega
      have e2 := other_bits q hq
      go_wp2
      go_ret
      exact ⟨ret_int (by rw [HQ.out, List.take_of_length_le (by have := LN.out; omega)]; rfl), rfl⟩
theorem refOther_any (s : Nat) (hs : s < 4294967296) (w : World) : Calls Try.prog 28 #[.int .u32 (s : Int)] w fun e w' => e = .returned (.int .u32 ((other s : Nat) : Int)) ∧ w = w' := by
  have e1 : bits .xor .u32 (s : Int) 4294967295 = ((other s : Nat) : Int) := u32_xor_nat s 4294967295 hs (by decide)
  go_enter Try.func28, Try.ntmps28
  go_wp2
  go_ret
  exact ⟨rfl, rfl⟩
theorem refOf_any (A : Option Addr) (n c B : Nat) (l : List Nat) (hl : isBs l) (w : World) (hr : Reads w B 1 A n ((bI l).map (Value.int .u8))) (hn : n ≤ 9223372036854775806) :
    Calls Try.prog 12 #[.slice A n c] w fun e w' => e = .returned (.int .u32 ((crc l : Nat) : Int)) ∧ w = w' := by
  have C := Lib.hid (fun w' (h : Reads w' B 1 A n ((bI l).map (Value.int .u8))) => refOn_any A n c B 4294967295 l hl (by decide) w' h hn)
  have hx := onB_lt 4294967295 l (by decide) hl
  have HR := Lib.hid hr
  have D : Hid (∀ w, Calls Try.prog 28 #[.int .u32 ((onB 4294967295 l : Nat) : Int)] w fun e w' => e = .returned (.int .u32 ((crc l : Nat) : Int)) ∧ w = w') := Lib.hid (fun w => refOther_any _ hx w)
  generalize crc l = r at *
  generalize onB 4294967295 l = o at *
  clear hr hl
  go_enter Try.func12, Try.ntmps12
  go_wp2_with (fail)
  refine (C.out _ HR.out).mono ?_
  rintro e w' ⟨rfl, rfl⟩
  go_wp2_with (fail)
  with_reducible refine (D.out _).mono ?_
  rintro e w' ⟨rfl, rfl⟩
  go_wp2
  go_ret
  exact ⟨rfl, rfl⟩
theorem refMore_any (A : Option Addr) (n c B s : Nat) (l : List Nat) (hl : isBs l) (hs : s < 4294967296) (w : World) (hr : Reads w B 1 A n ((bI l).map (Value.int .u8))) (hn : n ≤ 9223372036854775806) :
    Calls Try.prog 15 #[.int .u32 (s : Int), .slice A n c] w fun e w' => e = .returned (.int .u32 ((more s l : Nat) : Int)) ∧ w = w' := by
  have hp := other_lt s hs
  have E := Lib.hid (refOther_any s hs)
  have C := Lib.hid (fun w' (h : Reads w' B 1 A n ((bI l).map (Value.int .u8))) => refOn_any A n c B (other s) l hl hp w' h hn)
  have hx := onB_lt (other s) l hp hl
  have HR := Lib.hid hr
  have D : Hid (∀ w, Calls Try.prog 28 #[.int .u32 ((onB (other s) l : Nat) : Int)] w fun e w' => e = .returned (.int .u32 ((more s l : Nat) : Int)) ∧ w = w') := Lib.hid (fun w => refOther_any _ hx w)
  generalize more s l = r at *
  generalize onB (other s) l = o at *
  generalize other s = p at *
  clear hr hl
  go_enter Try.func15, Try.ntmps15
  go_wp2_with (fail)
  with_reducible refine (E.out _).mono ?_
  rintro e w' ⟨rfl, rfl⟩
  go_wp2_with (fail)
  with_reducible refine (C.out _ HR.out).mono ?_
  rintro e w' ⟨rfl, rfl⟩
  go_wp2_with (fail)
  with_reducible refine (D.out _).mono ?_
  rintro e w' ⟨rfl, rfl⟩
  go_wp2
  go_ret
  exact ⟨rfl, rfl⟩
theorem refAt_any (i : Int) (w : World) :
    Calls Try.prog 17 #[.int .i64 i] w fun e w' => e = .returned (.int .u32 (if 0 ≤ i ∧ i ≤ 255 then tabF i.toNat else 0)) ∧ Below w.heap.size w w' := by
  by_cases hi : 0 ≤ i ∧ i ≤ 255
  · rw [if_pos hi]
    obtain ⟨k, rfl⟩ := Int.eq_ofNat_of_zero_le hi.1
    have hk : k < 256 := by omega
    have e0 : onB 0 [k] = hv 8 k := by show hv 8 (0 ^^^ k) = _; rw [Nat.zero_xor]
    have hb : isBs [k] := by intro b hb; simp at hb; omega
    have hr : Reads (w.alloc (.cells #[.int .u8 (k : Int)] 5)) (w.heap.size + 1) 1 (some ⟨w.heap.size, 0, none⟩) 1 ((bI [k]).map (Value.int .u8)) := by
      refine ⟨rfl, fun _ => ⟨_, rfl, by simp, fun j u hu => ?_⟩⟩
      exact cells_new _ _ _ _ _ hu
    have C := Lib.hid (refOn_any (some ⟨w.heap.size, 0, none⟩) 1 1 (w.heap.size + 1) 0 [k] hb (by decide) _ hr (by decide))
    rw [e0] at C
    clear hi hb e0 hr
    go_enter Try.func17, Try.ntmps17
    go_wp2_with (fail)
    refine C.out.mono ?_
    rintro e w' ⟨rfl, rfl⟩
    go_wp2
    go_ret
    exact ⟨ret_int (by simp [tabF]), (Below.refl _ _).alloc (Nat.le_refl _) _⟩
  · rw [if_neg hi]
    by_cases h0 : 0 ≤ i
    · have h2 : ¬ i ≤ 255 := fun h2 => hi ⟨h0, h2⟩
      clear hi
      go_enter Try.func17, Try.ntmps17
      go_wp2
      go_ret
      exact ⟨rfl, Below.refl _ _⟩
    · clear hi
      go_enter Try.func17, Try.ntmps17
      go_wp2
      go_ret
      exact ⟨rfl, Below.refl _ _⟩
end Go.Proofs.Ytpgkidmcigefjaa
