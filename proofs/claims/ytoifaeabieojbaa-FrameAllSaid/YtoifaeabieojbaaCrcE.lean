/- Package crc: Of, At, Slow; the reference's Other, Of, More, At. -/
import Derived.Test.YtoifaeabieojbaaCrcD
namespace Go.Proofs.Ytoifaeabieojbaa
open Go.RowKit
set_option linter.unusedSimpArgs false
set_option linter.unusedVariables false
set_option maxRecDepth 100000
set_option maxHeartbeats 1000000

/-- a part: a slice of bytes, and the bytes -/
structure Pt where
  A : Option Addr
  n : Nat
  c : Nat
  B : Nat
  l : List Nat
def Pt.v (p : Pt) : Value := .slice p.A p.n p.c
def Pt.ok (w : World) (g : Nat) (p : Pt) : Prop :=
  isBs p.l ∧ Reads w p.B 1 p.A p.n ((bI p.l).map (Value.int .u8)) ∧ p.B ≤ w.heap.size ∧ (∀ ad, 0 < p.n → p.A = some ad → ad.block ≠ g) ∧ p.n ≤ 9223372036854775806
theorem Pt.ok_chg {w w' : World} {g : Nat} {p : Pt} (h : p.ok w g) (hc : Chg w w' (fun k => k = g)) : p.ok w' g :=
  ⟨h.1, hc.reads h.2.1 h.2.2.1 h.2.2.2.1, Nat.le_trans h.2.2.1 hc.size, h.2.2.2⟩
def cat (L : List Pt) : List Nat := L.flatMap Pt.l
theorem cat_take (L : List Pt) (k : Nat) (p : Pt) (h : L[k]? = some p) : cat (L.take (k + 1)) = cat (L.take k) ++ p.l := by
  unfold cat
  rw [List.take_add_one, h, Option.toList_some, List.flatMap_append]
  simp
theorem more_nil0 : 0 = more 0 [] := by decide +kernel
theorem cat_bs (L : List Pt) (w : World) (g : Nat) (h : ∀ p ∈ L, p.ok w g) : isBs (cat L) := by
  intro b hb
  obtain ⟨p, hp, hb⟩ := List.mem_flatMap.1 hb
  exact (h p hp).1 b hb
theorem reads_parts {w : World} {B n k : Nat} {A : Option Addr} {L : List Pt} (h : Reads w B 1 A n (L.map Pt.v)) (hk : k < n) :
    ∃ ad p, A = some ad ∧ ad.block < B ∧ L[k]? = some p ∧ w.cell? (ad.add k) = some (.slice p.A p.n p.c) := by
  obtain ⟨ad, u, hA, hb, hx, hc⟩ := h.at_ hk
  rw [List.getElem?_map] at hx
  cases hz : L[k]? with
  | none => rw [hz] at hx; cases hx
  | some z =>
    rw [hz] at hx
    simp only [Option.map_some, Option.some.injEq] at hx
    subst hx
    exact ⟨ad, z, hA, hb, rfl, hc⟩
theorem crcOf_any (g : Nat) (d : Bool) (SA : Option Addr) (m sc SB : Nat) (L : List Pt) (w : World) (h : Tb w g d) (hr : Reads w SB 1 SA m (L.map Pt.v)) (hB : SB ≤ w.heap.size) (hS : ∀ ad, 0 < m → SA = some ad → ad.block ≠ g)
    (hP : ∀ p ∈ L, p.ok w g) (hm : m ≤ 9223372036854775806) :
    Calls Try.prog 59 #[.pointer (some ⟨g, 0, none⟩), .slice SA m sc] w fun e w' => e = .returned (.int .u32 ((crc (cat L) : Nat) : Int)) ∧ Tb w' g true ∧ Chg w w' (fun k => k = g) := by
  have HR := Lib.hid hr
  have LN : Hid (L.length = m) := Lib.hid (by have := hr.1; simpa using this)
  have HP := Lib.hid hP
  have HSS := Lib.hid hS
  have C := Lib.hid (crcReady_any g d w h)
  have HBL := Lib.hid (cat_bs L w g hP)
  clear h hr hS hP
  go_enter Try.func59, Try.ntmps59
  go_wp2_with (fail)
  with_reducible refine C.out.mono ?_
  rintro e w1 ⟨rfl, h1, h2⟩
  have HR1 := Lib.hid (h2.reads HR.out hB (fun ad h0 he => HSS.out ad h0 he))
  have HB1 := Lib.hid (Nat.le_trans hB h2.size)
  have HP1 : Hid (∀ p ∈ L, p.ok w1 g) := Lib.hid (fun p hp => Pt.ok_chg (HP.out p hp) h2)
  have H1 := Lib.hid h1
  have H2 := Lib.hid h2
  clear h1 h2 C HP HR
  go_wp2_with (fail)
  go_loopw [5, 7, 14] (fun v s7 i wr => ∃ k q : Nat, k ≤ m ∧ q < 4294967296 ∧ i = .int .i64 k ∧ v = .int .u32 (q : Int) ∧ Hid (q = more 0 (cat (L.take k))) ∧ Hid (Tb wr g true) ∧ Hid (Chg w1 wr (fun k => k = g))) (fun _ _ i _ => m - (intOf i).toNat)
  case atStart => exact ⟨0, 0, by omega, by omega, rfl, rfl, Lib.hid more_nil0, H1, Lib.hid (Chg.refl _ _)⟩
  case round =>
    obtain ⟨k, q, hk, hq, rfl, rfl, HQ, HT, HC⟩ := hrel
    by_cases hlt : k < m
    · have hr2 := HC.out.reads HR1.out HB1.out (fun ad h0 he => HSS.out ad h0 he)
      obtain ⟨ad, p, rfl, _, hz, hc⟩ := reads_parts hr2 hlt
      have hp := Pt.ok_chg (HP1.out p (List.mem_of_getElem? hz)) HC.out
      have M := Lib.hid (crcMore_any g true p.A p.n p.c p.B q p.l hp.1 hq wr HT.out hp.2.1 hp.2.2.1 hp.2.2.2.1 hp.2.2.2.2)
      have hlt2 := more_lt q p.l hq hp.1
      obtain ⟨q', hq'⟩ : ∃ q', q' = more q p.l := ⟨_, rfl⟩
      rw [← hq'] at hlt2 M
      have HQ' := Lib.hid hq'
      have HZ := Lib.hid hz
      clear hz hp hq' hr2
      go_wp2_with (fail)
      with_reducible refine M.out.mono ?_
      rintro e w2 ⟨rfl, h1, h2⟩
      have H3 := Lib.hid h1
      have H4 := Lib.hid h2
      clear h1 h2 M
      go_wp2
      go_roundw
      case rel => exact ⟨k + 1, q', by omega, hlt2, by go_num, rfl, Lib.hid (by rw [cat_take _ _ _ HZ.out, ← more_more, HQ'.out, HQ.out]), H3, Lib.hid (HC.out.trans H4.out (fun _ _ h => h))⟩
      case measure => simp [intOf]; omega
    · obtain rfl : k = m := by omega
      go_wp2
      go_ret
      exact ⟨ret_int (by rw [HQ.out, more_0, List.take_of_length_le (by have := LN.out; omega)]), HT.out, H2.out.trans HC.out (fun _ _ h => h)⟩
theorem crcOf_nil (A : Option Addr) (n c sb : Nat) (w : World) (hc : w.cell? ⟨sb, 0, none⟩ = some (.slice A n c)) :
    Calls Try.prog 59 #[.pointer none, .slice (some ⟨sb, 0, none⟩) 1 1] w fun e w' => e = .returned (.int .u32 0) ∧ w = w' := by
  go_enter Try.func59, Try.ntmps59
  go_wp2_with (fail)
  refine wp_loop_rounds 2 ?_
  rw [rounds_succ]
  go_wp2_with (fail)
  with_reducible refine (crcMore_nil 0 (.slice A n c) _).mono ?_
  rintro e w2 ⟨rfl, rfl⟩
  go_wp2
  rw [rounds_succ]
  go_wp2
  go_ret
  exact ⟨rfl, rfl⟩
theorem refOther_any (s : Nat) (hs : s < 4294967296) (w : World) : Calls Try.prog 60 #[.int .u32 (s : Int)] w fun e w' => e = .returned (.int .u32 ((other s : Nat) : Int)) ∧ w = w' := by
  have e1 : bits .xor .u32 (s : Int) 4294967295 = ((other s : Nat) : Int) := u32_xor_nat s 4294967295 hs (by decide)
  go_enter Try.func60, Try.ntmps60
  go_wp2
  go_ret
  exact ⟨rfl, rfl⟩
theorem refOf_any (A : Option Addr) (n c B : Nat) (l : List Nat) (hl : isBs l) (w : World) (hr : Reads w B 1 A n ((bI l).map (Value.int .u8))) (hn : n ≤ 9223372036854775806) :
    Calls Try.prog 50 #[.slice A n c] w fun e w' => e = .returned (.int .u32 ((crc l : Nat) : Int)) ∧ w = w' := by
  have C := Lib.hid (fun w' (h : Reads w' B 1 A n ((bI l).map (Value.int .u8))) => refOn_any A n c B 4294967295 l hl (by decide) w' h hn)
  have hx := onB_lt 4294967295 l (by decide) hl
  have HR := Lib.hid hr
  have D : Hid (∀ w, Calls Try.prog 60 #[.int .u32 ((onB 4294967295 l : Nat) : Int)] w fun e w' => e = .returned (.int .u32 ((crc l : Nat) : Int)) ∧ w = w') := Lib.hid (fun w => refOther_any _ hx w)
  generalize crc l = r at *
  generalize onB 4294967295 l = o at *
  clear hr hl
  go_enter Try.func50, Try.ntmps50
  go_wp2_with (fail)
  refine (C.out _ HR.out).mono ?_
  rintro e w' ⟨rfl, rfl⟩
  go_wp2_with (fail)
  with_reducible refine (D.out _).mono ?_
  rintro e w' ⟨rfl, rfl⟩
  go_wp2
  go_ret
  exact ⟨rfl, rfl⟩
end Go.Proofs.Ytoifaeabieojbaa
