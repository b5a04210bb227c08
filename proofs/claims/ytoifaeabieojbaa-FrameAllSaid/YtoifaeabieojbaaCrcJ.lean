/- Package crc: the reference's Seal, Fits. -/
import Derived.Test.YtoifaeabieojbaaCrcI
namespace Go.Proofs.Ytoifaeabieojbaa
open Go.RowKit
set_option linter.unusedSimpArgs false
set_option linter.unusedVariables false
set_option maxRecDepth 100000
set_option maxHeartbeats 1000000

theorem big4 (r : Nat) : big r 4 = [((r / 16777216 % 256 : Nat) : Int), ((r / 65536 % 256 : Nat) : Int), ((r / 256 % 256 : Nat) : Int), ((r % 256 : Nat) : Int)] := by
  simp [big, digit, List.range, List.range.loop]
theorem own_lit4 (w : World) (a b c d : Int) (base : Nat) (hb : base ≤ w.heap.size) : (w.alloc (.cells #[.int .u8 a, .int .u8 b, .int .u8 c, .int .u8 d] 5)).ownsRow base 5 1 (.slice (some ⟨w.heap.size, 0, none⟩) 4 4) 4 ([a, b, c, d].map (Value.int .u8)) :=
  ⟨rfl, .inr ⟨_, _, _, rfl, hb, heap_alloc_new _ _, Nat.le_refl _, by decide, rfl, rfl⟩⟩
theorem le4_ints (r : Nat) : bI (le4 r) = [((r % 256 : Nat) : Int), ((r / 256 % 256 : Nat) : Int), ((r / 65536 % 256 : Nat) : Int), ((r / 16777216 % 256 : Nat) : Int)] := rfl
theorem own_drew {w : World} {base : Nat} {e : TypeId} {size : Nat} {v : Value} {n : Nat} {xs : List Value} (h : w.ownsRow base e size v n xs) : w.drew.ownsRow base e size v n xs := h
theorem news4 {w : World} {cs : Array Value} {t : TypeId} {xs : List Value} (n : Nat) (hx : xs.length = n * 1) (hc : cs.toList = xs) : Reads (w.alloc (.cells cs t)).drew (w.heap.size + 1) 1 (some ⟨w.heap.size, 0, none⟩) n xs :=
  ⟨hx, fun _ => ⟨_, rfl, by simp, fun j u hu => by rw [World.cell?_drew]; exact cells_new _ _ _ j u (by rw [hc]; exact hu)⟩⟩
theorem refSeal_any (A : Option Addr) (n c B : Nat) (l : List Nat) (hl : isBs l) (w : World) (hr : Reads w B 1 A n ((bI l).map (Value.int .u8))) (hB : B ≤ w.heap.size) (hn : n ≤ 900000000) :
    Calls Try.prog 34 #[.slice A n c] w fun e w' => ∃ v, e = .returned v ∧ w'.ownsRow w.heap.size 5 1 v (n + 4) ((bI (sealB l)).map (Value.int .u8)) ∧ Below w.heap.size w w' := by
  obtain ⟨i0, hi, hz0, hz1, hz2⟩ := info_parts byteInfo
  have HR := Lib.hid hr
  have HLT := crc_lt l hl
  have HS : Hid (bI (sealB l) = bI l ++ bI (le4 (crc l))) := Lib.hid (bI_append _ _)
  rw [HS.out]
  have D := Lib.hid (fun w' h => refOf_any A n c B l hl w' h (by omega))
  obtain ⟨r, hrr⟩ : ∃ r, r = crc l := ⟨_, rfl⟩
  rw [← hrr] at HLT D ⊢
  clear hr hrr HS
  have e1 : IntKind.u64.wrap (r : Int) = r := by rw [IntKind.wrap_u64]; omega
  go_enter Try.func34, Try.ntmps34
  go_wp2_with (at_builtin; go_must (refine wpList_append_any _ rfl (.const (.slice none 0 0)) (.tmp 5) _ rfl w.heap.size 5 i0 _ 1 1 Try.underlying22 hi hz0 hz1 hz2 rfl (by omega) _ _ _ rfl (World.ownsRow_nil _ _ _ _) B A n c ((bI l).map (Value.int .u8)) rfl HR.out ?c1 ?c2 ?c3 ?c4 ?_))
  case c1 => exact u8_one _
  case c2 => unfold maxLen; omega
  case c3 => omega
  case c4 => exact Nat.le_refl _
  intro v1 w1 h5 h6 _
  have HB1 := Lib.hid ((Below.refl w.heap.size w).grown h6 (Nat.le_refl _) (fun k hk => by simp [Value.ownBlock] at hk))
  obtain ⟨A1, c1, rfl, _, _, _⟩ := own_slice h5
  have HO1 := Lib.hid h5
  have HR1 := Lib.hid (HR.out.below (HB1.out.mono hB))
  have hs1 := HB1.out.size
  clear h5 h6
  go_wp2_with (fail)
  refine (D.out _ HR1.out).mono ?_
  rintro e w' ⟨rfl, rfl⟩
  go_wp2_with (fail)
  refine (refBig_any r 4 _ (by first | rfl | assumption) (by omega) (by omega) (by omega) (by rw [fitsB, decide_eq_true_eq]; omega) _).mono ?_
  rintro e w2 ⟨v, rfl, h1, h2⟩
  obtain ⟨g2, c2, rfl, _, hg2⟩ := h1.form (by omega)
  have h3 := Reads.of_own h1
  have HO2 : Hid (w2.ownsRow w.heap.size 5 1 (.slice A1 n c1) n ((bI l).map (Value.int .u8))) := Lib.hid (own_block_same HO1.out (fun k hk => h2.block k (HO1.out.lt k hk).2))
  have HB2 := Lib.hid (HB1.out.trans (h2.mono hs1))
  have hs2 := h2.size
  rw [big4] at h3
  obtain ⟨ad', z0, hA2, _, k0, p0⟩ := reads_int h3 (k := 0) (by omega)
  cases hA2
  obtain ⟨ad', z1, hA2, _, k1, p1⟩ := reads_int h3 (k := 1) (by omega)
  cases hA2
  obtain ⟨ad', z2, hA2, _, k2, p2⟩ := reads_int h3 (k := 2) (by omega)
  cases hA2
  obtain ⟨ad', z3, hA2, _, k3, p3⟩ := reads_int h3 (k := 3) (by omega)
  cases hA2
  simp only [Go.WideShapes.add_plain, Nat.zero_add] at p0 p1 p2 p3
  simp only [List.getElem?_cons_zero, List.getElem?_cons_succ, Option.some.injEq] at k0 k1 k2 k3
  have HLE : Hid (bI (le4 r) = [z3, z2, z1, z0]) := Lib.hid (by rw [le4_ints, ← k0, ← k1, ← k2, ← k3])
  clear k0 k1 k2 k3 h1 h2 h3 D HR1 HB1
  go_wp2_with (fail)
  have hne : Hid (∀ k, (Value.slice A1 n c1).ownBlock = some k → g2 ≠ k) := Lib.hid (fun k hk e => by have := (HO1.out.lt k hk).2; omega)
  have q1 : n + 4 ≤ maxLen := by unfold maxLen; omega
  have q2 : (n + 4) * 1 ≤ 140737488355328 := by omega
  have q3 : w.heap.size ≤ (w2.alloc (.cells #[.int .u8 z3, .int .u8 z2, .int .u8 z1, .int .u8 z0] 5)).drew.heap.size := by have := HB2.out.size; simp; omega
  have Q1 := Lib.hid q1
  have Q2 := Lib.hid q2
  have Q3 := Lib.hid q3
  have HK : Hid (∀ (v3 : Value) (w3 : World), (w2.alloc (.cells #[.int .u8 z3, .int .u8 z2, .int .u8 z1, .int .u8 z0] 5)).drew.grownBy w3 (Value.slice A1 n c1).ownBlock → ∀ p : Addr, p.block = g2 → w3.cell? p = w2.cell? p) := Lib.hid (by
    intro v3 w3 hg p hp
    refine (World.cell?_of_block (hg.block p.block (by simp; omega) (fun e => hne.out g2 (by rw [← e, hp]) rfl))).trans ?_
    rw [World.cell?_drew]
    exact World.cell?_alloc_lt _ _ _ (by omega))
  clear q1 q2 q3
  go_region_held3 (fun w' => w'.cell? ⟨g2, 0, none⟩ = some (.int .u8 z0) ∧ w'.cell? ⟨g2, 1, none⟩ = some (.int .u8 z1) ∧ w'.cell? ⟨g2, 2, none⟩ = some (.int .u8 z2) ∧ w'.cell? ⟨g2, 3, none⟩ = some (.int .u8 z3)) (go_keep) (first
    | (refine step_append_any _ ?_ (.tmp 11) (.tmp 24) 22 ?_ w.heap.size 5 i0 (.int .u8 0) 1 1 Try.underlying22 hi hz0 hz1 hz2 rfl (by omega) (.slice A1 n c1) n ((bI l).map (Value.int .u8)) ?_ ?_ (w2.heap.size + 1) (some ⟨w2.heap.size, 0, none⟩) 4 4 ([z3, z2, z1, z0].map (Value.int .u8)) ?_ ?_ ?_ ?_ ?_ ?_ ?_; (· rfl); (· rfl); (· rfl); (· exact own_drew (HO2.out.alloc _)); (· rfl); (· exact news4 4 rfl rfl); (· exact u8_one _); (· exact Q1.out); (· exact Q2.out); (· exact Q3.out); intro v3 w3 h5 h6 _; have c0 := (HK.out v3 w3 h6 ⟨g2, 0, none⟩ rfl).trans p0; have c1' := (HK.out v3 w3 h6 ⟨g2, 1, none⟩ rfl).trans p1; have c2' := (HK.out v3 w3 h6 ⟨g2, 2, none⟩ rfl).trans p2; have c3 := (HK.out v3 w3 h6 ⟨g2, 3, none⟩ rfl).trans p3; have HG := Lib.hid h6; have HO3 := Lib.hid h5; clear h5 h6)
    | fail)
  have HB3 := Lib.hid (((HB2.out.alloc HB2.out.size (.cells #[.int .u8 z3, .int .u8 z2, .int .u8 z1, .int .u8 z0] 5)).drew).grown HG.out Q3.out (fun k hk => (HO2.out.lt k hk).1))
  go_wp2_with (fail)
  go_ret
  exact ⟨_, rfl, by rw [HLE.out, List.map_append]; exact HO3.out, HB3.out⟩
end Go.Proofs.Ytoifaeabieojbaa
