/- Package frame: the reference's Put; Same, of both. -/
import Derived.Test.YtoifaeabieojbaaFrmG
namespace Go.Proofs.Ytoifaeabieojbaa
open Go.RowKit
set_option linter.unusedSimpArgs false
set_option linter.unusedVariables false
set_option maxRecDepth 100000
set_option maxHeartbeats 2000000

theorem relayS {X w2 : World} {p q : Addr} {u v : Value} (h : Below X.heap.size X w2) (hs : X.cell? p = some u ∧ X.cell? q = some v) : w2.cell? p = some u ∧ w2.cell? q = some v :=
  ⟨(h.cell (World.block_lt_of_cell? X p hs.1)).trans hs.1, (h.cell (World.block_lt_of_cell? X q hs.2)).trans hs.2⟩
theorem fits2' (n : Nat) (h : n ≤ 16384) : fitsB n 2 = true := by rw [fitsB, decide_eq_true_eq]; omega
theorem bI_put (k : Nat) (l : List Nat) (h : l.length < 65536) : bI (putB k l) = [(k : Int)] ++ big l.length 2 ++ bI l := by
  rw [big2 l.length h]; rfl
theorem refPut3_any (k : Nat) (A : Option Addr) (n cp B : Nat) (l : List Nat) (w : World) (hr : Reads w B 1 A n ((bI l).map (Value.int .u8))) (hl : isBs l) (hB : B ≤ w.heap.size) (hn : n ≤ 900000000) (hk : k < 256) :
    Calls Try.prog 13 #[.agg #[.int .u8 k, .slice A n cp]] w fun e w' => ∃ v, e = .returned (.tuple #[v, .int .i64 (putE k l)]) ∧ w'.ownsRow w.heap.size 5 1 v (putS k l).length ((bI (putS k l)).map (Value.int .u8)) ∧ Below w.heap.size w w' := by
  obtain ⟨i0, hi, hz0, hz1, hz2⟩ := info_parts byteInfo
  have LN := Lib.hid (reads_len hr)
  have hb0 : Below w.heap.size w (w.alloc (.cells #[.int .u8 k, .slice A n cp] 24)) := (Below.refl _ _).alloc (Nat.le_refl _) _
  have HB0 := Lib.hid hb0
  have HRW := Lib.hid (hr.more hB)
  have BX : Hid (Blk (w.alloc (.cells #[.int .u8 k, .slice A n cp] 24)) w.heap.size 24 #[.int .u8 k, .slice A n cp]) := Lib.hid (Blk.new w _ _)
  clear hr hb0
  by_cases h0 : k = 0
  · subst h0
    have HE : Hid (putE 0 l = 4 ∧ putS 0 l = []) := Lib.hid ⟨rfl, rfl⟩
    go_enter Try.func13, Try.ntmps13
    go_wp2_with (fail)
    go_ret2
    exact ⟨.slice none 0 0, by rw [HE.out.1]; rfl, by rw [HE.out.2]; exact World.ownsRow_nil _ _ _ _, HB0.out⟩
  have hk0 : ((k : Int) == 0) = false := by simp; omega
  by_cases h1 : 16384 < n
  · have HE : Hid (putE k l = 6 ∧ putS k l = []) := Lib.hid (by
      have e : putE k l = 6 := by unfold putE; rw [if_neg h0, if_pos (by rw [LN.out]; exact h1)]
      exact ⟨e, by unfold putS; rw [e]; rfl⟩)
    have h1' : (16384 : Int) < n := by omega
    clear h0 h1
    go_enter Try.func13, Try.ntmps13
    go_wp2_with (fail)
    go_ret2
    exact ⟨.slice none 0 0, by rw [HE.out.1]; rfl, by rw [HE.out.2]; exact World.ownsRow_nil _ _ _ _, HB0.out⟩
  · have HE : Hid (putE k l = 0 ∧ putS k l = sealB (putB k l)) := Lib.hid (by
      have e : putE k l = 0 := by unfold putE; rw [if_neg h0, if_neg (by rw [LN.out]; exact h1)]
      exact ⟨e, by unfold putS; rw [e]; rfl⟩)
    have h1' : (n : Int) ≤ 16384 := by omega
    have h1n : n ≤ 16384 := by omega
    have e1 : IntKind.u64.wrap (n : Int) = n := by rw [IntKind.wrap_u64]; omega
    obtain ⟨w0, hw0⟩ : ∃ w0, w0 = w.alloc (.cells #[.int .u8 k, .slice A n cp] 24) := ⟨_, rfl⟩
    rw [← hw0] at HB0 BX
    have hs0 : w0.heap.size = w.heap.size + 1 := by rw [hw0]; simp
    have HW0 := Lib.hid hw0
    have HS0 := Lib.hid hs0
    have HF2 := Lib.hid (fits2' n h1n)
    have HN18 : Hid (n < 18446744073709551616) := Lib.hid (by omega)
    have hwlt : w.heap.size < w0.heap.size := by omega
    clear h0 h1 hw0 hs0
    go_enter Try.func13, Try.ntmps13
    go_wp2_with (fail)
    rw [← HW0.out]
    have c0 : w0.cell? ⟨w.heap.size, 0, none⟩ = some (.int .u8 k) := BX.out.cell 0
    have c1 : w0.cell? ⟨w.heap.size, 1, none⟩ = some (.slice A n cp) := BX.out.cell 1
    have Q1 : Hid (1 + 2 ≤ maxLen) := Lib.hid (by unfold maxLen; omega)
    have OWA : Hid (∀ w2, Below (w0.alloc (.cells #[.int .u8 k] 5)).drew.heap.size (w0.alloc (.cells #[.int .u8 k] 5)).drew w2 → w2.ownsRow w.heap.size 5 1 (.slice (some ⟨w0.heap.size, 0, none⟩) 1 1) 1 ([(k : Int)].map (Value.int .u8))) := Lib.hid (fun w2 h => by
      have o := own_lit1 w0 k w.heap.size (Nat.le_of_lt hwlt)
      exact own_block_same (w := (w0.alloc (.cells #[.int .u8 k] 5)).drew) o (fun q hq => h.block q (o.lt q hq).2))
    have BA : Hid (∀ w2, Below (w0.alloc (.cells #[.int .u8 k] 5)).drew.heap.size (w0.alloc (.cells #[.int .u8 k] 5)).drew w2 → Below w.heap.size w w2) := Lib.hid (fun w2 h => ((HB0.out.alloc (Nat.le_of_lt hwlt) (.cells #[.int .u8 k] 5)).drew).trans (h.mono (by simp; omega)))
    have BB : Hid (∀ w2, Below w0.drew.heap.size w0.drew w2 → Below w.heap.size w (w2.alloc (.cells #[.int .u8 k] 5))) := Lib.hid (fun w2 h => ((HB0.out.drew).trans (h.mono (Nat.le_of_lt hwlt))).alloc (Nat.le_trans (Nat.le_of_lt hwlt) h.size) _)
    have FIN : Hid (∀ (X w3 : World) (b : Nat), X.grownBy w3 (some b) → w.heap.size < b → Below w.heap.size w X → X.cell? ⟨w.heap.size, 0, none⟩ = some (.int .u8 k) ∧ X.cell? ⟨w.heap.size, 1, none⟩ = some (.slice A n cp) → (w3.cell? ⟨w.heap.size, 0, none⟩ = some (.int .u8 k) ∧ w3.cell? ⟨w.heap.size, 1, none⟩ = some (.slice A n cp)) ∧ Below w.heap.size w w3) := Lib.hid (fun X w3 b hg hb hX hc => by
      have hlt := World.block_lt_of_cell? X _ hc.1
      refine ⟨⟨(World.cell?_of_block (hg.block _ hlt (fun e => by injection e with e; simp at e; omega))).trans hc.1, (World.cell?_of_block (hg.block _ (World.block_lt_of_cell? X _ hc.2) (fun e => by injection e with e; simp at e; omega))).trans hc.2⟩, hX.grown hg hX.size (fun q hq => by injection hq with hq; omega)⟩)
    go_region_held3 (fun w' => w'.cell? ⟨w.heap.size, 0, none⟩ = some (.int .u8 k) ∧ w'.cell? ⟨w.heap.size, 1, none⟩ = some (.slice A n cp)) (go_keep) (first
      | (go_at_call 33; refine (refBig_any n 2 _ rfl HN18.out (Nat.le_of_ble_eq_true rfl) (Nat.le_of_ble_eq_true rfl) HF2.out _).mono ?_; rintro e w2 ⟨v2, rfl, h1, h2⟩; obtain ⟨A2, c2, rfl, r2, _, _⟩ := own_slice h1; have dd := relayS (p := ⟨w.heap.size, 0, none⟩) (q := ⟨w.heap.size, 1, none⟩) h2 ‹_›; obtain ⟨d0, d1⟩ := dd; have H1 := Lib.hid h1; have H2 := Lib.hid h2; have hb2 := h2.size; clear h1 h2 r2)
      | (refine step_append_any _ ?_ (.tmp 14) (.tmp 19) 22 ?_ w.heap.size 5 i0 (.int .u8 0) 1 1 Try.underlying22 hi hz0 hz1 hz2 rfl (by omega) (.slice (some ⟨w0.heap.size, 0, none⟩) 1 1) 1 ([(k : Int)].map (Value.int .u8)) ?_ ?_ w2.heap.size A2 2 c2 ((big n 2).map (Value.int .u8)) ?_ ?_ ?_ ?_ ?_ ?_ ?_; (· rfl); (· rfl); (· rfl); (· exact OWA.out _ H2.out); (· rfl); (· exact Reads.of_own H1.out); (· exact u8_one _); (· exact Q1.out); (· omega); (· exact (BA.out _ H2.out).size); intro v3 w3 h5 h6 _; have ff := FIN.out _ _ _ h6 hwlt (BA.out _ H2.out) ⟨d0, d1⟩; obtain ⟨⟨g0, g1⟩, h7⟩ := ff; have HO3 := Lib.hid h5; have HB3 := Lib.hid h7; clear h5 h6 h7)
      | (refine step_append_any _ ?_ (.tmp 14) (.tmp 19) 22 ?_ w.heap.size 5 i0 (.int .u8 0) 1 1 Try.underlying22 hi hz0 hz1 hz2 rfl (by omega) (.slice (some ⟨w2.heap.size, 0, none⟩) 1 1) 1 ([(k : Int)].map (Value.int .u8)) ?_ ?_ w2.heap.size A2 2 c2 ((big n 2).map (Value.int .u8)) ?_ ?_ ?_ ?_ ?_ ?_ ?_; (· rfl); (· rfl); (· rfl); (· exact own_lit1 w2 k w.heap.size ((Nat.le_trans (Nat.le_of_lt hwlt) H2.out.size))); (· rfl); (· exact Reads.alloc (Reads.of_own H1.out) (Nat.le_refl _) _); (· exact u8_one _); (· exact Q1.out); (· omega); (· exact (BB.out _ H2.out).size); intro v3 w3 h5 h6 _; have ff := FIN.out _ _ _ h6 (Nat.lt_of_lt_of_le hwlt H2.out.size) (BB.out _ H2.out) ‹_›; obtain ⟨⟨g0, g1⟩, h7⟩ := ff; have HO3 := Lib.hid h5; have HB3 := Lib.hid h7; clear h5 h6 h7)
      | fail)
    all_goals
      have hw3 := HB3.out.size
      obtain ⟨A3, c3, rfl, _, _, _⟩ := own_slice HO3.out
      have HRR := Lib.hid (HRW.out.below HB3.out)
      go_wp2_with (at_builtin; go_must (refine wpList_append_any _ rfl (.tmp 21) (.tmp 23) _ rfl w.heap.size 5 i0 _ 1 1 Try.underlying22 hi hz0 hz1 hz2 rfl (by omega) _ _ _ rfl HO3.out w.heap.size A n cp ((bI l).map (Value.int .u8)) rfl HRR.out ?c1 ?c2 ?c3 ?c4 ?_))
      case c1 => exact u8_one _
      case c2 => unfold maxLen; omega
      case c3 => omega
      case c4 => exact hw3
      intro v5 w5 h5 h6 _
      obtain ⟨A5, c5, rfl, r5, _, _⟩ := own_slice h5
      have hb5 := HB3.out.grown h6 hw3 (fun q hq => (HO3.out.lt q hq).1)
      have HB5 := Lib.hid hb5
      have hlb := putB_bs k l hk hl (by have := LN.out; omega)
      have r6 : Reads w5 w5.heap.size 1 A5 (1 + 2 + n) ((bI (putB k l)).map (Value.int .u8)) := by
        rw [bI_put k l (by have := LN.out; omega), LN.out, List.map_append, List.map_append]
        exact r5
      have S := Lib.hid (refSeal_any A5 (1 + 2 + n) c5 w5.heap.size (putB k l) hlb w5 r6 (Nat.le_refl _) (by omega))
      clear h5 h6 r5 r6 hb5 hlb
      go_wp2_with (fail)
      refine S.out.mono ?_
      rintro e w6 ⟨v, rfl, h1, h2⟩
      have HF : Hid (w6.ownsRow w.heap.size 5 1 v (putS k l).length ((bI (putS k l)).map (Value.int .u8)) ∧ Below w.heap.size w w6) := Lib.hid ⟨by
        have hq : (putS k l).length = 1 + 2 + n + 4 := by rw [putS_len k l HE.out.1]; have := LN.out; omega
        rw [hq, HE.out.2]
        exact Go.Joins.ownsRow_le h1 HB5.out.size, HB5.out.trans (h2.mono HB5.out.size)⟩
      clear h1 h2 S
      go_wp2_with (fail)
      go_ret2
      exact ⟨v, by rw [HE.out.1]; rfl, HF.out.1, HF.out.2⟩
theorem frSame_any (k j : Nat) (A C : Option Addr) (n m c d B D : Nat) (x y : List Nat) (w : World) (hB : B ≤ w.heap.size) (hD : D ≤ w.heap.size) (hx : Reads w B 1 A n ((bI x).map (Value.int .u8))) (hy : Reads w D 1 C m ((bI y).map (Value.int .u8))) (bx : isBs x) (by' : isBs y) :
    Calls Try.prog 16 #[.agg #[.int .u8 k, .slice A n c], .agg #[.int .u8 j, .slice C m d]] w fun e w' => e = .returned (.bool (decide (k = j ∧ x = y))) ∧ Below w.heap.size w w' := by
  have hb2 : Below w.heap.size w ((w.alloc (.cells #[.int .u8 k, .slice A n c] 33)).alloc (.cells #[.int .u8 j, .slice C m d] 33)) := ((Below.refl _ _).alloc (Nat.le_refl _) _).alloc (by simp) _
  have S := Lib.hid (bytesEqual_any A C n m c d B D x y _ (hx.below (hb2.mono hB)) (hy.below (hb2.mono hD)) bx by')
  have HB2 := Lib.hid hb2
  clear hx hy hb2
  by_cases hkj : k = j
  · subst hkj
    have e : Hid (decide (k = k ∧ x = y) = decide (x = y)) := Lib.hid (by simp)
    generalize decide (x = y) = fb at *
    go_enter Try.func16, Try.ntmps16
    go_wp2_with (fail)
    refine S.out.mono ?_
    rintro e w1 ⟨rfl, rfl⟩
    go_wp2_with (fail)
    go_ret
    exact ⟨ret_bool (by rw [e.out]), HB2.out⟩
  · have e : Hid (decide (k = j ∧ x = y) = false) := Lib.hid (by simp [hkj])
    have hkj' : ((k : Int) == (j : Int)) = false := by simp; omega
    clear hkj
    go_enter Try.func16, Try.ntmps16
    go_wp2_with (fail)
    go_ret
    exact ⟨ret_bool (by rw [e.out]), HB2.out⟩
theorem refSame3_any (k j : Nat) (A C : Option Addr) (n m c d B D : Nat) (x y : List Nat) (w : World) (hB : B ≤ w.heap.size) (hD : D ≤ w.heap.size) (hx : Reads w B 1 A n ((bI x).map (Value.int .u8))) (hy : Reads w D 1 C m ((bI y).map (Value.int .u8))) (hn : n ≤ 9223372036854775806) :
    Calls Try.prog 17 #[.agg #[.int .u8 k, .slice A n c], .agg #[.int .u8 j, .slice C m d]] w fun e w' => e = .returned (.bool (decide (k = j ∧ x = y))) ∧ Below w.heap.size w w' := by
  have hb2 : Below w.heap.size w ((w.alloc (.cells #[.int .u8 k, .slice A n c] 24)).alloc (.cells #[.int .u8 j, .slice C m d] 24)) := ((Below.refl _ _).alloc (Nat.le_refl _) _).alloc (by simp) _
  have S := Lib.hid (same_any A C n m c d B D (bI x) (bI y) _ (by simp; omega) (by simp; omega) (hx.below (hb2.mono hB)) (hy.below (hb2.mono hD)) hn)
  have hinj : decide (bI x = bI y) = decide (x = y) := by
    rw [Bool.eq_iff_iff, decide_eq_true_eq, decide_eq_true_eq]
    exact ⟨fun e => (List.map_inj_right (fun a b hab => by omega)).1 e, fun e => by rw [e]⟩
  rw [hinj] at S
  have HB2 := Lib.hid hb2
  clear hx hy hb2 hinj
  by_cases hkj : k = j
  · subst hkj
    have e : Hid (decide (k = k ∧ x = y) = decide (x = y)) := Lib.hid (by simp)
    generalize decide (x = y) = fb at *
    go_enter Try.func17, Try.ntmps17
    go_wp2_with (fail)
    refine S.out.mono ?_
    rintro e w1 ⟨rfl, h1⟩
    have H1 := Lib.hid (HB2.out.trans (h1.mono (by simp; omega)))
    clear h1
    go_wp2_with (fail)
    go_ret
    exact ⟨ret_bool (by rw [e.out]), H1.out⟩
  · have e : Hid (decide (k = j ∧ x = y) = false) := Lib.hid (by simp [hkj])
    have hkj' : ((k : Int) == (j : Int)) = false := by simp; omega
    clear hkj
    go_enter Try.func17, Try.ntmps17
    go_wp2_with (fail)
    go_ret
    exact ⟨ret_bool (by rw [e.out]), HB2.out⟩
end Go.Proofs.Ytoifaeabieojbaa
