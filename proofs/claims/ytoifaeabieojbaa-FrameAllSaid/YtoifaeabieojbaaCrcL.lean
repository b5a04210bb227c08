/- Package crc: the reference's Turn. -/
import Derived.Test.YtoifaeabieojbaaCrcK
namespace Go.Proofs.Ytoifaeabieojbaa
open Go.RowKit
set_option linter.unusedSimpArgs false
set_option linter.unusedVariables false
set_option maxRecDepth 100000
set_option maxHeartbeats 1000000

theorem turnK_far (k pat : Nat) (l : List Nat) (t : Nat) (h : l.length ≤ k / 8) : turnK k pat l t = l := by
  induction t with
  | zero => rfl
  | succ t ih => rw [turnK, ih, turn1, if_neg (fun h1 => by have := h1.1; omega)]
theorem refTurn_any (A : Option Addr) (n c B : Nat) (l : List Nat) (bit : Int) (pat : Nat) (hl : isBs l) (w : World) (hr : Reads w B 1 A n ((bI l).map (Value.int .u8))) (hB : B ≤ w.heap.size) (hn : n ≤ 900000000) (hp : pat < 4294967296)
    (hb0 : -9223372036854775808 ≤ bit) (hb1 : bit ≤ 9223372036854775807) :
    Calls Try.prog 24 #[.slice A n c, .int .i64 bit, .int .u32 (pat : Int)] w fun e w' => ∃ v, e = .returned v ∧ w'.ownsRow w.heap.size 5 1 v n ((bI (turnV bit pat l)).map (Value.int .u8)) ∧ Below w.heap.size w w' := by
  obtain ⟨i0, hi, hz0, hz1, hz2⟩ := info_parts byteInfo
  have LN := Lib.hid (reads_len hr)
  have HR := Lib.hid hr
  clear hr
  by_cases h0 : 0 ≤ bit
  · obtain ⟨k, rfl⟩ := Int.eq_ofNat_of_zero_le h0
    by_cases h1 : k ≤ 8 * n
    · have HT : Hid (turnV (k : Int) pat l = turnK k pat l 32) := Lib.hid (by
        unfold turnV
        by_cases h2 : k / 8 < n
        · rw [if_pos ⟨h0, by have := LN.out; simp; omega⟩]; simp
        · rw [if_neg (fun h => by have h3 := h.2; have := LN.out; simp at h3; omega), turnK_far _ _ _ _ (by have := LN.out; omega)])
      rw [HT.out]
      have hd1' : decide (8 * (n : Int) < (k : Int)) = false := by simp; omega
      have hk : k ≤ 7200000008 := by omega
      clear hb0 hb1 HT
      go_enter Try.func24, Try.ntmps24
      go_wp2_with (at_builtin; go_must (refine wpList_append_any _ rfl (.const (.slice none 0 0)) (.tmp 10) _ rfl w.heap.size 5 i0 _ 1 1 Try.underlying22 hi hz0 hz1 hz2 rfl (by omega) _ _ _ rfl (World.ownsRow_nil _ _ _ _) B A n c ((bI l).map (Value.int .u8)) rfl HR.out ?c1 ?c2 ?c3 ?c4 ?_))
      case c1 => exact u8_one _
      case c2 => unfold maxLen; omega
      case c3 => omega
      case c4 => exact Nat.le_refl _
      intro v w1 h2 h6 _
      have h3 := (Below.refl w.heap.size w).grown h6 (Nat.le_refl _) (fun k hk => by simp [Value.ownBlock] at hk)
      obtain ⟨AA, cc, rfl, _, _, _⟩ := own_slice h2
      have H2 : Hid (w1.ownsRow w.heap.size 5 1 (.slice AA n cc) n ((bI (turnK k pat l 0)).map (Value.int .u8))) := Lib.hid h2
      have H3 := Lib.hid h3
      clear h2 h3 h6
      go_wp2_with (fail)
      go_loopw [8, 9] (fun i s9 wr => ∃ t : Nat, t ≤ 32 ∧ i = .int .i64 t ∧ Hid (wr.ownsRow w.heap.size 5 1 (.slice AA n cc) n ((bI (turnK k pat l t)).map (Value.int .u8))) ∧ Hid (Below w.heap.size w wr)) (fun i _ _ => 32 - (intOf i).toNat)
      case atStart => exact ⟨0, by omega, rfl, H2, H3⟩
      case round =>
        obtain ⟨t, ht, rfl, HO, HB⟩ := hrel
        by_cases hlt : t < 32
        · obtain ⟨a, ha⟩ : ∃ a : Nat, (k : Int) + t = (a : Int) := ⟨k + t, by omega⟩
          by_cases hjn : a < 8 * n
          · obtain ⟨j, hj⟩ : ∃ j : Nat, (a : Int) / 8 = (j : Int) := ⟨a / 8, by omega⟩
            obtain ⟨g, hgg⟩ : ∃ g, AA = some ⟨g, 0, none⟩ := by
              obtain ⟨g, cc', h, _⟩ := HO.out.form (by omega)
              injection h with h _ _
              exact ⟨g, h⟩
            subst hgg
            have hgs := HO.out.lt g rfl
            have hjn' : ((a : Int) < 8 * (n : Int)) := by omega
            have hjn2 : ((j : Int) < (n : Int)) := by omega
            have hj0 : (0 : Int) ≤ (j : Int) := by omega
            by_cases hbit : pat / 2 ^ t % 2 = 1
            · have hbb : (((pat : Int) / 2 ^ t).tmod 2 == 1) = true := by
                have e : ((pat : Int) / 2 ^ t) = ((pat / 2 ^ t : Nat) : Int) := by simp
                rw [e, Int.tmod_eq_emod_of_nonneg (Int.natCast_nonneg _)]; generalize pat / 2 ^ t = y at *; simp; omega
              obtain ⟨q, hq⟩ : ∃ q : Nat, (a : Int) % 8 = (q : Int) := ⟨a % 8, by omega⟩
              have hq8 : q < 8 := by omega
              obtain ⟨z, hz⟩ : ∃ z, (turnK k pat l t)[j]? = some z := ⟨_, List.getElem?_eq_getElem (by rw [turnK_len]; have := LN.out; omega)⟩
              have hz8 := turnK_lt k pat l hl t z (List.mem_of_getElem? hz)
              have hc : wr.cell? ⟨g, j, none⟩ = some (.int .u8 (z : Int)) := (HO.out.cellAt j (by omega)).trans (by simp [bI, hz])
              have hf := HO.out.frozenAt j
              have hx : bits .xor .u8 (z : Int) ((2 : Int) ^ q % 256) = ((z ^^^ 2 ^ q : Nat) : Int) := by
                have h2 : 2 ^ q < 256 := by
                  have : 2 ^ q ≤ 2 ^ 7 := Nat.pow_le_pow_right (by decide) (by omega)
                  omega
                have e : ((2 : Int) ^ q % 256) = ((2 ^ q : Nat) : Int) := by
                  have e1 : ((2 ^ q : Nat) : Int) = (2 : Int) ^ q := by simp
                  rw [← e1]; exact Int.emod_eq_of_lt (Int.natCast_nonneg _) (by exact_mod_cast h2)
                rw [e]; exact u8_xor_nat z (2 ^ q) hz8 h2
              have HT1 : Hid (turnK k pat l (t + 1) = (turnK k pat l t).set j (z ^^^ 2 ^ q)) := Lib.hid (by
                rw [turnK, turn1, if_pos ⟨by rw [turnK_len]; have := LN.out; omega, hbit⟩, show (k + t) / 8 = j by omega, show (k + t) % 8 = q by omega, List.getD_eq_getElem?_getD, hz]; rfl)
              have HX := Lib.hid hx
              have hgs1 := hgs.1
              clear hz hx hgs
              go_wp2_with (fail)
              go_region
              go_wp2
              go_roundw
              case rel =>
                refine ⟨t + 1, by omega, by go_num, Lib.hid ?_, Lib.hid ?_⟩
                · rw [HX.out, HT1.out, bI, List.map_set, List.map_set]
                  exact (HO.out.stored j _).1
                · exact (HB.out.grown (HO.out.stored j _).2 HB.out.size (fun k hk => by injection hk with hk; omega)).drew
              case measure => simp [intOf]; omega
            · have hbb : (((pat : Int) / 2 ^ t).tmod 2 == 1) = false := by
                have e : ((pat : Int) / 2 ^ t) = ((pat / 2 ^ t : Nat) : Int) := by simp
                rw [e, Int.tmod_eq_emod_of_nonneg (Int.natCast_nonneg _)]; generalize pat / 2 ^ t = y at *; simp; omega
              have HT1 : Hid (turnK k pat l (t + 1) = turnK k pat l t) := Lib.hid (by
                rw [turnK, turn1, if_neg (fun h => hbit h.2)])
              clear hbit
              go_wp2_with (fail)
              go_roundw
              case rel => exact ⟨t + 1, by omega, by go_num, Lib.hid (by rw [HT1.out]; exact HO.out), HB⟩
              case measure => simp [intOf]; omega
          · have HT1 : Hid (turnK k pat l (t + 1) = turnK k pat l t) := Lib.hid (by
              rw [turnK, turn1, if_neg (fun h => by have h1 := h.1; rw [turnK_len] at h1; have := LN.out; omega)])
            have hjn' : decide ((a : Int) < 8 * (n : Int)) = false := by simp; omega
            go_wp2_with (fail)
            go_roundw
            case rel => exact ⟨t + 1, by omega, by go_num, Lib.hid (by rw [HT1.out]; exact HO.out), HB⟩
            case measure => simp [intOf]; omega
        · obtain rfl : t = 32 := by omega
          go_wp2_with (fail)
          go_ret
          exact ⟨_, rfl, HO.out, HB.out⟩
    · have HT := Lib.hid (turn_no (k : Int) pat n l LN.out (.inr (by omega)))
      rw [HT.out]
      have hd1' : decide (8 * (n : Int) < (k : Int)) = true := by simp; omega
      go_enter Try.func24, Try.ntmps24
      go_wp2_with (at_builtin; go_must (refine wpList_append_any _ rfl (.const (.slice none 0 0)) (.tmp 10) _ rfl w.heap.size 5 i0 _ 1 1 Try.underlying22 hi hz0 hz1 hz2 rfl (by omega) _ _ _ rfl (World.ownsRow_nil _ _ _ _) B A n c ((bI l).map (Value.int .u8)) rfl HR.out ?c1 ?c2 ?c3 ?c4 ?_))
      case c1 => exact u8_one _
      case c2 => unfold maxLen; omega
      case c3 => omega
      case c4 => exact Nat.le_refl _
      intro v w1 h2 h6 _
      have h3 := (Below.refl w.heap.size w).grown h6 (Nat.le_refl _) (fun k hk => by simp [Value.ownBlock] at hk)
      obtain ⟨AA, cc, rfl, _, _, _⟩ := own_slice h2
      have H2 := Lib.hid h2
      have H3 := Lib.hid h3
      clear h2 h3 h6
      go_wp2_with (fail)
      go_ret
      exact ⟨_, rfl, H2.out, H3.out⟩
  · have HT := Lib.hid (turn_no bit pat n l LN.out (.inl (by omega)))
    rw [HT.out]
    go_enter Try.func24, Try.ntmps24
    go_wp2_with (at_builtin; go_must (refine wpList_append_any _ rfl (.const (.slice none 0 0)) (.tmp 10) _ rfl w.heap.size 5 i0 _ 1 1 Try.underlying22 hi hz0 hz1 hz2 rfl (by omega) _ _ _ rfl (World.ownsRow_nil _ _ _ _) B A n c ((bI l).map (Value.int .u8)) rfl HR.out ?c1 ?c2 ?c3 ?c4 ?_))
    case c1 => intro a ha; rfl
    case c2 => unfold maxLen; omega
    case c3 => omega
    intro v w1 h2 h6 _
    have h3 := (Below.refl w.heap.size w).grown h6 (Nat.le_refl _) (fun k hk => by simp [Value.ownBlock] at hk)
    obtain ⟨AA, cc, rfl, _, _, _⟩ := own_slice h2
    have H2 := Lib.hid h2
    have H3 := Lib.hid h3
    clear h2 h3 h6
    go_wp2_with (fail)
    go_ret
    exact ⟨_, rfl, H2.out, H3.out⟩
end Go.Proofs.Ytoifaeabieojbaa
