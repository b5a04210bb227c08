/- Package fix: Text; the reference's Cut, Put, Big, Text, Yes, Same. -/
import Derived.Test.YtcmaekkfeilclaaFixC
namespace Go.Proofs.Ytcmaekkfeilclaa
open Go.RowKit
set_option linter.unusedSimpArgs false
set_option linter.unusedVariables false
set_option maxHeartbeats 1000000

theorem Reads.take {w : World} {B n : Nat} {A : Option Addr} {xs : List Value} (h : Reads w B 1 A n xs) {k : Nat} (hk : k ≤ n) : Reads w B 1 A k (xs.take k) := by
  refine ⟨by rw [List.length_take, h.1]; omega, fun h0 => ?_⟩
  obtain ⟨ad, hA, hb, hc⟩ := h.2 (by omega)
  refine ⟨ad, hA, hb, fun j u hu => hc j u ?_⟩
  by_cases hj : j < k
  · rwa [List.getElem?_take_of_lt hj] at hu
  · rw [List.getElem?_eq_none (by rw [List.length_take]; omega)] at hu; cases hu

def cutN (n k : Nat) : Nat := if k < n then k else n
theorem cutN_le (n k : Nat) : cutN n k ≤ n := by unfold cutN; split <;> omega
theorem cutN_le2 (n k : Nat) : cutN n k ≤ k := by unfold cutN; split <;> omega
theorem cut_any (A : Option Addr) (n c k : Nat) (hn : n ≤ c) (hc : c ≤ 9223372036854775807) (w : World) :
    Calls Try.prog 27 #[.slice A n c, .int .i64 k] w fun e w' => e = .returned (.slice A (cutN n k) c) ∧ w = w' := by
  by_cases h : k < n
  · rw [cutN, if_pos h]
    go_enter Try.func27, Try.ntmps27
    go_wp2
    go_ret
    exact ⟨rfl, rfl⟩
  · rw [cutN, if_neg h]
    go_enter Try.func27, Try.ntmps27
    go_wp2
    go_ret
    exact ⟨rfl, rfl⟩

theorem big_succ (n j : Nat) : big n (j + 1) = ((n / 256 ^ j % 256 : Nat) : Int) :: big n j := by
  unfold big digit
  rw [List.range_succ_eq_map, List.map_cons, List.map_map]
  congr 1
  apply List.map_congr_left
  intro i hi
  have hi := List.mem_range.1 hi
  simp only [Function.comp]
  rw [show j + 1 - 1 - (i + 1) = j - 1 - i by omega]
theorem big_len (n j : Nat) : (big n j).length = j := by simp [big]

theorem same_any (A C : Option Addr) (n m c d B D : Nat) (x y : List Int) (w : World) (hB : B ≤ w.heap.size) (hD : D ≤ w.heap.size) (hx : Reads w B 1 A n (x.map (Value.int .u8))) (hy : Reads w D 1 C m (y.map (Value.int .u8))) (hn : n ≤ 9223372036854775806) :
    Calls Try.prog 23 #[.slice A n c, .slice C m d] w fun e w' => e = .returned (.bool (decide (x = y))) ∧ Below w.heap.size w w' := by
  have lx : x.length = n := by have := hx.1; simpa using this
  have ly : y.length = m := by have := hy.1; simpa using this
  by_cases hnm : n = m
  · have hX : Hid (y.length = x.length) := Lib.hid (by omega)
    subst hnm
    have HX := Lib.hid hx
    have HY := Lib.hid hy
    have LX := Lib.hid lx
    have LY := Lib.hid ly
    clear hx hy lx ly
    go_enter Try.func23, Try.ntmps23
    go_wp2
    go_loopw [5] (fun i wr => ∃ k : Nat, k ≤ n ∧ i = .int .i64 k ∧ Hid (x.take k = y.take k) ∧ Hid (Below w.heap.size w wr)) (fun i _ => n - (intOf i).toNat)
    case atStart => exact ⟨0, by omega, rfl, Lib.hid rfl, Lib.hid (Below.refl _ _)⟩
    case round =>
      obtain ⟨k, hk, rfl, hT, hb⟩ := hrel
      by_cases hlt : k < n
      · obtain ⟨ad1, z1, rfl, _, hz1, hc1⟩ := reads_int (HX.out.below (hb.out.mono hB)) hlt
        obtain ⟨ad2, z2, rfl, _, hz2, hc2⟩ := reads_int (HY.out.below (hb.out.mono hD)) hlt
        have Z1 := Lib.hid hz1
        have Z2 := Lib.hid hz2
        clear hz1 hz2
        by_cases hz : z1 = z2
        · have hz' : (z1 != z2) = false := by simp [hz]
          have HZ := Lib.hid hz
          clear hz
          go_wp2_with (fail)
          go_quiet (fail)
          go_wp2
          go_roundw
          case rel =>
            refine ⟨k + 1, by omega, by go_num, Lib.hid ?_, Lib.hid (below_drewN hb.out _)⟩
            rw [List.take_add_one, List.take_add_one, Z1.out, Z2.out, hT.out, HZ.out]
          case measure => simp [intOf]; omega
        · have hz' : (z1 != z2) = true := by simp [hz]
          have HZ := Lib.hid hz
          clear hz
          go_wp2_with (fail)
          go_quiet (fail)
          go_wp2
          go_ret
          refine ⟨ret_bool ?_, below_drewN hb.out _⟩
          symm
          rw [decide_eq_false_iff_not]
          intro e
          have := Z2.out
          rw [← e, Z1.out] at this
          exact HZ.out (by injection this)
      · obtain rfl : k = n := by omega
        go_wp2
        go_ret
        refine ⟨ret_bool ?_, hb.out⟩
        symm
        rw [decide_eq_true_eq]
        have := hT.out
        rw [List.take_of_length_le (by have := LX.out; omega), List.take_of_length_le (by have := LY.out; omega)] at this
        exact this
  · have he : ¬ x = y := fun e => by subst e; omega
    have hd : decide (x = y) = false := by simp [he]
    rw [hd]
    have hnm' : ((n : Int) != m) = true := by simp; omega
    clear hx hy hnm he hd
    go_enter Try.func23, Try.ntmps23
    go_wp2
    go_ret
    exact ⟨rfl, Below.refl _ _⟩

theorem own_lit1 (w : World) (z : Int) (base : Nat) (hb : base ≤ w.heap.size) : (w.alloc (.cells #[.int .u8 z] 5)).ownsRow base 5 1 (.slice (some ⟨w.heap.size, 0, none⟩) 1 1) 1 ([z].map (Value.int .u8)) :=
  ⟨rfl, .inr ⟨_, _, _, rfl, hb, heap_alloc_new _ _, Nat.le_refl _, by decide, rfl, rfl⟩⟩

theorem wrap_mod (a : Nat) : IntKind.u8.wrap ((a : Int) % 256) = ((a % 256 : Nat) : Int) := by
  rw [IntKind.wrap_u8']; omega
theorem div_step (n j : Nat) : ((n / 256 ^ j : Nat) : Int) / 256 = ((n / 256 ^ (j + 1) : Nat) : Int) := by
  rw [Nat.pow_succ, ← Nat.div_div_eq_div_mul]; omega
theorem div_le' (n j : Nat) (h : n < 18446744073709551616) : n / 256 ^ j < 18446744073709551616 := Nat.lt_of_le_of_lt (Nat.div_le_self _ _) h

theorem refPut_ok (n k : Nat) (hn : n < 18446744073709551616) (hk : 1 ≤ k) (hk8 : k ≤ 8) (hf : fitsB n k = true) (w : World) :
    Calls Try.prog 46 #[.int .u64 n, .int .i64 k] w fun e w' => ∃ v, e = .returned (.tuple #[v, .int .i64 0]) ∧ w'.ownsRow w.heap.size 5 1 v k ((big n k).map (Value.int .u8)) ∧ Below w.heap.size w w' := by
  obtain ⟨i0, hi, hz0, hz1, hz2⟩ := info_parts byteInfo
  have HN := Lib.hid hn
  have HF := Lib.hid hf
  clear hn hf
  have b1 : ((k : Int) < 1) = False := by simp; omega
  have b2 : ((k : Int) > 8) = False := by simp; omega
  go_enter Try.func46, Try.ntmps46
  go_wp2
  go_loopw [0, 6, 7] (fun m v i wr => ∃ (j q : Nat), j ≤ k ∧ i = .int .i64 j ∧ m = .int .u64 q ∧ Hid (q = n / 256 ^ j) ∧ Hid (wr.ownsRow w.heap.size 5 1 v j ((big n j).map (Value.int .u8))) ∧ Hid (Below w.heap.size w wr)) (fun _ _ i _ => k - (intOf i).toNat)
  case atStart => exact ⟨0, n, by omega, rfl, rfl, Lib.hid (by simp), Lib.hid (World.ownsRow_nil _ _ _ _), Lib.hid (Below.refl _ _)⟩
  case round =>
    obtain ⟨j, q, hj, rfl, rfl, hq, hO, hB⟩ := hrel
    obtain ⟨A, c, rfl, hr, _, _⟩ := own_slice hO.out
    have HR := Lib.hid hr
    clear hr
    by_cases hlt : j < k
    · obtain ⟨z, hz⟩ : ∃ z : Int, z = ((q % 256 : Nat) : Int) := ⟨_, rfl⟩
      obtain ⟨q', hq'⟩ : ∃ q' : Nat, q' = q / 256 := ⟨_, rfl⟩
      have e1 : (q : Int).tmod 256 = z := by rw [hz, Int.tmod_eq_emod_of_nonneg (by omega)]; rfl
      have e2 : z % 256 = z := by omega
      have e3 : (q : Int).tdiv 256 = q' := by rw [hq', Int.tdiv_eq_ediv_of_nonneg (by omega)]; rfl
      have e4 : (q : Int) / 256 = q' := by omega
      have hqb : q < 18446744073709551616 := by rw [hq.out]; exact div_le' n j HN.out
      have hqb' : q' < 18446744073709551616 := by omega
      clear hqb
      have HZ := Lib.hid hz
      have HQ := Lib.hid hq'
      have hsz := hB.out.size
      clear hz hq'
      go_wp2_with (at_builtin; go_must (refine wpList_append_any _ rfl (.tmp 22) (.tmp 23) _ rfl w.heap.size 5 i0 _ 1 1 Try.underlying51 hi hz0 hz1 hz2 rfl (by omega) _ _ _ rfl (own_lit1 _ z w.heap.size hB.out.size) wr.heap.size A j c ((big n j).map (Value.int .u8)) rfl (Reads.alloc HR.out (Nat.le_refl _) _) ?c1 ?c2 ?c3 ?c4 ?_))
      case c1 => exact u8_one _
      case c2 => unfold maxLen; omega
      case c3 => omega
      case c4 => simp; try omega
      intro v1 w1 h5 h6 _
      have hb := (hB.out.alloc hB.out.size (.cells #[.int .u8 z] 5)).grown h6 (by simp; omega) (fun k hk => by simp [Value.ownBlock] at hk; omega)
      have HB := Lib.hid hb
      have HO := Lib.hid h5
      clear hb h5 h6
      go_wp2
      go_roundw
      case rel =>
        refine ⟨j + 1, q', by omega, by go_num, rfl, Lib.hid ?_, Lib.hid ?_, HB⟩
        · rw [HQ.out, hq.out, Nat.div_div_eq_div_mul, Nat.pow_succ]
        · rw [big_succ, ← hq.out, ← HZ.out]
          have := HO.out
          rw [Nat.add_comm 1 j] at this
          exact this
      case measure => simp [intOf]; omega
    · obtain rfl : j = k := by omega
      obtain rfl : q = 0 := by
        have := HF.out
        rw [fitsB, decide_eq_true_eq] at this
        rw [hq.out, Nat.div_eq_of_lt this]
      go_wp2
      go_ret2
      exact ⟨_, rfl, hO.out, hB.out⟩

theorem refPut_arg (n : Nat) (k : Int) (hk : knownB k = false) (w : World) :
    Calls Try.prog 46 #[.int .u64 n, .int .i64 k] w fun e w' => e = .returned (.tuple #[.slice none 0 0, .int .i64 1]) ∧ w = w' := by
  by_cases h1 : 1 ≤ k
  · have h2 : ¬ k ≤ 8 := fun h2 => by rw [(knownB_iff k).2 ⟨h1, h2⟩] at hk; cases hk
    go_enter Try.func46, Try.ntmps46
    go_wp2
    go_ret2
    exact ⟨rfl, rfl⟩
  · go_enter Try.func46, Try.ntmps46
    go_wp2
    go_ret2
    exact ⟨rfl, rfl⟩

theorem refPut_form (n k : Nat) (hn : n < 18446744073709551616) (hk : 1 ≤ k) (hk8 : k ≤ 8) (hf : fitsB n k = false) (w : World) :
    Calls Try.prog 46 #[.int .u64 n, .int .i64 k] w fun e w' => e = .returned (.tuple #[.slice none 0 0, .int .i64 4]) ∧ Below w.heap.size w w' := by
  obtain ⟨i0, hi, hz0, hz1, hz2⟩ := info_parts byteInfo
  have HN := Lib.hid hn
  have HF := Lib.hid hf
  clear hn hf
  have b1 : ((k : Int) < 1) = False := by simp; omega
  have b2 : ((k : Int) > 8) = False := by simp; omega
  go_enter Try.func46, Try.ntmps46
  go_wp2
  go_loopw [0, 6, 7] (fun m v i wr => ∃ (j q : Nat), j ≤ k ∧ i = .int .i64 j ∧ m = .int .u64 q ∧ Hid (q = n / 256 ^ j) ∧ Hid (wr.ownsRow w.heap.size 5 1 v j ((big n j).map (Value.int .u8))) ∧ Hid (Below w.heap.size w wr)) (fun _ _ i _ => k - (intOf i).toNat)
  case atStart => exact ⟨0, n, by omega, rfl, rfl, Lib.hid (by simp), Lib.hid (World.ownsRow_nil _ _ _ _), Lib.hid (Below.refl _ _)⟩
  case round =>
    obtain ⟨j, q, hj, rfl, rfl, hq, hO, hB⟩ := hrel
    obtain ⟨A, c, rfl, hr, _, _⟩ := own_slice hO.out
    have HR := Lib.hid hr
    clear hr
    by_cases hlt : j < k
    · obtain ⟨z, hz⟩ : ∃ z : Int, z = ((q % 256 : Nat) : Int) := ⟨_, rfl⟩
      obtain ⟨q', hq'⟩ : ∃ q' : Nat, q' = q / 256 := ⟨_, rfl⟩
      have e1 : (q : Int).tmod 256 = z := by rw [hz, Int.tmod_eq_emod_of_nonneg (by omega)]; rfl
      have e2 : z % 256 = z := by omega
      have e3 : (q : Int).tdiv 256 = q' := by rw [hq', Int.tdiv_eq_ediv_of_nonneg (by omega)]; rfl
      have e4 : (q : Int) / 256 = q' := by omega
      have hqb : q < 18446744073709551616 := by rw [hq.out]; exact div_le' n j HN.out
      have hqb' : q' < 18446744073709551616 := by omega
      clear hqb
      have HZ := Lib.hid hz
      have HQ := Lib.hid hq'
      have hsz := hB.out.size
      clear hz hq'
      go_wp2_with (at_builtin; go_must (refine wpList_append_any _ rfl (.tmp 22) (.tmp 23) _ rfl w.heap.size 5 i0 _ 1 1 Try.underlying51 hi hz0 hz1 hz2 rfl (by omega) _ _ _ rfl (own_lit1 _ z w.heap.size hB.out.size) wr.heap.size A j c ((big n j).map (Value.int .u8)) rfl (Reads.alloc HR.out (Nat.le_refl _) _) ?c1 ?c2 ?c3 ?c4 ?_))
      case c1 => exact u8_one _
      case c2 => unfold maxLen; omega
      case c3 => omega
      case c4 => simp; try omega
      intro v1 w1 h5 h6 _
      have hb := (hB.out.alloc hB.out.size (.cells #[.int .u8 z] 5)).grown h6 (by simp; omega) (fun k hk => by simp [Value.ownBlock] at hk; omega)
      have HB := Lib.hid hb
      have HO := Lib.hid h5
      clear hb h5 h6
      go_wp2
      go_roundw
      case rel =>
        refine ⟨j + 1, q', by omega, by go_num, rfl, Lib.hid ?_, Lib.hid ?_, HB⟩
        · rw [HQ.out, hq.out, Nat.div_div_eq_div_mul, Nat.pow_succ]
        · rw [big_succ, ← hq.out, ← HZ.out]
          have := HO.out
          rw [Nat.add_comm 1 j] at this
          exact this
      case measure => simp [intOf]; omega
    · obtain rfl : j = k := by omega
      have hq0 : 0 < q := by
        have := HF.out
        rw [fitsB, decide_eq_false_iff_not] at this
        rw [hq.out]
        exact Nat.div_pos (by omega) (Nat.pow_pos (by decide))
      go_wp2
      go_ret2
      exact ⟨rfl, hB.out⟩
end Go.Proofs.Ytcmaekkfeilclaa
