/- Bytes without package fix: Clone, Concat; the reference's Cut, Same, Put, Big. -/
import Derived.Test.YtpgkidmcigefjaaMemA
import Derived.Test.YtpgkidmcigefjaaMemB
import Derived.Test.YtpgkidmcigefjaaMemC
import Derived.Test.YtpgkidmcigefjaaRows
import Derived.Lib.AppendZerosOnto
import Derived.Shelf.SlGeneric
namespace Go.Proofs.Ytpgkidmcigefjaa
open Go.RowKit Go.Deep
set_option linter.unusedSimpArgs false
set_option linter.unusedVariables false
set_option maxHeartbeats 1000000

def fitsB (n : Nat) (w : Nat) : Bool := decide (n < 256 ^ w)
theorem pow256 (w : Nat) : 2 ^ (8 * w) = 256 ^ w := by rw [Nat.pow_mul]
theorem byteInfo : (Try.prog.info? 5).map (fun i => (i.zero, i.size, i.bytes)) = some (some (.int .u8 0), 1, 1) := by kernel_rfl
def digit (n w j : Nat) : Nat := n / 256 ^ (w - 1 - j) % 256
def big (n w : Nat) : List Int := (List.range w).map fun j => ((digit n w j : Nat) : Int)
theorem own_of_rowIs {w : World} {base b : Nat} {t : TypeId} {n : Nat} {f : Nat → Value} (h : w.rowIs b t n f) (hb : base ≤ b) (hn : n ≤ maxLen) :
    w.ownsRow base t 1 (.slice (some ⟨b, 0, none⟩) n n) n ((List.range n).map f) := by
  obtain ⟨c, hc, hs, hf⟩ := h
  refine ⟨by simp, .inr ⟨b, n, c, rfl, hb, hc, Nat.le_refl _, hn, by simp [hs], ?_⟩⟩
  rw [Nat.mul_one]
  apply List.ext_getElem?
  intro i
  by_cases hi : i < n
  · rw [List.getElem?_take_of_lt hi, Array.getElem?_toList, hf i hi, List.getElem?_map, List.getElem?_range hi]; rfl
  · rw [List.getElem?_eq_none (by rw [List.length_take, Array.length_toList]; omega), List.getElem?_eq_none (by simp; omega)]
theorem u8_one (l : List Int) : ∀ u ∈ l.map (Value.int .u8), u.oneCell' = true := by
  intro u hu; obtain ⟨z, _, rfl⟩ := List.mem_map.1 hu; rfl
theorem clone_any (A : Option Addr) (n c B : Nat) (b : List Int) (w : World) (hB : B ≤ w.heap.size) (hr : Reads w B 1 A n (b.map (Value.int .u8))) (hn : n ≤ 1000000000) :
    Calls Try.prog 37 #[.slice A n c] w fun e w' => ∃ v, e = .returned v ∧ w'.ownsRow w.heap.size 5 1 v n (b.map (Value.int .u8)) ∧ Below w.heap.size w w' := by
  obtain ⟨i0, hi, hz0, hz1, hz2⟩ := info_parts byteInfo
  have HR := Lib.hid hr
  have hnil := fun w => Lib.run_eql_slice_nil (P := Try.prog) w 25 5 A n c 0 0 Try.underlying25
  rcases A with _ | ad
  · have h0 : n = 0 := by
      rcases Nat.eq_zero_or_pos n with h | h
      · exact h
      · obtain ⟨ad, h, _⟩ := hr.2 h; cases h
    subst h0
    have hb0 : b = [] := by have := hr.1; simpa using this
    subst hb0
    clear hr
    go_enter Try.func37, Try.ntmps37
    go_wp2
    go_ret
    exact ⟨_, rfl, World.ownsRow_nil _ _ _ _, Below.refl _ _⟩
  · clear hr
    go_enter Try.func37, Try.ntmps37
    go_wp2_with (at_builtin; go_must (refine wpList_append_any _ rfl (.tmp 5) (.tmp 6) _ rfl w.heap.size 5 i0 _ 1 1 Try.underlying25 hi hz0 hz1 hz2 rfl (by omega) _ _ _ rfl (World.ownsRow_made w #[] 0 (Nat.le_refl _) (by decide) rfl) B (some ad) n c (b.map (Value.int .u8)) rfl (Reads.alloc HR.out hB _) ?c1 ?c2 ?c3 ?c4 ?_))
    case c1 => exact u8_one b
    case c2 => unfold maxLen; omega
    case c3 => omega
    case c4 => simp
    intro v1 w1 hown hg hat
    have HO := Lib.hid hown
    have HG := Lib.hid hg
    clear hown hg hat hnil
    go_wp2
    go_ret
    refine ⟨_, rfl, by simpa using HO.out, ((Below.refl _ _).alloc (Nat.le_refl _) _).grown HG.out (by simp) (fun k hk => ?_)⟩
    simp [Value.ownBlock] at hk
    omega
theorem zeroCells_u8 (n : Nat) : (Builtin.zeroCells #[Value.int .u8 0] n).size = n := by
  simp [Builtin.zeroCells]
theorem grow_any (n : Nat) (w : World) (h0 : 0 < n) (hn : n ≤ 1000000000) :
    Calls Try.prog 42 #[.slice none 0 0, .int .i64 n] w fun e w' => ∃ v, e = .returned v ∧ w'.ownsRow w.heap.size 5 1 v 0 [] ∧ Below w.heap.size w w' := by
  obtain ⟨i0, hi, hz0, hz1, hz2⟩ := info_parts byteInfo
  have h1 : ¬ ((n : Int) < 0) := by omega
  have h3 : wrap64 (n : Int) = (n : Int) := by unfold wrap64; omega
  have h4 : (n : Int) > 0 := by omega
  have hrz : ∀ ty, (Builtin.append_ #[25, 3] ty #[.slice none 0 0, .int .i64 (n : Int)]).run Try.prog w =
      .ok (.slice (some ⟨w.heap.size, 0, none⟩) (0 + n) (grownCap w (0 + n) 0 5)) (w.drew.alloc (.cells (#[] ++ Builtin.zeroCells (Value.int .u8 0).cells n ++ Builtin.zeroCells (Value.int .u8 0).cells (grownCap w (0 + n) 0 5 - (0 + n))) 5)) := fun ty => by
    have hm : n * i0.bytes ≤ 140737488355328 := by rw [hz2]; omega
    have h := Lib.run_append_grow_zeros w 25 3 ty 5 i0 (.int .u8 0) .i64 .i64 Try.underlying25 Try.underlying3 hi hz0 none 0 0 [] (run_firstCells_none w.drew i0.size 0 0 0) n (by omega) (by omega) (by omega) (by omega)
      (by omega)
      (growslice_fits (by omega) (by rw [Nat.zero_add]; exact hm))
    exact h
  have hGn : n ≤ grownCap w (0 + n) 0 5 := by have := grownCap_ge w (0 + n) 0 5; omega
  obtain ⟨G, hG⟩ : ∃ G, G = grownCap w (0 + n) 0 5 := ⟨_, rfl⟩
  rw [← hG] at hrz hGn
  have hG63 : G ≤ maxLen := by
    have := grownCap_le_maxLen w (0 + n) 0 5 (by unfold maxLen; omega)
    rw [← hG] at this
    exact this
  clear hG
  go_enter Try.func42, Try.ntmps42
  go_wp2_with (at_builtin; refine Lib.wpList_append_run _ rfl _ _ _ _ rfl _ _ rfl rfl _ _ (hrz _) ?_)
  go_ret
  refine ⟨_, rfl, ?_, ((Below.refl _ _).drew).alloc (Nat.le_refl _) _⟩
  exact World.ownsRow_made w.drew _ G (Nat.le_refl _) hG63 (by simp [Value.cells, zeroCells_u8]; omega)
theorem grow_at (z : Int) (n : Nat) (hz : z = (n : Int)) (w : World) (h0 : 0 < n) (hn : n ≤ 1000000000) :
    Calls Try.prog 42 #[.slice none 0 0, .int .i64 z] w fun e w' => ∃ v, e = .returned v ∧ w'.ownsRow w.heap.size 5 1 v 0 [] ∧ Below w.heap.size w w' := by
  subst hz; exact grow_any n w h0 hn
theorem concat_any (A B : Option Addr) (n m c d b1 b2 : Nat) (x y : List Int) (w : World) (h1 : b1 ≤ w.heap.size) (h2 : b2 ≤ w.heap.size) (hx : Reads w b1 1 A n (x.map (Value.int .u8))) (hy : Reads w b2 1 B m (y.map (Value.int .u8)))
    (sb : Nat) (hs : w.cell? ⟨sb, 0, none⟩ = some (.slice A n c)) (hs2 : w.cell? ⟨sb, 1, none⟩ = some (.slice B m d)) (hsb : sb < w.heap.size) (h0 : 0 < n + m) (hn : n + m ≤ 1000000000) :
    Calls Try.prog 33 #[.slice (some ⟨sb, 0, none⟩) 2 2] w fun e w' => ∃ v, e = .returned v ∧ w'.ownsRow w.heap.size 5 1 v (n + m) ((x ++ y).map (Value.int .u8)) ∧ Below w.heap.size w w' := by
  obtain ⟨i0, hi, hz0, hz1, hz2⟩ := info_parts byteInfo
  have HX := Lib.hid hx
  have HY := Lib.hid hy
  have HN := Lib.hid hn
  have H0 := Lib.hid h0
  have a1 : wrap64 (n : Int) = n := by unfold wrap64; omega
  have a2 : wrap64 ((n : Int) + m) = (n : Int) + m := by unfold wrap64; omega
  have a3 : ((n : Int) < 0) = False := by simp
  have a4 : ((n : Int) + m < 0) = False := by simp; omega
  clear hx hy hn h0
  go_enter Try.func33, Try.ntmps33
  go_wp2
  refine wp_loop_rounds 3 ?_
  rw [rounds_succ]
  go_wp2
  rw [rounds_succ]
  go_wp2
  rw [rounds_succ]
  go_wp2_with (fail)
  have hn := HN.out
  have h0 := H0.out
  refine (grow_at _ (n + m) (by simp) _ (by omega) (by omega)).mono ?_
  rintro e w1 ⟨u, rfl, h3, h4⟩
  have HO := Lib.hid h3
  have HB := Lib.hid h4
  have q1 := cell_relay hs hsb h4 (Below.refl _ _)
  have q2 := cell_relay hs2 hsb h4 (Below.refl _ _)
  clear hs hs2 hn h0
  obtain ⟨A0, c0, rfl, _, _, _⟩ := own_slice h3
  clear h3 h4
  go_wp2
  refine wp_loop_rounds 3 ?_
  rw [rounds_succ]
  go_wp2_with (at_builtin; go_must (refine wpList_append_any _ rfl (.tmp 31) (.tmp 32) _ rfl w.heap.size 5 i0 _ 1 1 Try.underlying25 hi hz0 hz1 hz2 rfl (by omega) _ _ _ rfl HO.out b1 A n c (x.map (Value.int .u8)) rfl (HX.out.below (HB.out.mono h1)) ?c1 ?c2 ?c3 ?c4 ?_))
  case c1 => exact u8_one x
  case c2 => have := HN.out; unfold maxLen; omega
  case c3 => have := HN.out; omega
  case c4 => have := HB.out.size; omega
  intro v1 w2 h5 h6 _
  have hne : ∀ k, (Value.slice A0 0 c0).ownBlock = some k → w.heap.size ≤ k := fun k hk => (HO.out.lt k hk).1
  have q3 : w2.cell? ⟨sb, 1, none⟩ = some (.slice B m d) :=
    (World.cell?_of_block (h6.block sb (by have := HB.out.size; omega) (fun e => by have := hne _ e.symm; omega))).trans q2
  have HB2 := Lib.hid (HB.out.grown h6 HB.out.size (fun k hk => hne k hk))
  clear q1 q2 hne h6
  have HO2 := Lib.hid h5
  obtain ⟨A1, c1, rfl, _, _, _⟩ := own_slice h5
  clear h5
  go_wp2
  rw [rounds_succ]
  go_wp2_with (at_builtin; go_must (refine wpList_append_any _ rfl (.tmp 31) (.tmp 32) _ rfl w.heap.size 5 i0 _ 1 1 Try.underlying25 hi hz0 hz1 hz2 rfl (by omega) _ _ _ rfl HO2.out b2 B m d (y.map (Value.int .u8)) rfl (HY.out.below (HB2.out.mono h2)) ?c1 ?c2 ?c3 ?c4 ?_))
  case c1 => exact u8_one y
  case c2 => have := HN.out; unfold maxLen; omega
  case c3 => have := HN.out; omega
  case c4 => have := HB2.out.size; omega
  intro v3 w3 h5 h6 _
  have hne : ∀ k, (Value.slice A1 n c1).ownBlock = some k → w.heap.size ≤ k := fun k hk => (HO2.out.lt k hk).1
  have HB3 := Lib.hid (HB2.out.grown h6 HB2.out.size (fun k hk => hne k hk))
  have HO3 := Lib.hid h5
  clear q3 hne h6 h5
  go_wp2
  rw [rounds_succ]
  go_wp2
  go_ret
  refine ⟨_, rfl, by rw [List.map_append]; exact HO3.out, HB3.out⟩
theorem Reads.take {w : World} {B n : Nat} {A : Option Addr} {xs : List Value} (h : Reads w B 1 A n xs) {k : Nat} (hk : k ≤ n) : Reads w B 1 A k (xs.take k) := by
  refine ⟨by rw [List.length_take, h.1]; omega, fun h0 => ?_⟩
  obtain ⟨ad, hA, hb, hc⟩ := h.2 (by omega)
  refine ⟨ad, hA, hb, fun j u hu => hc j u ?_⟩
  by_cases hj : j < k
  · rwa [List.getElem?_take_of_lt hj] at hu
  · rw [List.getElem?_eq_none (by rw [List.length_take]; omega)] at hu; cases hu
def cutN (n k : Nat) : Nat := if k < n then k else n
theorem cutN_le (n k : Nat) : cutN n k ≤ n := by unfold cutN; split <;> omega
theorem cutN_le2 (n k : Nat) : cutN n k ≤ k := by unfold cutN; split <;> omega
theorem cut_any (A : Option Addr) (n c k : Nat) (hn : n ≤ c) (hc : c ≤ 9223372036854775807) (w : World) :
    Calls Try.prog 9 #[.slice A n c, .int .i64 k] w fun e w' => e = .returned (.slice A (cutN n k) c) ∧ w = w' := by
  by_cases h : k < n
  · rw [cutN, if_pos h]
    go_enter Try.func9, Try.ntmps9
    go_wp2
    go_ret
    exact ⟨rfl, rfl⟩
  · rw [cutN, if_neg h]
    go_enter Try.func9, Try.ntmps9
    go_wp2
    go_ret
    exact ⟨rfl, rfl⟩
theorem big_succ (n j : Nat) : big n (j + 1) = ((n / 256 ^ j % 256 : Nat) : Int) :: big n j := by
  unfold big digit
  rw [List.range_succ_eq_map, List.map_cons, List.map_map]
  congr 1
  apply List.map_congr_left
  intro i hi
  have hi := List.mem_range.1 hi
  simp only [Function.comp]
  rw [show j + 1 - 1 - (i + 1) = j - 1 - i by omega]
theorem big_len (n j : Nat) : (big n j).length = j := by simp [big]
theorem same_any (A C : Option Addr) (n m c d B D : Nat) (x y : List Int) (w : World) (hB : B ≤ w.heap.size) (hD : D ≤ w.heap.size) (hx : Reads w B 1 A n (x.map (Value.int .u8))) (hy : Reads w D 1 C m (y.map (Value.int .u8))) (hn : n ≤ 9223372036854775806) :
    Calls Try.prog 21 #[.slice A n c, .slice C m d] w fun e w' => e = .returned (.bool (decide (x = y))) ∧ Below w.heap.size w w' := by
  have lx : x.length = n := by have := hx.1; simpa using this
  have ly : y.length = m := by have := hy.1; simpa using this
  by_cases hnm : n = m
  · have hX : Hid (y.length = x.length) := Lib.hid (by omega)
    subst hnm
    have HX := Lib.hid hx
    have HY := Lib.hid hy
    have LX := Lib.hid lx
    have LY := Lib.hid ly
    clear hx hy lx ly
    go_enter Try.func21, Try.ntmps21
    go_wp2
    go_loopw [5] (fun i wr => ∃ k : Nat, k ≤ n ∧ i = .int .i64 k ∧ Hid (x.take k = y.take k) ∧ Hid (Below w.heap.size w wr)) (fun i _ => n - (intOf i).toNat)
    case atStart => exact ⟨0, by omega, rfl, Lib.hid rfl, Lib.hid (Below.refl _ _)⟩
    case round =>
      obtain ⟨k, hk, rfl, hT, hb⟩ := hrel
      by_cases hlt : k < n
      · obtain ⟨ad1, z1, rfl, _, hz1, hc1⟩ := reads_int (HX.out.below (hb.out.mono hB)) hlt
        obtain ⟨ad2, z2, rfl, _, hz2, hc2⟩ := reads_int (HY.out.below (hb.out.mono hD)) hlt
        have Z1 := Lib.hid hz1
        have Z2 := Lib.hid hz2
        clear hz1 hz2
        by_cases hz : z1 = z2
        · have hz' : (z1 != z2) = false := by simp [hz]
          have HZ := Lib.hid hz
          clear hz
          go_wp2_with (fail)
          go_quiet (fail)
          go_wp2
          go_roundw
          case rel =>
            refine ⟨k + 1, by omega, by go_num, Lib.hid ?_, Lib.hid (below_drewN hb.out _)⟩
            rw [List.take_add_one, List.take_add_one, Z1.out, Z2.out, hT.out, HZ.out]
          case measure => simp [intOf]; omega
        · have hz' : (z1 != z2) = true := by simp [hz]
          have HZ := Lib.hid hz
          clear hz
          go_wp2_with (fail)
          go_quiet (fail)
          go_wp2
          go_ret
          refine ⟨ret_bool ?_, below_drewN hb.out _⟩
          symm
          rw [decide_eq_false_iff_not]
          intro e
          have := Z2.out
          rw [← e, Z1.out] at this
          exact HZ.out (by injection this)
      · obtain rfl : k = n := by omega
        go_wp2
        go_ret
        refine ⟨ret_bool ?_, hb.out⟩
        symm
        rw [decide_eq_true_eq]
        have := hT.out
        rw [List.take_of_length_le (by have := LX.out; omega), List.take_of_length_le (by have := LY.out; omega)] at this
        exact this
  · have he : ¬ x = y := fun e => by subst e; omega
    have hd : decide (x = y) = false := by simp [he]
    rw [hd]
    have hnm' : ((n : Int) != m) = true := by simp; omega
    clear hx hy hnm he hd
    go_enter Try.func21, Try.ntmps21
    go_wp2
    go_ret
    exact ⟨rfl, Below.refl _ _⟩
theorem own_lit1 (w : World) (z : Int) (base : Nat) (hb : base ≤ w.heap.size) : (w.alloc (.cells #[.int .u8 z] 5)).ownsRow base 5 1 (.slice (some ⟨w.heap.size, 0, none⟩) 1 1) 1 ([z].map (Value.int .u8)) :=
  ⟨rfl, .inr ⟨_, _, _, rfl, hb, heap_alloc_new _ _, Nat.le_refl _, by decide, rfl, rfl⟩⟩
theorem wrap_mod (a : Nat) : IntKind.u8.wrap ((a : Int) % 256) = ((a % 256 : Nat) : Int) := by
  rw [IntKind.wrap_u8']; omega
theorem div_step (n j : Nat) : ((n / 256 ^ j : Nat) : Int) / 256 = ((n / 256 ^ (j + 1) : Nat) : Int) := by
  rw [Nat.pow_succ, ← Nat.div_div_eq_div_mul]; omega
theorem div_le' (n j : Nat) (h : n < 18446744073709551616) : n / 256 ^ j < 18446744073709551616 := Nat.lt_of_le_of_lt (Nat.div_le_self _ _) h
theorem refPut_ok (n k : Nat) (hn : n < 18446744073709551616) (hk : 1 ≤ k) (hk8 : k ≤ 8) (hf : fitsB n k = true) (w : World) :
    Calls Try.prog 43 #[.int .u64 n, .int .i64 k] w fun e w' => ∃ v, e = .returned (.tuple #[v, .int .i64 0]) ∧ w'.ownsRow w.heap.size 5 1 v k ((big n k).map (Value.int .u8)) ∧ Below w.heap.size w w' := by
  obtain ⟨i0, hi, hz0, hz1, hz2⟩ := info_parts byteInfo
  have HN := Lib.hid hn
  have HF := Lib.hid hf
  clear hn hf
  have b1 : ((k : Int) < 1) = False := by simp; omega
  have b2 : ((k : Int) > 8) = False := by simp; omega
  go_enter Try.func43, Try.ntmps43
  go_wp2
  go_loopw [0, 6, 7] (fun m v i wr => ∃ (j q : Nat), j ≤ k ∧ i = .int .i64 j ∧ m = .int .u64 q ∧ Hid (q = n / 256 ^ j) ∧ Hid (wr.ownsRow w.heap.size 5 1 v j ((big n j).map (Value.int .u8))) ∧ Hid (Below w.heap.size w wr)) (fun _ _ i _ => k - (intOf i).toNat)
  case atStart => exact ⟨0, n, by omega, rfl, rfl, Lib.hid (by simp), Lib.hid (World.ownsRow_nil _ _ _ _), Lib.hid (Below.refl _ _)⟩
  case round =>
    obtain ⟨j, q, hj, rfl, rfl, hq, hO, hB⟩ := hrel
    obtain ⟨A, c, rfl, hr, _, _⟩ := own_slice hO.out
    have HR := Lib.hid hr
    clear hr
    by_cases hlt : j < k
    · obtain ⟨z, hz⟩ : ∃ z : Int, z = ((q % 256 : Nat) : Int) := ⟨_, rfl⟩
      obtain ⟨q', hq'⟩ : ∃ q' : Nat, q' = q / 256 := ⟨_, rfl⟩
      have e1 : (q : Int).tmod 256 = z := by rw [hz, Int.tmod_eq_emod_of_nonneg (by omega)]; rfl
      have e2 : z % 256 = z := by omega
      have e3 : (q : Int).tdiv 256 = q' := by rw [hq', Int.tdiv_eq_ediv_of_nonneg (by omega)]; rfl
      have e4 : (q : Int) / 256 = q' := by omega
      have hqb : q < 18446744073709551616 := by rw [hq.out]; exact div_le' n j HN.out
      have hqb' : q' < 18446744073709551616 := by omega
      clear hqb
      have HZ := Lib.hid hz
      have HQ := Lib.hid hq'
      have hsz := hB.out.size
      clear hz hq'
      go_wp2_with (at_builtin; go_must (refine wpList_append_any _ rfl (.tmp 22) (.tmp 23) _ rfl w.heap.size 5 i0 _ 1 1 Try.underlying25 hi hz0 hz1 hz2 rfl (by omega) _ _ _ rfl (own_lit1 _ z w.heap.size hB.out.size) wr.heap.size A j c ((big n j).map (Value.int .u8)) rfl (Reads.alloc HR.out (Nat.le_refl _) _) ?c1 ?c2 ?c3 ?c4 ?_))
      case c1 => exact u8_one _
      case c2 => unfold maxLen; omega
      case c3 => omega
      case c4 => simp; try omega
      intro v1 w1 h5 h6 _
      have hb := (hB.out.alloc hB.out.size (.cells #[.int .u8 z] 5)).grown h6 (by simp; omega) (fun k hk => by simp [Value.ownBlock] at hk; omega)
      have HB := Lib.hid hb
      have HO := Lib.hid h5
      clear hb h5 h6
      go_wp2
      go_roundw
      case rel =>
        refine ⟨j + 1, q', by omega, by go_num, rfl, Lib.hid ?_, Lib.hid ?_, HB⟩
        · rw [HQ.out, hq.out, Nat.div_div_eq_div_mul, Nat.pow_succ]
        · rw [big_succ, ← hq.out, ← HZ.out]
          have := HO.out
          rw [Nat.add_comm 1 j] at this
          exact this
      case measure => simp [intOf]; omega
    · obtain rfl : j = k := by omega
      obtain rfl : q = 0 := by
        have := HF.out
        rw [fitsB, decide_eq_true_eq] at this
        rw [hq.out, Nat.div_eq_of_lt this]
      go_wp2
      go_ret2
      exact ⟨_, rfl, hO.out, hB.out⟩
theorem refBig_any (n k : Nat) (z : Int) (hz : z = n) (hn : n < 18446744073709551616) (hk : 1 ≤ k) (hk8 : k ≤ 8) (hf : fitsB n k = true) (w : World) :
    Calls Try.prog 36 #[.int .u64 z, .int .i64 k] w fun e w' => ∃ v, e = .returned v ∧ w'.ownsRow w.heap.size 5 1 v k ((big n k).map (Value.int .u8)) ∧ Below w.heap.size w w' := by
  subst hz
  go_enter Try.func36, Try.ntmps36
  go_wp2_with (fail)
  refine (refPut_ok n k hn hk hk8 hf _).mono ?_
  rintro e w1 ⟨v, rfl, h1, h2⟩
  have H1 := Lib.hid h1
  have H2 := Lib.hid h2
  clear h1 h2
  go_wp2
  go_ret
  exact ⟨_, rfl, H1.out, H2.out⟩
end Go.Proofs.Ytpgkidmcigefjaa
