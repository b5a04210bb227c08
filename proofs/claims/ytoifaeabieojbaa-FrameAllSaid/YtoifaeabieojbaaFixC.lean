/- Package fix: Clone, Concat, Text, Done. -/
import Derived.Test.YtoifaeabieojbaaFixB
import Derived.Lib.AppendZerosOnto
import Derived.Shelf.SlGeneric
namespace Go.Proofs.Ytoifaeabieojbaa
open Go.RowKit
set_option linter.unusedSimpArgs false
set_option linter.unusedVariables false
set_option maxHeartbeats 1000000

theorem clone_any (A : Option Addr) (n c B : Nat) (b : List Int) (w : World) (hB : B ≤ w.heap.size) (hr : Reads w B 1 A n (b.map (Value.int .u8))) (hn : n ≤ 1000000000) :
    Calls Try.prog 47 #[.slice A n c] w fun e w' => ∃ v, e = .returned v ∧ w'.ownsRow w.heap.size 5 1 v n (b.map (Value.int .u8)) ∧ Below w.heap.size w w' := by
  obtain ⟨i0, hi, hz0, hz1, hz2⟩ := info_parts byteInfo
  have HR := Lib.hid hr
  have hnil := fun w => Lib.run_eql_slice_nil (P := Try.prog) w 22 5 A n c 0 0 Try.underlying22
  rcases A with _ | ad
  · have h0 : n = 0 := by
      rcases Nat.eq_zero_or_pos n with h | h
      · exact h
      · obtain ⟨ad, h, _⟩ := hr.2 h; cases h
    subst h0
    have hb0 : b = [] := by have := hr.1; simpa using this
    subst hb0
    clear hr
    go_enter Try.func47, Try.ntmps47
    go_wp2
    go_ret
    exact ⟨_, rfl, World.ownsRow_nil _ _ _ _, Below.refl _ _⟩
  · clear hr
    go_enter Try.func47, Try.ntmps47
    go_wp2_with (at_builtin; go_must (refine wpList_append_any _ rfl (.tmp 5) (.tmp 6) _ rfl w.heap.size 5 i0 _ 1 1 Try.underlying22 hi hz0 hz1 hz2 rfl (by omega) _ _ _ rfl (World.ownsRow_made w #[] 0 (Nat.le_refl _) (by decide) rfl) B (some ad) n c (b.map (Value.int .u8)) rfl (Reads.alloc HR.out hB _) ?c1 ?c2 ?c3 ?c4 ?_))
    case c1 => exact u8_one b
    case c2 => unfold maxLen; omega
    case c3 => omega
    case c4 => simp
    intro v1 w1 hown hg hat
    have HO := Lib.hid hown
    have HG := Lib.hid hg
    clear hown hg hat hnil
    go_wp2
    go_ret
    refine ⟨_, rfl, by simpa using HO.out, ((Below.refl _ _).alloc (Nat.le_refl _) _).grown HG.out (by simp) (fun k hk => ?_)⟩
    simp [Value.ownBlock] at hk
    omega

theorem done_any (g : Nat) (v : Value) (s : FO) (w : World) (h : OutAt w g v s) (hl : s.l.length ≤ 1000000000) :
    Calls Try.prog 31 #[.pointer (some ⟨g, 0, none⟩)] w fun e w' => ∃ u, e = .returned (.tuple #[u, .int .i64 s.e]) ∧ w'.ownsRow w.heap.size 5 1 u (if s.e = 0 then s.l else []).length ((if s.e = 0 then s.l else []).map (Value.int .u8)) ∧ Below w.heap.size w w' := by
  obtain ⟨A0, c0, rfl, hr, _, _⟩ := own_slice h.2.1
  have HR := Lib.hid hr
  have k0 := h.1.cell 0
  have k2 := h.1.cell 2
  simp only [List.getElem?_toArray, List.getElem?_cons_succ, List.getElem?_cons_zero] at k0 k2
  clear h hr
  by_cases he : s.e = 0
  · rw [if_pos he, he]
    have he' : (s.e != 0) = false := by simp [he]
    clear he
    go_enter Try.func31, Try.ntmps31
    go_wp2_with (fail)
    refine (clone_any A0 s.l.length c0 w.heap.size s.l _ (Nat.le_refl _) HR.out hl).mono ?_
    rintro e w1 ⟨u, rfl, h1, h2⟩
    have H1 := Lib.hid h1
    have H2 := Lib.hid h2
    clear h1 h2
    go_wp2
    go_ret2
    exact ⟨_, rfl, H1.out, H2.out⟩
  · rw [if_neg he]
    have he' : (s.e != 0) = true := by simp [he]
    clear he
    go_enter Try.func31, Try.ntmps31
    go_wp2_with (fail)
    go_quiet (fail)
    go_wp2_with (fail)
    go_ret2
    exact ⟨_, rfl, World.ownsRow_nil _ _ _ _, below_drewN (Below.refl _ _) _⟩


theorem zeroCells_u8 (n : Nat) : (Builtin.zeroCells #[Value.int .u8 0] n).size = n := by
  simp [Builtin.zeroCells]

theorem grow_any (n : Nat) (w : World) (h0 : 0 < n) (hn : n ≤ 1000000000) :
    Calls Try.prog 58 #[.slice none 0 0, .int .i64 n] w fun e w' => ∃ v, e = .returned v ∧ w'.ownsRow w.heap.size 5 1 v 0 [] ∧ Below w.heap.size w w' := by
  obtain ⟨i0, hi, hz0, hz1, hz2⟩ := info_parts byteInfo
  have h1 : ¬ ((n : Int) < 0) := by omega
  have h3 : wrap64 (n : Int) = (n : Int) := by unfold wrap64; omega
  have h4 : (n : Int) > 0 := by omega
  have hrz : ∀ ty, (Builtin.append_ #[22, 3] ty #[.slice none 0 0, .int .i64 (n : Int)]).run Try.prog w =
      .ok (.slice (some ⟨w.heap.size, 0, none⟩) (0 + n) (grownCap w (0 + n) 0 5)) (w.drew.alloc (.cells (#[] ++ Builtin.zeroCells (Value.int .u8 0).cells n ++ Builtin.zeroCells (Value.int .u8 0).cells (grownCap w (0 + n) 0 5 - (0 + n))) 5)) := fun ty => by
    have hm : n * i0.bytes ≤ 140737488355328 := by rw [hz2]; omega
    have h := Lib.run_append_grow_zeros w 22 3 ty 5 i0 (.int .u8 0) .i64 .i64 Try.underlying22 Try.underlying3 hi hz0 none 0 0 [] (run_firstCells_none w.drew i0.size 0 0 0) n (by omega) (by omega) (by omega) (by omega)
      (by omega)
      (growslice_fits (by omega) (by rw [Nat.zero_add]; exact hm))
    exact h
  have hGn : n ≤ grownCap w (0 + n) 0 5 := by have := grownCap_ge w (0 + n) 0 5; omega
  obtain ⟨G, hG⟩ : ∃ G, G = grownCap w (0 + n) 0 5 := ⟨_, rfl⟩
  rw [← hG] at hrz hGn
  have hG63 : G ≤ maxLen := by
    have := grownCap_le_maxLen w (0 + n) 0 5 (by unfold maxLen; omega)
    rw [← hG] at this
    exact this
  clear hG
  go_enter Try.func58, Try.ntmps58
  go_wp2_with (at_builtin; refine Lib.wpList_append_run _ rfl _ _ _ _ rfl _ _ rfl rfl _ _ (hrz _) ?_)
  go_ret
  refine ⟨_, rfl, ?_, ((Below.refl _ _).drew).alloc (Nat.le_refl _) _⟩
  exact World.ownsRow_made w.drew _ G (Nat.le_refl _) hG63 (by simp [Value.cells, zeroCells_u8]; omega)

theorem grow_at (z : Int) (n : Nat) (hz : z = (n : Int)) (w : World) (h0 : 0 < n) (hn : n ≤ 1000000000) :
    Calls Try.prog 58 #[.slice none 0 0, .int .i64 z] w fun e w' => ∃ v, e = .returned v ∧ w'.ownsRow w.heap.size 5 1 v 0 [] ∧ Below w.heap.size w w' := by
  subst hz; exact grow_any n w h0 hn

theorem concat_any (A B : Option Addr) (n m c d b1 b2 : Nat) (x y : List Int) (w : World) (h1 : b1 ≤ w.heap.size) (h2 : b2 ≤ w.heap.size) (hx : Reads w b1 1 A n (x.map (Value.int .u8))) (hy : Reads w b2 1 B m (y.map (Value.int .u8)))
    (sb : Nat) (hs : w.cell? ⟨sb, 0, none⟩ = some (.slice A n c)) (hs2 : w.cell? ⟨sb, 1, none⟩ = some (.slice B m d)) (hsb : sb < w.heap.size) (h0 : 0 < n + m) (hn : n + m ≤ 1000000000) :
    Calls Try.prog 46 #[.slice (some ⟨sb, 0, none⟩) 2 2] w fun e w' => ∃ v, e = .returned v ∧ w'.ownsRow w.heap.size 5 1 v (n + m) ((x ++ y).map (Value.int .u8)) ∧ Below w.heap.size w w' := by
  obtain ⟨i0, hi, hz0, hz1, hz2⟩ := info_parts byteInfo
  have HX := Lib.hid hx
  have HY := Lib.hid hy
  have HN := Lib.hid hn
  have H0 := Lib.hid h0
  have a1 : wrap64 (n : Int) = n := by unfold wrap64; omega
  have a2 : wrap64 ((n : Int) + m) = (n : Int) + m := by unfold wrap64; omega
  have a3 : ((n : Int) < 0) = False := by simp
  have a4 : ((n : Int) + m < 0) = False := by simp; omega
  clear hx hy hn h0
  go_enter Try.func46, Try.ntmps46
  go_wp2
  refine wp_loop_rounds 3 ?_
  rw [rounds_succ]
  go_wp2
  rw [rounds_succ]
  go_wp2
  rw [rounds_succ]
  go_wp2_with (fail)
  have hn := HN.out
  have h0 := H0.out
  refine (grow_at _ (n + m) (by simp) _ (by omega) (by omega)).mono ?_
  rintro e w1 ⟨u, rfl, h3, h4⟩
  have HO := Lib.hid h3
  have HB := Lib.hid h4
  have q1 := cell_relay hs hsb h4 (Below.refl _ _)
  have q2 := cell_relay hs2 hsb h4 (Below.refl _ _)
  clear hs hs2 hn h0
  obtain ⟨A0, c0, rfl, _, _, _⟩ := own_slice h3
  clear h3 h4
  go_wp2
  refine wp_loop_rounds 3 ?_
  rw [rounds_succ]
  go_wp2_with (at_builtin; go_must (refine wpList_append_any _ rfl (.tmp 31) (.tmp 32) _ rfl w.heap.size 5 i0 _ 1 1 Try.underlying22 hi hz0 hz1 hz2 rfl (by omega) _ _ _ rfl HO.out b1 A n c (x.map (Value.int .u8)) rfl (HX.out.below (HB.out.mono h1)) ?c1 ?c2 ?c3 ?c4 ?_))
  case c1 => exact u8_one x
  case c2 => have := HN.out; unfold maxLen; omega
  case c3 => have := HN.out; omega
  case c4 => have := HB.out.size; omega
  intro v1 w2 h5 h6 _
  have hne : ∀ k, (Value.slice A0 0 c0).ownBlock = some k → w.heap.size ≤ k := fun k hk => (HO.out.lt k hk).1
  have q3 : w2.cell? ⟨sb, 1, none⟩ = some (.slice B m d) :=
    (World.cell?_of_block (h6.block sb (by have := HB.out.size; omega) (fun e => by have := hne _ e.symm; omega))).trans q2
  have HB2 := Lib.hid (HB.out.grown h6 HB.out.size (fun k hk => hne k hk))
  clear q1 q2 hne h6
  have HO2 := Lib.hid h5
  obtain ⟨A1, c1, rfl, _, _, _⟩ := own_slice h5
  clear h5
  go_wp2
  rw [rounds_succ]
  go_wp2_with (at_builtin; go_must (refine wpList_append_any _ rfl (.tmp 31) (.tmp 32) _ rfl w.heap.size 5 i0 _ 1 1 Try.underlying22 hi hz0 hz1 hz2 rfl (by omega) _ _ _ rfl HO2.out b2 B m d (y.map (Value.int .u8)) rfl (HY.out.below (HB2.out.mono h2)) ?c1 ?c2 ?c3 ?c4 ?_))
  case c1 => exact u8_one y
  case c2 => have := HN.out; unfold maxLen; omega
  case c3 => have := HN.out; omega
  case c4 => have := HB2.out.size; omega
  intro v3 w3 h5 h6 _
  have hne : ∀ k, (Value.slice A1 n c1).ownBlock = some k → w.heap.size ≤ k := fun k hk => (HO2.out.lt k hk).1
  have HB3 := Lib.hid (HB2.out.grown h6 HB2.out.size (fun k hk => hne k hk))
  have HO3 := Lib.hid h5
  clear q3 hne h6 h5
  go_wp2
  rw [rounds_succ]
  go_wp2
  go_ret
  refine ⟨_, rfl, by rw [List.map_append]; exact HO3.out, HB3.out⟩
end Go.Proofs.Ytoifaeabieojbaa
