/- Contract: the reference's Reports. -/
import Derived.Test.YthahcpanekdbaaaRolL
namespace Go.Proofs.Ythahcpanekdbaaa
open Go.RowKit
set_option linter.unusedSimpArgs false
set_option linter.unusedVariables false
set_option linter.unnecessarySimpa false
set_option maxHeartbeats 20000000
set_option maxRecDepth 100000
attribute [local go_sem] Cf.agg Cf.cells Rl.agg Rl.cells

theorem role_nonneg {x : Cf} (hl : x.zs.length = x.len) (n : Int) : 0 ≤ (x.role n).pred ∧ 0 ≤ (x.role n).succ := by
  by_cases hR : x.right = true
  · by_cases hn : n = 0
    · rw [Cf.role, if_neg (by simp [hn])]; exact ⟨Int.le_refl _, Int.le_refl _⟩
    · have hf := Cf.right_fine hR
      have hj : 0 ≤ x.jn := by
        by_cases h : x.jn = 0
        · omega
        · have hs : x.stands = x.zs ++ [x.jn] := by rw [Cf.stands, if_neg h]
          have := (nodeB_iff _).1 (hf.2 x.zs.length x.jn (by rw [hs]; simp)).1
          omega
      have hz : ∀ i, i < x.zs.length → 0 ≤ x.zs.getD i 0 := fun i hi => by
        have hg : x.stands[i]? = some (x.zs.getD i 0) := by rw [Cf.stands, List.getElem?_append_left hi, List.getD_eq_getElem?_getD, List.getElem?_eq_getElem hi]; rfl
        have := (nodeB_iff _).1 (hf.2 i _ hg).1
        omega
      have h1 : 1 ≤ x.len := hf.1.2.2.1.1
      rw [Cf.role, if_pos ⟨hR, hn⟩]
      by_cases hj2 : n = x.jn
      · rw [if_pos hj2]; exact ⟨hz _ (by omega), Int.le_refl _⟩
      · rw [if_neg hj2]
        by_cases hm : n ∈ x.zs
        · rw [if_pos hm]
          have hi := (idx_get hm).2
          generalize x.zs.idxOf n = i at hi
          unfold Cf.roleAt
          refine ⟨?_, ?_⟩
          · show 0 ≤ if i = 0 then (0 : Int) else _
            split
            · exact Int.le_refl _
            · exact hz _ (by omega)
          · show 0 ≤ if i + 1 = x.len then x.jn else _
            split
            · exact hj
            · exact hz _ (by omega)
        · rw [if_neg hm]; exact ⟨Int.le_refl _, Int.le_refl _⟩
  · rw [Cf.role, if_neg (fun h => hR h.1)]; exact ⟨Int.le_refl _, Int.le_refl _⟩

theorem refReports_any (x : Cf) (node : Int) (C : Option Addr) (m d B : Nat) (ds : List Int) (w : World) (hx : CfIn w B x) (hB : B ≤ w.heap.size) (hd : Reads w B 1 C m (ds.map (Value.int .i64))) (hm : m ≤ maxLen) :
    Calls Try.prog 17 #[x.agg, .int .i64 node, .slice C m d] w fun e w' => ∃ v, e = .returned v ∧ w'.ownsRow w.heap.size 39 4 v (x.rep node ds).length ((x.rep node ds).flatMap x.row) ∧ Below w.heap.size w w' := by
  obtain ⟨i0, hi, hz0, hz1, hz2⟩ := info_parts cmdInfo
  have HX := Lib.hid hx
  have HD := Lib.hid hd
  have O := fun w => refOf_any x node B w
  obtain ⟨hn1, hn2⟩ := role_nonneg hx.len_eq node
  unfold Cf.rep
  clear hx hd
  generalize x.role node = r at O hn1 hn2 ⊢
  obtain ⟨ra, rb, rc, rd, re, rf, p, s⟩ := r
  simp only [] at hn1 hn2 ⊢
  go_enter Try.func17, Try.ntmps17
  go_wp2_with (fail)
  refine (O _ (HX.out.alloc hB _) (by simp; omega)).mono ?_
  rintro e w1 ⟨rfl, h⟩
  have HB1 := Lib.hid (box_below h)
  have HBX := Lib.hid ((Blk.new w 25 x.cells).below h (by simp))
  clear h O
  have HS : Hid (RS w x 6 7 w1.heap.size p s B C m ds (.slice none 0 0) [] (w1.alloc (.cells #[.bool ra, .bool rb, .bool rc, .bool rd, .bool re, .int .i64 rf, .int .i64 p, .int .i64 s] 32))) := Lib.hid (by
    refine ⟨HBX.out.alloc _, ⟨?_, ?_⟩, ⟨HBX.out.lt, by simp⟩, World.ownsRow_nil _ _ _ _, ((HD.out.below (HB1.out.mono hB)).alloc (Nat.le_trans hB HB1.out.size) _), HB1.out.alloc HB1.out.size _⟩
    · exact ((Blk.new w1 32 #[.bool ra, .bool rb, .bool rc, .bool rd, .bool re, .int .i64 rf, .int .i64 p, .int .i64 s]).cell 6)
    · exact ((Blk.new w1 32 #[.bool ra, .bool rb, .bool rc, .bool rd, .bool re, .int .i64 rf, .int .i64 p, .int .i64 s]).cell 7))
  rcases pick_cases p ds with ⟨rfl, hp⟩ | ⟨hp1, hp2, hp⟩ | ⟨hp1, hp2, hp⟩
  · have HPP := Lib.hid hp
    clear hp
    rcases pick_cases s ds with ⟨rfl, hs⟩ | ⟨hs1, hs2, hs⟩ | ⟨hs1, hs2, hs⟩
    · have HSS := Lib.hid hs
      clear hs
      obtain ⟨c0, c1, c2, c3, c4⟩ := cf_cells (x := x) HBX.out; have q5 := HBX.out.lt
      go_wp2_with (first | (go_at_call 27; refine (refHas_any C m d B ds _ _ HS.out.rd hm).mono ?_; rintro e w' ⟨rfl, rfl⟩) | fail)
      go_ret
      exact ⟨_, rfl, by simp only [HPP.out, HSS.out]; simpa using own_mono HS.out.own (by have := HS.out.glt; omega), HS.out.bel⟩
    · have HSS := Lib.hid hs
      clear hs
      have hs0 : s ≠ 0 := by simpa using hs1
      have hs3 : 0 < s := by omega
      clear hs0
      obtain ⟨c0, c1, c2, c3, c4⟩ := cf_cells (x := x) HBX.out; have q5 := HBX.out.lt
      go_wp2_with (first | (go_at_call 27; refine (refHas_any C m d B ds _ _ HS.out.rd hm).mono ?_; rintro e w' ⟨rfl, rfl⟩) | fail)
      go_ret
      exact ⟨_, rfl, by simp only [HPP.out, HSS.out]; simpa using own_mono HS.out.own (by have := HS.out.glt; omega), HS.out.bel⟩
    · have HSS := Lib.hid hs
      clear hs
      have hs0 : s ≠ 0 := by simpa using hs1
      have hs3 : 0 < s := by omega
      clear hs0
      obtain ⟨c0, c1, c2, c3, c4⟩ := cf_cells (x := x) HBX.out; have q5 := HBX.out.lt
      go_wp2_with (first | (go_at_call 27; refine (refHas_any C m d B ds _ _ HS.out.rd hm).mono ?_; rintro e w' ⟨rfl, rfl⟩) | (at_builtin; go_must (refine wpList_append_own _ rfl (.tmp 40) (.tmp 48) _ rfl (w1.heap.size + 1) 39 i0 _ 4 32 Try.underlying36 hi hz0 hz1 hz2 rfl (by omega) _ _ _ rfl (HS.out.own.alloc _) ⟨w1.heap.size + 1, 0, none⟩ 1 1 (x.row s) rfl rfl ?c1 ?c2 ?c3 ?c4 ?c5 ?_)))
      case c1 => exact fun j u hu => cells_new_at _ _ _ _ (by simp) j u hu
      case c2 => exact row_one x _
      case c3 => simp [maxLen]
      case c4 => simp
      case c5 => simp <;> omega
      intro v7 w7 hown hg hat
      have HS7 := Lib.hid (HS.out.app hB hown hg)
      clear hown hg hat
      clear c0 c1 c2 c3 c4 q5
      obtain ⟨A7, cc7, rfl, _, _, _⟩ := own_slice HS7.out.own
      go_wp2
      go_ret
      exact ⟨_, rfl, by simp only [HPP.out, HSS.out]; simpa using own_mono HS7.out.own (by have := HS7.out.glt; omega), HS7.out.bel⟩
  · have HPP := Lib.hid hp
    clear hp
    have hp0 : p ≠ 0 := by simpa using hp1
    have hp3 : 0 < p := by omega
    clear hp0
    rcases pick_cases s ds with ⟨rfl, hs⟩ | ⟨hs1, hs2, hs⟩ | ⟨hs1, hs2, hs⟩
    · have HSS := Lib.hid hs
      clear hs
      obtain ⟨c0, c1, c2, c3, c4⟩ := cf_cells (x := x) HBX.out; have q5 := HBX.out.lt
      go_wp2_with (first | (go_at_call 27; refine (refHas_any C m d B ds _ _ HS.out.rd hm).mono ?_; rintro e w' ⟨rfl, rfl⟩) | fail)
      go_ret
      exact ⟨_, rfl, by simp only [HPP.out, HSS.out]; simpa using own_mono HS.out.own (by have := HS.out.glt; omega), HS.out.bel⟩
    · have HSS := Lib.hid hs
      clear hs
      have hs0 : s ≠ 0 := by simpa using hs1
      have hs3 : 0 < s := by omega
      clear hs0
      obtain ⟨c0, c1, c2, c3, c4⟩ := cf_cells (x := x) HBX.out; have q5 := HBX.out.lt
      go_wp2_with (first | (go_at_call 27; refine (refHas_any C m d B ds _ _ HS.out.rd hm).mono ?_; rintro e w' ⟨rfl, rfl⟩) | fail)
      go_ret
      exact ⟨_, rfl, by simp only [HPP.out, HSS.out]; simpa using own_mono HS.out.own (by have := HS.out.glt; omega), HS.out.bel⟩
    · have HSS := Lib.hid hs
      clear hs
      have hs0 : s ≠ 0 := by simpa using hs1
      have hs3 : 0 < s := by omega
      clear hs0
      obtain ⟨c0, c1, c2, c3, c4⟩ := cf_cells (x := x) HBX.out; have q5 := HBX.out.lt
      go_wp2_with (first | (go_at_call 27; refine (refHas_any C m d B ds _ _ HS.out.rd hm).mono ?_; rintro e w' ⟨rfl, rfl⟩) | (at_builtin; go_must (refine wpList_append_own _ rfl (.tmp 40) (.tmp 48) _ rfl (w1.heap.size + 1) 39 i0 _ 4 32 Try.underlying36 hi hz0 hz1 hz2 rfl (by omega) _ _ _ rfl (HS.out.own.alloc _) ⟨w1.heap.size + 1, 0, none⟩ 1 1 (x.row s) rfl rfl ?c1 ?c2 ?c3 ?c4 ?c5 ?_)))
      case c1 => exact fun j u hu => cells_new_at _ _ _ _ (by simp) j u hu
      case c2 => exact row_one x _
      case c3 => simp [maxLen]
      case c4 => simp
      case c5 => simp <;> omega
      intro v7 w7 hown hg hat
      have HS7 := Lib.hid (HS.out.app hB hown hg)
      clear hown hg hat
      clear c0 c1 c2 c3 c4 q5
      obtain ⟨A7, cc7, rfl, _, _, _⟩ := own_slice HS7.out.own
      go_wp2
      go_ret
      exact ⟨_, rfl, by simp only [HPP.out, HSS.out]; simpa using own_mono HS7.out.own (by have := HS7.out.glt; omega), HS7.out.bel⟩
  · have HPP := Lib.hid hp
    clear hp
    have hp0 : p ≠ 0 := by simpa using hp1
    have hp3 : 0 < p := by omega
    clear hp0
    obtain ⟨c0, c1, c2, c3, c4⟩ := cf_cells (x := x) HBX.out; have q5 := HBX.out.lt
    go_wp2_with (first | (go_at_call 27; refine (refHas_any C m d B ds _ _ HS.out.rd hm).mono ?_; rintro e w' ⟨rfl, rfl⟩) | (at_builtin; go_must (refine wpList_append_own _ rfl (.tmp 21) (.tmp 29) _ rfl (w1.heap.size + 1) 39 i0 _ 4 32 Try.underlying36 hi hz0 hz1 hz2 rfl (by omega) _ _ _ rfl (HS.out.own.alloc _) ⟨w1.heap.size + 1, 0, none⟩ 1 1 (x.row p) rfl rfl ?c1 ?c2 ?c3 ?c4 ?c5 ?_)))
    case c1 => exact fun j u hu => cells_new_at _ _ _ _ (by simp) j u hu
    case c2 => exact row_one x _
    case c3 => simp [maxLen]
    case c4 => simp
    case c5 => simp <;> omega
    intro v5 w5 hown hg hat
    have HS5 := Lib.hid (HS.out.app hB hown hg)
    clear hown hg hat
    clear c0 c1 c2 c3 c4 q5
    obtain ⟨A5, cc5, rfl, _, _, _⟩ := own_slice HS5.out.own
    rcases pick_cases s ds with ⟨rfl, hs⟩ | ⟨hs1, hs2, hs⟩ | ⟨hs1, hs2, hs⟩
    · have HSS := Lib.hid hs
      clear hs
      obtain ⟨c0, c1, c2, c3, c4⟩ := cf_cells (x := x) HS5.out.box; obtain ⟨e0, e1⟩ := HS5.out.lit; have hgl := HS5.out.glt; have hg2 := hgl.2
      go_wp2_with (first | (go_at_call 27; refine (refHas_any C m d B ds _ _ HS5.out.rd hm).mono ?_; rintro e w' ⟨rfl, rfl⟩) | fail)
      go_ret
      exact ⟨_, rfl, by simp only [HPP.out, HSS.out]; simpa using own_mono HS5.out.own (by have := HS5.out.glt; omega), HS5.out.bel⟩
    · have HSS := Lib.hid hs
      clear hs
      have hs0 : s ≠ 0 := by simpa using hs1
      have hs3 : 0 < s := by omega
      clear hs0
      obtain ⟨c0, c1, c2, c3, c4⟩ := cf_cells (x := x) HS5.out.box; obtain ⟨e0, e1⟩ := HS5.out.lit; have hgl := HS5.out.glt; have hg2 := hgl.2
      go_wp2_with (first | (go_at_call 27; refine (refHas_any C m d B ds _ _ HS5.out.rd hm).mono ?_; rintro e w' ⟨rfl, rfl⟩) | fail)
      go_ret
      exact ⟨_, rfl, by simp only [HPP.out, HSS.out]; simpa using own_mono HS5.out.own (by have := HS5.out.glt; omega), HS5.out.bel⟩
    · have HSS := Lib.hid hs
      clear hs
      have hs0 : s ≠ 0 := by simpa using hs1
      have hs3 : 0 < s := by omega
      clear hs0
      obtain ⟨c0, c1, c2, c3, c4⟩ := cf_cells (x := x) HS5.out.box; obtain ⟨e0, e1⟩ := HS5.out.lit; have hgl := HS5.out.glt; have hg2 := hgl.2
      go_wp2_with (first | (go_at_call 27; refine (refHas_any C m d B ds _ _ HS5.out.rd hm).mono ?_; rintro e w' ⟨rfl, rfl⟩) | (at_builtin; go_must (refine wpList_append_own _ rfl (.tmp 40) (.tmp 48) _ rfl (w1.heap.size + 1) 39 i0 _ 4 32 Try.underlying36 hi hz0 hz1 hz2 rfl (by omega) _ _ _ rfl (HS5.out.own.alloc _) ⟨w5.heap.size, 0, none⟩ 1 1 (x.row s) rfl rfl ?c1 ?c2 ?c3 ?c4 ?c5 ?_)))
      case c1 => exact fun j u hu => cells_new_at _ _ _ _ (by simp) j u hu
      case c2 => exact row_one x _
      case c3 => simp [maxLen]
      case c4 => simp
      case c5 => simp <;> omega
      intro v7 w7 hown hg hat
      have HS7 := Lib.hid (HS5.out.app hB hown hg)
      clear hown hg hat
      clear c0 c1 c2 c3 c4 e0 e1 hgl hg2
      obtain ⟨A7, cc7, rfl, _, _, _⟩ := own_slice HS7.out.own
      go_wp2
      go_ret
      exact ⟨_, rfl, by simp only [HPP.out, HSS.out]; simpa using own_mono HS7.out.own (by have := HS7.out.glt; omega), HS7.out.bel⟩
end Go.Proofs.Ythahcpanekdbaaa
