/- Contracts: Reports, of both. -/
import Derived.Test.YthahcpanekdbaaaRolK
namespace Go.Proofs.Ythahcpanekdbaaa
open Go.RowKit
set_option linter.unusedSimpArgs false
set_option linter.unusedVariables false
set_option linter.unnecessarySimpa false
set_option maxHeartbeats 20000000
set_option maxRecDepth 100000
attribute [local go_sem] Cf.agg Cf.cells Rl.agg Rl.cells

theorem cmdInfo : (Try.prog.info? 39).map (fun i => (i.zero, i.size, i.bytes)) = some (some (.agg #[.int .i64 0, .int .i64 0, .int .u64 0, .int .i64 0]), 4, 32) := by kernel_rfl
def Cf.row (x : Cf) (n : Int) : List Value := [.int .i64 1, .int .i64 x.ch, .int .u64 x.ep, .int .i64 n]
theorem Cf.row_len (x : Cf) (n : Int) : (x.row n).length = 4 := rfl
def pick1 (n : Int) (ds : List Int) : List Int := if n ≠ 0 ∧ n ∈ ds then [n] else []
noncomputable def Cf.rep (x : Cf) (node : Int) (ds : List Int) : List Int := pick1 (x.role node).pred ds ++ pick1 (x.role node).succ ds
theorem row_one (x : Cf) (n : Int) : ∀ u ∈ x.row n, u.oneCell' = true := by
  intro u hu
  unfold Cf.row at hu
  simp at hu
  rcases hu with rfl | rfl | rfl | rfl <;> rfl
theorem pick_cases (n : Int) (ds : List Int) : (n = 0 ∧ pick1 n ds = []) ∨ ((n != 0) = true ∧ decide (n ∈ ds) = false ∧ pick1 n ds = []) ∨ ((n != 0) = true ∧ decide (n ∈ ds) = true ∧ pick1 n ds = [n]) := by
  unfold pick1
  by_cases h : n = 0
  · exact .inl ⟨h, by simp [h]⟩
  · by_cases hd : n ∈ ds
    · exact .inr (.inr ⟨by simp [h], by simp [hd], by simp [h, hd]⟩)
    · exact .inr (.inl ⟨by simp [h], by simp [hd], by simp [hd]⟩)
/-- the memory of Reports: the box, what it has made -/
structure RS (w : World) (x : Cf) (i j g : Nat) (p s : Int) (B : Nat) (C : Option Addr) (m : Nat) (ds : List Int) (v : Value) (l : List Int) (W : World) : Prop where
  box : Blk W w.heap.size 25 x.cells
  lit : W.cell? ⟨g, i, none⟩ = some (.int .i64 p) ∧ W.cell? ⟨g, j, none⟩ = some (.int .i64 s)
  glt : w.heap.size < g ∧ g < W.heap.size
  own : W.ownsRow (g + 1) 39 4 v l.length (l.flatMap x.row)
  rd : Reads W B 1 C m (ds.map (Value.int .i64))
  bel : Below w.heap.size w W
theorem RS.app {w W w1 : World} {x : Cf} {i j g B m : Nat} {p s n : Int} {C : Option Addr} {ds l : List Int} {v v1 : Value} {o : Obj} (h : RS w x i j g p s B C m ds v l W) (hB : B ≤ w.heap.size)
    (hown : w1.ownsRow (g + 1) 39 4 v1 (l.length + 1) (l.flatMap x.row ++ x.row n)) (hg : (W.alloc o).grownBy w1 v.ownBlock) : RS w x i j g p s B C m ds v1 (l ++ [n]) w1 := by
  have hlt := fun k hk => (h.own.lt k hk).1
  have hgl := h.glt
  have hc : ∀ a : Addr, a.block < W.heap.size → a.block ≤ g → w1.cell? a = W.cell? a := fun a h1 h2 =>
    (World.cell?_of_block (hg.block a.block (by simp; omega) (fun e => by have := hlt _ e.symm; omega))).trans (((Below.refl W.heap.size W).alloc (Nat.le_refl _) o).cell h1)
  refine ⟨?_, ⟨(hc _ hgl.2 (Nat.le_refl _)).trans h.lit.1, (hc _ hgl.2 (Nat.le_refl _)).trans h.lit.2⟩, ⟨hgl.1, by have := hg.size; simp at this; omega⟩, ?_, ?_, ?_⟩
  · exact (h.box.alloc o).grown hg (fun e => by have := hlt _ e.symm; omega)
  · rw [List.length_append, List.flatMap_append]; simpa using hown
  · exact (h.rd.alloc (Nat.le_trans hB h.bel.size) o).grown hg (by have := h.bel.size; simp; omega) (fun k hk => by have := hlt k hk; omega)
  · exact (h.bel.alloc h.bel.size o).grown hg (by have := h.bel.size; simp; omega) (fun k hk => by have := hlt k hk; omega)


theorem reports_any (x : Cf) (node : Int) (C : Option Addr) (m d B : Nat) (ds : List Int) (w : World) (hx : CfIn w B x) (hB : B ≤ w.heap.size) (hd : Reads w B 1 C m (ds.map (Value.int .i64))) (hm : m ≤ maxLen) :
    Calls Try.prog 16 #[x.agg, .int .i64 node, .slice C m d] w fun e w' => ∃ v, e = .returned v ∧ w'.ownsRow w.heap.size 39 4 v (x.rep node ds).length ((x.rep node ds).flatMap x.row) ∧ Below w.heap.size w w' := by
  obtain ⟨i0, hi, hz0, hz1, hz2⟩ := info_parts cmdInfo
  have HX := Lib.hid hx
  have HD := Lib.hid hd
  have O := fun w => of_any x node B w
  unfold Cf.rep
  clear hx hd
  generalize x.role node = r at O ⊢
  obtain ⟨ra, rb, rc, rd, re, rf, p, s⟩ := r
  simp only []
  go_enter Try.func16, Try.ntmps16
  go_wp2_with (fail)
  refine (O _ (HX.out.alloc hB _) (by simp; omega)).mono ?_
  rintro e w1 ⟨rfl, h⟩
  have HB1 := Lib.hid (box_below h)
  have HBX := Lib.hid ((Blk.new w 25 x.cells).below h (by simp))
  clear h O
  go_wp2
  refine wp_loop_rounds 3 ?_
  rw [rounds_succ]
  have HC : Hid ((0 : Int) ≤ 0) := Lib.hid (by omega)
  have hS : RS w x 0 1 (w1.heap.size + 1) p s B C m ds (.slice none 0 0) [] ((w1.alloc (.cells #[.bool ra, .bool rb, .bool rc, .bool rd, .bool re, .int .i64 rf, .int .i64 p, .int .i64 s] 28)).alloc (.cells #[.int .i64 p, .int .i64 s] 3)) := by
    refine ⟨(HBX.out.alloc _).alloc _, ⟨?_, ?_⟩, ⟨by have := HBX.out.lt; omega, by simp⟩, World.ownsRow_nil _ _ _ _, (((HD.out.below (HB1.out.mono hB)).alloc (Nat.le_trans hB HB1.out.size) _).alloc (by have := HB1.out.size; simp; omega) _), (HB1.out.alloc HB1.out.size _).alloc (by have := HB1.out.size; simp; omega) _⟩
    · have := cells_new_at (w1.alloc (.cells #[.bool ra, .bool rb, .bool rc, .bool rd, .bool re, .int .i64 rf, .int .i64 p, .int .i64 s] 28)) #[.int .i64 p, .int .i64 s] 3 (w1.heap.size + 1) (by simp) 0 _ rfl
      simpa [Addr.add] using this
    · have := cells_new_at (w1.alloc (.cells #[.bool ra, .bool rb, .bool rc, .bool rd, .bool re, .int .i64 rf, .int .i64 p, .int .i64 s] 28)) #[.int .i64 p, .int .i64 s] 3 (w1.heap.size + 1) (by simp) 1 _ rfl
      simpa [Addr.add] using this
  generalize (w1.alloc (.cells #[.bool ra, .bool rb, .bool rc, .bool rd, .bool re, .int .i64 rf, .int .i64 p, .int .i64 s] 28)).alloc (.cells #[.int .i64 p, .int .i64 s] 3) = W0 at hS ⊢
  generalize w1.heap.size + 1 = g at hS ⊢
  have HS := Lib.hid hS
  clear hS HBX HB1 HD HX
  rcases pick_cases p ds with ⟨rfl, hp⟩ | ⟨hp1, hp2, hp⟩ | ⟨hp1, hp2, hp⟩
  · have HPP := Lib.hid hp
    clear hp
    obtain ⟨c0, c1, c2, c3, c4⟩ := cf_cells (x := x) HS.out.box; obtain ⟨e0, e1⟩ := HS.out.lit; have hgl := HS.out.glt; have hg2 := hgl.2; have hc2 := HC.out
    go_wp2_with (fail)
    clear c0 c1 c2 c3 c4 e0 e1 hgl hg2 hc2
    rw [rounds_succ]
    rcases pick_cases s ds with ⟨rfl, hs⟩ | ⟨hs1, hs2, hs⟩ | ⟨hs1, hs2, hs⟩
    · have HSS := Lib.hid hs
      clear hs
      obtain ⟨c0, c1, c2, c3, c4⟩ := cf_cells (x := x) HS.out.box; obtain ⟨e0, e1⟩ := HS.out.lit; have hgl := HS.out.glt; have hg2 := hgl.2; have hc2 := HC.out
      go_wp2_with (fail)
      clear c0 c1 c2 c3 c4 e0 e1 hgl hg2 hc2
      rw [rounds_succ]
      go_wp2
      go_ret
      exact ⟨_, rfl, by simp only [HPP.out, HSS.out]; simpa using own_mono HS.out.own (by have := HS.out.glt; omega), HS.out.bel⟩
    · have HSS := Lib.hid hs
      clear hs
      obtain ⟨c0, c1, c2, c3, c4⟩ := cf_cells (x := x) HS.out.box; obtain ⟨e0, e1⟩ := HS.out.lit; have hgl := HS.out.glt; have hg2 := hgl.2; have hc2 := HC.out
      go_wp2_with (first | (go_at_call 26; refine (contains_any C m d B ds _ _ HS.out.rd hm).mono ?_; rintro e w' ⟨rfl, rfl⟩) | fail)
      clear c0 c1 c2 c3 c4 e0 e1 hgl hg2 hc2
      rw [rounds_succ]
      go_wp2
      go_ret
      exact ⟨_, rfl, by simp only [HPP.out, HSS.out]; simpa using own_mono HS.out.own (by have := HS.out.glt; omega), HS.out.bel⟩
    · have HSS := Lib.hid hs
      clear hs
      obtain ⟨c0, c1, c2, c3, c4⟩ := cf_cells (x := x) HS.out.box; obtain ⟨e0, e1⟩ := HS.out.lit; have hgl := HS.out.glt; have hg2 := hgl.2; have hc2 := HC.out
      go_wp2_with (first | (go_at_call 26; refine (contains_any C m d B ds _ _ HS.out.rd hm).mono ?_; rintro e w' ⟨rfl, rfl⟩) | (at_builtin; go_must (refine wpList_append_own _ rfl (.tmp 31) (.tmp 38) _ rfl (g + 1) 39 i0 _ 4 32 Try.underlying36 hi hz0 hz1 hz2 rfl (by omega) _ _ _ rfl (HS.out.own.alloc _) ⟨W0.heap.size, 0, none⟩ 1 1 (x.row s) rfl rfl ?c1 ?c2 ?c3 ?c4 ?c5 ?_)))
      case c1 => exact fun j u hu => cells_new_at _ _ _ _ (by simp) j u hu
      case c2 => exact row_one x _
      case c3 => simp [maxLen]
      case c4 => simp
      case c5 => simp; omega
      intro v7 w7 hown hg hat
      have HS7 := Lib.hid (HS.out.app hB hown hg)
      clear hown hg hat c0 c1 c2 c3 c4 e0 e1 hgl hg2 hc2
      obtain ⟨A7, cc7, rfl, _, _, _⟩ := own_slice HS7.out.own
      go_wp2
      rw [rounds_succ]
      go_wp2
      go_ret
      exact ⟨_, rfl, by simp only [HPP.out, HSS.out]; simpa using own_mono HS7.out.own (by have := HS7.out.glt; omega), HS7.out.bel⟩
  · have HPP := Lib.hid hp
    clear hp
    obtain ⟨c0, c1, c2, c3, c4⟩ := cf_cells (x := x) HS.out.box; obtain ⟨e0, e1⟩ := HS.out.lit; have hgl := HS.out.glt; have hg2 := hgl.2; have hc2 := HC.out
    go_wp2_with (first | (go_at_call 26; refine (contains_any C m d B ds _ _ HS.out.rd hm).mono ?_; rintro e w' ⟨rfl, rfl⟩) | fail)
    clear c0 c1 c2 c3 c4 e0 e1 hgl hg2 hc2
    rw [rounds_succ]
    rcases pick_cases s ds with ⟨rfl, hs⟩ | ⟨hs1, hs2, hs⟩ | ⟨hs1, hs2, hs⟩
    · have HSS := Lib.hid hs
      clear hs
      obtain ⟨c0, c1, c2, c3, c4⟩ := cf_cells (x := x) HS.out.box; obtain ⟨e0, e1⟩ := HS.out.lit; have hgl := HS.out.glt; have hg2 := hgl.2; have hc2 := HC.out
      go_wp2_with (fail)
      clear c0 c1 c2 c3 c4 e0 e1 hgl hg2 hc2
      rw [rounds_succ]
      go_wp2
      go_ret
      exact ⟨_, rfl, by simp only [HPP.out, HSS.out]; simpa using own_mono HS.out.own (by have := HS.out.glt; omega), HS.out.bel⟩
    · have HSS := Lib.hid hs
      clear hs
      obtain ⟨c0, c1, c2, c3, c4⟩ := cf_cells (x := x) HS.out.box; obtain ⟨e0, e1⟩ := HS.out.lit; have hgl := HS.out.glt; have hg2 := hgl.2; have hc2 := HC.out
      go_wp2_with (first | (go_at_call 26; refine (contains_any C m d B ds _ _ HS.out.rd hm).mono ?_; rintro e w' ⟨rfl, rfl⟩) | fail)
      clear c0 c1 c2 c3 c4 e0 e1 hgl hg2 hc2
      rw [rounds_succ]
      go_wp2
      go_ret
      exact ⟨_, rfl, by simp only [HPP.out, HSS.out]; simpa using own_mono HS.out.own (by have := HS.out.glt; omega), HS.out.bel⟩
    · have HSS := Lib.hid hs
      clear hs
      obtain ⟨c0, c1, c2, c3, c4⟩ := cf_cells (x := x) HS.out.box; obtain ⟨e0, e1⟩ := HS.out.lit; have hgl := HS.out.glt; have hg2 := hgl.2; have hc2 := HC.out
      go_wp2_with (first | (go_at_call 26; refine (contains_any C m d B ds _ _ HS.out.rd hm).mono ?_; rintro e w' ⟨rfl, rfl⟩) | (at_builtin; go_must (refine wpList_append_own _ rfl (.tmp 31) (.tmp 38) _ rfl (g + 1) 39 i0 _ 4 32 Try.underlying36 hi hz0 hz1 hz2 rfl (by omega) _ _ _ rfl (HS.out.own.alloc _) ⟨W0.heap.size, 0, none⟩ 1 1 (x.row s) rfl rfl ?c1 ?c2 ?c3 ?c4 ?c5 ?_)))
      case c1 => exact fun j u hu => cells_new_at _ _ _ _ (by simp) j u hu
      case c2 => exact row_one x _
      case c3 => simp [maxLen]
      case c4 => simp
      case c5 => simp; omega
      intro v7 w7 hown hg hat
      have HS7 := Lib.hid (HS.out.app hB hown hg)
      clear hown hg hat c0 c1 c2 c3 c4 e0 e1 hgl hg2 hc2
      obtain ⟨A7, cc7, rfl, _, _, _⟩ := own_slice HS7.out.own
      go_wp2
      rw [rounds_succ]
      go_wp2
      go_ret
      exact ⟨_, rfl, by simp only [HPP.out, HSS.out]; simpa using own_mono HS7.out.own (by have := HS7.out.glt; omega), HS7.out.bel⟩
  · have HPP := Lib.hid hp
    clear hp
    obtain ⟨c0, c1, c2, c3, c4⟩ := cf_cells (x := x) HS.out.box; obtain ⟨e0, e1⟩ := HS.out.lit; have hgl := HS.out.glt; have hg2 := hgl.2; have hc2 := HC.out
    go_wp2_with (first | (go_at_call 26; refine (contains_any C m d B ds _ _ HS.out.rd hm).mono ?_; rintro e w' ⟨rfl, rfl⟩) | (at_builtin; go_must (refine wpList_append_own _ rfl (.tmp 31) (.tmp 38) _ rfl (g + 1) 39 i0 _ 4 32 Try.underlying36 hi hz0 hz1 hz2 rfl (by omega) _ _ _ rfl (HS.out.own.alloc _) ⟨W0.heap.size, 0, none⟩ 1 1 (x.row p) rfl rfl ?c1 ?c2 ?c3 ?c4 ?c5 ?_)))
    case c1 => exact fun j u hu => cells_new_at _ _ _ _ (by simp) j u hu
    case c2 => exact row_one x _
    case c3 => simp [maxLen]
    case c4 => simp
    case c5 => simp; omega
    intro v5 w5 hown hg hat
    have HS5 := Lib.hid (HS.out.app hB hown hg)
    clear hown hg hat c0 c1 c2 c3 c4 e0 e1 hgl hg2 hc2
    obtain ⟨A5, cc5, rfl, _, _, _⟩ := own_slice HS5.out.own
    go_wp2
    rw [rounds_succ]
    rcases pick_cases s ds with ⟨rfl, hs⟩ | ⟨hs1, hs2, hs⟩ | ⟨hs1, hs2, hs⟩
    · have HSS := Lib.hid hs
      clear hs
      obtain ⟨c0, c1, c2, c3, c4⟩ := cf_cells (x := x) HS5.out.box; obtain ⟨e0, e1⟩ := HS5.out.lit; have hgl := HS5.out.glt; have hg2 := hgl.2; have hc2 := HC.out
      go_wp2_with (fail)
      clear c0 c1 c2 c3 c4 e0 e1 hgl hg2 hc2
      rw [rounds_succ]
      go_wp2
      go_ret
      exact ⟨_, rfl, by simp only [HPP.out, HSS.out]; simpa using own_mono HS5.out.own (by have := HS5.out.glt; omega), HS5.out.bel⟩
    · have HSS := Lib.hid hs
      clear hs
      obtain ⟨c0, c1, c2, c3, c4⟩ := cf_cells (x := x) HS5.out.box; obtain ⟨e0, e1⟩ := HS5.out.lit; have hgl := HS5.out.glt; have hg2 := hgl.2; have hc2 := HC.out
      go_wp2_with (first | (go_at_call 26; refine (contains_any C m d B ds _ _ HS5.out.rd hm).mono ?_; rintro e w' ⟨rfl, rfl⟩) | fail)
      clear c0 c1 c2 c3 c4 e0 e1 hgl hg2 hc2
      rw [rounds_succ]
      go_wp2
      go_ret
      exact ⟨_, rfl, by simp only [HPP.out, HSS.out]; simpa using own_mono HS5.out.own (by have := HS5.out.glt; omega), HS5.out.bel⟩
    · have HSS := Lib.hid hs
      clear hs
      obtain ⟨c0, c1, c2, c3, c4⟩ := cf_cells (x := x) HS5.out.box; obtain ⟨e0, e1⟩ := HS5.out.lit; have hgl := HS5.out.glt; have hg2 := hgl.2; have hc2 := HC.out
      go_wp2_with (first | (go_at_call 26; refine (contains_any C m d B ds _ _ HS5.out.rd hm).mono ?_; rintro e w' ⟨rfl, rfl⟩) | (at_builtin; go_must (refine wpList_append_own _ rfl (.tmp 31) (.tmp 38) _ rfl (g + 1) 39 i0 _ 4 32 Try.underlying36 hi hz0 hz1 hz2 rfl (by omega) _ _ _ rfl (HS5.out.own.alloc _) ⟨w5.heap.size, 0, none⟩ 1 1 (x.row s) rfl rfl ?c1 ?c2 ?c3 ?c4 ?c5 ?_)))
      case c1 => exact fun j u hu => cells_new_at _ _ _ _ (by simp) j u hu
      case c2 => exact row_one x _
      case c3 => simp [maxLen]
      case c4 => simp
      case c5 => simp; omega
      intro v7 w7 hown hg hat
      have HS7 := Lib.hid (HS5.out.app hB hown hg)
      clear hown hg hat c0 c1 c2 c3 c4 e0 e1 hgl hg2 hc2
      obtain ⟨A7, cc7, rfl, _, _, _⟩ := own_slice HS7.out.own
      go_wp2
      rw [rounds_succ]
      go_wp2
      go_ret
      exact ⟨_, rfl, by simp only [HPP.out, HSS.out]; simpa using own_mono HS7.out.own (by have := HS7.out.glt; omega), HS7.out.bel⟩
end Go.Proofs.Ythahcpanekdbaaa
