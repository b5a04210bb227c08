/- Contracts of All, Len, and of the law's like. -/
import Derived.Test.YtcmaekkfeilclaaSesE
import Derived.Laws.StructEq
namespace Go.Proofs.Ytcmaekkfeilclaa
open Go.RowKit
set_option linter.unusedSimpArgs false
set_option linter.unusedVariables false
set_option maxHeartbeats 1000000
set_option maxRecDepth 100000
attribute [local go_sem] Rw.agg Rw.cells

theorem srowInfo : (Try.prog.info? 28).map (fun i => (i.zero, i.size, i.bytes)) = some (some Rw.zero.agg, 5, 40) := by kernel_rfl

def AllRel (b0 : Nat) (w : World) (l : List Rw) (v : Value) (wr : World) : Prop :=
  wr.ownsRow b0 28 5 v l.length (l.flatMap Rw.vals) ∧ Below b0 w wr ∧ b0 ≤ wr.heap.size
theorem AllRel.own {b0 : Nat} {w wr : World} {l : List Rw} {v : Value} (h : AllRel b0 w l v wr) : wr.ownsRow b0 28 5 v l.length (l.flatMap Rw.vals) := h.1
theorem AllRel.app1 {b0 : Nat} {w wr w1 W : World} {l : List Rw} {r : Rw} {v v1 : Value} (h : AllRel b0 w l v wr) (hb : Below wr.heap.size wr W) (hown : w1.ownsRow b0 28 5 v1 (l.length + 1) (l.flatMap Rw.vals ++ r.vals)) (hg : W.grownBy w1 v.ownBlock) :
    AllRel b0 w (l ++ [r]) v1 w1 := by
  unfold AllRel
  rw [List.length_append, List.flatMap_append]
  exact ⟨by simpa using hown, (h.2.1.trans (hb.mono h.2.2)).grown hg (Nat.le_trans h.2.2 hb.size) (fun g hg' => (h.1.lt g hg').1), Nat.le_trans h.2.2 (Nat.le_trans hb.size hg.size)⟩
theorem AllRel.later {b0 : Nat} {w wr W : World} {l : List Rw} {v : Value} (h : AllRel b0 w l v wr) (hb : Below wr.heap.size wr W) : AllRel b0 w l v W :=
  ⟨h.1.kept (only_of_below hb none) (by cases v.ownBlock <;> simp), h.2.1.trans (hb.mono h.2.2), Nat.le_trans h.2.2 hb.size⟩

theorem all_any (g : Nat) (R : Nat → Rw) (w : World) (h : Tab w g R) :
    Calls Try.prog 18 #[.pointer (some ⟨g, 0, none⟩)] w fun e w' => ∃ v, e = .returned v ∧ AllRel w.heap.size w (seg R 0 6) v w' := by
  obtain ⟨i0, hi, hz0, hz1, hz2⟩ := info_parts srowInfo
  have H := Lib.hid h
  have hg := h.lt
  clear h
  go_enter Try.func18, Try.ntmps18
  go_wp2
  go_loopw [3, 7] (fun v i wr => ∃ (k : Nat) (m : List Rw), k ≤ 6 ∧ i = .int .i64 k ∧ Hid (m = seg R 0 k) ∧ m.length ≤ 6 ∧ AllRel w.heap.size w m v wr) (fun _ i _ => 6 - (intOf i).toNat)
  case atStart => exact ⟨0, [], by omega, rfl, Lib.hid rfl, by simp, ⟨World.ownsRow_nil _ _ _ _, Below.refl _ _, by simp⟩⟩
  case round =>
    obtain ⟨k, m, hk, rfl, hm, hml, hrel⟩ := hrel
    have HP := Lib.hid hrel
    have hsz := hrel.2.2
    clear hrel
    by_cases hlt : k < 6
    · have hc : Hid (clientB ((k : Int) + 1) = true) := Lib.hid ((clientB_iff _).2 (by omega))
      have hrow : Hid (rowOf ((k : Int) + 1) = k) := Lib.hid (by unfold rowOf; omega)
      cases hn : ((R k).n == 0)
      · have hB : getB R ((k : Int) + 1) = true := by rw [getB, hc.out, hrow.out, bne, hn]; rfl
        have hG : getR R ((k : Int) + 1) = R k := by rw [getR, hB, if_pos rfl, hrow.out]
        have hm1 : Hid (m ++ [R k] = seg R 0 (k + 1)) := Lib.hid (by
          rw [seg, hm.out, Nat.zero_add, if_neg (by simpa using hn)])
        have hm2 : (m ++ [R k]).length ≤ 6 := by rw [hm1.out]; exact Nat.le_trans (seg_len R 0 (k + 1)) (by omega)
        have HN := Lib.hid hn
        clear hn
        go_wp2_with (first | (go_at_call 8; refine (sesGet_any g R _ _ (H.out.below HP.out.2.1 hg)).mono ?_; rintro e w' ⟨rfl, rfl⟩) | (at_builtin; go_must (refine wpList_append_own _ rfl (.tmp 18) (.tmp 20) _ rfl w.heap.size 28 i0 _ 5 40 Try.underlying44 hi hz0 hz1 hz2 rfl (by omega) _ _ _ rfl (((HP.out.own.alloc _).alloc _).alloc _) ⟨wr.heap.size + 1 + 1, 0, none⟩ 1 1 (R k).vals rfl rfl ?c1 ?c2 ?c3 ?c4 ?c5 ?_)))
        case c1 => exact fun j u hu => cells_new_at _ _ _ _ (by simp) j u hu
        case c2 => exact vals_one _
        case c3 => unfold maxLen; omega
        case c4 => omega
        case c5 => simp; omega
        intro v1 w1 hown1 hg1 _
        have H1 := Lib.hid (HP.out.app1 (by exact (((Below.refl _ _).alloc (Nat.le_refl _) _).alloc (by simp) _).alloc (by simp; omega) _) hown1 hg1)
        clear hown1 hg1
        go_wp2
        go_roundw
        case rel => first | exact ⟨k + 1, _, by omega, by go_num, hm1, hm2, H1.out⟩ | ((repeat apply Exists.intro); exact ⟨⟨k + 1, _, by omega, by go_num, hm1, hm2, H1.out⟩, rfl⟩)
        case measure => simp [intOf]; omega
      · have hB : getB R ((k : Int) + 1) = false := by rw [getB, hc.out, hrow.out, bne, hn]; rfl
        have hm1 : Hid (m = seg R 0 (k + 1)) := Lib.hid (by
          rw [seg, hm.out, Nat.zero_add, if_pos (by simpa using hn), List.append_nil])
        have HN := Lib.hid hn
        clear hn
        go_wp2_with (first | (go_at_call 8; refine (sesGet_any g R _ _ (H.out.below HP.out.2.1 hg)).mono ?_; rintro e w' ⟨rfl, rfl⟩))
        go_roundw
        case rel => exact ⟨k + 1, _, by omega, by go_num, hm1, hml, HP.out.later (by exact ((Below.refl _ _).alloc (Nat.le_refl _) _).alloc (by simp) _)⟩
        case measure => simp [intOf]; omega
    · obtain rfl : k = 6 := by omega
      go_wp2
      go_ret
      exact ⟨_, rfl, by rw [← hm.out]; exact HP.out⟩

theorem len_any (g : Nat) (R : Nat → Rw) (w : World) (h : Tab w g R) :
    Calls Try.prog 16 #[.pointer (some ⟨g, 0, none⟩)] w fun e w' => e = .returned (.int .i64 (seg R 0 6).length) ∧ Below w.heap.size w w' := by
  go_enter Try.func16, Try.ntmps16
  go_wp2_with (fail)
  refine (all_any g R _ h).mono ?_
  rintro e w1 ⟨v, rfl, hv⟩
  obtain ⟨A, c, rfl, _, _, _⟩ := own_slice hv.own
  have HB := Lib.hid hv.2.1
  clear hv
  go_wp2_with (fail)
  go_ret
  exact ⟨rfl, HB.out⟩

theorem like_any (A B : Option Addr) (n c d b1 b2 : Nat) (l : List Rw) (w : World) (hn : n ≤ 65536) (hb1 : b1 ≤ w.heap.size) (hb2 : b2 ≤ w.heap.size) (h1 : Reads w b1 5 A n (l.flatMap Rw.vals)) (h2 : Reads w b2 5 B n (l.flatMap Rw.vals)) :
    Calls Try.prog 17 #[.slice A n c, .slice B n d] w fun e w' => e = .returned (.bool true) ∧ Below w.heap.size w w' := by
  have H1 := Lib.hid h1
  have H2 := Lib.hid h2
  clear h1 h2
  go_enter Try.func17, Try.ntmps17
  go_wp2
  go_loopw [5] (fun i wr => ∃ k : Nat, k ≤ n ∧ i = .int .i64 k ∧ Hid (Below w.heap.size w wr)) (fun i _ => n - (intOf i).toNat)
  case atStart => exact ⟨0, by omega, rfl, Lib.hid (Below.refl _ _)⟩
  case round =>
    obtain ⟨k, hk, rfl, HB⟩ := hrel
    by_cases hlt : k < n
    · obtain ⟨ba, oa, x, rfl, hba, hx, hc⟩ := rows_at H1.out hlt
      obtain ⟨bb, ob, y, rfl, hbb, hy, hd⟩ := rows_at H2.out hlt
      obtain rfl : x = y := Option.some.inj (hx.symm.trans hy)
      obtain ⟨c0, c1, c2, c3, c4⟩ := hc.keep (w' := wr) (fun p hp => HB.out.cell (by omega))
      obtain ⟨d0, d1, d2, d3, d4⟩ := hd.keep (w' := wr) (fun p hp => HB.out.cell (by omega))
      have hkn : (k : Int) < n := by omega
      have hsz := HB.out.size
      have ha : ba < wr.heap.size := by omega
      have hb : bb < wr.heap.size := by omega
      clear hx hy hc hd
      go_wp2_with (fail)
      go_region_held3 (fun w' => w'.cell? ⟨ba, oa + k * 5, none⟩ = some (.int .i64 x.c) ∧ w'.cell? ⟨ba, oa + k * 5 + 1, none⟩ = some (.int .u64 x.n) ∧ w'.cell? ⟨ba, oa + k * 5 + 2, none⟩ = some (.int .u64 x.s) ∧ w'.cell? ⟨ba, oa + k * 5 + 3, none⟩ = some (.int .i64 x.k) ∧ w'.cell? ⟨ba, oa + k * 5 + 4, none⟩ = some (.int .u64 x.v) ∧ w'.cell? ⟨bb, ob + k * 5, none⟩ = some (.int .i64 x.c) ∧ w'.cell? ⟨bb, ob + k * 5 + 1, none⟩ = some (.int .u64 x.n) ∧ w'.cell? ⟨bb, ob + k * 5 + 2, none⟩ = some (.int .u64 x.s) ∧ w'.cell? ⟨bb, ob + k * 5 + 3, none⟩ = some (.int .i64 x.k) ∧ w'.cell? ⟨bb, ob + k * 5 + 4, none⟩ = some (.int .u64 x.v)) (go_keep) (first | (go_at_call 11; refine (ours_any x _).mono ?_; rintro e w' ⟨rfl, rfl⟩))
      all_goals go_wp2
      all_goals
        go_roundw
        case rel => exact ⟨k + 1, by omega, by go_num, Lib.hid (below_step HB.out hsz (by repeat (first | exact Below.refl _ _ | refine below_drewN ?_ _ | refine Below.drew ?_ | refine Below.alloc ?_ (by simp <;> omega) _)))⟩
        case measure => simp [intOf]; omega
    · obtain rfl : k = n := by omega
      go_wp2
      go_ret
      exact ⟨rfl, HB.out⟩

end Go.Proofs.Ytcmaekkfeilclaa
