/- The reference's Batch, Fits; SameUpdate, SameUpdates where they are the same. -/
import Derived.Test.YtfcjkkjgedcgpaaGreatDoorUpdH

namespace Go.Proofs.YtfcjkkjgedcgpaaGreatDoor
open Go.RowKit
set_option linter.unusedSimpArgs false
set_option linter.unusedVariables false
set_option maxHeartbeats 8000000
set_option maxRecDepth 100000
attribute [local go_sem] Up.agg Up.cells

theorem batch_state (a m : Int) (l : List Up) : pickS (batchStep a) m l = m - (pickL (batchStep a) m l).length := by
  induction l generalizing m with
  | nil => simp [pickS, pickL]
  | cons u r ih =>
    show pickS (batchStep a) (batchStep a m u).2 r = _
    rw [ih]
    unfold batchStep
    by_cases h : a < u.seq ∧ 1 ≤ m
    · rw [pickL_yes (s' := m - 1) (by rw [if_pos h]), if_pos h]; simp only [List.length_cons]; omega
    · rw [pickL_no (s' := m) (by rw [if_neg h]), if_neg h]
/-- an owned row of updates, no more said -/
structure RefAt (w : World) (o : List Up) (v : Value) (W : World) : Prop where
  own : W.ownsRow w.heap.size 29 7 v o.length (o.flatMap Up.row)
  bel : Below w.heap.size w W
theorem RefAt.app {w W W6 : World} {o : List Up} {v v' : Value} {u : Up} (h : RefAt w o v W) (hown : W6.ownsRow w.heap.size 29 7 v' (o.length + 1) (o.flatMap Up.row ++ u.row)) (hg : W.grownBy W6 v.ownBlock) : RefAt w (o ++ [u]) v' W6 :=
  ⟨by simpa [List.flatMap_append] using hown, h.bel.grown hg h.bel.size (fun k hk => (h.own.lt k hk).1)⟩
theorem pickL_sub {σ : Type} (step : σ → Up → Bool × σ) (s : σ) (l : List Up) : ∀ u ∈ pickL step s l, u ∈ l := by
  induction l generalizing s with
  | nil => simp [pickL]
  | cons x r ih =>
    intro u hu
    have := ih (step s x).2 u
    simp only [pickL] at hu
    split at hu
    · rw [List.mem_cons] at hu
      rcases hu with rfl | hu
      · simp
      · simp [this hu]
    · simp [this hu]

theorem refBatch_any (A : Option Addr) (n c B : Nat) (l : List Up) (a m : Int) (w : World) (hl : UpsIn w B A n l) (hB : B ≤ w.heap.size) (hn : n ≤ 1000000) :
    Calls Tryz.prog 31 #[.slice A n c, .int .u64 a, .int .i64 m] w fun e w' => ∃ v, e = .returned v ∧ RefAt w (pickL (batchStep a) m l) v w' := by
  obtain ⟨i0, hi, hz0, hz1, hz2⟩ := info_parts upInfo
  have HL := Lib.hid hl
  have hn1 : (n : Int) ≤ 1000000 := by omega
  have hlen : Hid (l.length = n) := Lib.hid hl.len
  have HP0 : Hid (RefAt w (pickL (batchStep a) m (l.take 0)) (.slice none 0 0) w) := Lib.hid ⟨World.ownsRow_nil _ _ _ _, Below.refl _ _⟩
  clear hl
  go_enter Tryz.func31, Tryz.ntmps31
  go_wp2
  go_loopw [7, 8] (fun va ia wr => ∃ (k : Nat), k ≤ n ∧ ia = .int .i64 k ∧ Hid (RefAt w (pickL (batchStep a) m (l.take k)) va wr)) (fun _ ia _ => n - (intOf ia).toNat)
  case atStart => exact ⟨0, by omega, rfl, HP0⟩
  case round =>
    clear HP0
    obtain ⟨k, hk, rfl, HP⟩ := hrel
    by_cases hlt : k < n
    · obtain ⟨b, off, u, rfl, hb, hu, hin, c0, c1, c2, c3, c4, c5, c6⟩ := (HL.out.below (HP.out.bel.mono hB)).at_ hlt
      have hlt' : (k : Int) < n := by omega
      have HU := Lib.hid hu
      have hT := pickL_take (batchStep a) m hu
      have hS := batch_state a m (l.take k)
      have hol : (pickL (batchStep a) m (l.take k)).length ≤ k := Nat.le_trans (pickL_len _ _ _) (by rw [List.length_take]; omega)
      clear hu hin
      rw [hS] at hT
      clear hS
      generalize pickL (batchStep a) m (l.take k) = o at *
      obtain ⟨A7, c7, rfl, _, _, _⟩ := own_slice HP.out.own
      by_cases h0 : a < u.seq
      · by_cases h1 : (o.length : Int) < m
        · have hv : batchStep a (m - o.length) u = (true, m - o.length - 1) := by rw [batchStep, if_pos ⟨h0, by omega⟩]
          rw [hv] at hT
          have hT' : Hid (pickL (batchStep a) m (l.take (k + 1)) = o ++ [u]) := Lib.hid (by rw [hT]; rfl)
          clear hv
          have HO5 := Lib.hid (HP.out.own.alloc (.cells (Up.cells u) 29))
          have HB5 := Lib.hid (HP.out.bel.alloc HP.out.bel.size (.cells (Up.cells u) 29))
          clear hT
          go_wp2_with (at_builtin; go_must (refine wpList_append_own _ rfl (.tmp 28) (.tmp 33) _ rfl w.heap.size 29 i0 _ 7 72 Tryz.underlying36 hi hz0 hz1 hz2 rfl (by omega) _ _ _ rfl HO5.out ⟨wr.heap.size, 0, none⟩ 1 1 (Up.row u) rfl rfl ?c1 ?c2 ?c3 ?c4 ?c5 ?_))
          case c1 => exact fun j x hx => cells_new_at _ _ _ _ (by simp) j x hx
          case c2 => exact up_one u
          case c3 => unfold maxLen; omega
          case c4 => omega
          case c5 => exact HB5.out.size
          intro v7 w7 hown hg hat
          have HP7 := Lib.hid (RefAt.app ⟨HO5.out, HB5.out⟩ hown hg)
          clear hown hg hat c0 c1 c2 c3 c4 c5 c6 HO5 HB5
          obtain ⟨A8, c8, rfl, _, _, _⟩ := own_slice HP7.out.own
          go_wp2_with (fail)
          go_roundw
          case rel => exact ⟨k + 1, by omega, by go_num, Lib.hid (by rw [hT'.out]; exact HP7.out)⟩
          case measure => simp [intOf]; omega
        · have hv : batchStep a (m - o.length) u = (false, m - o.length) := by rw [batchStep, if_neg (fun h => h1 (by have := h.2; omega))]
          rw [hv] at hT
          have hT' : Hid (pickL (batchStep a) m (l.take (k + 1)) = o) := Lib.hid (by rw [hT]; simp)
          clear hv
          have h1' : m ≤ (o.length : Int) := by omega
          clear hT h1
          go_wp2_with (fail)
          go_roundw
          case rel => exact ⟨k + 1, by omega, by go_num, Lib.hid (by rw [hT'.out]; exact HP.out)⟩
          case measure => simp [intOf]; omega
      · have hv : batchStep a (m - o.length) u = (false, m - o.length) := by rw [batchStep, if_neg (fun h => h0 h.1)]
        rw [hv] at hT
        have hT' : Hid (pickL (batchStep a) m (l.take (k + 1)) = o) := Lib.hid (by rw [hT]; simp)
        clear hv
        have h0' : u.seq ≤ a := by omega
        clear hT h0
        go_wp2_with (fail)
        go_roundw
        case rel => exact ⟨k + 1, by omega, by go_num, Lib.hid (by rw [hT'.out]; exact HP.out)⟩
        case measure => simp [intOf]; omega
    · obtain rfl : k = n := by omega
      go_wp2
      go_ret
      have := HP.out
      rw [List.take_of_length_le (by rw [hlen.out]; exact Nat.le_refl _)] at this
      exact ⟨_, rfl, this⟩

theorem up_of_val {a b : Up} (h : a.val = b.val) : b = { a with A := b.A, n := b.n, c := b.c } := by
  obtain ⟨s, c1, n1, k1, y1, v1, A1, m1, cc, b1⟩ := a
  obtain ⟨s', c', n', k', y', v', A', m', cc', b'⟩ := b
  simp only [Up.val, Prod.mk.injEq] at h
  obtain ⟨rfl, rfl, rfl, rfl, rfl, rfl, rfl⟩ := h
  rfl
theorem sameUp_any (u : Up) (A2 : Option Addr) (n2 c2 B D : Nat) (w : World) (h1 : UpIn w B u) (h2 : UpIn w D { u with A := A2, n := n2, c := c2 }) (hB : B ≤ w.heap.size) (hD : D ≤ w.heap.size) (hn : u.n ≤ 1000000) :
    Calls Tryz.prog 30 #[u.agg, Up.agg { u with A := A2, n := n2, c := c2 }] w fun e w' => e = .returned (.bool true) ∧ Below w.heap.size w w' := by
  have R1 := Lib.hid h1.rd
  have R2 : Hid (Reads w D 1 A2 n2 (u.bs.map (Value.int .u8))) := Lib.hid h2.rd
  clear h1 h2
  have HB : Hid (Below w.heap.size w ((w.alloc (.cells u.cells 29)).alloc (.cells (Up.cells { u with A := A2, n := n2, c := c2 }) 29))) := Lib.hid (((Below.refl _ _).alloc (Nat.le_refl _) _).alloc (by simp) _)
  have HL := Lib.hid HB.out.size
  go_enter Tryz.func30, Tryz.ntmps30
  go_wp2_with (fail)
  refine (same_any u.A A2 u.n n2 u.c c2 B D u.bs u.bs _ (Nat.le_trans hB HL.out) (Nat.le_trans hD HL.out) (R1.out.below (HB.out.mono hB)) (R2.out.below (HB.out.mono hD)) (by omega)).mono ?_
  rintro e w1 ⟨rfl, h⟩
  have H1 := Lib.hid (HB.out.trans (h.mono HL.out))
  clear h
  simp only [decide_true]
  go_wp2_with (fail)
  go_ret
  exact ⟨rfl, H1.out⟩
end Go.Proofs.YtfcjkkjgedcgpaaGreatDoor
