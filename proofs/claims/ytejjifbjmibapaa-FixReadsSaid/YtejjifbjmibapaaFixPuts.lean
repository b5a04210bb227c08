/- The walk of FixPuts. -/
import Derived.Test.YtejjifbjmibapaaFixS
namespace Go.Proofs.Ytejjifbjmibapaa
open Go.RowKit
set_option linter.unusedSimpArgs false
set_option linter.unusedVariables false
set_option maxHeartbeats 4000000
attribute [local go_sem] It.agg

theorem It.ans_len (x : It) : x.ans.1.length ≤ 62 := by
  have hc : x.cut.length ≤ 60 := by unfold It.cut; rw [List.length_take]; have := cutN_le2 x.len 60; omega
  unfold It.ans
  split
  · unfold It.num
    split
    · next hk =>
      have := (knownB_iff _).1 hk
      split
      · simp [big_len]; omega
      · simp
    · simp
  · split
    · show x.cut.length ≤ 62; omega
    · split
      · simp [big_len]; omega
      · simp
theorem FO.add_bad (s : FO) (r : List Int × Int) (h : s.e ≠ 0) : s.add r = s := by
  unfold FO.add; split
  · rw [FO.put, if_neg h]
  · rw [FO.fail, if_neg h]
theorem FO.add_err (s : FO) (r : List Int × Int) (h : s.e = 0) (hr : r.2 ≠ 0) : s.add r = ⟨s.l, s.m, r.2⟩ := by
  unfold FO.add; rw [if_neg hr, FO.fail, if_pos h]
theorem FO.add_long (s : FO) (r : List Int × Int) (h : s.e = 0) (hr : r.2 = 0) (hl : s.m - s.l.length < r.1.length) : s.add r = ⟨s.l, s.m, 6⟩ := by
  unfold FO.add; rw [if_pos hr, FO.put, if_pos h, if_pos hl]
theorem FO.add_ok (s : FO) (r : List Int × Int) (h : s.e = 0) (hr : r.2 = 0) (hl : ¬ s.m - s.l.length < r.1.length) : s.add r = ⟨s.l ++ r.1, s.m, s.e⟩ := by
  unfold FO.add; rw [if_pos hr, FO.put, if_pos h, if_neg hl]

structure PutsRel (w : World) (M : Int) (k : Nat) (v u : Value) (s : FO) (wr : World) : Prop where
  out : OutAt wr w.heap.size v s
  all : wr.ownsRow (w.heap.size + 1) 5 1 u s.l.length (s.l.map (Value.int .u8))
  dis : ∀ j, u.ownBlock = some j → v.ownBlock ≠ some j
  bel : Below w.heap.size w wr
  len : s.l.length ≤ k * 62
  most : s.m = M
theorem PutsRel.put {w wr w' : World} {M : Int} {k : Nat} {v v' u : Value} {s : FO} {r : List Int × Int} (h : PutsRel w M k v u s wr) (ho : OutAt w' w.heap.size v' (s.add r)) (hs : OutStep wr w' w.heap.size v v') :
    OutAt w' w.heap.size v' (s.add r) ∧ w'.ownsRow (w.heap.size + 1) 5 1 u s.l.length (s.l.map (Value.int .u8)) ∧ (∀ j, u.ownBlock = some j → v'.ownBlock ≠ some j) ∧ Below w.heap.size w w' := by
  refine ⟨ho, hs.2.own h.all (fun j hj hx => ?_), fun j hj => ?_, h.bel.trans (hs.2.below h.bel.size (fun j hj hx => ?_))⟩
  · rcases hx with hx | hx
    · have := (h.all.lt j hj).1; omega
    · exact h.dis j hj hx
  · rcases hs.1 with e | e
    · rw [e]; exact h.dis j hj
    · intro hx; have := e j hx; have := (h.all.lt j hj).2; omega
  · rcases hx with hx | hx
    · omega
    · have := (h.out.2.1.lt j hx).1; omega

theorem puts_step {w w3 w4 : World} {u v v1 : Value} {s : FO} {n : Nat} {xs : List Value} (ho : OutAt w3 w.heap.size v s) (hu : w3.ownsRow (w.heap.size + 1) 5 1 u n xs) (hd : ∀ j, u.ownBlock = some j → v.ownBlock ≠ some j) (hb : Below w.heap.size w w3)
    (hg : w3.grownBy w4 u.ownBlock) (hat : v1.ownBlock = u.ownBlock ∨ v1.ownBlock = some w3.heap.size) : OutAt w4 w.heap.size v s ∧ (∀ j, v1.ownBlock = some j → v.ownBlock ≠ some j) ∧ Below w.heap.size w w4 := by
  refine ⟨ho.chg (Chg.of_grown hg) (fun e => ?_) (fun j hj e => hd j e.symm hj), fun j hj hv => ?_, hb.grown hg hb.size (fun j hj => ?_)⟩
  · have := (hu.lt _ e.symm).1; omega
  · rcases hat with e | e
    · exact hd j (by rw [← e]; exact hj) hv
    · rw [hj] at e; injection e with e
      have := (ho.2.1.lt j hv).2; omega
  · have := (hu.lt _ hj).1; omega

theorem fixPuts_law (most : Int) (A : Option Addr) (len c : Nat) (xs : Nat → It) (w : World) (hm : most ≤ 9223372036854775807) (hlen : len ≤ maxLen) (hit : RdIts w w.heap.size A len xs) (hwf : ∀ k, k < len → (xs k).wf w) :
    Calls Try.prog 3 #[.int .i64 most, .slice A len c] w fun e w' => e = .returned (.bool true) ∧ Below w.heap.size w w' := by
  obtain ⟨i0, hi, hz0, hz1, hz2⟩ := info_parts byteInfo
  unfold maxLen at hlen
  have HT := Lib.hid hit
  have HW := Lib.hid hwf
  clear hit hwf
  go_enter Try.func3, Try.ntmps3
  go_wp2_with (fail)
  refine (new_any most hm _).mono ?_
  rintro e w1 ⟨rfl, h1, h2⟩
  have HR0 : Hid (PutsRel w (atLeast0 most) 0 (.slice none 0 0) (.slice none 0 0) ⟨[], atLeast0 most, 0⟩ w1) := Lib.hid ⟨h1, World.ownsRow_nil _ _ _ _, (fun j hj => (by cases hj)), h2, (by simp), rfl⟩
  clear h1 h2
  go_wp2_with (fail)
  go_loopw [6, 7, 8] (fun u bad i wr => ∃ (k : Nat) (v : Value) (s : FO), k ≤ len ∧ k ≤ 30 ∧ i = .int .i64 k ∧ bad = .int .i64 s.e ∧ Hid (PutsRel w (atLeast0 most) k v u s wr)) (fun _ _ i _ => 30 - (intOf i).toNat)
  case atStart => exact ⟨0, _, _, by omega, by omega, rfl, rfl, HR0⟩
  case round =>
    obtain ⟨k, v, s, hk, hk30, rfl, rfl, hR⟩ := hrel
    by_cases hlt : k < len ∧ k < 30
    · obtain ⟨hk1, hk2⟩ := hlt
      have hk1' : (k : Int) < len := by omega
      have hk2' : (k : Int) < 30 := by omega
      obtain ⟨b, off, rfl, hb, hcs⟩ := (HT.out.below hR.out.bel) (by omega)
      obtain ⟨c0, c1, c2, c3⟩ := hcs k hk1
      have hx := (HW.out k hk1).1.below hR.out.bel
      clear hcs
      go_wp2_with (fail)
      have hal := (xs k).ans_len
      have L := lawPut_any w.heap.size v s (xs k) w.heap.size wr hR.out.out hx (Nat.le_refl _) (by have := hR.out.len; omega)
      generalize (xs k).ans = r at L hal
      obtain ⟨rb, re⟩ := r
      have hal' : rb.length ≤ 62 := hal
      refine L.mono ?_
      rintro e w3 ⟨v', A3, cc, rfl, h1, h2, h3⟩
      have HP := Lib.hid (hR.out.put h1 h2)
      have HRd := Lib.hid h3
      have hsl : s.l.length ≤ 2000 := by have := hR.out.len; omega
      have hsm := hR.out.most
      have HL := Lib.hid hR.out.len
      have hmx : 0 ≤ s.m ∧ s.m ≤ 9223372036854775807 := hR.out.out.2.2
      clear L h1 h2 h3 hx c0 c1 c2 c3 hal hR
      by_cases he : s.e = 0
      · have he' : (s.e == 0) = true := by simp [he]
        by_cases hr : re = 0
        · have hr' : (re == 0) = true := by simp [hr]
          obtain ⟨A0, c0, rfl, _, _, _⟩ := own_slice HP.out.2.1
          have HM0 := Lib.hid hsm
          by_cases hlong : s.m - s.l.length < rb.length
          · have hA : Hid (s.add (rb, re) = ⟨s.l, s.m, 6⟩) := Lib.hid (s.add_long _ he hr hlong)
            rw [hA.out] at HP
            clear he hr
            by_cases hpos : 0 ≤ most
            all_goals
              simp only [atLeast0, hpos, if_true, if_false] at hsm
              have HSM := Lib.hid hsm
              rw [hsm] at hlong
              clear hsm
              go_wp2_with (fail)
              go_roundw
              case rel => exact ⟨k + 1, v', ⟨s.l, s.m, 6⟩, by omega, by omega, by go_num, rfl, Lib.hid ⟨HP.out.1, HP.out.2.1, HP.out.2.2.1, HP.out.2.2.2, (by show s.l.length ≤ _; have := HL.out; omega), HM0.out⟩⟩
              case measure => simp [intOf]; omega
          · have hA : Hid (s.add (rb, re) = ⟨s.l ++ rb, s.m, re⟩) := Lib.hid (by rw [s.add_ok _ he hr hlong]; simp [he, hr])
            rw [hA.out] at HP
            clear he hr
            by_cases hpos : 0 ≤ most
            all_goals
              simp only [atLeast0, hpos, if_true, if_false] at hsm
              have HSM := Lib.hid hsm
              rw [hsm] at hlong
              clear hsm
              go_wp2_with (at_builtin; go_must (refine wpList_append_any _ rfl (.tmp 55) (.tmp 56) _ rfl (w.heap.size + 1) 5 i0 _ 1 1 Try.underlying25 hi hz0 hz1 hz2 rfl (by omega) _ _ _ rfl HP.out.2.1 w3.heap.size A3 rb.length cc (rb.map (Value.int .u8)) rfl HRd.out ?c1 ?c2 ?c3 ?c4 ?_))
              case c1 => exact u8_one rb
              case c2 => unfold maxLen; omega
              case c3 => omega
              case c4 => have := HP.out.1.1.lt; omega
              intro v1 w4 hown hg hat
              have HN := Lib.hid (puts_step HP.out.1 HP.out.2.1 HP.out.2.2.1 HP.out.2.2.2 hg hat)
              have HO := Lib.hid hown
              clear hown hg hat
              go_wp2_with (fail)
              go_roundw
              case rel => exact ⟨k + 1, v', ⟨s.l ++ rb, s.m, re⟩, by omega, by omega, by go_num, rfl, Lib.hid ⟨HN.out.1, (by have := HO.out; rw [← List.map_append] at this; show World.ownsRow _ _ _ _ _ (s.l ++ rb).length _; rw [List.length_append]; exact this), HN.out.2.1, HN.out.2.2, (by show (s.l ++ rb).length ≤ _; rw [List.length_append]; have := HL.out; omega), HM0.out⟩⟩
              case measure => simp [intOf]; omega
        · have hr' : (re == 0) = false := by simp [hr]
          have hA : Hid (s.add (rb, re) = ⟨s.l, s.m, re⟩) := Lib.hid (s.add_err _ he hr)
          rw [hA.out] at HP
          clear he hr
          go_wp2_with (fail)
          go_roundw
          case rel => exact ⟨k + 1, v', ⟨s.l, s.m, re⟩, by omega, by omega, by go_num, rfl, Lib.hid ⟨HP.out.1, HP.out.2.1, HP.out.2.2.1, HP.out.2.2.2, (by show s.l.length ≤ _; have := HL.out; omega), hsm⟩⟩
          case measure => simp [intOf]; omega
      · have he' : (s.e == 0) = false := by simp [he]
        have hA : Hid (s.add (rb, re) = s) := Lib.hid (s.add_bad _ he)
        rw [hA.out] at HP
        clear he
        go_wp2_with (fail)
        go_roundw
        case rel => exact ⟨k + 1, v', s, by omega, by omega, by go_num, rfl, Lib.hid ⟨HP.out.1, HP.out.2.1, HP.out.2.2.1, HP.out.2.2.2, (by have := HL.out; omega), hsm⟩⟩
        case measure => simp [intOf]; omega
    · have hx : ¬ (k : Int) < len ∨ ((k : Int) < len ∧ ¬ (k : Int) < 30) := by omega
      have hsl : s.l.length ≤ 2000 := by have := hR.out.len; omega
      have D := done_any w.heap.size v s wr hR.out.out (by omega)
      have HB := Lib.hid hR.out.bel
      obtain ⟨A0, c0, rfl, hrd, _, _⟩ := own_slice hR.out.all
      have HA := Lib.hid hrd
      clear hR hrd
      by_cases he : s.e = 0
      · simp only [he, if_true] at D ⊢
        clear he
        rcases hx with hx | ⟨hx0, hx⟩
        all_goals
          go_wp2_with (fail)
          refine D.mono ?_
          rintro e w4 ⟨u, rfl, h1, h2⟩
          obtain ⟨A5, c5, rfl, h3, _, _⟩ := own_slice h1
          have H3 := Lib.hid h3
          have HB4 := Lib.hid (HB.out.trans (h2.mono HB.out.size))
          have HA4 := Lib.hid (HA.out.below h2)
          have hsz := h2.size
          clear h1 h2 h3 D
          go_wp2_with (fail)
          refine (same_any A5 A0 _ _ c5 c0 w4.heap.size wr.heap.size s.l s.l _ (Nat.le_refl _) hsz H3.out HA4.out (by omega)).mono ?_
          rintro e w5 ⟨rfl, h1⟩
          have H5 := Lib.hid (HB4.out.trans (h1.mono HB4.out.size))
          have hd : decide (s.l = s.l) = true := by simp
          rw [hd]
          clear h1 hd
          go_wp2_with (fail)
          refine (awake_any _).mono ?_
          rintro e w6 ⟨rfl, h1⟩
          have H6 := Lib.hid (H5.out.trans (h1.mono H5.out.size))
          clear h1
          go_wp2
          go_ret
          exact ⟨rfl, H6.out⟩
      · simp only [he, if_false] at D
        have he' : (s.e == 0) = false := by simp [he]
        have he2 : (s.e != 0) = true := by simp [he]
        clear he
        rcases hx with hx | ⟨hx0, hx⟩
        all_goals
          go_wp2_with (fail)
          refine D.mono ?_
          rintro e w4 ⟨u, rfl, h1, h2⟩
          obtain ⟨A5, c5, rfl, h3, _, _⟩ := own_slice h1
          have HB4 := Lib.hid (HB.out.trans (h2.mono HB.out.size))
          clear h1 h2 h3 D
          go_wp2_with (fail)
          refine (awake_any _).mono ?_
          rintro e w6 ⟨rfl, h1⟩
          have H6 := Lib.hid (HB4.out.trans (h1.mono HB4.out.size))
          clear h1
          go_wp2
          go_ret
          exact ⟨rfl, H6.out⟩
end Go.Proofs.Ytejjifbjmibapaa
