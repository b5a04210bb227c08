/- conf.All. -/
import Derived.Test.YtnnegldaekmgbaaGreatDoorZAtlB
import Derived.Test.YtnnegldaekmgbaaGreatDoorZRolC25
namespace Go.Proofs.YtnnegldaekmgbaaGreatDoor
open Go.RowKit
set_option linter.unusedSimpArgs false
set_option linter.unusedVariables false
set_option maxHeartbeats 8000000
set_option maxRecDepth 100000
attribute [local go_sem] Cf.agg Cf.cells

/-- the first k may be -/
def Ups (l : List Cf) (k : Nat) : Prop := ∀ j x, j < k → l[j]? = some x → x.ch = j ∧ x.right = true
def AllP (l : List Cf) : Prop := (1 ≤ l.length ∧ l.length ≤ 4) ∧ Ups l l.length ∧ Unl (l.flatMap Cf.stands)
open Classical in
noncomputable def allB (l : List Cf) : Bool := decide (AllP l)
theorem allB_no {l : List Cf} (h : ¬ AllP l) : false = allB l := by unfold allB; simp [h]
theorem allB_iff {l : List Cf} : allB l = true ↔ AllP l := by unfold allB; simp
theorem allB_tail {l : List Cf} (h1 : 1 ≤ l.length ∧ l.length ≤ 4) (h2 : Ups l l.length) : unlikeB (l.flatMap Cf.stands) = allB l := by
  unfold allB unlikeB AllP
  by_cases h : Unl (l.flatMap Cf.stands) <;> simp [h, h1.1, h1.2, h2]
theorem Ups.succ {l : List Cf} {k : Nat} {x : Cf} (h : Ups l k) (hx : l[k]? = some x) (hc : x.ch = k) (hr : x.right = true) : Ups l (k + 1) := by
  intro j y hj hy
  rcases Nat.lt_or_ge j k with hlt | hge
  · exact h j y hlt hy
  · obtain rfl : j = k := by omega
    rw [hx] at hy; injection hy with hy; subst hy; exact ⟨hc, hr⟩
theorem stands_le {x : Cf} {w : World} {B : Nat} (h : CfIn w B x) (hr : x.right = true) : x.stands.length ≤ 6 := by
  have h1 := h.len_eq
  have h2 := (Cf.right_fine hr).1.2.2.1.2
  unfold Cf.stands
  rw [List.length_append, h1]
  split <;> simp <;> omega
structure AllRel (w : World) (l : List Cf) (k : Nat) (v : Value) (m : List Int) (W : World) : Prop where
  own : W.ownsRow w.heap.size 3 1 v m.length (m.map (Value.int .i64))
  met : m = (l.take k).flatMap Cf.stands
  len : m.length ≤ 6 * k
  ups : Ups l k
  bel : Below w.heap.size w W
theorem AllRel.put {w W w2 w3 : World} {l : List Cf} {k : Nat} {v v3 : Value} {m : List Int} {x : Cf} (h : AllRel w l k v m W) (hx : l[k]? = some x) (hc : x.ch = k) (hr : x.right = true) (h6 : x.stands.length ≤ 6) (hb : Below W.heap.size W w2)
    (ho : w3.ownsRow w.heap.size 3 1 v3 (m.length + x.stands.length) (m.map (Value.int .i64) ++ x.stands.map (Value.int .i64))) (hg : w2.grownBy w3 v.ownBlock) : AllRel w l (k + 1) v3 (m ++ x.stands) w3 := by
  refine ⟨by rw [List.length_append, List.map_append]; exact ho, ?_, ?_, h.ups.succ hx hc hr, ?_⟩
  · rw [List.take_add_one, hx, List.flatMap_append, h.met]; simp
  · rw [List.length_append]; have := h.len; omega
  · exact (h.bel.trans (hb.mono h.bel.size)).grown hg (Nat.le_trans h.bel.size hb.size) (fun g hg' => (h.own.lt g hg').1)
theorem all_any (A : Option Addr) (n c B : Nat) (l : List Cf) (w : World) (hl : CfsIn w B A n l) (hB : B ≤ w.heap.size) :
    Calls Tryz.prog 102 #[.slice A n c] w fun e w' => e = .returned (.bool (allB l)) ∧ Below w.heap.size w w' := by
  obtain ⟨i0, hi, hz0, hz1, hz2⟩ := info_parts i64Info
  have hlen := hl.len
  have HL := Lib.hid hl
  clear hl
  by_cases h1 : n < 1
  · have hT := Lib.hid (allB_no (l := l) (fun h => by have := h.1.1; omega))
    clear hlen
    go_enter Tryz.func102, Tryz.ntmps102
    go_wp2
    go_ret
    exact ⟨ret_bool hT.out, Below.refl _ _⟩
  by_cases h4 : 4 < n
  · have hT := Lib.hid (allB_no (l := l) (fun h => by have := h.1.2; omega))
    clear hlen
    go_enter Tryz.func102, Tryz.ntmps102
    go_wp2
    go_ret
    exact ⟨ret_bool hT.out, Below.refl _ _⟩
  have HN : Hid (l.length = n) := Lib.hid hlen
  clear hlen
  go_enter Tryz.func102, Tryz.ntmps102
  go_wp2
  go_loopw [3, 16] (fun v i wr => ∃ (k : Nat) (m : List Int), k ≤ n ∧ i = .int .i64 k ∧ AllRel w l k v m wr) (fun _ i _ => n - (intOf i).toNat)
  case atStart => exact ⟨0, [], by omega, rfl, ⟨World.ownsRow_nil _ _ _ _, rfl, by simp, fun j x hj => by omega, Below.refl _ _⟩⟩
  case round =>
    obtain ⟨k, m, hk, rfl, hrel⟩ := hrel
    have HP := Lib.hid hrel
    have hml := hrel.len
    have hsz := hrel.bel.size
    clear hrel
    by_cases hlt : k < n
    · obtain ⟨b, off, x, hA, hb, hlx, hxin, q0, q1, q2, q3, q4⟩ := (HL.out.below (HP.out.bel.mono hB)).at_ hlt
      have HLX := Lib.hid hlx
      have HXI := Lib.hid hxin
      clear hlx hxin
      subst hA
      by_cases hch : x.ch = k
      · have hch' : (x.ch != (k : Int)) = false := by simp [hch]
        have HC := Lib.hid hch
        clear hch
        cases hR : x.right
        · have hT := Lib.hid (allB_no (l := l) (fun h => by have := (h.2.1 k x (by rw [HN.out]; exact hlt) HLX.out).2; rw [hR] at this; cases this))
          go_wp2_with (fail)
          refine (right_any x B _ (HXI.out.alloc (Nat.le_trans hB hsz) _) (by simp; omega)).mono ?_
          rintro e w1 ⟨rfl, h⟩
          have hb1 := Lib.hid (box_below h)
          clear h
          go_wp2
          go_ret
          exact ⟨ret_bool hT.out, HP.out.bel.trans (hb1.out.mono hsz)⟩
        · go_wp2_with (fail)
          refine (right_any x B _ (HXI.out.alloc (Nat.le_trans hB hsz) _) (by simp; omega)).mono ?_
          rintro e w1 ⟨rfl, h⟩
          obtain ⟨c0, c1, c2, c3, c4⟩ := cf_cells (x := x) ((Blk.new wr 44 x.cells).below h (by simp))
          have hb1 := Lib.hid (box_below h)
          have H6 := Lib.hid (stands_le HXI.out hR)
          have h5 := (Cf.right_fine hR).1.2.2.1.2
          have hs1 := hb1.out.size
          clear h
          go_wp2_with (fail)
          refine (everybody_any x B _ (HXI.out.below (hb1.out.mono (Nat.le_trans hB hsz))) (by omega) (by omega)).mono ?_
          rintro e w2 ⟨v2, rfl, ho2, hb2⟩
          obtain ⟨A2, cc2, rfl, hr2, _, _⟩ := own_slice ho2
          have R2 := Lib.hid hr2
          have B2 := Lib.hid (hb1.out.trans (hb2.mono hs1))
          have hs2 := hb2.size
          have hs6 := H6.out
          have OWN := Lib.hid (HP.out.own.kept (only_of_below B2.out none) (by cases u3.ownBlock <;> simp))
          clear ho2 hr2 hb2
          go_wp2_with (at_builtin; go_must (refine wpList_append_any _ rfl (.tmp 30) (.tmp 32) _ rfl w.heap.size 3 i0 _ 1 8 Tryz.underlying42 hi hz0 hz1 hz2 rfl (by omega) _ _ _ rfl OWN.out w2.heap.size A2 _ cc2 _ rfl R2.out ?c1 ?c2 ?c3 ?c4 ?_))
          case c1 => intro u hu; obtain ⟨z, _, rfl⟩ := List.mem_map.1 hu; rfl
          case c2 => unfold maxLen; omega
          case c3 => omega
          case c4 => omega
          intro v3 w3 hown hg _
          have P := Lib.hid (HP.out.put HLX.out HC.out hR H6.out B2.out hown hg)
          clear hown hg
          go_wp2_with (fail)
          exact ⟨⟨k + 1, _, hlt, rfl, P.out⟩, by simp [intOf]; omega⟩
      · have hch' : (x.ch != (k : Int)) = true := by simp [hch]
        have hT := Lib.hid (allB_no (l := l) (fun h => hch (h.2.1 k x (by rw [HN.out]; exact hlt) HLX.out).1))
        clear hch
        go_wp2_with (fail)
        go_ret
        exact ⟨ret_bool hT.out, HP.out.bel.alloc hsz _⟩
    · obtain rfl : k = n := by omega
      obtain ⟨A2, cc2, rfl, hr2, hc2, hm2⟩ := own_slice HP.out.own
      have R2 := Lib.hid hr2
      have hT := Lib.hid (allB_tail (l := l) (by rw [HN.out]; omega) (by rw [HN.out]; exact HP.out.ups))
      have hM : Hid (m = l.flatMap Cf.stands) := Lib.hid (by rw [HP.out.met, ← HN.out, List.take_length])
      clear hr2
      go_wp2_with (go_at_call 160; refine (unlike_any A2 _ cc2 _ m _ R2.out hc2 hm2).mono ?_; rintro e w' ⟨rfl, rfl⟩)
      go_ret
      exact ⟨ret_bool (by rw [hM.out]; exact hT.out), HP.out.bel⟩
end Go.Proofs.YtnnegldaekmgbaaGreatDoor
