/- catenaryref09.All. -/
import Derived.Test.YtidfnajbanjnaaaAtlI
namespace Go.Proofs.Ytidfnajbanjnaaa
open Go.RowKit
set_option linter.unusedSimpArgs false
set_option linter.unusedVariables false
set_option maxHeartbeats 8000000
set_option maxRecDepth 100000
attribute [local go_sem] Cf.agg Cf.cells

theorem allB_end {l : List Cf} (h2 : Ups l l.length) : (decide (1 ≤ l.length) && (decide (l.length ≤ 4) && unlikeB (l.flatMap Cf.stands))) = allB l := by
  by_cases h1 : 1 ≤ l.length ∧ l.length ≤ 4
  · rw [allB_tail h1 h2]; simp [h1]
  · rw [← allB_no (fun h => h1 h.1)]
    by_cases h3 : 1 ≤ l.length
    · have h4 : ¬ l.length ≤ 4 := fun h => h1 ⟨h3, h⟩
      simp [h4]
    · simp [h3]
theorem refAll_any (A : Option Addr) (n c B : Nat) (l : List Cf) (w : World) (hl : CfsIn w B A n l) (hB : B ≤ w.heap.size) (hn : n ≤ 1000) :
    Calls Try.prog 10 #[.slice A n c] w fun e w' => e = .returned (.bool (allB l)) ∧ Below w.heap.size w w' := by
  obtain ⟨i0, hi, hz0, hz1, hz2⟩ := info_parts i64Info
  have hlen := hl.len
  have HL := Lib.hid hl
  have HN : Hid (l.length = n) := Lib.hid hlen
  clear hl hlen
  go_enter Try.func10, Try.ntmps10
  go_wp2
  go_loopw [3, 4] (fun v i wr => ∃ (k : Nat) (m : List Int), k ≤ n ∧ i = .int .i64 k ∧ AllRel w l k v m wr) (fun _ i _ => n - (intOf i).toNat)
  case atStart => exact ⟨0, [], by omega, rfl, ⟨World.ownsRow_nil _ _ _ _, rfl, by simp, fun j x hj => by omega, Below.refl _ _⟩⟩
  case round =>
    obtain ⟨k, m, hk, rfl, hrel⟩ := hrel
    have HP := Lib.hid hrel
    have hml := hrel.len
    have hsz := hrel.bel.size
    clear hrel
    by_cases hlt : k < n
    · obtain ⟨b, off, x, hA, hb, hlx, hxin, q0, q1, q2, q3, q4⟩ := (HL.out.below (HP.out.bel.mono hB)).at_ hlt
      have HLX := Lib.hid hlx
      have HXI := Lib.hid hxin
      clear hlx hxin
      subst hA
      have O := Lib.hid (refRight_any x B wr HXI.out (Nat.le_trans hB hsz))
      cases hR : x.right
      · have hT := Lib.hid (allB_no (l := l) (fun h => by have := (h.2.1 k x (by rw [HN.out]; exact hlt) HLX.out).2; rw [hR] at this; cases this))
        go_wp2_with (fail)
        refine O.out.mono ?_
        rintro e w1 ⟨rfl, h⟩
        have hb1 := Lib.hid h
        clear h
        go_wp2
        go_ret
        exact ⟨ret_bool hT.out, HP.out.bel.trans (hb1.out.mono hsz)⟩
      · by_cases hch : x.ch = k
        · have hch' : (x.ch != (k : Int)) = false := by simp [hch]
          have HC := Lib.hid hch
          clear hch
          go_wp2_with (fail)
          refine O.out.mono ?_
          rintro e w1 ⟨rfl, h⟩
          have hb1 := Lib.hid h
          have hs1 := h.size
          have p0 := (h.cell (p := ⟨b, off + k * 5, none⟩) (by show b < _; omega)).trans q0
          have p1 := (h.cell (p := ⟨b, off + k * 5 + 1, none⟩) (by show b < _; omega)).trans q1
          have p2 := (h.cell (p := ⟨b, off + k * 5 + 2, none⟩) (by show b < _; omega)).trans q2
          have p3 := (h.cell (p := ⟨b, off + k * 5 + 3, none⟩) (by show b < _; omega)).trans q3
          have p4 := (h.cell (p := ⟨b, off + k * 5 + 4, none⟩) (by show b < _; omega)).trans q4
          have H6 := Lib.hid (stands_le HXI.out hR)
          have h5 := (Cf.right_fine hR).1.2.2.1.2
          clear h
          go_wp2_with (fail)
          refine (stands_any x B _ (HXI.out.below (hb1.out.mono (Nat.le_trans hB hsz))) (by omega) (by omega)).mono ?_
          rintro e w2 ⟨v2, rfl, ho2, hb2⟩
          obtain ⟨A2, cc2, rfl, hr2, _, _⟩ := own_slice ho2
          have R2 := Lib.hid hr2
          have B2 := Lib.hid (hb1.out.trans (hb2.mono hs1))
          have hs2 := hb2.size
          have hs6 := H6.out
          have OWN := Lib.hid (HP.out.own.kept (only_of_below B2.out none) (by cases u3.ownBlock <;> simp))
          clear ho2 hr2 hb2
          go_wp2_with (at_builtin; go_must (refine wpList_append_any _ rfl (.tmp 26) (.tmp 31) _ rfl w.heap.size 3 i0 _ 1 8 Try.underlying33 hi hz0 hz1 hz2 rfl (by omega) _ _ _ rfl OWN.out w2.heap.size A2 _ cc2 _ rfl R2.out ?c1 ?c2 ?c3 ?c4 ?_))
          case c1 => intro u hu; obtain ⟨z, _, rfl⟩ := List.mem_map.1 hu; rfl
          case c2 => unfold maxLen; omega
          case c3 => omega
          case c4 => omega
          intro v3 w3 hown hg _
          have P := Lib.hid (HP.out.put HLX.out HC.out hR H6.out B2.out hown hg)
          clear hown hg
          go_wp2_with (fail)
          exact ⟨⟨k + 1, _, hlt, rfl, P.out⟩, by simp [intOf]; omega⟩
        · have hch' : (x.ch != (k : Int)) = true := by simp [hch]
          have hT := Lib.hid (allB_no (l := l) (fun h => hch (h.2.1 k x (by rw [HN.out]; exact hlt) HLX.out).1))
          clear hch
          go_wp2_with (fail)
          refine O.out.mono ?_
          rintro e w1 ⟨rfl, h⟩
          have hb1 := Lib.hid h
          have p0 := (h.cell (p := ⟨b, off + k * 5, none⟩) (by show b < _; omega)).trans q0
          clear h
          go_wp2
          go_ret
          exact ⟨ret_bool hT.out, HP.out.bel.trans (hb1.out.mono hsz)⟩
    · obtain rfl : k = n := by omega
      obtain ⟨A2, cc2, rfl, hr2, hc2, hm2⟩ := own_slice HP.out.own
      have R2 := Lib.hid hr2
      have hT := Lib.hid (allB_end (l := l) (by rw [HN.out]; exact HP.out.ups))
      have hM : Hid (m = l.flatMap Cf.stands) := Lib.hid (by rw [HP.out.met, ← HN.out, List.take_length])
      clear hr2
      rw [HN.out] at hT
      by_cases h1 : 1 ≤ k ∧ k ≤ 4
      · have hT2 : Hid (unlikeB m = allB l) := Lib.hid (by rw [← hT.out, hM.out]; simp [h1])
        go_wp2_with (fail)
        refine (refUnlike_any A2 _ cc2 _ m _ R2.out hc2 hm2).mono ?_
        rintro e w1 ⟨rfl, h⟩
        have hb1 := Lib.hid h
        clear h
        go_wp2
        go_ret
        exact ⟨ret_bool hT2.out, HP.out.bel.trans (hb1.out.mono hsz)⟩
      · have hT2 : Hid (false = allB l) := Lib.hid (allB_no (fun h => h1 (by rw [← HN.out]; exact h.1)))
        by_cases h3 : 1 ≤ k
        · have h4 : ¬ k ≤ 4 := fun h => h1 ⟨h3, h⟩
          go_wp2
          go_ret
          exact ⟨ret_bool hT2.out, HP.out.bel⟩
        · go_wp2
          go_ret
          exact ⟨ret_bool hT2.out, HP.out.bel⟩
end Go.Proofs.Ytidfnajbanjnaaa
