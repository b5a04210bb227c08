/- The walk of BagRises. -/
import Derived.Test.YtpkmbnmlepmceaaBagJ
namespace Go.Proofs.Ytpkmbnmlepmceaa
open Go.RowKit
set_option linter.unusedSimpArgs false
set_option linter.unusedVariables false
set_option maxHeartbeats 16000000
set_option maxRecDepth 100000

theorem bagRises_law (A : Option Addr) (n c : Nat) (l : List Op3) (w : World) (hr : Reads w w.heap.size 3 A n (l.flatMap opc)) (hn : n ≤ c) (hc : c ≤ maxLen) :
    Calls Try.prog 4 #[.slice A n c] w fun e w' => e = .returned (.bool true) ∧ Below w.heap.size w w' := by
  unfold maxLen at hc
  have HR := Lib.hid hr
  have hn1 : (n : Int) ≤ 9223372036854775807 := by omega
  clear hr
  go_enter Try.func4, Try.ntmps4
  go_wp2_with (fail)
  refine (new_any 50 _).mono ?_
  rintro e w1 ⟨rfl, hA, hb⟩
  have HX : Hid (BagAt w1 w.heap.size (.slice none 0 0) ⟨50, 0, []⟩ ∧ Srt ⟨50, 0, []⟩ ∧ 0 ≤ (0 : Int) ∧ (0 : Int) ≤ ((0 : Nat) : Int) ∧ ([] : List (Int × Int)).length ≤ 0) := Lib.hid ⟨hA, ⟨by simp, by simp⟩, by omega, by omega, by simp⟩
  have HB0 := Lib.hid hb
  clear hA hb
  go_wp2_with (fail)
  go_loopw [4, 5, 6, 7] (fun ia _ _ _ wr => ∃ (i : Nat) (v : Value) (s : Bg), i ≤ n ∧ i ≤ 60 ∧ ia = .int .i64 i ∧ Hid (BagAt wr w.heap.size v s ∧ Srt s ∧ 0 ≤ s.last ∧ s.last ≤ (i : Int) ∧ s.l.length ≤ i) ∧ Hid (Below w.heap.size w wr)) (fun ia _ _ _ _ => 60 - (intOf ia).toNat)
  case atStart => exact ⟨0, _, _, by omega, by omega, rfl, HX, HB0⟩
  case round =>
    clear HX HB0
    obtain ⟨i, v, s, hin, hi60, rfl, H, HB⟩ := hrel
    by_cases hlt : i < n ∧ i < 60
    · obtain ⟨hl1, hl2⟩ := hlt
      have hl1' : (i : Int) < n := by omega
      have hl2' : (i : Int) < 60 := by omega
      obtain ⟨b, off, o, rfl, hbb, ho, hcs⟩ := reads_at opc opc_len (by omega) HR.out hl1
      have HO : Hid (∀ W, Below w.heap.size w W → W.cell? ⟨b, off + i * 3, none⟩ = some (.int .i64 o.1) ∧ W.cell? ⟨b, off + i * 3 + 1, none⟩ = some (.int .i64 o.2.1) ∧ W.cell? ⟨b, off + i * 3 + 2, none⟩ = some (.int .i64 o.2.2)) := Lib.hid (fun W hW =>
        ⟨(hW.cell (p := ⟨b, off + i * 3, none⟩) hbb).trans (hcs 0 _ rfl), (hW.cell (p := ⟨b, off + i * 3 + 1, none⟩) hbb).trans (hcs 1 _ rfl), (hW.cell (p := ⟨b, off + i * 3 + 2, none⟩) hbb).trans (hcs 2 _ rfl)⟩)
      obtain ⟨d0, d1, d2⟩ := HO.out _ HB.out
      have HA0 := Lib.hid H.out.1
      obtain ⟨hl0, hl3, hl4⟩ := H.out.2.2
      clear hcs ho
      by_cases hk0 : o.1 = 0
      · have ek0 : (o.1 == 0) = true := by simp [hk0]
        clear hk0
        go_wp2_with (first
          | (go_at_call 12; refine (last_any w.heap.size v s _ HA0.out).mono ?_; rintro e w9 ⟨rfl, rfl⟩)
          | fail)
        refine (put_any w.heap.size v s o.2.2 _ HA0.out (by omega) hl0 (by omega)).mono ?_
        rintro e wA ⟨rfl, v', hA, hS⟩
        have HA := Lib.hid hA
        have HBB := Lib.hid (HB.out.trans (hS.below HA0.out (Nat.le_refl _)))
        have hup := Lib.hid (up_put H.out.2.1 o.2.2 hl0)
        clear hA hS d0 d1 d2
        obtain ⟨u1, u2, u3⟩ := hup.out
        have hs1 : (s.put o.2.2).last ≤ (i : Int) + 1 := by omega
        have hs0 : 0 ≤ (s.put o.2.2).last := by omega
        have hs2 : (s.put o.2.2).l.length ≤ i + 1 := by omega
        have e1 : ¬ (s.put o.2.2).last < s.last := by omega
        have e2 : ¬ s.last + 1 < (s.put o.2.2).last := by omega
        have e3 : IntKind.i64.wrap (s.last + 1) = s.last + 1 := by rw [IntKind.wrap_i64]; omega
        have HSR := Lib.hid u1
        clear hup u1 u2 u3
        generalize s.put o.2.2 = s2 at *
        go_wp2_with (first
          | (go_at_call 12; refine (last_any w.heap.size v' s2 _ HA.out).mono ?_; rintro e w9 ⟨rfl, rfl⟩)
          | fail)
        clear e1 e2 e3
        go_loopw [6, 7] (fun ka _ wx => ∃ (k : Nat), k ≤ s2.l.length ∧ ka = .int .i64 k ∧ Hid (BagAt wx w.heap.size v' s2) ∧ Hid (Below w.heap.size w wx)) (fun ka _ _ => s2.l.length - (intOf ka).toNat)
        case atStart => exact ⟨0, by omega, rfl, HA, HBB⟩
        case round =>
          clear HA HBB
          obtain ⟨k, hk, rfl, HA, HBB⟩ := hrel
          by_cases hkl : k < s2.l.length
          · have hkl' : (k : Int) < s2.l.length := by omega
            obtain ⟨p, hp⟩ : ∃ p, s2.l[k]? = some p := ⟨_, List.getElem?_eq_getElem hkl⟩
            have hno := no_at hp
            obtain ⟨up1, up2⟩ := upto_at HSR.out hp
            have hlo := HSR.out.lo p (List.mem_of_getElem? hp)
            have t1 : ¬ p.1 < 1 := by omega
            have t2 : ¬ s2.last < p.1 := by omega
            have t3 : IntKind.i64.wrap (p.1 - 1) = p.1 - 1 := by rw [IntKind.wrap_i64]; omega
            have hpB : p.1 ≤ 9223372036854775807 := by omega
            have hpB2 : p.1 - 1 ≤ 9223372036854775807 := by omega
            by_cases hk0 : k = 0
            · subst hk0
              have hno' : s2.no 0 = p.1 := by simpa using hno
              clear hp hno
              go_wp2_with (first
                | (go_at_call 11; refine (len_any w.heap.size v' s2 _ HA.out).mono ?_; rintro e w9 ⟨rfl, rfl⟩)
                | (go_at_call 17; refine (no_any w.heap.size v' s2 _ _ HA.out).mono ?_; rintro e w9 ⟨rfl, rfl⟩)
                | (go_at_call 12; refine (last_any w.heap.size v' s2 _ HA.out).mono ?_; rintro e w9 ⟨rfl, rfl⟩)
                | fail)
              refine (upto_any w.heap.size v' s2 _ _ HA.out (by omega) HSR.out (by omega) hpB).mono ?_
              rintro e w9 ⟨rfl, h9⟩
              replace HA := Lib.hid (HA.out.below h9)
              replace HBB := Lib.hid (HBB.out.trans (h9.mono HBB.out.size))
              clear h9
              go_wp2_with (fail)
              refine (upto_any w.heap.size v' s2 _ _ HA.out (by omega) HSR.out (by omega) hpB2).mono ?_
              rintro e w9 ⟨rfl, h9⟩
              replace HA := Lib.hid (HA.out.below h9)
              replace HBB := Lib.hid (HBB.out.trans (h9.mono HBB.out.size))
              clear h9
              go_wp2_with (fail)
              go_roundw
              case rel => exact ⟨1, by omega, by go_num, HA, HBB⟩
              case measure => simp [intOf]; omega
            · obtain ⟨m, rfl⟩ : ∃ m, k = m + 1 := ⟨k - 1, by omega⟩
              obtain ⟨q, hq⟩ : ∃ q, s2.l[m]? = some q := ⟨_, List.getElem?_eq_getElem (by omega)⟩
              have hno2 := no_at hq
              have hno' : s2.no ((m : Int) + 1) = p.1 := by simpa using hno
              have t5 : ¬ p.1 ≤ q.1 := by have := HSR.out.lt hq hp (by omega); omega
              have t7 : (0 : Int) < (m : Int) + 1 := by omega
              clear hp hq hno hk0
              go_wp2_with (first
                | (go_at_call 11; refine (len_any w.heap.size v' s2 _ HA.out).mono ?_; rintro e w9 ⟨rfl, rfl⟩)
                | (go_at_call 17; refine (no_any w.heap.size v' s2 _ _ HA.out).mono ?_; rintro e w9 ⟨rfl, rfl⟩)
                | (go_at_call 12; refine (last_any w.heap.size v' s2 _ HA.out).mono ?_; rintro e w9 ⟨rfl, rfl⟩)
                | fail)
              refine (upto_any w.heap.size v' s2 _ _ HA.out (by omega) HSR.out (by omega) hpB).mono ?_
              rintro e w9 ⟨rfl, h9⟩
              replace HA := Lib.hid (HA.out.below h9)
              replace HBB := Lib.hid (HBB.out.trans (h9.mono HBB.out.size))
              clear h9
              go_wp2_with (fail)
              refine (upto_any w.heap.size v' s2 _ _ HA.out (by omega) HSR.out (by omega) hpB2).mono ?_
              rintro e w9 ⟨rfl, h9⟩
              replace HA := Lib.hid (HA.out.below h9)
              replace HBB := Lib.hid (HBB.out.trans (h9.mono HBB.out.size))
              clear h9
              go_wp2_with (fail)
              go_roundw
              case rel => exact ⟨m + 1 + 1, by omega, by go_num, HA, HBB⟩
              case measure => simp [intOf]; omega
          · obtain rfl : k = s2.l.length := by omega
            go_wp2_with (first
              | (go_at_call 11; refine (len_any w.heap.size v' s2 _ HA.out).mono ?_; rintro e w9 ⟨rfl, rfl⟩)
              | fail)
            go_roundw
            case rel => exact ⟨i + 1, v', s2, by omega, by omega, by go_num, Lib.hid ⟨HA.out, HSR.out, by omega, by omega, hs2⟩, HBB⟩
            case measure => simp [intOf]; omega
      have ek0 : (o.1 == 0) = false := by simp [hk0]
      clear hk0
      by_cases hk1 : o.1 = 1
      · have ek1 : (o.1 == 1) = true := by simp [hk1]
        clear hk1
        go_wp2_with (first
          | (go_at_call 12; refine (last_any w.heap.size v s _ HA0.out).mono ?_; rintro e w9 ⟨rfl, rfl⟩)
          | fail)
        refine (twice_any w.heap.size v s o.2.1 _ HA0.out (by omega) hl0 (by omega)).mono ?_
        rintro e wA ⟨rfl, v', hA, hS⟩
        have HA := Lib.hid hA
        have HBB := Lib.hid (HB.out.trans (hS.below HA0.out (Nat.le_refl _)))
        have hup := Lib.hid (up_twice H.out.2.1 o.2.1 hl0)
        clear hA hS d0 d1 d2
        obtain ⟨u1, u2, u3⟩ := hup.out
        have hs1 : (s.twice o.2.1).last ≤ (i : Int) + 1 := by omega
        have hs0 : 0 ≤ (s.twice o.2.1).last := by omega
        have hs2 : (s.twice o.2.1).l.length ≤ i + 1 := by omega
        have e1 : ¬ (s.twice o.2.1).last < s.last := by omega
        have e2 : ¬ s.last + 1 < (s.twice o.2.1).last := by omega
        have e3 : IntKind.i64.wrap (s.last + 1) = s.last + 1 := by rw [IntKind.wrap_i64]; omega
        have HSR := Lib.hid u1
        clear hup u1 u2 u3
        generalize s.twice o.2.1 = s2 at *
        go_wp2_with (first
          | (go_at_call 12; refine (last_any w.heap.size v' s2 _ HA.out).mono ?_; rintro e w9 ⟨rfl, rfl⟩)
          | fail)
        clear e1 e2 e3
        go_loopw [6, 7] (fun ka _ wx => ∃ (k : Nat), k ≤ s2.l.length ∧ ka = .int .i64 k ∧ Hid (BagAt wx w.heap.size v' s2) ∧ Hid (Below w.heap.size w wx)) (fun ka _ _ => s2.l.length - (intOf ka).toNat)
        case atStart => exact ⟨0, by omega, rfl, HA, HBB⟩
        case round =>
          clear HA HBB
          obtain ⟨k, hk, rfl, HA, HBB⟩ := hrel
          by_cases hkl : k < s2.l.length
          · have hkl' : (k : Int) < s2.l.length := by omega
            obtain ⟨p, hp⟩ : ∃ p, s2.l[k]? = some p := ⟨_, List.getElem?_eq_getElem hkl⟩
            have hno := no_at hp
            obtain ⟨up1, up2⟩ := upto_at HSR.out hp
            have hlo := HSR.out.lo p (List.mem_of_getElem? hp)
            have t1 : ¬ p.1 < 1 := by omega
            have t2 : ¬ s2.last < p.1 := by omega
            have t3 : IntKind.i64.wrap (p.1 - 1) = p.1 - 1 := by rw [IntKind.wrap_i64]; omega
            have hpB : p.1 ≤ 9223372036854775807 := by omega
            have hpB2 : p.1 - 1 ≤ 9223372036854775807 := by omega
            by_cases hk0 : k = 0
            · subst hk0
              have hno' : s2.no 0 = p.1 := by simpa using hno
              clear hp hno
              go_wp2_with (first
                | (go_at_call 11; refine (len_any w.heap.size v' s2 _ HA.out).mono ?_; rintro e w9 ⟨rfl, rfl⟩)
                | (go_at_call 17; refine (no_any w.heap.size v' s2 _ _ HA.out).mono ?_; rintro e w9 ⟨rfl, rfl⟩)
                | (go_at_call 12; refine (last_any w.heap.size v' s2 _ HA.out).mono ?_; rintro e w9 ⟨rfl, rfl⟩)
                | fail)
              refine (upto_any w.heap.size v' s2 _ _ HA.out (by omega) HSR.out (by omega) hpB).mono ?_
              rintro e w9 ⟨rfl, h9⟩
              replace HA := Lib.hid (HA.out.below h9)
              replace HBB := Lib.hid (HBB.out.trans (h9.mono HBB.out.size))
              clear h9
              go_wp2_with (fail)
              refine (upto_any w.heap.size v' s2 _ _ HA.out (by omega) HSR.out (by omega) hpB2).mono ?_
              rintro e w9 ⟨rfl, h9⟩
              replace HA := Lib.hid (HA.out.below h9)
              replace HBB := Lib.hid (HBB.out.trans (h9.mono HBB.out.size))
              clear h9
              go_wp2_with (fail)
              go_roundw
              case rel => exact ⟨1, by omega, by go_num, HA, HBB⟩
              case measure => simp [intOf]; omega
            · obtain ⟨m, rfl⟩ : ∃ m, k = m + 1 := ⟨k - 1, by omega⟩
              obtain ⟨q, hq⟩ : ∃ q, s2.l[m]? = some q := ⟨_, List.getElem?_eq_getElem (by omega)⟩
              have hno2 := no_at hq
              have hno' : s2.no ((m : Int) + 1) = p.1 := by simpa using hno
              have t5 : ¬ p.1 ≤ q.1 := by have := HSR.out.lt hq hp (by omega); omega
              have t7 : (0 : Int) < (m : Int) + 1 := by omega
              clear hp hq hno hk0
              go_wp2_with (first
                | (go_at_call 11; refine (len_any w.heap.size v' s2 _ HA.out).mono ?_; rintro e w9 ⟨rfl, rfl⟩)
                | (go_at_call 17; refine (no_any w.heap.size v' s2 _ _ HA.out).mono ?_; rintro e w9 ⟨rfl, rfl⟩)
                | (go_at_call 12; refine (last_any w.heap.size v' s2 _ HA.out).mono ?_; rintro e w9 ⟨rfl, rfl⟩)
                | fail)
              refine (upto_any w.heap.size v' s2 _ _ HA.out (by omega) HSR.out (by omega) hpB).mono ?_
              rintro e w9 ⟨rfl, h9⟩
              replace HA := Lib.hid (HA.out.below h9)
              replace HBB := Lib.hid (HBB.out.trans (h9.mono HBB.out.size))
              clear h9
              go_wp2_with (fail)
              refine (upto_any w.heap.size v' s2 _ _ HA.out (by omega) HSR.out (by omega) hpB2).mono ?_
              rintro e w9 ⟨rfl, h9⟩
              replace HA := Lib.hid (HA.out.below h9)
              replace HBB := Lib.hid (HBB.out.trans (h9.mono HBB.out.size))
              clear h9
              go_wp2_with (fail)
              go_roundw
              case rel => exact ⟨m + 1 + 1, by omega, by go_num, HA, HBB⟩
              case measure => simp [intOf]; omega
          · obtain rfl : k = s2.l.length := by omega
            go_wp2_with (first
              | (go_at_call 11; refine (len_any w.heap.size v' s2 _ HA.out).mono ?_; rintro e w9 ⟨rfl, rfl⟩)
              | fail)
            go_roundw
            case rel => exact ⟨i + 1, v', s2, by omega, by omega, by go_num, Lib.hid ⟨HA.out, HSR.out, by omega, by omega, hs2⟩, HBB⟩
            case measure => simp [intOf]; omega
      have ek1 : (o.1 == 1) = false := by simp [hk1]
      clear hk1
      by_cases hk2 : o.1 = 2
      · have ek2 : (o.1 == 2) = true := by simp [hk2]
        clear hk2
        go_wp2_with (first
          | (go_at_call 12; refine (last_any w.heap.size v s _ HA0.out).mono ?_; rintro e w9 ⟨rfl, rfl⟩)
          | fail)
        refine (take_any w.heap.size v s o.2.1 _ HA0.out).mono ?_
        rintro e wA ⟨rfl, v', hA, hS⟩
        have HA := Lib.hid hA
        have HBB := Lib.hid (HB.out.trans (hS.below HA0.out (Nat.le_refl _)))
        have hup := Lib.hid (up_take H.out.2.1 o.2.1)
        clear hA hS d0 d1 d2
        obtain ⟨u1, u2, u3⟩ := hup.out
        have hs1 : (s.take o.2.1).last ≤ (i : Int) + 1 := by omega
        have hs0 : 0 ≤ (s.take o.2.1).last := by omega
        have hs2 : (s.take o.2.1).l.length ≤ i + 1 := by omega
        have e1 : ¬ (s.take o.2.1).last < s.last := by omega
        have e2 : ¬ s.last + 1 < (s.take o.2.1).last := by omega
        have e3 : IntKind.i64.wrap (s.last + 1) = s.last + 1 := by rw [IntKind.wrap_i64]; omega
        have HSR := Lib.hid u1
        clear hup u1 u2 u3
        generalize s.take o.2.1 = s2 at *
        go_wp2_with (first
          | (go_at_call 12; refine (last_any w.heap.size v' s2 _ HA.out).mono ?_; rintro e w9 ⟨rfl, rfl⟩)
          | fail)
        clear e1 e2 e3
        go_loopw [6, 7] (fun ka _ wx => ∃ (k : Nat), k ≤ s2.l.length ∧ ka = .int .i64 k ∧ Hid (BagAt wx w.heap.size v' s2) ∧ Hid (Below w.heap.size w wx)) (fun ka _ _ => s2.l.length - (intOf ka).toNat)
        case atStart => exact ⟨0, by omega, rfl, HA, HBB⟩
        case round =>
          clear HA HBB
          obtain ⟨k, hk, rfl, HA, HBB⟩ := hrel
          by_cases hkl : k < s2.l.length
          · have hkl' : (k : Int) < s2.l.length := by omega
            obtain ⟨p, hp⟩ : ∃ p, s2.l[k]? = some p := ⟨_, List.getElem?_eq_getElem hkl⟩
            have hno := no_at hp
            obtain ⟨up1, up2⟩ := upto_at HSR.out hp
            have hlo := HSR.out.lo p (List.mem_of_getElem? hp)
            have t1 : ¬ p.1 < 1 := by omega
            have t2 : ¬ s2.last < p.1 := by omega
            have t3 : IntKind.i64.wrap (p.1 - 1) = p.1 - 1 := by rw [IntKind.wrap_i64]; omega
            have hpB : p.1 ≤ 9223372036854775807 := by omega
            have hpB2 : p.1 - 1 ≤ 9223372036854775807 := by omega
            by_cases hk0 : k = 0
            · subst hk0
              have hno' : s2.no 0 = p.1 := by simpa using hno
              clear hp hno
              go_wp2_with (first
                | (go_at_call 11; refine (len_any w.heap.size v' s2 _ HA.out).mono ?_; rintro e w9 ⟨rfl, rfl⟩)
                | (go_at_call 17; refine (no_any w.heap.size v' s2 _ _ HA.out).mono ?_; rintro e w9 ⟨rfl, rfl⟩)
                | (go_at_call 12; refine (last_any w.heap.size v' s2 _ HA.out).mono ?_; rintro e w9 ⟨rfl, rfl⟩)
                | fail)
              refine (upto_any w.heap.size v' s2 _ _ HA.out (by omega) HSR.out (by omega) hpB).mono ?_
              rintro e w9 ⟨rfl, h9⟩
              replace HA := Lib.hid (HA.out.below h9)
              replace HBB := Lib.hid (HBB.out.trans (h9.mono HBB.out.size))
              clear h9
              go_wp2_with (fail)
              refine (upto_any w.heap.size v' s2 _ _ HA.out (by omega) HSR.out (by omega) hpB2).mono ?_
              rintro e w9 ⟨rfl, h9⟩
              replace HA := Lib.hid (HA.out.below h9)
              replace HBB := Lib.hid (HBB.out.trans (h9.mono HBB.out.size))
              clear h9
              go_wp2_with (fail)
              go_roundw
              case rel => exact ⟨1, by omega, by go_num, HA, HBB⟩
              case measure => simp [intOf]; omega
            · obtain ⟨m, rfl⟩ : ∃ m, k = m + 1 := ⟨k - 1, by omega⟩
              obtain ⟨q, hq⟩ : ∃ q, s2.l[m]? = some q := ⟨_, List.getElem?_eq_getElem (by omega)⟩
              have hno2 := no_at hq
              have hno' : s2.no ((m : Int) + 1) = p.1 := by simpa using hno
              have t5 : ¬ p.1 ≤ q.1 := by have := HSR.out.lt hq hp (by omega); omega
              have t7 : (0 : Int) < (m : Int) + 1 := by omega
              clear hp hq hno hk0
              go_wp2_with (first
                | (go_at_call 11; refine (len_any w.heap.size v' s2 _ HA.out).mono ?_; rintro e w9 ⟨rfl, rfl⟩)
                | (go_at_call 17; refine (no_any w.heap.size v' s2 _ _ HA.out).mono ?_; rintro e w9 ⟨rfl, rfl⟩)
                | (go_at_call 12; refine (last_any w.heap.size v' s2 _ HA.out).mono ?_; rintro e w9 ⟨rfl, rfl⟩)
                | fail)
              refine (upto_any w.heap.size v' s2 _ _ HA.out (by omega) HSR.out (by omega) hpB).mono ?_
              rintro e w9 ⟨rfl, h9⟩
              replace HA := Lib.hid (HA.out.below h9)
              replace HBB := Lib.hid (HBB.out.trans (h9.mono HBB.out.size))
              clear h9
              go_wp2_with (fail)
              refine (upto_any w.heap.size v' s2 _ _ HA.out (by omega) HSR.out (by omega) hpB2).mono ?_
              rintro e w9 ⟨rfl, h9⟩
              replace HA := Lib.hid (HA.out.below h9)
              replace HBB := Lib.hid (HBB.out.trans (h9.mono HBB.out.size))
              clear h9
              go_wp2_with (fail)
              go_roundw
              case rel => exact ⟨m + 1 + 1, by omega, by go_num, HA, HBB⟩
              case measure => simp [intOf]; omega
          · obtain rfl : k = s2.l.length := by omega
            go_wp2_with (first
              | (go_at_call 11; refine (len_any w.heap.size v' s2 _ HA.out).mono ?_; rintro e w9 ⟨rfl, rfl⟩)
              | fail)
            go_roundw
            case rel => exact ⟨i + 1, v', s2, by omega, by omega, by go_num, Lib.hid ⟨HA.out, HSR.out, by omega, by omega, hs2⟩, HBB⟩
            case measure => simp [intOf]; omega
      have ek2 : (o.1 == 2) = false := by simp [hk2]
      clear hk2
      go_wp2_with (first
        | (go_at_call 12; refine (last_any w.heap.size v s _ HA0.out).mono ?_; rintro e w9 ⟨rfl, rfl⟩)
        | fail)
      refine (keep_any w.heap.size v s _ HA0.out (by omega)).mono ?_
      rintro e wA ⟨rfl, v', hA, hS⟩
      have HA := Lib.hid hA
      have HBB := Lib.hid (HB.out.trans (hS.below HA0.out (Nat.le_refl _)))
      have hup := Lib.hid (up_keep H.out.2.1)
      clear hA hS d0 d1 d2
      obtain ⟨u1, u2, u3⟩ := hup.out
      have hs1 : (s.keep).last ≤ (i : Int) + 1 := by omega
      have hs0 : 0 ≤ (s.keep).last := by omega
      have hs2 : (s.keep).l.length ≤ i + 1 := by omega
      have e1 : ¬ (s.keep).last < s.last := by omega
      have e2 : ¬ s.last + 1 < (s.keep).last := by omega
      have e3 : IntKind.i64.wrap (s.last + 1) = s.last + 1 := by rw [IntKind.wrap_i64]; omega
      have HSR := Lib.hid u1
      clear hup u1 u2 u3
      generalize s.keep = s2 at *
      go_wp2_with (first
        | (go_at_call 12; refine (last_any w.heap.size v' s2 _ HA.out).mono ?_; rintro e w9 ⟨rfl, rfl⟩)
        | fail)
      clear e1 e2 e3
      go_loopw [6, 7] (fun ka _ wx => ∃ (k : Nat), k ≤ s2.l.length ∧ ka = .int .i64 k ∧ Hid (BagAt wx w.heap.size v' s2) ∧ Hid (Below w.heap.size w wx)) (fun ka _ _ => s2.l.length - (intOf ka).toNat)
      case atStart => exact ⟨0, by omega, rfl, HA, HBB⟩
      case round =>
        clear HA HBB
        obtain ⟨k, hk, rfl, HA, HBB⟩ := hrel
        by_cases hkl : k < s2.l.length
        · have hkl' : (k : Int) < s2.l.length := by omega
          obtain ⟨p, hp⟩ : ∃ p, s2.l[k]? = some p := ⟨_, List.getElem?_eq_getElem hkl⟩
          have hno := no_at hp
          obtain ⟨up1, up2⟩ := upto_at HSR.out hp
          have hlo := HSR.out.lo p (List.mem_of_getElem? hp)
          have t1 : ¬ p.1 < 1 := by omega
          have t2 : ¬ s2.last < p.1 := by omega
          have t3 : IntKind.i64.wrap (p.1 - 1) = p.1 - 1 := by rw [IntKind.wrap_i64]; omega
          have hpB : p.1 ≤ 9223372036854775807 := by omega
          have hpB2 : p.1 - 1 ≤ 9223372036854775807 := by omega
          by_cases hk0 : k = 0
          · subst hk0
            have hno' : s2.no 0 = p.1 := by simpa using hno
            clear hp hno
            go_wp2_with (first
              | (go_at_call 11; refine (len_any w.heap.size v' s2 _ HA.out).mono ?_; rintro e w9 ⟨rfl, rfl⟩)
              | (go_at_call 17; refine (no_any w.heap.size v' s2 _ _ HA.out).mono ?_; rintro e w9 ⟨rfl, rfl⟩)
              | (go_at_call 12; refine (last_any w.heap.size v' s2 _ HA.out).mono ?_; rintro e w9 ⟨rfl, rfl⟩)
              | fail)
            refine (upto_any w.heap.size v' s2 _ _ HA.out (by omega) HSR.out (by omega) hpB).mono ?_
            rintro e w9 ⟨rfl, h9⟩
            replace HA := Lib.hid (HA.out.below h9)
            replace HBB := Lib.hid (HBB.out.trans (h9.mono HBB.out.size))
            clear h9
            go_wp2_with (fail)
            refine (upto_any w.heap.size v' s2 _ _ HA.out (by omega) HSR.out (by omega) hpB2).mono ?_
            rintro e w9 ⟨rfl, h9⟩
            replace HA := Lib.hid (HA.out.below h9)
            replace HBB := Lib.hid (HBB.out.trans (h9.mono HBB.out.size))
            clear h9
            go_wp2_with (fail)
            go_roundw
            case rel => exact ⟨1, by omega, by go_num, HA, HBB⟩
            case measure => simp [intOf]; omega
          · obtain ⟨m, rfl⟩ : ∃ m, k = m + 1 := ⟨k - 1, by omega⟩
            obtain ⟨q, hq⟩ : ∃ q, s2.l[m]? = some q := ⟨_, List.getElem?_eq_getElem (by omega)⟩
            have hno2 := no_at hq
            have hno' : s2.no ((m : Int) + 1) = p.1 := by simpa using hno
            have t5 : ¬ p.1 ≤ q.1 := by have := HSR.out.lt hq hp (by omega); omega
            have t7 : (0 : Int) < (m : Int) + 1 := by omega
            clear hp hq hno hk0
            go_wp2_with (first
              | (go_at_call 11; refine (len_any w.heap.size v' s2 _ HA.out).mono ?_; rintro e w9 ⟨rfl, rfl⟩)
              | (go_at_call 17; refine (no_any w.heap.size v' s2 _ _ HA.out).mono ?_; rintro e w9 ⟨rfl, rfl⟩)
              | (go_at_call 12; refine (last_any w.heap.size v' s2 _ HA.out).mono ?_; rintro e w9 ⟨rfl, rfl⟩)
              | fail)
            refine (upto_any w.heap.size v' s2 _ _ HA.out (by omega) HSR.out (by omega) hpB).mono ?_
            rintro e w9 ⟨rfl, h9⟩
            replace HA := Lib.hid (HA.out.below h9)
            replace HBB := Lib.hid (HBB.out.trans (h9.mono HBB.out.size))
            clear h9
            go_wp2_with (fail)
            refine (upto_any w.heap.size v' s2 _ _ HA.out (by omega) HSR.out (by omega) hpB2).mono ?_
            rintro e w9 ⟨rfl, h9⟩
            replace HA := Lib.hid (HA.out.below h9)
            replace HBB := Lib.hid (HBB.out.trans (h9.mono HBB.out.size))
            clear h9
            go_wp2_with (fail)
            go_roundw
            case rel => exact ⟨m + 1 + 1, by omega, by go_num, HA, HBB⟩
            case measure => simp [intOf]; omega
        · obtain rfl : k = s2.l.length := by omega
          go_wp2_with (first
            | (go_at_call 11; refine (len_any w.heap.size v' s2 _ HA.out).mono ?_; rintro e w9 ⟨rfl, rfl⟩)
            | fail)
          go_roundw
          case rel => exact ⟨i + 1, v', s2, by omega, by omega, by go_num, Lib.hid ⟨HA.out, HSR.out, by omega, by omega, hs2⟩, HBB⟩
          case measure => simp [intOf]; omega
    · have hx : ¬ (i : Int) < n ∨ ((i : Int) < n ∧ ¬ (i : Int) < 60) := by omega
      clear hlt
      rcases hx with hx | ⟨hx0, hx⟩
      all_goals
        go_wp2_with (fail)
        refine (awake_any _).mono ?_
        rintro e w6 ⟨rfl, h1⟩
        have H6 := Lib.hid (HB.out.trans (h1.mono HB.out.size))
        clear h1
        go_wp2
        go_ret
        exact ⟨rfl, H6.out⟩
end Go.Proofs.Ytpkmbnmlepmceaa
