/- WindowOnce. -/
import Derived.Test.YtfcjkkjgedcgpaaGreatDoorWinG
import Derived.Test.YtfcjkkjgedcgpaaGreatDoorWinO

namespace Go.Proofs.YtfcjkkjgedcgpaaGreatDoor
open Go.RowKit
set_option linter.unusedSimpArgs false
set_option linter.unusedVariables false
set_option maxHeartbeats 8000000
set_option maxRecDepth 100000

/-- a window of the law's, all of whose memory is new -/
structure WinL (w : World) (W : World) (v : Value) (s : Wn) : Prop where
  win : WinAt w.heap.size W w.heap.size v s
  bel : Below w.heap.size w W
theorem WinL.below {w W W' : World} {v : Value} {s : Wn} (h : WinL w W v s) (hb : Below W.heap.size W W') : WinL w W' v s := ⟨h.win.below hb, h.bel.trans (hb.mono h.bel.size)⟩
theorem WinL.chg {w W W' : World} {v v' : Value} {s s' : Wn} (h : WinL w W v s) (hw : WinAt w.heap.size W' w.heap.size v' s') (hc : Chg W W' (isW w.heap.size v)) : WinL w W' v' s' :=
  ⟨hw, h.bel.trans (hc.below h.bel.size (fun k hk e => by
    rcases e with e | e
    · omega
    · have := (h.win.own.lt k e).1; omega))⟩
theorem windowOnce_law (A : Option Addr) (n c : Nat) (l : List WOp) (w : World) (hK : KindsAt w) (hl : WOpsIn w w.heap.size A n l) (hn : n ≤ c) (hc : c ≤ maxLen) :
    Calls Tryz.prog 3 #[.slice A n c] w fun e w' => e = .returned (.bool true) ∧ Below w.heap.size w w' := by
  unfold maxLen at hc
  have HK := Lib.hid hK
  have HL := Lib.hid hl
  have hn1 : (n : Int) ≤ 9223372036854775807 := by omega
  clear hK hl hn hc
  go_enter Tryz.func3, Tryz.ntmps3
  go_wp2_with (fail)
  refine (wnew_any 0 w (by omega) (by omega)).mono ?_
  rintro e w1 ⟨rfl, hA, hb⟩
  have HA : Hid (WinL w w1 (.slice none 0 0) ⟨0, 0, []⟩) := Lib.hid ⟨hA, hb⟩
  clear hA hb
  go_wp2_with (fail)
  go_loopw [4, 5] (fun nv iv wr => ∃ (i : Nat) (v : Value) (s : Wn), i ≤ n ∧ i ≤ 60 ∧ iv = .int .i64 i ∧ nv = .int .u64 (s.done + 1) ∧ Hid (WinL w wr v s) ∧ Hid (s.lend ≤ 30 * i)) (fun _ iv _ => 60 - (intOf iv).toNat)
  case atStart => exact ⟨0, _, ⟨0, 0, []⟩, by omega, by omega, rfl, rfl, HA, Lib.hid (by simp [Wn.lend])⟩
  case round =>
    clear HA
    obtain ⟨i, v, s, hin, hi60, rfl, rfl, HA, HE⟩ := hrel
    by_cases hlt : i < n ∧ i < 60
    · obtain ⟨hl1, hl2⟩ := hlt
      have hl1' : (i : Int) < n := by omega
      have hl2' : (i : Int) < 60 := by omega
      obtain ⟨b, off, o, rfl, hbb, ho, hok, hcs⟩ := HL.out.at_ hl1
      have HOK := Lib.hid hok
      have hwn : IntKind.i64.wrap o.nn = o.nn := by have := hok.nn; rw [IntKind.wrap_i64]; omega
      have hwb : IntKind.u64.wrap o.back = o.back := by have := hok.back; rw [IntKind.wrap_u64]; omega
      have D1 := Lib.hid (hcs 1 _ rfl)
      have D9 := Lib.hid (hcs 9 _ rfl)
      obtain ⟨d0, hd0⟩ : ∃ d0, d0 = s.done := ⟨_, rfl⟩
      obtain ⟨e0, he0⟩ : ∃ e0, e0 = s.lend := ⟨_, rfl⟩
      have HD0 := Lib.hid hd0
      rw [← hd0]
      have HEE := Lib.hid he0
      have HBB := Lib.hid hbb
      obtain ⟨r, hr⟩ : ∃ r, o.nn.tmod 30 = r := ⟨_, rfl⟩
      have hr0 : 0 ≤ r := by rw [← hr]; exact Int.tmod_nonneg _ hok.nn.1
      have hr1 : r < 30 := by rw [← hr]; exact Int.tmod_lt_of_pos _ (by omega)
      obtain ⟨q, hq⟩ : ∃ q, o.back.tmod 20 = q := ⟨_, rfl⟩
      have hq0 : 0 ≤ q := by rw [← hq]; exact Int.tmod_nonneg _ hok.back.1
      have hq1 : q < 20 := by rw [← hq]; exact Int.tmod_lt_of_pos _ (by omega)
      clear hcs ho hok hd0 he0 hbb
      go_wp2_with (fail)
      rename World => W2
      go_loopw [6] (fun kv wr => ∃ (k : Nat) (v' : Value) (s' : Wn), (k : Int) ≤ r ∧ kv = .int .i64 k ∧ Hid (WinL w wr v' s') ∧ Hid (s'.lend = e0 + k ∧ s'.done = d0)) (fun kv _ => 30 - (intOf kv).toNat)
      case atStart => exact ⟨0, v, s, by simpa using hr0, rfl, HA, Lib.hid ⟨by rw [HEE.out]; simp, HD0.out.symm⟩⟩
      case round =>
        clear HA
        rename World => W3
        obtain ⟨k, v', s', hkn, rfl, HA, HS⟩ := hrel
        have c1 := (HA.out.bel.cell (p := ⟨b, off + i * 11 + 1, none⟩) HBB.out).trans D1.out
        have lb := Nat.lt_of_lt_of_le HBB.out HA.out.bel.size
        have hlow := HA.out.win.ok.low
        have hend := HA.out.win.ok.de
        have hld := HA.out.win.ok.ld
        have hee := HE.out
        have hs1 := HS.out.1
        rw [HEE.out] at hs1
        have hw1 : IntKind.u64.wrap (s'.lend + 1) = s'.lend + 1 := by rw [IntKind.wrap_u64]; omega
        have HBD : Hid (s'.lend ≤ 30 * i + 30) := Lib.hid (by omega)
        clear hlow hend hld hee hs1
        by_cases hk : (k : Int) < r
        · go_wp2_with (fail)
          refine (wend_any _ _ _ _ _ HA.out.win).mono ?_
          rintro e w2 ⟨rfl, hb⟩
          replace HA := Lib.hid (HA.out.below hb)
          clear hb c1 lb
          go_wp2_with (fail)
          refine (one_any (s'.lend + 1) w2).mono ?_
          rintro e w3 ⟨rfl, hb⟩
          replace HA := Lib.hid (HA.out.below hb)
          clear hb
          go_wp2_with (fail)
          refine (add_any _ _ _ _ s' (oneU (s'.lend + 1)) 0 HA.out.win (HK.out.below HA.out.bel) (one_in _ (by have := HA.out.win.ok.low; have := HA.out.win.ok.de; have := HA.out.win.ok.ld; omega) (by have := HBD.out; omega) _ _) (Nat.zero_le _) (by simp [oneU]) (by have := Wn.len_le HA.out.win.ok; have := HBD.out; omega) (by have := HBD.out; omega)).mono ?_
          rintro e w4 ⟨v4, s4, rfl, hA4, hs4, hc4, hn4⟩
          obtain ⟨f1, f2⟩ := add_facts HA.out.win.ok hA4.ok hs4
          have HS4 : Hid (s4.lend = e0 + (k + 1 : Nat) ∧ s4.done = d0) := Lib.hid ⟨by rw [f1, HS.out.1]; push_cast; omega, by rw [f2, HS.out.2]⟩
          replace HA := Lib.hid (HA.out.chg hA4 hc4)
          obtain ⟨ee, hee⟩ : ∃ ee, s'.addE (oneU (s'.lend + 1)) = ee := ⟨_, rfl⟩
          rw [hee]
          clear hee f1 f2 hA4 hs4 hc4 hn4 hw1
          go_wp2_with (fail)
          go_roundw
          case rel => exact ⟨k + 1, v4, s4, by push_cast; omega, by simp, HA, HS4⟩
          case measure => simp [intOf]; omega
        · have hkr : (k : Int) = r := by omega
          have HKR := Lib.hid hkr
          clear hkr
          have c9 := (HA.out.bel.cell (p := ⟨b, off + i * 11 + 9, none⟩) HBB.out).trans D9.out
          have hwq : IntKind.u64.wrap (d0 + q) = d0 + q := by have := HA.out.win.ok.de; have := HA.out.win.ok.ld; have := HA.out.win.ok.low; have := HBD.out; rw [← HS.out.2, IntKind.wrap_u64]; omega
          go_wp2_with (fail)
          have HNW : Hid (¬ isW w.heap.size v' b) := Lib.hid (fun e => by
            rcases e with e | e
            · have := HBB.out; omega
            · have := (HA.out.win.own.lt b e).1; have := HBB.out; omega)
          have HS2 := HS.out.2
          have W8 := Lib.hid (fun W' (h9 : Below W3.heap.size W3 W') => wdone_any _ W' _ _ s' (HA.out.win.below h9))
          have R8 := Lib.hid (fun W' (h9 : Below W3.heap.size W3 W') => reach_any _ W' _ _ s' (d0 + q) (HA.out.win.below h9) (by have := HA.out.win.ok.ld; have := HA.out.win.ok.low; omega) (by have := HA.out.win.ok.de; have := HBD.out; omega))
          rw [HS2] at W8
          clear HS2
          have hb : Below W3.heap.size W3 W3.drew := (Below.refl _ _).drew
          go_region_held3 (fun w' => w'.cell? ⟨b, off + i * 11 + 9, none⟩ = some (.int .u8 o.back)) (go_keep) (first
            | (go_at_call 11; refine (W8.out _ hb).mono ?_; rintro e w6 ⟨rfl, rfl⟩)
            | (go_at_call 10; refine (R8.out _ hb).mono ?_; rintro e w6 ⟨v6, vo, os, rfl, hO, hA6, hc6, hn6⟩; replace c9 := (hc6.cell (p := ⟨b, off + i * 11 + 9, none⟩) (Nat.lt_of_lt_of_le lb hb.size) HNW.out).trans c9; have HO6 := Lib.hid hO; have HA6 := Lib.hid hA6; have HC6 := Lib.hid hc6; clear hO hA6 hc6 hn6)
            | fail)
          have HB7 := Lib.hid (HA.out.below hb)
          clear hb c9 c1 lb
          have HA7 := Lib.hid (HB7.out.chg HA6.out HC6.out)
          obtain ⟨g1, g2, g3, g4⟩ := Wn.reach_facts HA.out.win.ok (d0 + q)
          obtain ⟨h1, h2⟩ := Wn.told_row HA.out.win.ok (d0 + q)
          obtain ⟨s6, hs6⟩ : ∃ s6, s'.reach (d0 + q) = s6 := ⟨_, rfl⟩
          rw [hs6] at HA6 HA7 g1 g2 g3 g4
          rw [HS.out.2] at h1 h2
          rw [← g2] at h2 g4
          have HRW : Hid (∀ (k : Nat) (x : Up), os[k]? = some x → x.seq = d0 + 1 + k) := Lib.hid (fun k x hx => by
            have hv := HO6.out.val
            have h5 : (os.map Up.val)[k]? = some x.val := by rw [List.getElem?_map, hx]; rfl
            rw [hv, List.getElem?_map] at h5
            cases hy : (s'.told (d0 + q))[k]? with
            | none => rw [hy] at h5; cases h5
            | some y =>
              rw [hy] at h5
              simp only [Option.map_some, Option.some.injEq] at h5
              have h6 := h1 k y hy
              have h7 : y.seq = x.seq := congrArg Prod.fst h5
              omega)
          have HLN : Hid (d0 + 1 + (os.length : Int) = s6.done + 1) := Lib.hid (by rw [HO6.out.len]; omega)
          have HG : Hid (s6.ok ∧ (s6.l.length : Int) ≤ 32 + (s6.lend - s6.done) ∧ s6.lend ≤ 30 * (i + 1)) := Lib.hid ⟨g3, by omega, by
            have := HS.out.1; have := HEE.out; have := HE.out; omega⟩
          obtain ⟨A6, c6, rfl, hup, _, _⟩ := HO6.out.ups
          have HUP := Lib.hid hup
          have hos : (os.length : Int) ≤ 9000000000000000000 := by have := HLN.out; have := g3.big; have := g3.de; have := HA.out.win.ok.low; have := HA.out.win.ok.ld; have := HS.out.2; omega
          have hd0n : 0 ≤ d0 := by have := HA.out.win.ok.low; have := HA.out.win.ok.ld; have := HS.out.2; omega
          have hsdn : s6.done ≤ 9000000000000000000 := by have := g3.big; have := g3.de; omega
          clear hs6 g1 g2 g3 g4 h1 h2 hup HO6 W8 R8 HA HB7 HC6 HA6 HNW
          go_wp2_with (fail)
          go_loopw [4, 8] (fun nv kv wr => ∃ k : Nat, k ≤ os.length ∧ kv = .int .i64 k ∧ nv = .int .u64 (d0 + 1 + k) ∧ w6 = wr) (fun _ kv _ => os.length - (intOf kv).toNat)
          case atStart => exact ⟨0, Nat.zero_le _, rfl, by simp, rfl⟩
          case round =>
            obtain ⟨k3, hk3, rfl, rfl, rfl⟩ := hrel
            by_cases hk4 : k3 < os.length
            · have hk4' : (k3 : Int) < os.length := by omega
              obtain ⟨b2, off2, x, rfl, hb2, hx, hin2, p0, p1, p2, p3, p4, p5, p6⟩ := HUP.out.at_ hk4
              rw [HRW.out k3 x hx] at p0
              have hw8 : IntKind.u64.wrap (d0 + 1 + k3 + 1) = d0 + 1 + k3 + 1 := by have := HLN.out; rw [IntKind.wrap_u64]; omega
              clear p1 p2 p3 p4 p5 p6 hx hin2
              go_wp2_with (fail)
              go_roundw
              case rel => exact ⟨k3 + 1, by omega, by simp, by push_cast; congr 1; omega, trivial⟩
              case measure => simp [intOf]; omega
            · obtain rfl : k3 = os.length := by omega
              rw [HLN.out]
              have hwd : IntKind.u64.wrap (s6.done + 1) = s6.done + 1 := by rw [IntKind.wrap_u64]; have := HG.out.1.ld; have := HG.out.1.low; omega
              go_wp2_with (fail)
              have i1 := HG.out.2.1
              have i2 := HG.out.1.ld
              have i3 := HG.out.1.de
              have hwz : IntKind.i64.wrap (32 + (s6.lend - s6.done)) = 32 + (s6.lend - s6.done) := by rw [IntKind.wrap_i64]; have := HG.out.1.big; have := HG.out.1.low; omega
              refine (wdone_any _ _ _ _ _ HA7.out.win).mono ?_
              rintro e w9 ⟨rfl, rfl⟩
              go_wp2_with (fail)
              refine (wheld_any _ _ _ _ _ HA7.out.win).mono ?_
              rintro e w9 ⟨rfl, rfl⟩
              go_wp2_with (fail)
              refine (wdirty_any _ _ _ _ _ HA7.out.win).mono ?_
              rintro e w9 ⟨rfl, hb⟩
              replace HA7 := Lib.hid (HA7.out.below hb)
              clear hb
              go_wp2_with (fail)
              refine (wlow_any _ _ _ _ _ HA7.out.win).mono ?_
              rintro e w10 ⟨rfl, rfl⟩
              go_wp2_with (fail)
              refine (wdone_any _ _ _ _ _ HA7.out.win).mono ?_
              rintro e w10 ⟨rfl, rfl⟩
              go_wp2_with (fail)
              refine (wdone_any _ _ _ _ _ HA7.out.win).mono ?_
              rintro e w10 ⟨rfl, rfl⟩
              go_wp2_with (fail)
              refine (wend_any _ _ _ _ _ HA7.out.win).mono ?_
              rintro e w10 ⟨rfl, hb⟩
              replace HA7 := Lib.hid (HA7.out.below hb)
              clear hb
              go_wp2_with (fail)
              go_roundw
              case rel => exact ⟨i + 1, v6, s6, by omega, by omega, by simp, rfl, HA7, Lib.hid (by have := HG.out.2.2; push_cast; omega)⟩
              case measure => simp [intOf]; omega
    · have hends : (i : Int) < n → (60 : Int) ≤ i := fun h => by omega
      by_cases hin' : (i : Int) < n
      · have h60 : ¬ (i : Int) < 60 := by omega
        clear hends hlt
        go_wp2_with (fail)
        refine (awake_win _ (HK.out.below HA.out.bel)).mono ?_
        rintro e w2 ⟨rfl, hb⟩
        have H2 := Lib.hid (HA.out.bel.trans (hb.mono HA.out.bel.size))
        clear hb
        go_wp2_with (fail)
        go_ret
        exact ⟨rfl, H2.out⟩
      · clear hends hlt
        go_wp2_with (fail)
        refine (awake_win _ (HK.out.below HA.out.bel)).mono ?_
        rintro e w2 ⟨rfl, hb⟩
        have H2 := Lib.hid (HA.out.bel.trans (hb.mono HA.out.bel.size))
        clear hb
        go_wp2_with (fail)
        go_ret
        exact ⟨rfl, H2.out⟩
end Go.Proofs.YtfcjkkjgedcgpaaGreatDoor
