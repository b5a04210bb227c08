/- The walk of FixReads. -/
import Derived.Test.YtejjifbjmibapaaFixX
import Derived.Test.YtejjifbjmibapaaFixPuts

namespace Go.Proofs.Ytejjifbjmibapaa
open Go.RowKit
set_option linter.unusedSimpArgs false
set_option linter.unusedVariables false
set_option maxHeartbeats 40000000
set_option maxRecDepth 100000
attribute [local go_sem] RI.agg RI.cells RI.nil

theorem le_relay {n : Nat} {w1 W w' : World} (h : n ≤ w1.heap.size) (hb : Below W.heap.size W w') (h1 : Below w1.heap.size w1 W) : n ≤ w'.heap.size := by have := hb.size; have := h1.size; omega
theorem raw_short (s : FI) (n : Int) : (s.raw n).1.l.length ≤ s.l.length := by
  unfold FI.raw; split
  · simp [FI.fail]
  · exact s.next_short1 _
theorem upto_short (s : FI) (k : Int) (m : Nat) : (s.upto k m).1.l.length ≤ s.l.length := by
  unfold FI.upto
  split
  · exact Nat.le_refl _
  · split
    · split
      · split
        · simp [FI.fail]
        · exact s.next_short1 _
      · exact s.next_short1 _
    · simp [FI.fail]
theorem text_short (s : FI) (n : Int) : (s.text n).1.l.length ≤ s.l.length := by
  unfold FI.text
  split
  · split
    · simp [FI.fail]
    · exact Nat.le_trans (raw_short _ _) (s.next_short1 _)
  · exact s.next_short1 _
theorem raw_q (s : FI) (n : Int) : (s.raw n).2.length ≤ s.l.length := by
  unfold FI.raw; split
  · simp
  · exact s.next_short _
theorem text_q (s : FI) (n : Int) : (s.text n).2.length ≤ s.l.length := by
  unfold FI.text
  split
  · split
    · simp
    · exact Nat.le_trans (raw_q _ _) (s.next_short1 _)
  · simp
/-- the memory of FixReads -/
structure RM (w : World) (gi gr : Nat) (s : FI) (y : RI) (W : World) : Prop where
  inn : InAt W gi gr s
  box : Blk W gr 50 y.cells
  ri : RIn W w.heap.size y
  bel : Below w.heap.size w W
theorem RM.below {w W W' : World} {gi gr : Nat} {s : FI} {y : RI} (h : RM w gi gr s y W) (hb : Below W.heap.size W W') : RM w gi gr s y W' :=
  ⟨h.inn.below (hb.mono (Nat.le_of_lt h.box.lt)), h.box.below hb h.box.lt, h.ri.below (hb.mono h.bel.size), h.bel.trans (hb.mono h.bel.size)⟩
theorem RM.relay {w W V W' : World} {gi gr : Nat} {s : FI} {y : RI} (h : RM w gi gr s y W) (hb : Below V.heap.size V W') (h1 : Below W.heap.size W V) : RM w gi gr s y W' := (h.below h1).below hb
theorem RM.chg {w W V W' : World} {gi gr : Nat} {s s' : FI} {y : RI} (h : RM w gi gr s y W) (h1 : Below W.heap.size W V) (hc : Chg V W' (isG gi)) (hi : InAt W' gi gr s') (hg : gi < gr) (hw : w.heap.size ≤ gi) : RM w gi gr s' y W' := by
  have hv := h.below h1
  have hb : Below w.heap.size V W' := hc.below hv.bel.size (fun k hk (e : k = gi) => by omega)
  exact ⟨hi, hc.blk hv.box (fun (e : gr = gi) => by omega), hv.ri.below hb, hv.bel.trans hb⟩
theorem RM.store {w W : World} {gi gr : Nat} {s : FI} {x y : RI} (h : RM w gi gr s x W) (hw : w.heap.size ≤ gr) (hy : RIn W w.heap.size y) :
    RM w gi gr s y ((W.setCell ⟨gr, 0, none⟩ (.slice y.A y.s.l.length y.cap)).setCell ⟨gr, 1, none⟩ (.int .i64 y.s.e)) := by
  have hb : Below gr W ((W.setCell ⟨gr, 0, none⟩ (.slice y.A y.s.l.length y.cap)).setCell ⟨gr, 1, none⟩ (.int .i64 y.s.e)) :=
    ((Below.refl gr W).setCell (p := ⟨gr, 0, none⟩) (Nat.le_refl _) _).setCell (p := ⟨gr, 1, none⟩) (Nat.le_refl _) _
  exact ⟨h.inn.below hb, (h.box.set_ 0 _).set_ 1 _, hy.below (hb.mono hw), h.bel.trans (hb.mono hw)⟩






theorem fixReads_law (A C : Option Addr) (n c m d : Nat) (bs : List Int) (xs : Nat → Ak) (w : World) (hr : Reads w w.heap.size 1 A n (bs.map (Value.int .u8))) (hb : bytesB bs) (hn : n ≤ c) (hc : c ≤ maxLen)
    (hit : RdAks w w.heap.size C m xs) (hm : m ≤ maxLen) (hws : ∀ k, k < m → (xs k).wd ≤ 9223372036854775807) :
    Calls Try.prog 6 #[.slice A n c, .slice C m d] w fun e w' => e = .returned (.bool true) ∧ Below w.heap.size w w' := by
  have hcm := hc
  unfold maxLen at hc hm
  have hR := Lib.hid (hr.take (cutN_le n 200))
  have hY := Lib.hid (bytesB_take bs (cutN n 200) hb)
  have h200 := cutN_le2 n 200
  have hcn : cutN n 200 ≤ c := Nat.le_trans (cutN_le n 200) hn
  have HT := Lib.hid hit
  have HW := Lib.hid hws
  rw [← List.map_take] at hR
  clear hr hb hit hws
  go_enter Try.func6, Try.ntmps6
  go_wp2_with (fail)
  refine (cut_any A n c 200 hn (by omega) _).mono ?_
  rintro e w1 ⟨rfl, rfl⟩
  generalize cutN n 200 = nb at *
  generalize bs.take nb = b0 at *
  obtain rfl : b0.length = nb := by have := hR.out.1; simpa using this
  go_wp2_with (fail)
  refine (of_any A _ c _ b0 _ (Nat.le_refl _) hR.out hY.out (by omega)).mono ?_
  rintro e w2 ⟨gi, rfl, h1, h2, h3⟩
  have hgi : gi < w2.heap.size := h2.lt
  have HM : Hid (RM w gi w2.heap.size ⟨b0, 0⟩ ⟨A, c, ⟨b0, 0⟩⟩ (w2.alloc (.cells (RI.cells ⟨A, c, ⟨b0, 0⟩⟩) 50))) := Lib.hid
    ⟨h2.below ((Below.refl _ _).alloc (Nat.le_refl _) _), Blk.new _ _ _, (RIn.mk (hR.out.below h3) hcn hcm hY.out (fun hh => absurd rfl hh) : RIn w2 w.heap.size ⟨A, c, ⟨b0, 0⟩⟩).alloc h3.size _, h3.alloc h3.size _⟩
  have hwg : w.heap.size ≤ gi := h1
  clear h1 h2 h3
  go_wp2_with (fail)
  generalize w2.heap.size = gr at *
  go_loopw [7, 8, 9, 10, 11, 12, 13] (fun ka _ _ _ _ _ _ wr => ∃ (k : Nat) (x : RI), k ≤ m ∧ k ≤ 30 ∧ ka = .int .i64 k ∧ x.s.l.length ≤ 200 ∧ Hid (RM w gi gr x.s x wr)) (fun ka _ _ _ _ _ _ _ => 30 - (intOf ka).toNat)
  case atStart => exact ⟨0, ⟨A, c, ⟨b0, 0⟩⟩, by omega, by omega, rfl, h200, HM⟩
  case round =>
    clear HM
    obtain ⟨k, x, hk, hk30, rfl, hlen, HM⟩ := hrel
    by_cases hlt : k < m ∧ k < 30
    · obtain ⟨hk1, hk2⟩ := hlt
      have hk1' : (k : Int) < m := by omega
      have hk2' : (k : Int) < 30 := by omega
      obtain ⟨b, off, rfl, hb, hcs⟩ := HT.out (by omega)
      have hbg : b < gr := by omega
      have hbr : b < w.heap.size := hb
      have n1 : (b = gr) = False := by simp; omega
      have n2 : (gr = b) = False := by simp; omega
      have HCS : Hid (∀ W, Below w.heap.size w W → AkCells W b (off + k * 3) (xs k)) := Lib.hid (fun W hW => (hcs k hk1).keep fun p hp => hW.cell (by omega))
      have hwd := HW.out k hk1
      clear hcs
      obtain ⟨j0, j1⟩ := ri_cells HM.out.box; have jf0 := HM.out.box.frozen 0; have jf1 := HM.out.box.frozen 1; have hgrl := HM.out.box.lt; obtain ⟨c0, c1, c2⟩ := HCS.out _ HM.out.bel
      go_upto_region 9 with (fail)
      go_cut [12, 13] (fun v12 v13 wx => v12 = .bool false ∧ v13 = .bool false ∧ wx = wr)
      case first =>
        go_wp2_with (fail)
        go_meet
        case rel => exact ⟨rfl, rfl, rfl⟩
      obtain ⟨rfl, rfl, rfl⟩ := hcut
      rename_i hK
      refine hK _ _ ?_
      clear hK
      refine wp_seq_k fun K1 hK1 => ?_
      clear j0 j1 jf0 jf1 hgrl c0 c1 c2
      go_cut [8, 9, 10, 11, 12, 13] (fun v8 v9 v10 v11 v12 v13 wx => ∃ (y : RI) (q : Nat) (A8 A7 : Option Addr) (c8 c7 : Nat) (l : List Int) (bb : Bool), v8 = .int .u64 q ∧ v9 = .int .u64 q ∧ v10 = .slice A8 l.length c8 ∧ v11 = .slice A7 l.length c7 ∧ v12 = .bool bb ∧ v13 = .bool bb ∧ l.length ≤ 1000000 ∧ y.s.l.length ≤ 200 ∧ Hid (Reads wx wx.heap.size 1 A8 l.length (l.map (Value.int .u8))) ∧ Hid (Reads wx wx.heap.size 1 A7 l.length (l.map (Value.int .u8))) ∧ Hid (RM w gi gr y.s y wx))
      case rest =>
        obtain ⟨y, q, A8, A7, c8, c7, l, bb, rfl, rfl, rfl, rfl, rfl, rfl, hl9, HLEN, E5, E6, HM9⟩ := hcut
        replace HM := HM9
        clear HM9
        have HLX : Hid (l.length ≤ 9223372036854775806) := Lib.hid (by omega)
        obtain ⟨D, hD⟩ : ∃ D, D = wc.heap.size := ⟨_, rfl⟩
        have hDle : D ≤ wc.heap.size := by omega
        rw [← hD] at E5 E6
        clear hD
        obtain ⟨j0, j1⟩ := ri_cells HM.out.box; have jf0 := HM.out.box.frozen 0; have jf1 := HM.out.box.frozen 1; have hgrl := HM.out.box.lt; obtain ⟨c0, c1, c2⟩ := HCS.out _ HM.out.bel
        go_wp2_with (fail)
        go_region_held3 (fun w' => w'.cell? ⟨gr, 0, none⟩ = some (.slice y.A y.s.l.length y.cap) ∧ w'.cell? ⟨gr, 1, none⟩ = some (.int .i64 y.s.e)) (go_keep) (first
          | (go_at_call 12; refine (same_any A8 A7 l.length l.length c8 c7 D D l l _ ?_ ?_ ?_ ?_ ?_).mono ?_; (· first | omega | (simp; omega)); (· first | omega | (simp; omega)); (· exact E5.out.below (Below.mono (by repeat (first | with_reducible exact Below.refl _ _ | with_reducible refine Below.alloc ?_ (by simp <;> omega) _ | with_reducible refine below_drewN ?_ _ | with_reducible refine Below.drew ?_)) hDle)); (· exact E6.out.below (Below.mono (by repeat (first | with_reducible exact Below.refl _ _ | with_reducible refine Below.alloc ?_ (by simp <;> omega) _ | with_reducible refine below_drewN ?_ _ | with_reducible refine Below.drew ?_)) hDle)); (· exact HLX.out); rintro e w9 ⟨rfl, h⟩; replace E5 := Lib.hid (E5.out.below ((relay h (by repeat (first | with_reducible exact Below.refl _ _ | with_reducible refine Below.alloc ?_ (by simp <;> omega) _ | with_reducible refine below_drewN ?_ _ | with_reducible refine Below.drew ?_))).mono hDle)); replace E6 := Lib.hid (E6.out.below ((relay h (by repeat (first | with_reducible exact Below.refl _ _ | with_reducible refine Below.alloc ?_ (by simp <;> omega) _ | with_reducible refine below_drewN ?_ _ | with_reducible refine Below.drew ?_))).mono hDle)); replace hDle := le_relay hDle h (by repeat (first | with_reducible exact Below.refl _ _ | with_reducible refine Below.alloc ?_ (by simp <;> omega) _ | with_reducible refine below_drewN ?_ _ | with_reducible refine Below.drew ?_)); replace HM := Lib.hid (HM.out.relay h (by repeat (first | with_reducible exact Below.refl _ _ | with_reducible refine Below.alloc ?_ (by simp <;> omega) _ | with_reducible refine below_drewN ?_ _ | with_reducible refine Below.drew ?_))); clear j0 j1 jf0 jf1 hgrl c0 c1 c2; obtain ⟨j0, j1⟩ := ri_cells HM.out.box; have jf0 := HM.out.box.frozen 0; have jf1 := HM.out.box.frozen 1; have hgrl := HM.out.box.lt; obtain ⟨c0, c1, c2⟩ := HCS.out _ HM.out.bel; clear h; simp only [decide_true])
          | (go_at_call 17; refine (left_any gi y.s gr _ ?_).mono ?_; (· exact HM.out.inn.below (Below.mono (by repeat (first | with_reducible exact Below.refl _ _ | with_reducible refine Below.alloc ?_ (by simp <;> omega) _ | with_reducible refine below_drewN ?_ _ | with_reducible refine Below.drew ?_)) (Nat.le_of_lt HM.out.box.lt))); rintro e w9 ⟨rfl, rfl⟩)
          | (go_at_call 16; refine (err_any gi y.s gr _ ?_).mono ?_; (· exact HM.out.inn.below (Below.mono (by repeat (first | with_reducible exact Below.refl _ _ | with_reducible refine Below.alloc ?_ (by simp <;> omega) _ | with_reducible refine below_drewN ?_ _ | with_reducible refine Below.drew ?_)) (Nat.le_of_lt HM.out.box.lt))); rintro e w9 ⟨rfl, rfl⟩)
          | (go_at_call 23; refine (doneIn_any gi y.s gr _ ?_).mono ?_; (· exact HM.out.inn.below (Below.mono (by repeat (first | with_reducible exact Below.refl _ _ | with_reducible refine Below.alloc ?_ (by simp <;> omega) _ | with_reducible refine below_drewN ?_ _ | with_reducible refine Below.drew ?_)) (Nat.le_of_lt HM.out.box.lt))); rintro e w9 ⟨rfl, rfl⟩)
          | (go_at_call 30; refine (refDone_any y w.heap.size _ ?_ ?_).mono ?_; (· repeat (first | with_reducible refine RIn.drew ?_ | with_reducible refine RIn.drewN ?_ _ | with_reducible exact HM.out.ri)); (· exact le_relay HM.out.bel.size (Below.refl _ _) (by repeat (first | with_reducible exact Below.refl _ _ | with_reducible refine Below.alloc ?_ (by simp <;> omega) _ | with_reducible refine below_drewN ?_ _ | with_reducible refine Below.drew ?_))); rintro e w9 ⟨rfl, h⟩; replace HM := Lib.hid (HM.out.relay h (by repeat (first | with_reducible exact Below.refl _ _ | with_reducible refine Below.alloc ?_ (by simp <;> omega) _ | with_reducible refine below_drewN ?_ _ | with_reducible refine Below.drew ?_))); clear j0 j1 jf0 jf1 hgrl c0 c1 c2; obtain ⟨j0, j1⟩ := ri_cells HM.out.box; have jf0 := HM.out.box.frozen 0; have jf1 := HM.out.box.frozen 1; have hgrl := HM.out.box.lt; obtain ⟨c0, c1, c2⟩ := HCS.out _ HM.out.bel; clear h)
          | fail)
        all_goals
          go_wp2_with (fail)
          go_roundw
          case rel => first | exact ⟨k + 1, y, by omega, by omega, by go_num, HLEN, HM⟩ | ((repeat apply Exists.intro); exact ⟨⟨k + 1, y, by omega, by omega, by go_num, HLEN, HM⟩, rfl⟩)
          case measure => simp [intOf]; omega
      clear hK1 K1
      rename_i Kc hkeep
      repeat (rename_i hz; clear hz)
      by_cases h0 : (xs k).kd = 0
      · have h0' : ((xs k).kd == 0) = true := by simp [h0]
        clear h0
        as_aux_lemma =>
          have G := fun w h => get_any gi x.s (xs k).wd gr w h
          have R := fun W => refGet_any x (xs k).wd w.heap.size W
          have HSH := Lib.hid (upto_short x.s (xs k).wd 18446744073709551615)
          generalize x.s.upto (xs k).wd 18446744073709551615 = r at G R HSH
          obtain ⟨s', q⟩ := r
          obtain ⟨j0, j1⟩ := ri_cells HM.out.box; have jf0 := HM.out.box.frozen 0; have jf1 := HM.out.box.frozen 1; have hgrl := HM.out.box.lt; obtain ⟨c0, c1, c2⟩ := HCS.out _ HM.out.bel
          go_upto_region 14 with (fail)
          go_cut [9] (fun v9 wx => ∃ (y : RI) (A7 : Option Addr) (c7 : Nat), v9 = .int .u64 q ∧ Hid (RM w gi gr x.s y wx) ∧ Hid (y.s = s'))
          case first =>
            go_region_with (first
              | (go_at_call 24; refine (R _ ?_ ?_).mono ?_; (· repeat (first | with_reducible refine RIn.drew ?_ | with_reducible refine RIn.drewN ?_ _ | with_reducible exact HM.out.ri)); (· exact le_relay HM.out.bel.size (Below.refl _ _) (by repeat (first | with_reducible exact Below.refl _ _ | with_reducible refine Below.alloc ?_ (by simp <;> omega) _ | with_reducible refine below_drewN ?_ _ | with_reducible refine Below.drew ?_))); rintro e w6 ⟨y, rfl, hy, h1, h2⟩; have HY6 := Lib.hid h1; have HYS := Lib.hid hy; replace HM := Lib.hid (HM.out.relay h2 (by repeat (first | with_reducible exact Below.refl _ _ | with_reducible refine Below.alloc ?_ (by simp <;> omega) _ | with_reducible refine below_drewN ?_ _ | with_reducible refine Below.drew ?_))); clear j0 j1 jf0 jf1 hgrl c0 c1 c2; obtain ⟨j0, j1⟩ := ri_cells HM.out.box; have jf0 := HM.out.box.frozen 0; have jf1 := HM.out.box.frozen 1; have hgrl := HM.out.box.lt; obtain ⟨c0, c1, c2⟩ := HCS.out _ HM.out.bel; clear h1 h2 hy)
              | fail)
            all_goals
              go_wp2_with (fail)
              have hM7 := HM.out.store (y := y) (by omega) HY6.out
              go_meet
              case rel => exact ⟨y, none, 0, rfl, Lib.hid hM7, HYS⟩
          case rest =>
            obtain ⟨y, A7, c7, HCUTP⟩ := hcut
            obtain ⟨rfl, HMC, HYS⟩ := HCUTP
            clear j0 j1 jf0 jf1 hgrl c0 c1 c2
            replace HM := HMC
            clear HMC R
            obtain ⟨j0, j1⟩ := ri_cells HM.out.box; have jf0 := HM.out.box.frozen 0; have jf1 := HM.out.box.frozen 1; have hgrl := HM.out.box.lt; obtain ⟨c0, c1, c2⟩ := HCS.out _ HM.out.bel
            go_wp2_with (fail)
            refine (G _ HM.out.inn).mono ?_
            rintro e w8 ⟨rfl, h1, h2⟩
            have hM8 := HM.out.chg (Below.refl _ _) h2 h1 hgi hwg
            clear j0 j1 jf0 jf1 hgrl c0 c1 c2
            clear HM h1 h2
            obtain rfl : y.s = s' := HYS.out
            have HM := Lib.hid hM8
            have HLEN : y.s.l.length ≤ 200 := Nat.le_trans HSH.out hlen
            clear hM8 G HSH HYS
            obtain ⟨j0, j1⟩ := ri_cells HM.out.box; have jf0 := HM.out.box.frozen 0; have jf1 := HM.out.box.frozen 1; have hgrl := HM.out.box.lt; obtain ⟨c0, c1, c2⟩ := HCS.out _ HM.out.bel
            go_wp2_with (fail)
            go_meet
            case rel => exact ⟨y, q, none, none, 0, 0, ([] : List Int), false, rfl, rfl, rfl, rfl, rfl, rfl, (by exact Nat.zero_le _), HLEN, Lib.hid (by exact Reads.none_), Lib.hid (by exact Reads.none_), HM⟩
      have h0' : ((xs k).kd == 0) = false := by simp [h0]
      clear h0
      by_cases h0 : (xs k).kd = 1
      · have h1' : ((xs k).kd == 1) = true := by simp [h0]
        clear h0
        focus
          have G := fun w h => upto_any gi x.s (xs k).wd (xs k).most gr w h
          have R := fun W => refUpto_any x (xs k).wd (xs k).most w.heap.size W
          have HSH := Lib.hid (upto_short x.s (xs k).wd (xs k).most)
          generalize x.s.upto (xs k).wd (xs k).most = r at G R HSH
          obtain ⟨s', q⟩ := r
          obtain ⟨j0, j1⟩ := ri_cells HM.out.box; have jf0 := HM.out.box.frozen 0; have jf1 := HM.out.box.frozen 1; have hgrl := HM.out.box.lt; obtain ⟨c0, c1, c2⟩ := HCS.out _ HM.out.bel
          go_upto_region 17 with (fail)
          go_cut [9] (fun v9 wx => ∃ (y : RI) (A7 : Option Addr) (c7 : Nat), v9 = .int .u64 q ∧ Hid (RM w gi gr x.s y wx) ∧ Hid (y.s = s'))
          case first =>
            go_region_with (first
              | (go_at_call 25; refine (R _ ?_ ?_).mono ?_; (· repeat (first | with_reducible refine RIn.drew ?_ | with_reducible refine RIn.drewN ?_ _ | with_reducible exact HM.out.ri)); (· exact le_relay HM.out.bel.size (Below.refl _ _) (by repeat (first | with_reducible exact Below.refl _ _ | with_reducible refine Below.alloc ?_ (by simp <;> omega) _ | with_reducible refine below_drewN ?_ _ | with_reducible refine Below.drew ?_))); rintro e w6 ⟨y, rfl, hy, h1, h2⟩; have HY6 := Lib.hid h1; have HYS := Lib.hid hy; replace HM := Lib.hid (HM.out.relay h2 (by repeat (first | with_reducible exact Below.refl _ _ | with_reducible refine Below.alloc ?_ (by simp <;> omega) _ | with_reducible refine below_drewN ?_ _ | with_reducible refine Below.drew ?_))); clear j0 j1 jf0 jf1 hgrl c0 c1 c2; obtain ⟨j0, j1⟩ := ri_cells HM.out.box; have jf0 := HM.out.box.frozen 0; have jf1 := HM.out.box.frozen 1; have hgrl := HM.out.box.lt; obtain ⟨c0, c1, c2⟩ := HCS.out _ HM.out.bel; clear h1 h2 hy)
              | fail)
            all_goals
              go_wp2_with (fail)
              have hM7 := HM.out.store (y := y) (by omega) HY6.out
              go_meet
              case rel => exact ⟨y, none, 0, rfl, Lib.hid hM7, HYS⟩
          case rest =>
            obtain ⟨y, A7, c7, HCUTP⟩ := hcut
            obtain ⟨rfl, HMC, HYS⟩ := HCUTP
            clear j0 j1 jf0 jf1 hgrl c0 c1 c2
            replace HM := HMC
            clear HMC R
            obtain ⟨j0, j1⟩ := ri_cells HM.out.box; have jf0 := HM.out.box.frozen 0; have jf1 := HM.out.box.frozen 1; have hgrl := HM.out.box.lt; obtain ⟨c0, c1, c2⟩ := HCS.out _ HM.out.bel
            go_wp2_with (fail)
            go_region_held3 (fun w' => w'.cell? ⟨b, off + k * 3 + 1, none⟩ = some (.int .i64 (xs k).wd) ∧ w'.cell? ⟨b, off + k * 3 + 2, none⟩ = some (.int .u64 (xs k).most)) (go_keep) (first
              | (go_at_call 26; refine (G _ ?_).mono ?_; (· exact HM.out.inn.below (Below.mono (by repeat (first | with_reducible exact Below.refl _ _ | with_reducible refine Below.alloc ?_ (by simp <;> omega) _ | with_reducible refine below_drewN ?_ _ | with_reducible refine Below.drew ?_)) (Nat.le_of_lt HM.out.box.lt))); rintro e w8 ⟨rfl, h1, h2⟩; replace HM := Lib.hid (HM.out.chg (by repeat (first | with_reducible exact Below.refl _ _ | with_reducible refine Below.alloc ?_ (by simp <;> omega) _ | with_reducible refine below_drewN ?_ _ | with_reducible refine Below.drew ?_)) h2 h1 hgi hwg); clear j0 j1 jf0 jf1 hgrl c0 c1 c2; obtain ⟨j0, j1⟩ := ri_cells HM.out.box; have jf0 := HM.out.box.frozen 0; have jf1 := HM.out.box.frozen 1; have hgrl := HM.out.box.lt; obtain ⟨c0, c1, c2⟩ := HCS.out _ HM.out.bel; clear h1 h2)
              | fail)
            try rename_i hHeld
            try clear hHeld
            clear j0 j1 jf0 jf1 hgrl c0 c1 c2
            obtain rfl : y.s = s' := HYS.out
            have HLEN : y.s.l.length ≤ 200 := Nat.le_trans HSH.out hlen
            clear G HSH HYS
            obtain ⟨j0, j1⟩ := ri_cells HM.out.box; have jf0 := HM.out.box.frozen 0; have jf1 := HM.out.box.frozen 1; have hgrl := HM.out.box.lt; obtain ⟨c0, c1, c2⟩ := HCS.out _ HM.out.bel
            go_wp2_with (fail)
            go_meet
            case rel => exact ⟨y, q, none, none, 0, 0, ([] : List Int), false, rfl, rfl, rfl, rfl, rfl, rfl, (by exact Nat.zero_le _), HLEN, Lib.hid (by exact Reads.none_), Lib.hid (by exact Reads.none_), HM⟩
      have h1' : ((xs k).kd == 1) = false := by simp [h0]
      clear h0
      by_cases h0 : (xs k).kd = 2
      · have h2' : ((xs k).kd == 2) = true := by simp [h0]
        clear h0
        as_aux_lemma =>
          have G := fun w h => rawIn_any gi x.s (xs k).wd gr w h hwd (by omega)
          have R := fun W => refRaw_any x (xs k).wd w.heap.size W
          have HSH := Lib.hid (raw_short x.s (xs k).wd)
          have HQL := Lib.hid (raw_q x.s (xs k).wd)
          generalize x.s.raw (xs k).wd = r at G R HSH HQL
          obtain ⟨s', q⟩ := r
          obtain ⟨j0, j1⟩ := ri_cells HM.out.box; have jf0 := HM.out.box.frozen 0; have jf1 := HM.out.box.frozen 1; have hgrl := HM.out.box.lt; obtain ⟨c0, c1, c2⟩ := HCS.out _ HM.out.bel
          go_upto_region 20 with (fail)
          go_cut [11] (fun v9 wx => ∃ (y : RI) (A7 : Option Addr) (c7 : Nat), v9 = .slice A7 q.length c7 ∧ Hid (Reads wx w.heap.size 1 A7 q.length (q.map (Value.int .u8))) ∧ Hid (RM w gi gr x.s y wx) ∧ Hid (y.s = s'))
          case first =>
            go_region_with (first
              | (go_at_call 27; refine (R _ ?_ ?_).mono ?_; (· repeat (first | with_reducible refine RIn.drew ?_ | with_reducible refine RIn.drewN ?_ _ | with_reducible exact HM.out.ri)); (· exact le_relay HM.out.bel.size (Below.refl _ _) (by repeat (first | with_reducible exact Below.refl _ _ | with_reducible refine Below.alloc ?_ (by simp <;> omega) _ | with_reducible refine below_drewN ?_ _ | with_reducible refine Below.drew ?_))); rintro e w6 ⟨y, A7, c7, rfl, hy, h1, h3, h2⟩; have HY6 := Lib.hid h1; have HYS := Lib.hid hy; have HD7 := Lib.hid h3; clear h3; replace HM := Lib.hid (HM.out.relay h2 (by repeat (first | with_reducible exact Below.refl _ _ | with_reducible refine Below.alloc ?_ (by simp <;> omega) _ | with_reducible refine below_drewN ?_ _ | with_reducible refine Below.drew ?_))); clear j0 j1 jf0 jf1 hgrl c0 c1 c2; obtain ⟨j0, j1⟩ := ri_cells HM.out.box; have jf0 := HM.out.box.frozen 0; have jf1 := HM.out.box.frozen 1; have hgrl := HM.out.box.lt; obtain ⟨c0, c1, c2⟩ := HCS.out _ HM.out.bel; clear h1 h2 hy)
              | fail)
            all_goals
              go_wp2_with (fail)
              have hM7 := HM.out.store (y := y) (by omega) HY6.out
              have hD7x := Lib.hid ((HD7.out.setCell (p := ⟨gr, 0, none⟩) (show w.heap.size ≤ gr by omega) (.slice y.A y.s.l.length y.cap)).setCell (p := ⟨gr, 1, none⟩) (show w.heap.size ≤ gr by omega) (.int .i64 y.s.e)); go_meet
              case rel => exact ⟨y, A7, c7, rfl, hD7x, Lib.hid hM7, HYS⟩
          case rest =>
            obtain ⟨y, A7, c7, HCUTP⟩ := hcut
            obtain ⟨rfl, hD7', HMC, HYS⟩ := HCUTP
            clear j0 j1 jf0 jf1 hgrl c0 c1 c2
            replace HM := HMC
            clear HMC R
            obtain ⟨j0, j1⟩ := ri_cells HM.out.box; have jf0 := HM.out.box.frozen 0; have jf1 := HM.out.box.frozen 1; have hgrl := HM.out.box.lt; obtain ⟨c0, c1, c2⟩ := HCS.out _ HM.out.bel
            go_wp2_with (fail)
            refine (G _ HM.out.inn).mono ?_
            rintro e w8 ⟨A8, c8, rfl, h1, h2, h3⟩
            have hM8 := HM.out.chg (Below.refl _ _) h2 h1 hgi hwg
            have HD8 := Lib.hid (hD7'.out.below (show Below w.heap.size wc w8 from h2.below HM.out.bel.size (fun i hi (e : i = gi) => by omega)))
            have H8 := Lib.hid h3
            clear j0 j1 jf0 jf1 hgrl c0 c1 c2
            clear HM h1 h2 h3
            obtain rfl : y.s = s' := HYS.out
            have HM := Lib.hid hM8
            have HLEN : y.s.l.length ≤ 200 := Nat.le_trans HSH.out hlen
            clear hM8 G HSH HYS
            have hq9 : q.length ≤ 1000000 := by have h1 : q.length ≤ x.s.l.length := HQL.out; omega
            obtain ⟨j0, j1⟩ := ri_cells HM.out.box; have jf0 := HM.out.box.frozen 0; have jf1 := HM.out.box.frozen 1; have hgrl := HM.out.box.lt; obtain ⟨c0, c1, c2⟩ := HCS.out _ HM.out.bel
            go_wp2_with (fail)
            go_meet
            case rel => exact ⟨y, 0, A8, A7, c8, c7, q, false, rfl, rfl, rfl, rfl, rfl, rfl, (by omega), HLEN, Lib.hid (by exact H8.out), Lib.hid (by exact HD8.out.more HM.out.bel.size), HM⟩
      have h2' : ((xs k).kd == 2) = false := by simp [h0]
      clear h0
      by_cases h0 : (xs k).kd = 3
      · have h3' : ((xs k).kd == 3) = true := by simp [h0]
        clear h0
        as_aux_lemma =>
          have G := fun w h => textIn_any gi x.s (xs k).wd gr w h (by omega)
          have R := fun W => refRead_any x (xs k).wd w.heap.size W
          have HSH := Lib.hid (text_short x.s (xs k).wd)
          have HQL := Lib.hid (text_q x.s (xs k).wd)
          generalize x.s.text (xs k).wd = r at G R HSH HQL
          obtain ⟨s', q⟩ := r
          obtain ⟨j0, j1⟩ := ri_cells HM.out.box; have jf0 := HM.out.box.frozen 0; have jf1 := HM.out.box.frozen 1; have hgrl := HM.out.box.lt; obtain ⟨c0, c1, c2⟩ := HCS.out _ HM.out.bel
          go_upto_region 23 with (fail)
          go_cut [11] (fun v9 wx => ∃ (y : RI) (A7 : Option Addr) (c7 : Nat), v9 = .slice A7 q.length c7 ∧ Hid (Reads wx w.heap.size 1 A7 q.length (q.map (Value.int .u8))) ∧ Hid (RM w gi gr x.s y wx) ∧ Hid (y.s = s'))
          case first =>
            go_region_with (first
              | (go_at_call 28; refine (R _ ?_ ?_).mono ?_; (· repeat (first | with_reducible refine RIn.drew ?_ | with_reducible refine RIn.drewN ?_ _ | with_reducible exact HM.out.ri)); (· exact le_relay HM.out.bel.size (Below.refl _ _) (by repeat (first | with_reducible exact Below.refl _ _ | with_reducible refine Below.alloc ?_ (by simp <;> omega) _ | with_reducible refine below_drewN ?_ _ | with_reducible refine Below.drew ?_))); rintro e w6 ⟨y, A7, c7, rfl, hy, h1, h3, h2⟩; have HY6 := Lib.hid h1; have HYS := Lib.hid hy; have HD7 := Lib.hid h3; clear h3; replace HM := Lib.hid (HM.out.relay h2 (by repeat (first | with_reducible exact Below.refl _ _ | with_reducible refine Below.alloc ?_ (by simp <;> omega) _ | with_reducible refine below_drewN ?_ _ | with_reducible refine Below.drew ?_))); clear j0 j1 jf0 jf1 hgrl c0 c1 c2; obtain ⟨j0, j1⟩ := ri_cells HM.out.box; have jf0 := HM.out.box.frozen 0; have jf1 := HM.out.box.frozen 1; have hgrl := HM.out.box.lt; obtain ⟨c0, c1, c2⟩ := HCS.out _ HM.out.bel; clear h1 h2 hy)
              | fail)
            all_goals
              go_wp2_with (fail)
              have hM7 := HM.out.store (y := y) (by omega) HY6.out
              have hD7x := Lib.hid ((HD7.out.setCell (p := ⟨gr, 0, none⟩) (show w.heap.size ≤ gr by omega) (.slice y.A y.s.l.length y.cap)).setCell (p := ⟨gr, 1, none⟩) (show w.heap.size ≤ gr by omega) (.int .i64 y.s.e)); go_meet
              case rel => exact ⟨y, A7, c7, rfl, hD7x, Lib.hid hM7, HYS⟩
          case rest =>
            obtain ⟨y, A7, c7, HCUTP⟩ := hcut
            obtain ⟨rfl, hD7', HMC, HYS⟩ := HCUTP
            clear j0 j1 jf0 jf1 hgrl c0 c1 c2
            replace HM := HMC
            clear HMC R
            obtain ⟨j0, j1⟩ := ri_cells HM.out.box; have jf0 := HM.out.box.frozen 0; have jf1 := HM.out.box.frozen 1; have hgrl := HM.out.box.lt; obtain ⟨c0, c1, c2⟩ := HCS.out _ HM.out.bel
            go_wp2_with (fail)
            refine (G _ HM.out.inn).mono ?_
            rintro e w8 ⟨A8, c8, rfl, h1, h2, h3⟩
            have hM8 := HM.out.chg (Below.refl _ _) h2 h1 hgi hwg
            have HD8 := Lib.hid (hD7'.out.below (show Below w.heap.size wc w8 from h2.below HM.out.bel.size (fun i hi (e : i = gi) => by omega)))
            have H8 := Lib.hid h3
            clear j0 j1 jf0 jf1 hgrl c0 c1 c2
            clear HM h1 h2 h3
            obtain rfl : y.s = s' := HYS.out
            have HM := Lib.hid hM8
            have HLEN : y.s.l.length ≤ 200 := Nat.le_trans HSH.out hlen
            clear hM8 G HSH HYS
            have hq9 : q.length ≤ 1000000 := by have h1 : q.length ≤ x.s.l.length := HQL.out; omega
            obtain ⟨j0, j1⟩ := ri_cells HM.out.box; have jf0 := HM.out.box.frozen 0; have jf1 := HM.out.box.frozen 1; have hgrl := HM.out.box.lt; obtain ⟨c0, c1, c2⟩ := HCS.out _ HM.out.bel
            go_wp2_with (fail)
            go_meet
            case rel => exact ⟨y, 0, A8, A7, c8, c7, q, false, rfl, rfl, rfl, rfl, rfl, rfl, (by omega), HLEN, Lib.hid (by exact H8.out), Lib.hid (by exact HD8.out.more HM.out.bel.size), HM⟩
      have h3' : ((xs k).kd == 3) = false := by simp [h0]
      clear h0
      as_aux_lemma =>
        have G := fun w h => bool_any gi x.s gr w h
        have R := fun W => refBool_any x w.heap.size W
        have HSH := Lib.hid (upto_short x.s 1 1)
        generalize x.s.upto 1 1 = r at G R HSH
        obtain ⟨s', q0⟩ := r
        simp only [] at G R
        generalize decide (q0 = 1) = q at G R
        obtain ⟨j0, j1⟩ := ri_cells HM.out.box; have jf0 := HM.out.box.frozen 0; have jf1 := HM.out.box.frozen 1; have hgrl := HM.out.box.lt; obtain ⟨c0, c1, c2⟩ := HCS.out _ HM.out.bel
        go_wp2_with (fail)
        refine (R _ HM.out.ri HM.out.bel.size).mono ?_
        rintro e w6 ⟨y, rfl, hy, h1, h2⟩
        have HY6 := Lib.hid h1
        have HYS := Lib.hid hy
        replace HM := Lib.hid (HM.out.below h2)
        clear j0 j1 jf0 jf1 hgrl c0 c1 c2
        obtain ⟨j0, j1⟩ := ri_cells HM.out.box; have jf0 := HM.out.box.frozen 0; have jf1 := HM.out.box.frozen 1; have hgrl := HM.out.box.lt; obtain ⟨c0, c1, c2⟩ := HCS.out _ HM.out.bel
        clear h1 h2 hy
        go_wp2_with (fail)
        clear j0 j1 jf0 jf1 hgrl c0 c1 c2
        have hM7 := HM.out.store (y := y) (by omega) HY6.out
        generalize (w6.setCell ⟨gr, 0, none⟩ (.slice y.A y.s.l.length y.cap)).setCell ⟨gr, 1, none⟩ (.int .i64 y.s.e) = w7 at hM7 ⊢
        replace HM := Lib.hid hM7
        clear hM7 HY6
        obtain ⟨j0, j1⟩ := ri_cells HM.out.box; have jf0 := HM.out.box.frozen 0; have jf1 := HM.out.box.frozen 1; have hgrl := HM.out.box.lt; obtain ⟨c0, c1, c2⟩ := HCS.out _ HM.out.bel
        refine (G _ HM.out.inn).mono ?_
        rintro e w8 ⟨rfl, h1, h2⟩
        have hM8 := HM.out.chg (Below.refl _ _) h2 h1 hgi hwg
        clear j0 j1 jf0 jf1 hgrl c0 c1 c2
        clear HM h1 h2
        obtain rfl : y.s = s' := HYS.out
        have HM := Lib.hid hM8
        have HLEN : y.s.l.length ≤ 200 := Nat.le_trans HSH.out hlen
        clear hM8 G R HSH HYS
        obtain ⟨j0, j1⟩ := ri_cells HM.out.box; have jf0 := HM.out.box.frozen 0; have jf1 := HM.out.box.frozen 1; have hgrl := HM.out.box.lt; obtain ⟨c0, c1, c2⟩ := HCS.out _ HM.out.bel
        go_wp2_with (fail)
        go_meet
        case rel => exact ⟨y, 0, none, none, 0, 0, ([] : List Int), q, rfl, rfl, rfl, rfl, rfl, rfl, (by exact Nat.zero_le _), HLEN, Lib.hid (by exact Reads.none_), Lib.hid (by exact Reads.none_), HM⟩
    · have hx : ¬ (k : Int) < m ∨ ((k : Int) < m ∧ ¬ (k : Int) < 30) := by omega
      clear hlt
      rcases hx with hx | ⟨hx0, hx⟩
      all_goals
        go_wp2_with (fail)
        refine (awake_any _).mono ?_
        rintro e w6 ⟨rfl, h1⟩
        have H6 := Lib.hid (HM.out.bel.trans (h1.mono HM.out.bel.size))
        clear h1
        go_wp2
        go_ret
        exact ⟨rfl, H6.out⟩
end Go.Proofs.Ytejjifbjmibapaa
