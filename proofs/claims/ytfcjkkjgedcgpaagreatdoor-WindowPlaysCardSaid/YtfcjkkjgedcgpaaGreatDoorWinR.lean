/- The reference's Reach, From. -/
import Derived.Test.YtfcjkkjgedcgpaaGreatDoorWinQ


namespace Go.Proofs.YtfcjkkjgedcgpaaGreatDoor
open Go.RowKit
set_option linter.unusedSimpArgs false
set_option linter.unusedVariables false
set_option maxHeartbeats 8000000
set_option maxRecDepth 100000
attribute [local go_sem] Up.agg Up.cells

def RW.upTo (r : RW) (d : Int) : Int := max r.done (min d r.fin)
def RW.told (r : RW) (d : Int) : List Up := r.l.filter fun u => decide (r.done < u.seq) && decide (u.seq ≤ r.upTo d)
def RW.after (r : RW) (d : Int) : RW := ⟨r.low, r.fin, r.upTo d, r.A, r.c, r.l⟩
def RReachP (r : RW) (d : Int) (W : World) (e : Ending) (W' : World) : Prop :=
  ∃ (A' Ao : Option Addr) (c' co : Nat), e = .returned (.tuple #[RW.agg ⟨(r.after d).keptLow, r.fin, r.upTo d, A', c', (r.after d).keptL⟩, .slice Ao (r.told d).length co]) ∧ Reads W' W'.heap.size 7 A' (r.after d).keptL.length ((r.after d).keptL.flatMap Up.row) ∧
    SameOrNew W r.A A' ∧ Reads W' W'.heap.size 7 Ao (r.told d).length ((r.told d).flatMap Up.row) ∧ (∀ ad, Ao = some ad → W.heap.size ≤ ad.block) ∧ Below W.heap.size W W'
theorem told_take {l : List Up} {k : Nat} {u : Up} {p : Up → Bool} (hu : l[k]? = some u) : (l.take (k + 1)).filter p = (l.take k).filter p ++ (if p u = true then [u] else []) := by
  rw [take_snoc hu, List.filter_append]
  congr 1
  by_cases h : p u = true <;> simp [h]
theorem rreach_any (r : RW) (d : Int) (B : Nat) (w : World) (h : RW.inn w B r) (hB : B ≤ w.heap.size) (hd0 : 0 ≤ d) :
    Calls Tryz.prog 18 #[r.agg, .int .u64 d] w (RReachP r d w) := by
  obtain ⟨i0, hi, hz0, hz1, hz2⟩ := info_parts upInfo
  have H := Lib.hid h
  obtain ⟨low, fin, done, A, c, l⟩ := r
  have k1 : 0 ≤ low := h.low
  have k2 : low ≤ done := h.ld
  have k3 : done ≤ fin := h.de
  have k4 : fin ≤ 9000000000000000000 := h.big
  have k5 : l.length ≤ 900000 := h.len
  have hb1 : Blk ((w.alloc (.cells #[.int .u64 low, .int .u64 fin, .int .u64 done, .slice A l.length c] 42)).alloc (.cells rwZero 42)) w.heap.size 42 #[.int .u64 low, .int .u64 fin, .int .u64 done, .slice A l.length c] := (Blk.new _ _ _).alloc _
  have hb2 : Blk ((w.alloc (.cells #[.int .u64 low, .int .u64 fin, .int .u64 done, .slice A l.length c] 42)).alloc (.cells rwZero 42)) (w.heap.size + 1) 42 rwZero := blk_at7 _ _ _ _ (by simp)
  have hbb : Below w.heap.size w ((w.alloc (.cells #[.int .u64 low, .int .u64 fin, .int .u64 done, .slice A l.length c] 42)).alloc (.cells rwZero 42)) := by repeat (first | with_reducible exact Below.refl _ _ | with_reducible refine Below.setCell ?_ (by first | omega | (simp <;> omega)) _ | with_reducible refine Below.alloc ?_ (by first | omega | (simp <;> omega)) _ | with_reducible refine below_drewN ?_ _ | with_reducible refine Below.drew ?_)
  have hsz : ((w.alloc (.cells #[.int .u64 low, .int .u64 fin, .int .u64 done, .slice A l.length c] 42)).alloc (.cells rwZero 42)).heap.size = w.heap.size + 2 := by simp
  obtain ⟨W2, hW2⟩ : ∃ W2, W2 = (w.alloc (.cells #[.int .u64 low, .int .u64 fin, .int .u64 done, .slice A l.length c] 42)).alloc (.cells rwZero 42) := ⟨_, rfl⟩
  rw [← hW2] at hb1 hb2 hbb hsz
  have HB1 := Lib.hid hb1
  have HB2 := Lib.hid hb2
  have HBB := Lib.hid hbb
  have HSZ := Lib.hid hsz
  have HW2 := Lib.hid hW2
  have HUP := Lib.hid (H.out.ups.below (HBB.out.mono hB))
  clear h hb1 hb2 hbb hsz hW2
  show Calls Tryz.prog 18 #[.agg #[.int .u64 low, .int .u64 fin, .int .u64 done, .slice A l.length c], .int .u64 d] w _
  obtain ⟨ol, hol⟩ : ∃ ol, RW.told ⟨low, fin, done, A, c, l⟩ d = ol := ⟨_, rfl⟩
  have HOL := Lib.hid hol
  clear hol
  rcases (show (fin < d ∧ Hid (RW.upTo ⟨low, fin, done, A, c, l⟩ d = fin)) ∨ (d ≤ fin ∧ d < done ∧ Hid (RW.upTo ⟨low, fin, done, A, c, l⟩ d = done)) ∨ (d ≤ fin ∧ done ≤ d ∧ Hid (RW.upTo ⟨low, fin, done, A, c, l⟩ d = d)) from by
      unfold RW.upTo
      simp only
      by_cases h1 : fin < d
      · exact .inl ⟨h1, Lib.hid (by omega)⟩
      · by_cases h2 : d < done
        · exact .inr (.inl ⟨by omega, h2, Lib.hid (by omega)⟩)
        · exact .inr (.inr ⟨by omega, by omega, Lib.hid (by omega)⟩)) with ⟨j1, HX⟩ | ⟨j1, j2, HX⟩ | ⟨j1, j2, HX⟩
  · have HLN : Hid (ol = l.filter (fun u => decide (done < u.seq) && decide (u.seq ≤ fin))) := Lib.hid (by rw [← HOL.out]; unfold RW.told; rw [HX.out])
    have HP0 : Hid (RefAt W2 ((l.take 0).filter (fun u => decide (done < u.seq) && decide (u.seq ≤ fin))) (.slice none 0 0) W2) := Lib.hid ⟨World.ownsRow_nil _ _ _ _, Below.refl _ _⟩
    go_enter Tryz.func18, Tryz.ntmps18
    go_upto_region 1 with (fail)
    rw [show (w.alloc (.cells #[.int .u64 low, .int .u64 fin, .int .u64 done, .slice A l.length c] 42)).alloc (.cells #[.int .u64 0, .int .u64 0, .int .u64 0, .slice none 0 0] 42) = W2 from HW2.out.symm]
    obtain ⟨x0, x1, x2, x3⟩ := rw_cells HB1.out
    have lb1 := HB1.out.lt
    have HCF : Hid (∀ W', Below W2.heap.size W2 W' → W'.cell? ⟨w.heap.size, 2, none⟩ = some (.int .u64 done) ∧ W'.cell? ⟨w.heap.size, 3, none⟩ = some (.slice A l.length c)) := Lib.hid (fun W' h => ⟨(h.cell (p := ⟨w.heap.size, 2, none⟩) lb1).trans x2, (h.cell (p := ⟨w.heap.size, 3, none⟩) lb1).trans x3⟩)
    go_wp2_with (fail)
    go_loopw [6, 7] (fun va ia wr => ∃ k : Nat, k ≤ l.length ∧ ia = .int .i64 k ∧ Hid (RefAt W2 ((l.take k).filter (fun u => decide (done < u.seq) && decide (u.seq ≤ fin))) va wr)) (fun _ ia _ => l.length - (intOf ia).toNat)
    case atStart => exact ⟨0, Nat.zero_le _, rfl, HP0⟩
    case round =>
      clear HP0 x0 x1 x2 x3
      obtain ⟨k, hk, rfl, HP⟩ := hrel
      obtain ⟨x2, x3⟩ := HCF.out wr HP.out.bel
      have lw1 := Nat.lt_of_lt_of_le lb1 HP.out.bel.size
      by_cases hlt : k < l.length
      · obtain ⟨b, off, u, rfl, hb, hu, hin, c0, c1, c2, c3, c4, c5, c6⟩ := (HUP.out.below (HP.out.bel.mono (Nat.le_trans hB HBB.out.size))).at_ hlt
        have hlt' : (k : Int) < l.length := by omega
        have hT := told_take (p := fun u => decide (done < u.seq) && decide (u.seq ≤ fin)) hu
        have hol : ((l.take k).filter (fun u => decide (done < u.seq) && decide (u.seq ≤ fin))).length ≤ k := Nat.le_trans (List.length_filter_le _ _) (by rw [List.length_take]; omega)
        have HHT := Lib.hid hT
        clear hu hin hT
        obtain ⟨o, ho⟩ : ∃ o, (l.take k).filter (fun u => decide (done < u.seq) && decide (u.seq ≤ fin)) = o := ⟨_, rfl⟩
        rw [ho] at HHT HP hol
        clear ho
        obtain ⟨A7, c7, rfl, _, _, _⟩ := own_slice HP.out.own
        have lbb : b < wr.heap.size := Nat.lt_of_lt_of_le (Nat.lt_of_lt_of_le hb (Nat.le_trans hB HBB.out.size)) HP.out.bel.size
        by_cases h0 : done < u.seq
        · by_cases h1 : u.seq ≤ fin
          · have hT' : Hid ((l.take (k + 1)).filter (fun u => decide (done < u.seq) && decide (u.seq ≤ fin)) = o ++ [u]) := Lib.hid (by rw [HHT.out, if_pos (by simp; omega)])
            go_wp2_with (fail)
            go_quiet (fail)
            have HO5 := Lib.hid ((own_drewN HP.out.own nq).alloc (.cells (Up.cells u) 29))
            have HB5 := Lib.hid ((below_drewN HP.out.bel nq).alloc HP.out.bel.size (.cells (Up.cells u) 29))
            go_wp2_with (at_builtin; go_must (refine wpList_append_own _ rfl (.tmp 46) (.tmp 52) _ rfl W2.heap.size 29 i0 _ 7 72 Tryz.underlying36 hi hz0 hz1 hz2 rfl (by omega) _ _ _ rfl HO5.out ⟨wr.heap.size, 0, none⟩ 1 1 (Up.row u) rfl rfl ?d1 ?d2 ?d3 ?d4 ?d5 ?_))
            case d1 => exact fun j x hx => cells_new_at _ _ _ _ (by simp) j x hx
            case d2 => exact up_one u
            case d3 => unfold maxLen; omega
            case d4 => omega
            case d5 => exact HB5.out.size
            intro v7 w7 hown hg hat
            have HP7 := Lib.hid (RefAt.app ⟨HO5.out, HB5.out⟩ hown hg)
            clear hown hg hat c0 c1 c2 c3 c4 c5 c6 HO5 HB5 x2 x3
            obtain ⟨A8, c8, rfl, _, _, _⟩ := own_slice HP7.out.own
            go_wp2_with (fail)
            go_roundw
            case rel => exact ⟨k + 1, by omega, by go_num, Lib.hid (by rw [hT'.out]; exact HP7.out)⟩
            case measure => simp [intOf]; omega
          · have hT' : Hid ((l.take (k + 1)).filter (fun u => decide (done < u.seq) && decide (u.seq ≤ fin)) = o) := Lib.hid (by rw [HHT.out, if_neg (by simp <;> omega)]; simp)
            have h1' : fin < u.seq := by omega
            clear h1
            go_wp2_with (fail)
            go_quiet (fail)
            go_wp2_with (fail)
            go_roundw
            case rel => exact ⟨k + 1, by omega, by go_num, Lib.hid (by rw [hT'.out]; exact ⟨HP.out.own, below_drewN HP.out.bel _⟩)⟩
            case measure => simp [intOf]; omega
        · have hT' : Hid ((l.take (k + 1)).filter (fun u => decide (done < u.seq) && decide (u.seq ≤ fin)) = o) := Lib.hid (by rw [HHT.out, if_neg (by simp <;> omega)]; simp)
          have h0' : u.seq ≤ done := by omega
          have hg0 : decide (done < u.seq) = false := by simpa using h0'
          clear h0
          go_wp2_with (fail)
          go_quiet (fail)
          go_wp2_with (fail)
          go_roundw
          case rel => exact ⟨k + 1, by omega, by go_num, Lib.hid (by rw [hT'.out]; exact ⟨HP.out.own, below_drewN HP.out.bel _⟩)⟩
          case measure => simp [intOf]; omega
      · obtain rfl : k = l.length := by omega
        have HPF := HP.out
        rw [List.take_of_length_le (Nat.le_refl _), ← HLN.out] at HPF
        obtain ⟨A7, c7, rfl, _, _, _⟩ := own_slice HPF.own
        have HPP := Lib.hid HPF
        have hB1 := HB1.out.below HPF.bel lb1
        have hB2 := HB2.out.below HPF.bel HB2.out.lt
        have hcq := chg_setB wr w.heap.size (.int .u64 fin) 2
        have m1 := hB1.set_ 2 (.int .u64 fin)
        have m3 := hB2.far (show w.heap.size + 1 ≠ (⟨w.heap.size, 2, none⟩ : Addr).block by simp) (.int .u64 fin)
        have hbel : Below w.heap.size w (wr.setCell ⟨w.heap.size, 2, none⟩ (.int .u64 fin)) := (HBB.out.trans (HPF.bel.mono HBB.out.size)).trans (hcq.below (Nat.le_trans HBB.out.size HPF.bel.size) (fun k hk e => by simp only [isB] at e; omega))
        have how := hcq.own HPF.own (fun k hk e => by have := (HPF.own.lt k hk).1; have := HSZ.out; simp only [isB] at e; omega)
        have f2 := hB1.frozen 2
        have KC : Hid (Calls Tryz.prog 29 #[.agg #[.int .u64 low, .int .u64 fin, .int .u64 fin, .slice A l.length c]] (wr.setCell ⟨w.heap.size, 2, none⟩ (.int .u64 fin)) (KeptP ⟨low, fin, fin, A, c, l⟩ (wr.setCell ⟨w.heap.size, 2, none⟩ (.int .u64 fin)))) := Lib.hid (by
          have h1 : RW.inn (wr.setCell ⟨w.heap.size, 2, none⟩ (.int .u64 fin)) B ⟨low, fin, fin, A, c, l⟩ :=
            ⟨H.out.ups.below (hbel.mono hB), k5, k1, by show low ≤ fin; omega, by show fin ≤ fin; omega, k4⟩
          exact kept_any ⟨low, fin, fin, A, c, l⟩ B _ h1 (Nat.le_trans hB hbel.size))
        have HM3 := Lib.hid m3
        have HOW := Lib.hid how
        have HBEL := Lib.hid hbel
        have hsz2 : w.heap.size + 2 ≤ (wr.setCell ⟨w.heap.size, 2, none⟩ (.int .u64 fin)).heap.size := by have h1 := HPF.bel.size; have h2 := HSZ.out; simp; omega
        have HS2 := Lib.hid hsz2
        obtain ⟨t0, t1, t2, t3⟩ := rw_cells hB1
        clear HPF hB1 hB2 hcq m1 m3 hbel how hsz2 x2 x3 HP
        go_wp2_with (fail)
        refine KC.out.mono ?_
        rintro e w12 ⟨A', c', rfl, hrd, hsn, hb12⟩
        obtain ⟨X, hX⟩ : ∃ X, RW.keptLow ⟨low, fin, fin, A, c, l⟩ = X := ⟨_, rfl⟩
        obtain ⟨kl, hkl⟩ : ∃ kl, RW.keptL ⟨low, fin, fin, A, c, l⟩ = kl := ⟨_, rfl⟩
        rw [hX, hkl]
        rw [hkl] at hrd
        have HXX := Lib.hid hX
        have HKL := Lib.hid hkl
        have HN3 := Lib.hid (HM3.out.below hb12 HM3.out.lt)
        have HB12 := Lib.hid (HBEL.out.trans (hb12.mono HBEL.out.size))
        have HRD12 := Lib.hid hrd
        have HOW12 := Lib.hid ((Chg.of_below hb12 (fun _ => False)).own HOW.out (fun _ _ x => x))
        have HSN : Hid (SameOrNew w A A' ∧ ∀ ad, 0 < kl.length → A' = some ad → ad.block ≠ w.heap.size + 1) := Lib.hid (by
          rcases hsn with h | h
          · refine ⟨.inl h, fun ad h0 hA e => ?_⟩
            simp only at h
            have h0l : 0 < l.length := by
              have : kl.length ≤ l.length := by
                rw [← HKL.out]; unfold RW.keptL; split
                · exact Nat.le_refl _
                · exact List.length_filter_le _ _
              omega
            obtain ⟨ad2, hA2, hb2, _⟩ := H.out.ups.rd.2 h0l
            simp only at hA2
            rw [h, hA2] at hA
            injection hA with hA
            subst hA
            omega
          · exact ⟨.inr (fun ad hA => Nat.le_trans (by omega) (Nat.le_trans HS2.out (h ad hA))), fun ad h0 hA e => by have h1 := h ad hA; have h2 := HS2.out; omega⟩)
        clear hX hkl hrd hsn hb12 t0 t1 t2 t3 f2
        obtain ⟨y0, y1, y2, y3⟩ := rw_cells HN3.out
        obtain ⟨f0, f1, f2, f3⟩ := rw_frozen HN3.out
        simp only [RW.agg]
        go_wp2_with (fail)
        have HC := Lib.hid (chg_set4 w12 (w.heap.size + 1) (.int .u64 X) (.int .u64 fin) (.int .u64 fin) (.slice A' kl.length c'))
        have HK := Lib.hid (blk_set4 HN3.out (.int .u64 X) (.int .u64 fin) (.int .u64 fin) (.slice A' kl.length c'))
        obtain ⟨wz, hwz⟩ : ∃ wz, wz = ((((w12.setCell ⟨w.heap.size + 1, 0, none⟩ (.int .u64 X)).setCell ⟨w.heap.size + 1, 1, none⟩ (.int .u64 fin)).setCell ⟨w.heap.size + 1, 2, none⟩ (.int .u64 fin)).setCell ⟨w.heap.size + 1, 3, none⟩ (.slice A' kl.length c')) := ⟨_, rfl⟩
        rw [← hwz] at HC HK ⊢
        clear hwz
        obtain ⟨p0, p1, p2, p3⟩ := rw_cells HK.out
        refine bodyPost_ret (v := .tuple #[.agg #[.int .u64 X, .int .u64 fin, .int .u64 fin, .slice A' kl.length c'], .slice A7 ol.length c7]) (by simp [results, Tryz.results18, go_sem, p0, p1, p2, p3]) rfl ?_
        have hbz : Below w.heap.size w wz := HB12.out.trans (HC.out.below HB12.out.size (fun k hk e => by simp only [isB] at e; omega))
        have how2 := HC.out.own HOW12.out (fun k hk e => by have := (HOW12.out.lt k hk).1; have := HSZ.out; simp only [isB] at e; omega)
        refine ⟨A', A7, c', c7, ?_, ?_, HSN.out.1, ?_, (fun ad hA => by subst hA; have h1 := (how2.lt ad.block rfl).1; have h2 := HSZ.out; omega), hbz⟩
        · unfold RW.after; rw [HX.out, HXX.out, HKL.out, HOL.out]; rfl
        · unfold RW.after; rw [HX.out, HKL.out]
          exact (HC.out.reads HRD12.out (Nat.le_refl _) (fun ad h0 hA e => HSN.out.2 ad h0 hA e)).more HC.out.size
        · rw [HOL.out]; exact Reads.of_own how2
  · have HLN : Hid (ol = l.filter (fun u => decide (done < u.seq) && decide (u.seq ≤ done))) := Lib.hid (by rw [← HOL.out]; unfold RW.told; rw [HX.out])
    have HP0 : Hid (RefAt W2 ((l.take 0).filter (fun u => decide (done < u.seq) && decide (u.seq ≤ done))) (.slice none 0 0) W2) := Lib.hid ⟨World.ownsRow_nil _ _ _ _, Below.refl _ _⟩
    go_enter Tryz.func18, Tryz.ntmps18
    go_upto_region 1 with (fail)
    rw [show (w.alloc (.cells #[.int .u64 low, .int .u64 fin, .int .u64 done, .slice A l.length c] 42)).alloc (.cells #[.int .u64 0, .int .u64 0, .int .u64 0, .slice none 0 0] 42) = W2 from HW2.out.symm]
    obtain ⟨x0, x1, x2, x3⟩ := rw_cells HB1.out
    have lb1 := HB1.out.lt
    have HCF : Hid (∀ W', Below W2.heap.size W2 W' → W'.cell? ⟨w.heap.size, 2, none⟩ = some (.int .u64 done) ∧ W'.cell? ⟨w.heap.size, 3, none⟩ = some (.slice A l.length c)) := Lib.hid (fun W' h => ⟨(h.cell (p := ⟨w.heap.size, 2, none⟩) lb1).trans x2, (h.cell (p := ⟨w.heap.size, 3, none⟩) lb1).trans x3⟩)
    go_wp2_with (fail)
    go_loopw [6, 7] (fun va ia wr => ∃ k : Nat, k ≤ l.length ∧ ia = .int .i64 k ∧ Hid (RefAt W2 ((l.take k).filter (fun u => decide (done < u.seq) && decide (u.seq ≤ done))) va wr)) (fun _ ia _ => l.length - (intOf ia).toNat)
    case atStart => exact ⟨0, Nat.zero_le _, rfl, HP0⟩
    case round =>
      clear HP0 x0 x1 x2 x3
      obtain ⟨k, hk, rfl, HP⟩ := hrel
      obtain ⟨x2, x3⟩ := HCF.out wr HP.out.bel
      have lw1 := Nat.lt_of_lt_of_le lb1 HP.out.bel.size
      by_cases hlt : k < l.length
      · obtain ⟨b, off, u, rfl, hb, hu, hin, c0, c1, c2, c3, c4, c5, c6⟩ := (HUP.out.below (HP.out.bel.mono (Nat.le_trans hB HBB.out.size))).at_ hlt
        have hlt' : (k : Int) < l.length := by omega
        have hT := told_take (p := fun u => decide (done < u.seq) && decide (u.seq ≤ done)) hu
        have hol : ((l.take k).filter (fun u => decide (done < u.seq) && decide (u.seq ≤ done))).length ≤ k := Nat.le_trans (List.length_filter_le _ _) (by rw [List.length_take]; omega)
        have HHT := Lib.hid hT
        clear hu hin hT
        obtain ⟨o, ho⟩ : ∃ o, (l.take k).filter (fun u => decide (done < u.seq) && decide (u.seq ≤ done)) = o := ⟨_, rfl⟩
        rw [ho] at HHT HP hol
        clear ho
        obtain ⟨A7, c7, rfl, _, _, _⟩ := own_slice HP.out.own
        have lbb : b < wr.heap.size := Nat.lt_of_lt_of_le (Nat.lt_of_lt_of_le hb (Nat.le_trans hB HBB.out.size)) HP.out.bel.size
        by_cases h0 : done < u.seq
        · by_cases h1 : u.seq ≤ done
          · exact absurd h1 (by omega)
          · have hT' : Hid ((l.take (k + 1)).filter (fun u => decide (done < u.seq) && decide (u.seq ≤ done)) = o) := Lib.hid (by rw [HHT.out, if_neg (by simp <;> omega)]; simp)
            have h1' : done < u.seq := by omega
            clear h1
            go_wp2_with (fail)
            go_quiet (fail)
            go_wp2_with (fail)
            go_roundw
            case rel => exact ⟨k + 1, by omega, by go_num, Lib.hid (by rw [hT'.out]; exact ⟨HP.out.own, below_drewN HP.out.bel _⟩)⟩
            case measure => simp [intOf]; omega
        · have hT' : Hid ((l.take (k + 1)).filter (fun u => decide (done < u.seq) && decide (u.seq ≤ done)) = o) := Lib.hid (by rw [HHT.out, if_neg (by simp <;> omega)]; simp)
          have h0' : u.seq ≤ done := by omega
          have hg0 : decide (done < u.seq) = false := by simpa using h0'
          clear h0
          go_wp2_with (fail)
          go_quiet (fail)
          go_wp2_with (fail)
          go_roundw
          case rel => exact ⟨k + 1, by omega, by go_num, Lib.hid (by rw [hT'.out]; exact ⟨HP.out.own, below_drewN HP.out.bel _⟩)⟩
          case measure => simp [intOf]; omega
      · obtain rfl : k = l.length := by omega
        have HPF := HP.out
        rw [List.take_of_length_le (Nat.le_refl _), ← HLN.out] at HPF
        obtain ⟨A7, c7, rfl, _, _, _⟩ := own_slice HPF.own
        have HPP := Lib.hid HPF
        have hB1 := HB1.out.below HPF.bel lb1
        have hB2 := HB2.out.below HPF.bel HB2.out.lt
        have hcq := chg_setB wr w.heap.size (.int .u64 done) 2
        have m1 := hB1.set_ 2 (.int .u64 done)
        have m3 := hB2.far (show w.heap.size + 1 ≠ (⟨w.heap.size, 2, none⟩ : Addr).block by simp) (.int .u64 done)
        have hbel : Below w.heap.size w (wr.setCell ⟨w.heap.size, 2, none⟩ (.int .u64 done)) := (HBB.out.trans (HPF.bel.mono HBB.out.size)).trans (hcq.below (Nat.le_trans HBB.out.size HPF.bel.size) (fun k hk e => by simp only [isB] at e; omega))
        have how := hcq.own HPF.own (fun k hk e => by have := (HPF.own.lt k hk).1; have := HSZ.out; simp only [isB] at e; omega)
        have f2 := hB1.frozen 2
        have KC : Hid (Calls Tryz.prog 29 #[.agg #[.int .u64 low, .int .u64 fin, .int .u64 done, .slice A l.length c]] (wr.setCell ⟨w.heap.size, 2, none⟩ (.int .u64 done)) (KeptP ⟨low, fin, done, A, c, l⟩ (wr.setCell ⟨w.heap.size, 2, none⟩ (.int .u64 done)))) := Lib.hid (by
          have h1 : RW.inn (wr.setCell ⟨w.heap.size, 2, none⟩ (.int .u64 done)) B ⟨low, fin, done, A, c, l⟩ :=
            ⟨H.out.ups.below (hbel.mono hB), k5, k1, by show low ≤ done; omega, by show done ≤ fin; omega, k4⟩
          exact kept_any ⟨low, fin, done, A, c, l⟩ B _ h1 (Nat.le_trans hB hbel.size))
        have HM3 := Lib.hid m3
        have HOW := Lib.hid how
        have HBEL := Lib.hid hbel
        have hsz2 : w.heap.size + 2 ≤ (wr.setCell ⟨w.heap.size, 2, none⟩ (.int .u64 done)).heap.size := by have h1 := HPF.bel.size; have h2 := HSZ.out; simp; omega
        have HS2 := Lib.hid hsz2
        obtain ⟨t0, t1, t2, t3⟩ := rw_cells hB1
        clear HPF hB1 hB2 hcq m1 m3 hbel how hsz2 x2 x3 HP
        go_wp2_with (fail)
        refine KC.out.mono ?_
        rintro e w12 ⟨A', c', rfl, hrd, hsn, hb12⟩
        obtain ⟨X, hX⟩ : ∃ X, RW.keptLow ⟨low, fin, done, A, c, l⟩ = X := ⟨_, rfl⟩
        obtain ⟨kl, hkl⟩ : ∃ kl, RW.keptL ⟨low, fin, done, A, c, l⟩ = kl := ⟨_, rfl⟩
        rw [hX, hkl]
        rw [hkl] at hrd
        have HXX := Lib.hid hX
        have HKL := Lib.hid hkl
        have HN3 := Lib.hid (HM3.out.below hb12 HM3.out.lt)
        have HB12 := Lib.hid (HBEL.out.trans (hb12.mono HBEL.out.size))
        have HRD12 := Lib.hid hrd
        have HOW12 := Lib.hid ((Chg.of_below hb12 (fun _ => False)).own HOW.out (fun _ _ x => x))
        have HSN : Hid (SameOrNew w A A' ∧ ∀ ad, 0 < kl.length → A' = some ad → ad.block ≠ w.heap.size + 1) := Lib.hid (by
          rcases hsn with h | h
          · refine ⟨.inl h, fun ad h0 hA e => ?_⟩
            simp only at h
            have h0l : 0 < l.length := by
              have : kl.length ≤ l.length := by
                rw [← HKL.out]; unfold RW.keptL; split
                · exact Nat.le_refl _
                · exact List.length_filter_le _ _
              omega
            obtain ⟨ad2, hA2, hb2, _⟩ := H.out.ups.rd.2 h0l
            simp only at hA2
            rw [h, hA2] at hA
            injection hA with hA
            subst hA
            omega
          · exact ⟨.inr (fun ad hA => Nat.le_trans (by omega) (Nat.le_trans HS2.out (h ad hA))), fun ad h0 hA e => by have h1 := h ad hA; have h2 := HS2.out; omega⟩)
        clear hX hkl hrd hsn hb12 t0 t1 t2 t3 f2
        obtain ⟨y0, y1, y2, y3⟩ := rw_cells HN3.out
        obtain ⟨f0, f1, f2, f3⟩ := rw_frozen HN3.out
        simp only [RW.agg]
        go_wp2_with (fail)
        have HC := Lib.hid (chg_set4 w12 (w.heap.size + 1) (.int .u64 X) (.int .u64 fin) (.int .u64 done) (.slice A' kl.length c'))
        have HK := Lib.hid (blk_set4 HN3.out (.int .u64 X) (.int .u64 fin) (.int .u64 done) (.slice A' kl.length c'))
        obtain ⟨wz, hwz⟩ : ∃ wz, wz = ((((w12.setCell ⟨w.heap.size + 1, 0, none⟩ (.int .u64 X)).setCell ⟨w.heap.size + 1, 1, none⟩ (.int .u64 fin)).setCell ⟨w.heap.size + 1, 2, none⟩ (.int .u64 done)).setCell ⟨w.heap.size + 1, 3, none⟩ (.slice A' kl.length c')) := ⟨_, rfl⟩
        rw [← hwz] at HC HK ⊢
        clear hwz
        obtain ⟨p0, p1, p2, p3⟩ := rw_cells HK.out
        refine bodyPost_ret (v := .tuple #[.agg #[.int .u64 X, .int .u64 fin, .int .u64 done, .slice A' kl.length c'], .slice A7 ol.length c7]) (by simp [results, Tryz.results18, go_sem, p0, p1, p2, p3]) rfl ?_
        have hbz : Below w.heap.size w wz := HB12.out.trans (HC.out.below HB12.out.size (fun k hk e => by simp only [isB] at e; omega))
        have how2 := HC.out.own HOW12.out (fun k hk e => by have := (HOW12.out.lt k hk).1; have := HSZ.out; simp only [isB] at e; omega)
        refine ⟨A', A7, c', c7, ?_, ?_, HSN.out.1, ?_, (fun ad hA => by subst hA; have h1 := (how2.lt ad.block rfl).1; have h2 := HSZ.out; omega), hbz⟩
        · unfold RW.after; rw [HX.out, HXX.out, HKL.out, HOL.out]; rfl
        · unfold RW.after; rw [HX.out, HKL.out]
          exact (HC.out.reads HRD12.out (Nat.le_refl _) (fun ad h0 hA e => HSN.out.2 ad h0 hA e)).more HC.out.size
        · rw [HOL.out]; exact Reads.of_own how2
  · have HLN : Hid (ol = l.filter (fun u => decide (done < u.seq) && decide (u.seq ≤ d))) := Lib.hid (by rw [← HOL.out]; unfold RW.told; rw [HX.out])
    have HP0 : Hid (RefAt W2 ((l.take 0).filter (fun u => decide (done < u.seq) && decide (u.seq ≤ d))) (.slice none 0 0) W2) := Lib.hid ⟨World.ownsRow_nil _ _ _ _, Below.refl _ _⟩
    go_enter Tryz.func18, Tryz.ntmps18
    go_upto_region 1 with (fail)
    rw [show (w.alloc (.cells #[.int .u64 low, .int .u64 fin, .int .u64 done, .slice A l.length c] 42)).alloc (.cells #[.int .u64 0, .int .u64 0, .int .u64 0, .slice none 0 0] 42) = W2 from HW2.out.symm]
    obtain ⟨x0, x1, x2, x3⟩ := rw_cells HB1.out
    have lb1 := HB1.out.lt
    have HCF : Hid (∀ W', Below W2.heap.size W2 W' → W'.cell? ⟨w.heap.size, 2, none⟩ = some (.int .u64 done) ∧ W'.cell? ⟨w.heap.size, 3, none⟩ = some (.slice A l.length c)) := Lib.hid (fun W' h => ⟨(h.cell (p := ⟨w.heap.size, 2, none⟩) lb1).trans x2, (h.cell (p := ⟨w.heap.size, 3, none⟩) lb1).trans x3⟩)
    go_wp2_with (fail)
    go_loopw [6, 7] (fun va ia wr => ∃ k : Nat, k ≤ l.length ∧ ia = .int .i64 k ∧ Hid (RefAt W2 ((l.take k).filter (fun u => decide (done < u.seq) && decide (u.seq ≤ d))) va wr)) (fun _ ia _ => l.length - (intOf ia).toNat)
    case atStart => exact ⟨0, Nat.zero_le _, rfl, HP0⟩
    case round =>
      clear HP0 x0 x1 x2 x3
      obtain ⟨k, hk, rfl, HP⟩ := hrel
      obtain ⟨x2, x3⟩ := HCF.out wr HP.out.bel
      have lw1 := Nat.lt_of_lt_of_le lb1 HP.out.bel.size
      by_cases hlt : k < l.length
      · obtain ⟨b, off, u, rfl, hb, hu, hin, c0, c1, c2, c3, c4, c5, c6⟩ := (HUP.out.below (HP.out.bel.mono (Nat.le_trans hB HBB.out.size))).at_ hlt
        have hlt' : (k : Int) < l.length := by omega
        have hT := told_take (p := fun u => decide (done < u.seq) && decide (u.seq ≤ d)) hu
        have hol : ((l.take k).filter (fun u => decide (done < u.seq) && decide (u.seq ≤ d))).length ≤ k := Nat.le_trans (List.length_filter_le _ _) (by rw [List.length_take]; omega)
        have HHT := Lib.hid hT
        clear hu hin hT
        obtain ⟨o, ho⟩ : ∃ o, (l.take k).filter (fun u => decide (done < u.seq) && decide (u.seq ≤ d)) = o := ⟨_, rfl⟩
        rw [ho] at HHT HP hol
        clear ho
        obtain ⟨A7, c7, rfl, _, _, _⟩ := own_slice HP.out.own
        have lbb : b < wr.heap.size := Nat.lt_of_lt_of_le (Nat.lt_of_lt_of_le hb (Nat.le_trans hB HBB.out.size)) HP.out.bel.size
        by_cases h0 : done < u.seq
        · by_cases h1 : u.seq ≤ d
          · have hT' : Hid ((l.take (k + 1)).filter (fun u => decide (done < u.seq) && decide (u.seq ≤ d)) = o ++ [u]) := Lib.hid (by rw [HHT.out, if_pos (by simp; omega)])
            go_wp2_with (fail)
            go_quiet (fail)
            have HO5 := Lib.hid ((own_drewN HP.out.own nq).alloc (.cells (Up.cells u) 29))
            have HB5 := Lib.hid ((below_drewN HP.out.bel nq).alloc HP.out.bel.size (.cells (Up.cells u) 29))
            go_wp2_with (at_builtin; go_must (refine wpList_append_own _ rfl (.tmp 46) (.tmp 52) _ rfl W2.heap.size 29 i0 _ 7 72 Tryz.underlying36 hi hz0 hz1 hz2 rfl (by omega) _ _ _ rfl HO5.out ⟨wr.heap.size, 0, none⟩ 1 1 (Up.row u) rfl rfl ?d1 ?d2 ?d3 ?d4 ?d5 ?_))
            case d1 => exact fun j x hx => cells_new_at _ _ _ _ (by simp) j x hx
            case d2 => exact up_one u
            case d3 => unfold maxLen; omega
            case d4 => omega
            case d5 => exact HB5.out.size
            intro v7 w7 hown hg hat
            have HP7 := Lib.hid (RefAt.app ⟨HO5.out, HB5.out⟩ hown hg)
            clear hown hg hat c0 c1 c2 c3 c4 c5 c6 HO5 HB5 x2 x3
            obtain ⟨A8, c8, rfl, _, _, _⟩ := own_slice HP7.out.own
            go_wp2_with (fail)
            go_roundw
            case rel => exact ⟨k + 1, by omega, by go_num, Lib.hid (by rw [hT'.out]; exact HP7.out)⟩
            case measure => simp [intOf]; omega
          · have hT' : Hid ((l.take (k + 1)).filter (fun u => decide (done < u.seq) && decide (u.seq ≤ d)) = o) := Lib.hid (by rw [HHT.out, if_neg (by simp <;> omega)]; simp)
            have h1' : d < u.seq := by omega
            clear h1
            go_wp2_with (fail)
            go_quiet (fail)
            go_wp2_with (fail)
            go_roundw
            case rel => exact ⟨k + 1, by omega, by go_num, Lib.hid (by rw [hT'.out]; exact ⟨HP.out.own, below_drewN HP.out.bel _⟩)⟩
            case measure => simp [intOf]; omega
        · have hT' : Hid ((l.take (k + 1)).filter (fun u => decide (done < u.seq) && decide (u.seq ≤ d)) = o) := Lib.hid (by rw [HHT.out, if_neg (by simp <;> omega)]; simp)
          have h0' : u.seq ≤ done := by omega
          have hg0 : decide (done < u.seq) = false := by simpa using h0'
          clear h0
          go_wp2_with (fail)
          go_quiet (fail)
          go_wp2_with (fail)
          go_roundw
          case rel => exact ⟨k + 1, by omega, by go_num, Lib.hid (by rw [hT'.out]; exact ⟨HP.out.own, below_drewN HP.out.bel _⟩)⟩
          case measure => simp [intOf]; omega
      · obtain rfl : k = l.length := by omega
        have HPF := HP.out
        rw [List.take_of_length_le (Nat.le_refl _), ← HLN.out] at HPF
        obtain ⟨A7, c7, rfl, _, _, _⟩ := own_slice HPF.own
        have HPP := Lib.hid HPF
        have hB1 := HB1.out.below HPF.bel lb1
        have hB2 := HB2.out.below HPF.bel HB2.out.lt
        have hcq := chg_setB wr w.heap.size (.int .u64 d) 2
        have m1 := hB1.set_ 2 (.int .u64 d)
        have m3 := hB2.far (show w.heap.size + 1 ≠ (⟨w.heap.size, 2, none⟩ : Addr).block by simp) (.int .u64 d)
        have hbel : Below w.heap.size w (wr.setCell ⟨w.heap.size, 2, none⟩ (.int .u64 d)) := (HBB.out.trans (HPF.bel.mono HBB.out.size)).trans (hcq.below (Nat.le_trans HBB.out.size HPF.bel.size) (fun k hk e => by simp only [isB] at e; omega))
        have how := hcq.own HPF.own (fun k hk e => by have := (HPF.own.lt k hk).1; have := HSZ.out; simp only [isB] at e; omega)
        have f2 := hB1.frozen 2
        have KC : Hid (Calls Tryz.prog 29 #[.agg #[.int .u64 low, .int .u64 fin, .int .u64 d, .slice A l.length c]] (wr.setCell ⟨w.heap.size, 2, none⟩ (.int .u64 d)) (KeptP ⟨low, fin, d, A, c, l⟩ (wr.setCell ⟨w.heap.size, 2, none⟩ (.int .u64 d)))) := Lib.hid (by
          have h1 : RW.inn (wr.setCell ⟨w.heap.size, 2, none⟩ (.int .u64 d)) B ⟨low, fin, d, A, c, l⟩ :=
            ⟨H.out.ups.below (hbel.mono hB), k5, k1, by show low ≤ d; omega, by show d ≤ fin; omega, k4⟩
          exact kept_any ⟨low, fin, d, A, c, l⟩ B _ h1 (Nat.le_trans hB hbel.size))
        have HM3 := Lib.hid m3
        have HOW := Lib.hid how
        have HBEL := Lib.hid hbel
        have hsz2 : w.heap.size + 2 ≤ (wr.setCell ⟨w.heap.size, 2, none⟩ (.int .u64 d)).heap.size := by have h1 := HPF.bel.size; have h2 := HSZ.out; simp; omega
        have HS2 := Lib.hid hsz2
        obtain ⟨t0, t1, t2, t3⟩ := rw_cells hB1
        clear HPF hB1 hB2 hcq m1 m3 hbel how hsz2 x2 x3 HP
        go_wp2_with (fail)
        refine KC.out.mono ?_
        rintro e w12 ⟨A', c', rfl, hrd, hsn, hb12⟩
        obtain ⟨X, hX⟩ : ∃ X, RW.keptLow ⟨low, fin, d, A, c, l⟩ = X := ⟨_, rfl⟩
        obtain ⟨kl, hkl⟩ : ∃ kl, RW.keptL ⟨low, fin, d, A, c, l⟩ = kl := ⟨_, rfl⟩
        rw [hX, hkl]
        rw [hkl] at hrd
        have HXX := Lib.hid hX
        have HKL := Lib.hid hkl
        have HN3 := Lib.hid (HM3.out.below hb12 HM3.out.lt)
        have HB12 := Lib.hid (HBEL.out.trans (hb12.mono HBEL.out.size))
        have HRD12 := Lib.hid hrd
        have HOW12 := Lib.hid ((Chg.of_below hb12 (fun _ => False)).own HOW.out (fun _ _ x => x))
        have HSN : Hid (SameOrNew w A A' ∧ ∀ ad, 0 < kl.length → A' = some ad → ad.block ≠ w.heap.size + 1) := Lib.hid (by
          rcases hsn with h | h
          · refine ⟨.inl h, fun ad h0 hA e => ?_⟩
            simp only at h
            have h0l : 0 < l.length := by
              have : kl.length ≤ l.length := by
                rw [← HKL.out]; unfold RW.keptL; split
                · exact Nat.le_refl _
                · exact List.length_filter_le _ _
              omega
            obtain ⟨ad2, hA2, hb2, _⟩ := H.out.ups.rd.2 h0l
            simp only at hA2
            rw [h, hA2] at hA
            injection hA with hA
            subst hA
            omega
          · exact ⟨.inr (fun ad hA => Nat.le_trans (by omega) (Nat.le_trans HS2.out (h ad hA))), fun ad h0 hA e => by have h1 := h ad hA; have h2 := HS2.out; omega⟩)
        clear hX hkl hrd hsn hb12 t0 t1 t2 t3 f2
        obtain ⟨y0, y1, y2, y3⟩ := rw_cells HN3.out
        obtain ⟨f0, f1, f2, f3⟩ := rw_frozen HN3.out
        simp only [RW.agg]
        go_wp2_with (fail)
        have HC := Lib.hid (chg_set4 w12 (w.heap.size + 1) (.int .u64 X) (.int .u64 fin) (.int .u64 d) (.slice A' kl.length c'))
        have HK := Lib.hid (blk_set4 HN3.out (.int .u64 X) (.int .u64 fin) (.int .u64 d) (.slice A' kl.length c'))
        obtain ⟨wz, hwz⟩ : ∃ wz, wz = ((((w12.setCell ⟨w.heap.size + 1, 0, none⟩ (.int .u64 X)).setCell ⟨w.heap.size + 1, 1, none⟩ (.int .u64 fin)).setCell ⟨w.heap.size + 1, 2, none⟩ (.int .u64 d)).setCell ⟨w.heap.size + 1, 3, none⟩ (.slice A' kl.length c')) := ⟨_, rfl⟩
        rw [← hwz] at HC HK ⊢
        clear hwz
        obtain ⟨p0, p1, p2, p3⟩ := rw_cells HK.out
        refine bodyPost_ret (v := .tuple #[.agg #[.int .u64 X, .int .u64 fin, .int .u64 d, .slice A' kl.length c'], .slice A7 ol.length c7]) (by simp [results, Tryz.results18, go_sem, p0, p1, p2, p3]) rfl ?_
        have hbz : Below w.heap.size w wz := HB12.out.trans (HC.out.below HB12.out.size (fun k hk e => by simp only [isB] at e; omega))
        have how2 := HC.out.own HOW12.out (fun k hk e => by have := (HOW12.out.lt k hk).1; have := HSZ.out; simp only [isB] at e; omega)
        refine ⟨A', A7, c', c7, ?_, ?_, HSN.out.1, ?_, (fun ad hA => by subst hA; have h1 := (how2.lt ad.block rfl).1; have h2 := HSZ.out; omega), hbz⟩
        · unfold RW.after; rw [HX.out, HXX.out, HKL.out, HOL.out]; rfl
        · unfold RW.after; rw [HX.out, HKL.out]
          exact (HC.out.reads HRD12.out (Nat.le_refl _) (fun ad h0 hA e => HSN.out.2 ad h0 hA e)).more HC.out.size
        · rw [HOL.out]; exact Reads.of_own how2
def RW.has (r : RW) (got : Int) : Bool := decide (r.low ≤ got ∧ got ≤ r.fin)
def RW.behind (r : RW) (got most : Int) : List Up := if r.has got = true then pickL (batchStep got) most r.l else []
def RFromP (r : RW) (got most : Int) (W : World) (e : Ending) (W' : World) : Prop :=
  ∃ (Ao : Option Addr) (co : Nat), e = .returned (.tuple #[.slice Ao (r.behind got most).length co, .bool (r.has got)]) ∧ Reads W' W'.heap.size 7 Ao (r.behind got most).length ((r.behind got most).flatMap Up.row) ∧ Below W.heap.size W W'
theorem rfrom_any (r : RW) (got most : Int) (B : Nat) (w : World) (h : RW.inn w B r) (hB : B ≤ w.heap.size) :
    Calls Tryz.prog 21 #[r.agg, .int .u64 got, .int .i64 most] w (RFromP r got most w) := by
  have H := Lib.hid h
  obtain ⟨low, fin, done, A, c, l⟩ := r
  have k5 : l.length ≤ 900000 := h.len
  have HB1 : Hid (Below w.heap.size w (w.alloc (.cells #[.int .u64 low, .int .u64 fin, .int .u64 done, .slice A l.length c] 42))) := Lib.hid (by repeat (first | with_reducible exact Below.refl _ _ | with_reducible refine Below.setCell ?_ (by first | omega | (simp <;> omega)) _ | with_reducible refine Below.alloc ?_ (by first | omega | (simp <;> omega)) _ | with_reducible refine below_drewN ?_ _ | with_reducible refine Below.drew ?_))
  have BX : Hid (Blk (w.alloc (.cells #[.int .u64 low, .int .u64 fin, .int .u64 done, .slice A l.length c] 42)) w.heap.size 42 #[.int .u64 low, .int .u64 fin, .int .u64 done, .slice A l.length c]) := Lib.hid (Blk.new _ _ _)
  clear h
  show Calls Tryz.prog 21 #[.agg #[.int .u64 low, .int .u64 fin, .int .u64 done, .slice A l.length c], .int .u64 got, .int .i64 most] w _
  by_cases h1 : got < low
  · have HX : Hid (RW.has ⟨low, fin, done, A, c, l⟩ got = false ∧ RW.behind ⟨low, fin, done, A, c, l⟩ got most = []) := Lib.hid (by
      have : RW.has ⟨low, fin, done, A, c, l⟩ got = false := by unfold RW.has; rw [decide_eq_false_iff_not]; simp only; omega
      exact ⟨this, by unfold RW.behind; rw [this]; rfl⟩)
    go_enter Tryz.func21, Tryz.ntmps21
    go_wp2_with (fail)
    go_ret2
    exact ⟨none, 0, by rw [HX.out.1, HX.out.2]; rfl, by rw [HX.out.2]; exact Reads.none_, HB1.out⟩
  have h1' : low ≤ got := by omega
  by_cases h2 : fin < got
  · have HX : Hid (RW.has ⟨low, fin, done, A, c, l⟩ got = false ∧ RW.behind ⟨low, fin, done, A, c, l⟩ got most = []) := Lib.hid (by
      have : RW.has ⟨low, fin, done, A, c, l⟩ got = false := by unfold RW.has; rw [decide_eq_false_iff_not]; simp only; omega
      exact ⟨this, by unfold RW.behind; rw [this]; rfl⟩)
    clear h1
    go_enter Tryz.func21, Tryz.ntmps21
    go_wp2_with (fail)
    go_ret2
    exact ⟨none, 0, by rw [HX.out.1, HX.out.2]; rfl, by rw [HX.out.2]; exact Reads.none_, HB1.out⟩
  have h2' : got ≤ fin := by omega
  have HX : Hid (RW.has ⟨low, fin, done, A, c, l⟩ got = true ∧ RW.behind ⟨low, fin, done, A, c, l⟩ got most = pickL (batchStep got) most l) := Lib.hid (by
    have : RW.has ⟨low, fin, done, A, c, l⟩ got = true := by unfold RW.has; rw [decide_eq_true_eq]; exact ⟨h1', h2'⟩
    exact ⟨this, by unfold RW.behind; rw [this]; rfl⟩)
  clear h1 h2
  have RB := Lib.hid (refBatch_any A l.length c B l got most _ (H.out.ups.below (HB1.out.mono hB)) (Nat.le_trans hB HB1.out.size) (by omega))
  go_enter Tryz.func21, Tryz.ntmps21
  go_wp2_with (fail)
  refine RB.out.mono ?_
  rintro e w2 ⟨vo, rfl, hp⟩
  have HP := Lib.hid hp
  obtain ⟨A8, c8, rfl, _, _, _⟩ := own_slice hp.own
  clear hp
  go_wp2_with (fail)
  go_ret2
  exact ⟨A8, c8, by rw [HX.out.1, HX.out.2]; rfl, by rw [HX.out.2]; exact Reads.of_own HP.out.own, HB1.out.trans (HP.out.bel.mono HB1.out.size)⟩
end Go.Proofs.YtfcjkkjgedcgpaaGreatDoor
