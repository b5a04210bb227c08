/- The reference's window: New, kept. -/
import Derived.Test.YtfcjkkjgedcgpaaGreatDoorWinH

namespace Go.Proofs.YtfcjkkjgedcgpaaGreatDoor
open Go.RowKit
set_option linter.unusedSimpArgs false
set_option linter.unusedVariables false
set_option maxHeartbeats 8000000
set_option maxRecDepth 100000
attribute [local go_sem] Up.agg Up.cells

structure RW where
  low : Int
  fin : Int
  done : Int
  A : Option Addr
  c : Nat
  l : List Up
def RW.agg (r : RW) : Value := .agg #[.int .u64 r.low, .int .u64 r.fin, .int .u64 r.done, .slice r.A r.l.length r.c]
def RW.cells (r : RW) : Array Value := #[.int .u64 r.low, .int .u64 r.fin, .int .u64 r.done, .slice r.A r.l.length r.c]
def rwZero : Array Value := #[.int .u64 0, .int .u64 0, .int .u64 0, .slice none 0 0]
structure RW.inn (W : World) (B : Nat) (r : RW) : Prop where
  ups : UpsIn W B r.A r.l.length r.l
  len : r.l.length ≤ 900000
  low : 0 ≤ r.low
  ld : r.low ≤ r.done
  de : r.done ≤ r.fin
  big : r.fin ≤ 9000000000000000000
theorem RW.inn.below {W W' : World} {B : Nat} {r : RW} (h : RW.inn W B r) (hb : Below B W W') : RW.inn W' B r := ⟨h.ups.below hb, h.len, h.low, h.ld, h.de, h.big⟩
def RW.cut (r : RW) : Int := max r.low (min r.done (r.fin - 32))
def RW.keptL (r : RW) : List Up := if r.fin < 32 then r.l else r.l.filter fun u => decide (r.cut < u.seq)
def RW.keptLow (r : RW) : Int := if r.fin < 32 then r.low else r.cut
/-- the rows of a window's are new, or the same -/
def SameOrNew (W : World) (A A' : Option Addr) : Prop := A' = A ∨ ∀ ad, A' = some ad → W.heap.size ≤ ad.block
def KeptP (r : RW) (W : World) (e : Ending) (W' : World) : Prop :=
  ∃ (A' : Option Addr) (c' : Nat), e = .returned (RW.agg ⟨r.keptLow, r.fin, r.done, A', c', r.keptL⟩) ∧ Reads W' W'.heap.size 7 A' r.keptL.length (r.keptL.flatMap Up.row) ∧ SameOrNew W r.A A' ∧ Below W.heap.size W W'
theorem rw_cells {w : World} {g : Nat} {t : TypeId} {a b c d : Value} (h : Blk w g t #[a, b, c, d]) : w.cell? ⟨g, 0, none⟩ = some a ∧ w.cell? ⟨g, 1, none⟩ = some b ∧ w.cell? ⟨g, 2, none⟩ = some c ∧ w.cell? ⟨g, 3, none⟩ = some d := ⟨h.cell 0, h.cell 1, h.cell 2, h.cell 3⟩
theorem rw_frozen {w : World} {g : Nat} {t : TypeId} {cs : Array Value} (h : Blk w g t cs) : w.frozen? ⟨g, 0, none⟩ = false ∧ w.frozen? ⟨g, 1, none⟩ = false ∧ w.frozen? ⟨g, 2, none⟩ = false ∧ w.frozen? ⟨g, 3, none⟩ = false := ⟨h.frozen 0, h.frozen 1, h.frozen 2, h.frozen 3⟩
theorem chg_set4 (w : World) (g : Nat) (a b c d : Value) : Chg w ((((w.setCell ⟨g, 0, none⟩ a).setCell ⟨g, 1, none⟩ b).setCell ⟨g, 2, none⟩ c).setCell ⟨g, 3, none⟩ d) (isB g) :=
  (((chg_setB w g a 0).trans (chg_setB _ g b 1) (fun _ _ x => x)).trans (chg_setB _ g c 2) (fun _ _ x => x)).trans (chg_setB _ g d 3) (fun _ _ x => x)
theorem blk_set4 {w : World} {g : Nat} {t : TypeId} {x0 x1 x2 x3 : Value} (h : Blk w g t #[x0, x1, x2, x3]) (a b c d : Value) : Blk ((((w.setCell ⟨g, 0, none⟩ a).setCell ⟨g, 1, none⟩ b).setCell ⟨g, 2, none⟩ c).setCell ⟨g, 3, none⟩ d) g t #[a, b, c, d] :=
  (((h.set_ 0 a).set_ 1 b).set_ 2 c).set_ 3 d
theorem rnew_any (a : Int) (w : World) : Calls Tryz.prog 16 #[.int .u64 a] w fun e w' => e = .returned (RW.agg ⟨a, a, a, none, 0, []⟩) ∧ Below w.heap.size w w' := by
  go_enter Tryz.func16, Tryz.ntmps16
  go_wp2_with (fail)
  refine bodyPost_ret (v := RW.agg ⟨a, a, a, none, 0, []⟩) (by simp [results, Tryz.results16, go_sem, RW.agg]) rfl ?_
  exact ⟨rfl, by repeat (first | with_reducible exact Below.refl _ _ | with_reducible refine Below.setCell ?_ (by first | omega | (simp <;> omega)) _ | with_reducible refine Below.alloc ?_ (by first | omega | (simp <;> omega)) _ | with_reducible refine below_drewN ?_ _ | with_reducible refine Below.drew ?_)⟩
theorem kept_any (r : RW) (B : Nat) (w : World) (h : RW.inn w B r) (hB : B ≤ w.heap.size) : Calls Tryz.prog 29 #[r.agg] w (KeptP r w) := by
  obtain ⟨i0, hi, hz0, hz1, hz2⟩ := info_parts upInfo
  have H := Lib.hid h
  obtain ⟨low, fin, done, A, c, l⟩ := r
  have hb1 : Blk ((w.alloc (.cells #[.int .u64 low, .int .u64 fin, .int .u64 done, .slice A l.length c] 42)).alloc (.cells rwZero 42)) w.heap.size 42 #[.int .u64 low, .int .u64 fin, .int .u64 done, .slice A l.length c] := (Blk.new _ _ _).alloc _
  have hb2 : Blk ((w.alloc (.cells #[.int .u64 low, .int .u64 fin, .int .u64 done, .slice A l.length c] 42)).alloc (.cells rwZero 42)) (w.heap.size + 1) 42 rwZero := blk_at7 _ _ _ _ (by simp)
  have hbb : Below w.heap.size w ((w.alloc (.cells #[.int .u64 low, .int .u64 fin, .int .u64 done, .slice A l.length c] 42)).alloc (.cells rwZero 42)) := by repeat (first | with_reducible exact Below.refl _ _ | with_reducible refine Below.setCell ?_ (by first | omega | (simp <;> omega)) _ | with_reducible refine Below.alloc ?_ (by first | omega | (simp <;> omega)) _ | with_reducible refine below_drewN ?_ _ | with_reducible refine Below.drew ?_)
  have hsz : ((w.alloc (.cells #[.int .u64 low, .int .u64 fin, .int .u64 done, .slice A l.length c] 42)).alloc (.cells rwZero 42)).heap.size = w.heap.size + 2 := by simp
  obtain ⟨W2, hW2⟩ : ∃ W2, W2 = (w.alloc (.cells #[.int .u64 low, .int .u64 fin, .int .u64 done, .slice A l.length c] 42)).alloc (.cells rwZero 42) := ⟨_, rfl⟩
  rw [← hW2] at hb1 hb2 hbb hsz
  have HB1 := Lib.hid hb1
  have HB2 := Lib.hid hb2
  have HBB := Lib.hid hbb
  have HSZ := Lib.hid hsz
  have HW2 := Lib.hid hW2
  have k1 := h.low
  have k2 := h.ld
  have k3 := h.de
  have k4 := h.big
  have k5 := h.len
  simp only at k1 k2 k3 k4 k5
  clear h hb1 hb2 hbb hsz hW2
  show Calls Tryz.prog 29 #[.agg #[.int .u64 low, .int .u64 fin, .int .u64 done, .slice A l.length c]] w _
  by_cases hf : fin < 32
  · have HF := Lib.hid hf
    go_enter Tryz.func29, Tryz.ntmps29
    go_upto_region 1 with (fail)
    rw [show (w.alloc (.cells #[.int .u64 low, .int .u64 fin, .int .u64 done, .slice A l.length c] 42)).alloc (.cells #[.int .u64 0, .int .u64 0, .int .u64 0, .slice none 0 0] 42) = W2 from HW2.out.symm]
    obtain ⟨x0, x1, x2, x3⟩ := rw_cells HB1.out
    obtain ⟨y0, y1, y2, y3⟩ := rw_cells HB2.out
    obtain ⟨z0, z1, z2, z3⟩ := rw_frozen HB2.out
    go_wp2_with (fail)
    have HC := Lib.hid (chg_set4 W2 (w.heap.size + 1) (.int .u64 low) (.int .u64 fin) (.int .u64 done) (.slice A l.length c))
    have HK := Lib.hid (blk_set4 HB2.out (.int .u64 low) (.int .u64 fin) (.int .u64 done) (.slice A l.length c))
    generalize (((W2.setCell ⟨w.heap.size + 1, 0, none⟩ (.int .u64 low)).setCell ⟨w.heap.size + 1, 1, none⟩ (.int .u64 fin)).setCell ⟨w.heap.size + 1, 2, none⟩ (.int .u64 done)).setCell ⟨w.heap.size + 1, 3, none⟩ (.slice A l.length c) = wz at HC HK ⊢
    obtain ⟨q0, q1, q2, q3⟩ := rw_cells HK.out
    refine bodyPost_ret (v := .agg #[.int .u64 low, .int .u64 fin, .int .u64 done, .slice A l.length c]) (by simp [results, Tryz.results29, go_sem, q0, q1, q2, q3]) rfl ?_
    have hbz : Below w.heap.size w wz := HBB.out.trans (HC.out.below HBB.out.size (fun k hk e => by simp only [isB] at e; omega))
    refine ⟨A, c, ?_, ?_, .inl rfl, hbz⟩
    · unfold RW.keptL RW.keptLow; rw [if_pos HF.out, if_pos HF.out]; rfl
    · unfold RW.keptL; rw [if_pos HF.out]
      exact ((H.out.ups.rd.below (hbz.mono hB)).more (Nat.le_trans hB hbz.size))
  · have HF := Lib.hid hf
    have hf2 : 32 ≤ fin := by omega
    have hw1 : IntKind.u64.wrap (fin - 32) = fin - 32 := by rw [IntKind.wrap_u64]; omega
    obtain ⟨X, hX⟩ : ∃ X, X = RW.cut ⟨low, fin, done, A, c, l⟩ := ⟨_, rfl⟩
    have HX := Lib.hid hX
    have HLN : Hid (RW.keptL ⟨low, fin, done, A, c, l⟩ = l.filter (fun u => decide (X < u.seq))) := Lib.hid (by unfold RW.keptL; rw [if_neg HF.out, ← HX.out])
    obtain ⟨ol, hol⟩ : ∃ ol, RW.keptL ⟨low, fin, done, A, c, l⟩ = ol := ⟨_, rfl⟩
    have HOL := Lib.hid hol
    rw [hol] at HLN
    clear hol
    have HLW : Hid (RW.keptLow ⟨low, fin, done, A, c, l⟩ = X) := Lib.hid (by unfold RW.keptLow; rw [if_neg HF.out, ← HX.out])
    have hcs : (X < fin - 32 ∧ low ≤ X ∧ X = done) ∨ (X ≤ done ∧ low ≤ X ∧ fin - 32 = X) ∨ (fin - 32 ≤ done ∧ fin - 32 < X ∧ X = low) := by
      unfold RW.cut at hX; simp only at hX; omega
    have HUP := Lib.hid (H.out.ups.below (HBB.out.mono hB))
    have HP0 : Hid (RefAt W2 (l.filter (fun u => decide (X < u.seq)) |>.take 0) (.slice none 0 0) W2) := Lib.hid ⟨World.ownsRow_nil _ _ _ _, Below.refl _ _⟩
    have hlen : Hid (l.length = l.length) := Lib.hid rfl
    clear hX
    rcases hcs with ⟨j1, j2, rfl⟩ | ⟨j1, j2, j3⟩ | ⟨j1, j2, rfl⟩
    all_goals
      go_enter Tryz.func29, Tryz.ntmps29
      go_upto_region 1 with (fail)
      rw [show (w.alloc (.cells _ 42)).alloc (.cells #[.int .u64 0, .int .u64 0, .int .u64 0, .slice none 0 0] 42) = W2 from HW2.out.symm]
      obtain ⟨x0, x1, x2, x3⟩ := rw_cells HB1.out
      have lb1 := HB1.out.lt
      have HCF : Hid (∀ W', Below W2.heap.size W2 W' → W'.cell? ⟨w.heap.size, 3, none⟩ = some (.slice A l.length c)) := Lib.hid (fun W' h => (h.cell (p := ⟨w.heap.size, 3, none⟩) lb1).trans x3)
      go_wp2_with (fail)
      go_loopw [4, 5] (fun va ia wr => ∃ k : Nat, k ≤ l.length ∧ ia = .int .i64 k ∧ Hid (RefAt W2 ((l.take k).filter (fun u => decide (X < u.seq))) va wr)) (fun _ ia _ => l.length - (intOf ia).toNat)
      case atStart => exact ⟨0, Nat.zero_le _, rfl, HP0⟩
      case round =>
        clear HP0 x0 x1 x2 x3
        obtain ⟨k, hk, rfl, HP⟩ := hrel
        have x3 := HCF.out wr HP.out.bel
        by_cases hlt : k < l.length
        · obtain ⟨b, off, u, rfl, hb, hu, hin, c0, c1, c2, c3, c4, c5, c6⟩ := (HUP.out.below (HP.out.bel.mono (Nat.le_trans hB HBB.out.size))).at_ hlt
          have hlt' : (k : Int) < l.length := by omega
          have hT : (l.take (k + 1)).filter (fun u => decide (X < u.seq)) = (l.take k).filter (fun u => decide (X < u.seq)) ++ (if X < u.seq then [u] else []) := by
            rw [take_snoc hu, List.filter_append]
            congr 1
            by_cases h : X < u.seq <;> simp [h]
          have hol : ((l.take k).filter (fun u => decide (X < u.seq))).length ≤ k := Nat.le_trans (List.length_filter_le _ _) (by rw [List.length_take]; omega)
          have HHT := Lib.hid hT
          clear hu hin hT
          obtain ⟨o, ho⟩ : ∃ o, (l.take k).filter (fun u => decide (X < u.seq)) = o := ⟨_, rfl⟩
          rw [ho] at HHT HP hol
          clear ho
          obtain ⟨A7, c7, rfl, _, _, _⟩ := own_slice HP.out.own
          by_cases h0 : X < u.seq
          · have hT' : Hid ((l.take (k + 1)).filter (fun u => decide (X < u.seq)) = o ++ [u]) := Lib.hid (by rw [HHT.out, if_pos h0])
            have HO5 := Lib.hid (HP.out.own.alloc (.cells (Up.cells u) 29))
            have HB5 := Lib.hid (HP.out.bel.alloc HP.out.bel.size (.cells (Up.cells u) 29))
            go_wp2_with (at_builtin; go_must (refine wpList_append_own _ rfl (.tmp 40) (.tmp 46) _ rfl W2.heap.size 29 i0 _ 7 72 Tryz.underlying36 hi hz0 hz1 hz2 rfl (by omega) _ _ _ rfl HO5.out ⟨wr.heap.size, 0, none⟩ 1 1 (Up.row u) rfl rfl ?d1 ?d2 ?d3 ?d4 ?d5 ?_))
            case d1 => exact fun j x hx => cells_new_at _ _ _ _ (by simp) j x hx
            case d2 => exact up_one u
            case d3 => unfold maxLen; omega
            case d4 => omega
            case d5 => exact HB5.out.size
            intro v7 w7 hown hg hat
            have HP7 := Lib.hid (RefAt.app ⟨HO5.out, HB5.out⟩ hown hg)
            clear hown hg hat c0 c1 c2 c3 c4 c5 c6 HO5 HB5 x3
            obtain ⟨A8, c8, rfl, _, _, _⟩ := own_slice HP7.out.own
            go_wp2_with (fail)
            go_roundw
            case rel => exact ⟨k + 1, by omega, by go_num, Lib.hid (by rw [hT'.out]; exact HP7.out)⟩
            case measure => simp [intOf]; omega
          · have hT' : Hid ((l.take (k + 1)).filter (fun u => decide (X < u.seq)) = o) := Lib.hid (by rw [HHT.out, if_neg h0]; simp)
            have h0' : u.seq ≤ X := by omega
            clear h0
            go_wp2_with (fail)
            go_roundw
            case rel => exact ⟨k + 1, by omega, by go_num, Lib.hid (by rw [hT'.out]; exact HP.out)⟩
            case measure => simp [intOf]; omega
        · obtain rfl : k = l.length := by omega
          have HPF := HP.out
          rw [List.take_of_length_le (Nat.le_refl _), ← HLN.out] at HPF
          obtain ⟨A7, c7, rfl, _, _, _⟩ := own_slice HPF.own
          have HPP := Lib.hid HPF
          clear HPF HP
          have hB1 := HB1.out.below HPP.out.bel lb1
          have hB2 := HB2.out.below HPP.out.bel HB2.out.lt
          obtain ⟨q0, q1, q2, q3⟩ := rw_cells hB1
          obtain ⟨f0, f1, f2, f3⟩ := rw_frozen hB1
          obtain ⟨y0, y1, y2, y3⟩ := rw_cells hB2
          obtain ⟨z0, z1, z2, z3⟩ := rw_frozen hB2
          have HBA := Lib.hid hB1
          have HBC := Lib.hid hB2
          have lw1 := hB1.lt
          have lw2 := hB2.lt
          clear hB1 hB2 x3
          go_wp2_with (fail)
          have HD : Hid (Chg wr ((wr.setCell ⟨w.heap.size, 0, none⟩ (.int .u64 X)).setCell ⟨w.heap.size, 3, none⟩ (.slice A7 ol.length c7)) (fun k => k = w.heap.size ∨ k = w.heap.size + 1)) := Lib.hid (((chg_setB wr w.heap.size (.int .u64 X) 0).trans (chg_setB _ w.heap.size (.slice A7 ol.length c7) 3) (fun _ _ x => x)).mono (fun i _ hi => .inl hi))
          have HBE : Hid (Blk ((wr.setCell ⟨w.heap.size, 0, none⟩ (.int .u64 X)).setCell ⟨w.heap.size, 3, none⟩ (.slice A7 ol.length c7)) (w.heap.size + 1) 42 rwZero) := Lib.hid ((HBC.out.far (by simp) _).far (by simp) _)
          first
            | (have HC := Lib.hid (chg_set4 ((wr.setCell ⟨w.heap.size, 0, none⟩ (.int .u64 X)).setCell ⟨w.heap.size, 3, none⟩ (.slice A7 ol.length c7)) (w.heap.size + 1) (.int .u64 X) (.int .u64 fin) (.int .u64 done) (.slice A7 ol.length c7))
               have HK := Lib.hid (blk_set4 HBE.out (.int .u64 X) (.int .u64 fin) (.int .u64 done) (.slice A7 ol.length c7))
               obtain ⟨wz, hwz⟩ : ∃ wz, wz = ((((((wr.setCell ⟨w.heap.size, 0, none⟩ (.int .u64 X)).setCell ⟨w.heap.size, 3, none⟩ (.slice A7 ol.length c7)).setCell ⟨w.heap.size + 1, 0, none⟩ (.int .u64 X)).setCell ⟨w.heap.size + 1, 1, none⟩ (.int .u64 fin)).setCell ⟨w.heap.size + 1, 2, none⟩ (.int .u64 done)).setCell ⟨w.heap.size + 1, 3, none⟩ (.slice A7 ol.length c7)) := ⟨_, rfl⟩
               rw [← hwz] at HC HK ⊢
               clear hwz
               obtain ⟨p0, p1, p2, p3⟩ := rw_cells HK.out
               refine bodyPost_ret (v := .agg #[.int .u64 X, .int .u64 fin, .int .u64 done, .slice A7 ol.length c7]) (by simp [results, Tryz.results29, go_sem, p0, p1, p2, p3]) rfl ?_
               have hc2 := HD.out.trans (HC.out.mono (T := fun k => k = w.heap.size ∨ k = w.heap.size + 1) (fun i _ hi => .inr hi)) (fun _ _ x => x)
               have hbz : Below w.heap.size w wz := (HBB.out.trans (HPP.out.bel.mono HBB.out.size)).trans (hc2.below (Nat.le_trans HBB.out.size HPP.out.bel.size) (fun k hk e => by omega))
               have how := hc2.own HPP.out.own (fun k hk e => by have := (HPP.out.own.lt k hk).1; have := HSZ.out; omega)
               refine ⟨A7, c7, ?_, ?_, .inr (fun ad hA => ?_), hbz⟩
               · rw [HLW.out, HOL.out]; rfl
               · rw [HOL.out]; exact Reads.of_own how
               · subst hA
                 have hx := HPP.out.own.lt ad.block rfl
                 have := HSZ.out; omega)
            | (have HC := Lib.hid (chg_set4 ((wr.setCell ⟨w.heap.size, 0, none⟩ (.int .u64 X)).setCell ⟨w.heap.size, 3, none⟩ (.slice A7 ol.length c7)) (w.heap.size + 1) (.int .u64 X) (.int .u64 fin) (.int .u64 X) (.slice A7 ol.length c7))
               have HK := Lib.hid (blk_set4 HBE.out (.int .u64 X) (.int .u64 fin) (.int .u64 X) (.slice A7 ol.length c7))
               obtain ⟨wz, hwz⟩ : ∃ wz, wz = ((((((wr.setCell ⟨w.heap.size, 0, none⟩ (.int .u64 X)).setCell ⟨w.heap.size, 3, none⟩ (.slice A7 ol.length c7)).setCell ⟨w.heap.size + 1, 0, none⟩ (.int .u64 X)).setCell ⟨w.heap.size + 1, 1, none⟩ (.int .u64 fin)).setCell ⟨w.heap.size + 1, 2, none⟩ (.int .u64 X)).setCell ⟨w.heap.size + 1, 3, none⟩ (.slice A7 ol.length c7)) := ⟨_, rfl⟩
               rw [← hwz] at HC HK ⊢
               clear hwz
               obtain ⟨p0, p1, p2, p3⟩ := rw_cells HK.out
               refine bodyPost_ret (v := .agg #[.int .u64 X, .int .u64 fin, .int .u64 X, .slice A7 ol.length c7]) (by simp [results, Tryz.results29, go_sem, p0, p1, p2, p3]) rfl ?_
               have hc2 := HD.out.trans (HC.out.mono (T := fun k => k = w.heap.size ∨ k = w.heap.size + 1) (fun i _ hi => .inr hi)) (fun _ _ x => x)
               have hbz : Below w.heap.size w wz := (HBB.out.trans (HPP.out.bel.mono HBB.out.size)).trans (hc2.below (Nat.le_trans HBB.out.size HPP.out.bel.size) (fun k hk e => by omega))
               have how := hc2.own HPP.out.own (fun k hk e => by have := (HPP.out.own.lt k hk).1; have := HSZ.out; omega)
               refine ⟨A7, c7, ?_, ?_, .inr (fun ad hA => ?_), hbz⟩
               · rw [HLW.out, HOL.out]; rfl
               · rw [HOL.out]; exact Reads.of_own how
               · subst hA
                 have hx := HPP.out.own.lt ad.block rfl
                 have := HSZ.out; omega)
end Go.Proofs.YtfcjkkjgedcgpaaGreatDoor
