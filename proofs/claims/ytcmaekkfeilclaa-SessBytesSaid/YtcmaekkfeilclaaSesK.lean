/- Read of a table: the contract; of nil. -/
import Derived.Test.YtcmaekkfeilclaaSesJ
namespace Go.Proofs.Ytcmaekkfeilclaa
open Go.RowKit
set_option linter.unusedSimpArgs false
set_option linter.unusedVariables false
set_option maxHeartbeats 2000000
set_option maxRecDepth 100000
attribute [local go_sem] Rw.agg Rw.cells

theorem i64_keep {z : Int} (h : -9223372036854775808 ≤ z ∧ z ≤ 9223372036854775807) : IntKind.i64.wrap z = z := by rw [IntKind.wrap_i64]; omega
theorem InAt.isG {w w' : World} {g B : Nat} (h : Below B w w') (hB : B ≤ w.heap.size) (hg : g < B) : B ≤ w'.heap.size := Nat.le_trans hB h.size
def RdPost (g B : Nat) (s : FI) (w : World) (e : Ending) (w' : World) : Prop :=
  InAt w' g B (readI s) ∧ Chg w w' (isG g) ∧ ((readE s = 0 ∧ ∃ t R, e = .returned (.tuple #[.pointer (some ⟨t, 0, none⟩), .int .i64 0]) ∧ Tab w' t R ∧ TR (readL s) R) ∨ (readE s ≠ 0 ∧ e = .returned (.tuple #[.pointer none, .int .i64 (readE s)])))
theorem getRows_good (k : Nat) (s : FI) (h : bytesB s.l) : bytesB (getRows k s).1.l := by
  induction k with
  | zero => exact h
  | succ k ih =>
    rw [getRows, getRow]
    exact FI.upto_bytes _ _ _ (FI.upto_bytes _ _ _ (FI.upto_bytes _ _ _ (FI.upto_bytes _ _ _ (FI.upto_bytes _ _ _ ih))))

theorem readT_any (g B : Nat) (s : FI) (w : World) (h : InAt w g B s) :
    Calls Try.prog 25 #[.pointer (some ⟨g, 0, none⟩)] w fun e w' => RdPost g B s w e w' := by
  have U1 := upto_any g s 1 6 B w h
  have hB := h.le
  have hgB := h.lt
  obtain ⟨p0, hp0⟩ : ∃ p, p = s.upto 1 6 := ⟨_, rfl⟩
  have hE : readE s = if (getRows p0.2 p0.1).1.e ≠ 0 then (getRows p0.2 p0.1).1.e else if (getRows p0.2 p0.1).2.2 then 0 else 4 := by rw [hp0]; rfl
  have hL : readE s = 0 → readL s = (getRows p0.2 p0.1).2.1 := fun h => by rw [readL, if_pos h, hp0]
  have hI : readI s = (getRows p0.2 p0.1).1 := by rw [hp0]; rfl
  have hn6 : p0.2 ≤ 6 := by rw [hp0]; exact FI.upto_most _ _ _
  rw [← hp0] at U1
  have HE := Lib.hid hE
  have HL := Lib.hid hL
  have HI := Lib.hid hI
  have U1' := Lib.hid U1
  clear hp0 hE hL hI U1 h
  obtain ⟨s1, n⟩ := p0
  simp only at hn6 HE HL HI U1'
  go_enter Try.func25, Try.ntmps25
  go_wp2_with (fail)
  refine U1'.out.mono ?_
  rintro e w1 ⟨rfl, i1, ch1⟩
  have hs1 := ch1.size
  have I1 := Lib.hid i1
  have C1 := Lib.hid ch1
  clear i1 ch1 U1'
  go_wp2_with (fail)
  refine (sesNew_any w1).mono ?_
  rintro e w2 ⟨rfl, ht, hb⟩
  have hs2 := hb.size
  have HT := Lib.hid ht
  have I2 := Lib.hid (I1.out.below (hb.mono I1.out.le))
  have C2 : Hid (Chg w w2 (isG g)) := Lib.hid (C1.out.trans (Chg.of_below hb _) (fun _ _ x => x))
  have htB : B ≤ w1.heap.size := I1.out.le
  clear ht hb I1 C1
  go_wp2_with (fail)
  go_loopw [6, 7, 14] (fun lv gv i wr => ∃ (k : Nat) (R : Nat → Rw), k ≤ n ∧ i = .int .u64 k ∧ gv = .bool (getRows k s1).2.2 ∧ lv = .int .i64 (lastC (getRows k s1).2.1) ∧ Hid (InAt wr g B (getRows k s1).1) ∧ Hid (Tab wr w1.heap.size R) ∧ Hid ((getRows k s1).2.2 = true → TR (getRows k s1).2.1 R) ∧ Hid (Chg w wr (isG g)) ∧ w1.heap.size ≤ wr.heap.size) (fun _ _ i _ => n - (intOf i).toNat)
  case atStart => exact ⟨0, _, Nat.zero_le _, rfl, rfl, rfl, I2, HT, Lib.hid (fun _ => TR.zero), C2, hs2⟩
  case round =>
    obtain ⟨k, R, hk, rfl, rfl, rfl, HIr, HTr, HTR, HCr, hsr⟩ := hrel
    by_cases hlt : k < n
    · obtain ⟨P, hP⟩ : ∃ P, P = getRows k s1 := ⟨_, rfl⟩
      have hP1 : getRows (k + 1) s1 = ((getRow P.1).1, P.2.1 ++ [(getRow P.1).2], P.2.2 && goodR P.2.1 (getRow P.1).2) := by rw [hP]; rfl
      rw [← hP] at HIr HTR ⊢
      have HP1 := Lib.hid hP1
      clear hP hP1
      obtain ⟨a, l, gd⟩ := P
      simp only at HIr HTR HP1 ⊢
      have hkn : (k : Int) < n := by omega
      obtain ⟨lc, hlc⟩ : ∃ z, z = lastC l := ⟨_, rfl⟩
      rw [← hlc]
      have HLC := Lib.hid hlc
      clear hlc
      have hby := HIr.out.bytes
      have htl := HTr.out.lt
      have G1 := get_any g a 1 B wr HIr.out
      obtain ⟨p1, hp1⟩ : ∃ p, p = a.upto 1 18446744073709551615 := ⟨_, rfl⟩
      rw [← hp1] at G1
      have lt1 : p1.2 < 256 ^ 1 := by rw [hp1]; exact FI.upto_lt _ 1 _ HIr.out.bytes
      have HG1 := Lib.hid G1
      have HP_1 := Lib.hid hp1
      clear hp1 G1
      obtain ⟨b1, v1⟩ := p1
      simp only [Nat.reducePow] at lt1
      simp only at HG1
      have wr1 : IntKind.i64.wrap (v1 : Int) = v1 := i64_keep (by omega)
      go_wp2_with (fail)
      refine HG1.out.mono ?_
      rintro e y1 ⟨rfl, ii, cc⟩
      have z1 := cc.size
      have HI1 := Lib.hid ii
      have HC1 := Lib.hid cc
      clear ii cc HG1
      have G2 := get_any g b1 8 B y1 HI1.out
      obtain ⟨p2, hp2⟩ : ∃ p, p = b1.upto 8 18446744073709551615 := ⟨_, rfl⟩
      rw [← hp2] at G2
      have lt2 : p2.2 < 256 ^ 8 := by rw [hp2]; exact FI.upto_lt _ 8 _ HI1.out.bytes
      have HG2 := Lib.hid G2
      have HP_2 := Lib.hid hp2
      clear hp2 G2
      obtain ⟨b2, v2⟩ := p2
      simp only [Nat.reducePow] at lt2
      simp only at HG2
      go_wp2_with (fail)
      refine HG2.out.mono ?_
      rintro e y2 ⟨rfl, ii, cc⟩
      have z2 := cc.size
      have HI2 := Lib.hid ii
      have HC2 := Lib.hid cc
      clear ii cc HG2
      have G3 := get_any g b2 8 B y2 HI2.out
      obtain ⟨p3, hp3⟩ : ∃ p, p = b2.upto 8 18446744073709551615 := ⟨_, rfl⟩
      rw [← hp3] at G3
      have lt3 : p3.2 < 256 ^ 8 := by rw [hp3]; exact FI.upto_lt _ 8 _ HI2.out.bytes
      have HG3 := Lib.hid G3
      have HP_3 := Lib.hid hp3
      clear hp3 G3
      obtain ⟨b3, v3⟩ := p3
      simp only [Nat.reducePow] at lt3
      simp only at HG3
      go_wp2_with (fail)
      refine HG3.out.mono ?_
      rintro e y3 ⟨rfl, ii, cc⟩
      have z3 := cc.size
      have HI3 := Lib.hid ii
      have HC3 := Lib.hid cc
      clear ii cc HG3
      have G4 := get_any g b3 1 B y3 HI3.out
      obtain ⟨p4, hp4⟩ : ∃ p, p = b3.upto 1 18446744073709551615 := ⟨_, rfl⟩
      rw [← hp4] at G4
      have lt4 : p4.2 < 256 ^ 1 := by rw [hp4]; exact FI.upto_lt _ 1 _ HI3.out.bytes
      have HG4 := Lib.hid G4
      have HP_4 := Lib.hid hp4
      clear hp4 G4
      obtain ⟨b4, v4⟩ := p4
      simp only [Nat.reducePow] at lt4
      simp only at HG4
      have wr4 : IntKind.i64.wrap (v4 : Int) = v4 := i64_keep (by omega)
      go_wp2_with (fail)
      refine HG4.out.mono ?_
      rintro e y4 ⟨rfl, ii, cc⟩
      have z4 := cc.size
      have HI4 := Lib.hid ii
      have HC4 := Lib.hid cc
      clear ii cc HG4
      have G5 := get_any g b4 8 B y4 HI4.out
      obtain ⟨p5, hp5⟩ : ∃ p, p = b4.upto 8 18446744073709551615 := ⟨_, rfl⟩
      rw [← hp5] at G5
      have lt5 : p5.2 < 256 ^ 8 := by rw [hp5]; exact FI.upto_lt _ 8 _ HI4.out.bytes
      have HG5 := Lib.hid G5
      have HP_5 := Lib.hid hp5
      clear hp5 G5
      obtain ⟨b5, v5⟩ := p5
      simp only [Nat.reducePow] at lt5
      simp only at HG5
      go_wp2_with (fail)
      refine HG5.out.mono ?_
      rintro e y5 ⟨rfl, ii, cc⟩
      have z5 := cc.size
      have HI5 := Lib.hid ii
      have HC5 := Lib.hid cc
      clear ii cc HG5
      have HC6 : Hid (Chg w y5 (isG g)) := Lib.hid (HCr.out.trans (HC1.out.trans (HC2.out.trans (HC3.out.trans (HC4.out.trans HC5.out (fun _ _ x => x)) (fun _ _ x => x)) (fun _ _ x => x)) (fun _ _ x => x)) (fun _ _ x => x))
      have HT6 : Hid (Tab y5 w1.heap.size R) := Lib.hid (by
        obtain ⟨cs, hb, h2⟩ := HTr.out
        have hng : ¬ isG g w1.heap.size := fun e => by unfold isG at e; omega
        exact ⟨cs, HC5.out.blk (HC4.out.blk (HC3.out.blk (HC2.out.blk (HC1.out.blk hb hng) hng) hng) hng) hng, h2⟩)
      have hr : getRow a = (b5, ⟨v1, v2, v3, v4, v5⟩) := by
        have q1 := HP_1.out; have q2 := HP_2.out; have q3 := HP_3.out; have q4 := HP_4.out; have q5 := HP_5.out
        simp only [getRow, Mx, ← q1, ← q2, ← q3, ← q4, ← q5]
      obtain ⟨r, hrr⟩ : ∃ r : Rw, r = ⟨v1, v2, v3, v4, v5⟩ := ⟨_, rfl⟩
      have hP2 := HP1.out
      rw [hr] at hP2
      simp only at hP2
      rw [← hrr] at hP2
      have HQ := Lib.hid hP2
      have hb6 : Below B y5 (y5.alloc (.cells r.cells 28)) := (Below.refl _ _).alloc HI5.out.le _
      have I7 := Lib.hid (HI5.out.below hb6)
      have C7 : Hid (Chg w (y5.alloc (.cells r.cells 28)) (isG g)) := Lib.hid (HC6.out.trans (Chg.of_below ((Below.refl _ _).alloc (Nat.le_refl _) _) _) (fun _ _ x => x))
      have T7 := Lib.hid (HT6.out.alloc (.cells r.cells 28))
      have BX := Blk.new y5 28 r.cells
      have d0 := (BX.cell 0).trans (show _ = some (Value.int .i64 r.c) from rfl)
      have d1 := (BX.cell 1).trans (show _ = some (Value.int .u64 r.n) from rfl)
      have d2 := (BX.cell 2).trans (show _ = some (Value.int .u64 r.s) from rfl)
      have d3 := (BX.cell 3).trans (show _ = some (Value.int .i64 r.k) from rfl)
      have d4 := (BX.cell 4).trans (show _ = some (Value.int .u64 r.v) from rfl)
      have HBX := Lib.hid BX
      have hr1 : (v1 : Int) = r.c := by rw [hrr]
      have hr2 : (v2 : Int) = r.n := by rw [hrr]
      have hr3 : (v3 : Int) = r.s := by rw [hrr]
      have hr4 : (v4 : Int) = r.k := by rw [hrr]
      have hr5 : (v5 : Int) = r.v := by rw [hrr]
      clear HP_1 HP_2 HP_3 HP_4 HP_5 HC1 HC2 HC3 HC4 HC5 HI1 HI2 HI3 HI4 HI5 HT6 HC6 HP1 hP2 hr hb6 hby BX hrr
      cases gd
      · go_wp2_with (fail)
        go_roundw
        case rel => exact ⟨k + 1, R, by omega, by go_num, by rw [HQ.out]; rfl, by rw [HQ.out, lastC_snoc], Lib.hid (by rw [HQ.out]; exact I7.out), T7, Lib.hid (fun h => by rw [HQ.out] at h; cases h), C7, by simp; omega⟩
        case measure => simp [intOf]; omega
      by_cases hlt2 : lc < r.c
      · have S7 := Lib.hid (set_any w1.heap.size R r _ T7.out)
        have hgt : w1.heap.size < (y5.alloc (.cells r.cells 28)).heap.size := T7.out.lt
        cases hf : r.fine
        · have HF := Lib.hid hf
          have hS : setE R r = 1 := by rw [setE, hf]; rfl
          have S8 := S7.out
          rw [hS] at S8
          have HS8 := Lib.hid S8
          clear hf hS S8 S7
          go_wp2_with (fail)
          refine HS8.out.mono ?_
          rintro e y6 ⟨rfl, t8, g8⟩
          have hbw : Below B (y5.alloc (.cells r.cells 28)) y6 := (Below.refl _ _).grown g8 (Nat.le_of_lt (Nat.lt_of_le_of_lt htB hgt)) (fun q hq => by cases hq; exact htB)
          have C8 : Hid (Chg w y6 (isG g)) := Lib.hid (C7.out.trans ((Chg.of_grown g8)) (fun i hi e => by cases e; omega))
          have I8 := Lib.hid (I7.out.below hbw)
          have B8 : Blk y6 y5.heap.size 28 r.cells := HBX.out.grown g8 (by simp; omega)
          have HT8 := Lib.hid t8
          have d8 := (B8.cell 0).trans (show _ = some (Value.int .i64 r.c) from rfl)
          have z8 := g8.size
          clear d0 d1 d2 d3 d4 B8 t8 g8 hbw I7 C7 T7 HBX
          go_wp2_with (fail)
          go_roundw
          case rel => exact ⟨k + 1, _, by omega, by go_num, by rw [HQ.out]; show Value.bool false = Value.bool (true && goodR l r); rw [goodR, HF.out]; rfl, by rw [HQ.out, lastC_snoc], Lib.hid (by rw [HQ.out]; exact I8.out), HT8, Lib.hid (fun h => by rw [HQ.out] at h; simp [goodR, HF.out] at h), C8, by simp at z8; omega⟩
          case measure => simp [intOf]; omega
        · have hgood : goodR l r = true := by rw [goodR, hf, decide_eq_true (by rw [← HLC.out]; exact hlt2)]; rfl
          have hst := (HTR.out rfl).step hgood
          have HST := Lib.hid hst.2
          have S8 := S7.out
          rw [hst.1] at S8
          have HS8 := Lib.hid S8
          have HGD := Lib.hid hgood
          clear hf S8 S7 hst hgood
          go_wp2_with (fail)
          refine HS8.out.mono ?_
          rintro e y6 ⟨rfl, t8, g8⟩
          have hbw : Below B (y5.alloc (.cells r.cells 28)) y6 := (Below.refl _ _).grown g8 (Nat.le_of_lt (Nat.lt_of_le_of_lt htB hgt)) (fun q hq => by cases hq; exact htB)
          have C8 : Hid (Chg w y6 (isG g)) := Lib.hid (C7.out.trans ((Chg.of_grown g8)) (fun i hi e => by cases e; omega))
          have I8 := Lib.hid (I7.out.below hbw)
          have B8 : Blk y6 y5.heap.size 28 r.cells := HBX.out.grown g8 (by simp; omega)
          have HT8 := Lib.hid t8
          have d8 := (B8.cell 0).trans (show _ = some (Value.int .i64 r.c) from rfl)
          have z8 := g8.size
          clear d0 d1 d2 d3 d4 B8 t8 g8 hbw I7 C7 T7 HBX
          go_wp2_with (fail)
          go_roundw
          case rel => exact ⟨k + 1, _, by omega, by go_num, by rw [HQ.out]; show Value.bool true = Value.bool (true && goodR l r); rw [HGD.out]; rfl, by rw [HQ.out, lastC_snoc], Lib.hid (by rw [HQ.out]; exact I8.out), HT8, Lib.hid (fun _ => by rw [HQ.out]; exact HST.out), C8, by simp at z8; omega⟩
          case measure => simp [intOf]; omega
      · have hng : goodR l r = false := by rw [goodR, decide_eq_false (by rw [← HLC.out]; exact hlt2), Bool.and_false]
        have HNG := Lib.hid hng
        clear hng
        go_wp2_with (fail)
        go_roundw
        case rel => exact ⟨k + 1, R, by omega, by go_num, by rw [HQ.out]; show Value.bool false = Value.bool (true && goodR l r); rw [HNG.out]; rfl, by rw [HQ.out, lastC_snoc], Lib.hid (by rw [HQ.out]; exact I7.out), T7, Lib.hid (fun h => by rw [HQ.out] at h; simp [HNG.out] at h), C7, by simp; omega⟩
        case measure => simp [intOf]; omega
    · obtain rfl : k = n := by omega
      obtain ⟨P, hP⟩ : ∃ P, P = getRows k s1 := ⟨_, rfl⟩
      rw [← hP] at HIr HTR HE HL HI ⊢
      clear hP
      obtain ⟨a, l, gd⟩ := P
      simp only at HIr HTR HE HL HI ⊢
      by_cases he : a.e = 0
      · have he' : (a.e != 0) = false := by simp [he]
        cases gd
        · have hE : Hid (readE s = 4) := Lib.hid (by rw [HE.out, if_neg (fun h => h he)]; rfl)
          have HEr := Lib.hid (err_any g a B wr HIr.out)
          clear he
          go_wp2_with (fail)
          refine HEr.out.mono ?_
          rintro e w9 ⟨rfl, rfl⟩
          go_wp2_with (fail)
          go_ret2
          refine ⟨by rw [HI.out]; exact HIr.out, HCr.out, .inr ⟨by rw [hE.out]; decide, by rw [hE.out]; rfl⟩⟩
        · have HTRR : Hid (TR l R) := Lib.hid (HTR.out (by rfl))
          have hE : Hid (readE s = 0) := Lib.hid (by rw [HE.out, if_neg (fun h => h he)]; rfl)
          have HEr := Lib.hid (err_any g a B wr HIr.out)
          clear he
          go_wp2_with (fail)
          refine HEr.out.mono ?_
          rintro e w9 ⟨rfl, rfl⟩
          go_wp2_with (fail)
          go_ret2
          refine ⟨by rw [HI.out]; exact HIr.out, HCr.out, .inl ⟨hE.out, _, R, rfl, HTr.out, by rw [HL.out hE.out]; exact HTRR.out⟩⟩
      · have he' : (a.e != 0) = true := by simp [he]
        have hE : Hid (readE s = a.e) := Lib.hid (by rw [HE.out, if_pos he])
        have HEr := Lib.hid (err_any g a B wr HIr.out)
        have HNE := Lib.hid he
        clear he
        go_wp2_with (fail)
        refine HEr.out.mono ?_
        rintro e w9 ⟨rfl, rfl⟩
        go_wp2_with (fail)
        go_ret2
        refine ⟨by rw [HI.out]; exact HIr.out, HCr.out, .inr ⟨by rw [hE.out]; exact HNE.out, by rw [hE.out]; rfl⟩⟩
end Go.Proofs.Ytcmaekkfeilclaa
