/- The walk of BagPlays. -/
import Derived.Test.YtpkmbnmlepmceaaBagU


namespace Go.Proofs.Ytpkmbnmlepmceaa
open Go.RowKit
set_option linter.unusedSimpArgs false
set_option linter.unusedVariables false
set_option maxHeartbeats 4000000
set_option maxRecDepth 100000
attribute [local go_sem] RB.agg RB.cells RB.zero

theorem up_set {s : Bg} (h : Srt s) (i x : Int) : Up1 s (s.set i x) := by
  unfold Bg.set
  split
  · rename_i hh
    obtain ⟨h0, h1⟩ := (Bg.has_iff s i).1 hh
    obtain ⟨k, rfl⟩ := Int.eq_ofNat_of_zero_le h0
    have hk : k < s.l.length := by omega
    rw [Int.toNat_natCast]
    have hm : (s.l.set k ((s.l.getD k (0, 0)).1, x)).map Prod.fst = s.l.map Prod.fst := by
      rw [List.map_set]
      have : (s.l.getD k (0, 0)).1 = (s.l.map Prod.fst)[k]'(by simpa using hk) := by
        rw [List.getD_eq_getElem?_getD, List.getElem?_eq_getElem hk]; simp
      rw [this, List.set_getElem_self]
    refine ⟨⟨?_, fun p hp => ?_⟩, .inl rfl, by simp⟩
    · have h1 := h.up
      rw [← List.pairwise_map (f := Prod.fst) (R := (· < ·))] at h1 ⊢
      show (List.map Prod.fst (s.l.set k ((s.l.getD k (0, 0)).1, x))).Pairwise _
      rw [hm]; exact h1
    · have : p.1 ∈ (s.l.set k ((s.l.getD k (0, 0)).1, x)).map Prod.fst := List.mem_map_of_mem hp
      rw [hm, List.mem_map] at this
      obtain ⟨q, hq, e⟩ := this
      rw [← e]; exact h.lo q hq
  · exact ⟨h, .inl rfl, by omega⟩
theorem up_step {s : Bg} (h : Srt s) (k i z : Int) (h0 : 0 ≤ s.last) : Up1 s (s.step k i z) := by
  unfold Bg.step
  split
  · exact up_put h z h0
  split
  · exact up_twice h i h0
  split
  · exact up_take h i
  split
  · exact up_set h i z
  split
  · exact up_keep h
  · exact ⟨h, .inl rfl, by omega⟩
/-- a bag of the document stored over another's cells -/
def upd3 (W : World) (b : Nat) (y : RB) : World := ((W.setCell ⟨b, 0, none⟩ (.int .i64 y.most)).setCell ⟨b, 1, none⟩ (.int .i64 y.last)).setCell ⟨b, 2, none⟩ (.slice y.A y.l.length y.cap)
theorem upd3_blk {W : World} {b : Nat} {cs : Array Value} (h : Blk W b 45 cs) (hc : cs.size = 3) (y : RB) : Blk (upd3 W b y) b 45 y.cells := by
  have := ((h.set_ 0 (.int .i64 y.most)).set_ 1 (.int .i64 y.last)).set_ 2 (.slice y.A y.l.length y.cap)
  have e : ((cs.setIfInBounds 0 (.int .i64 y.most)).setIfInBounds 1 (.int .i64 y.last)).setIfInBounds 2 (.slice y.A y.l.length y.cap) = y.cells := by
    rcases cs with ⟨l⟩
    match l, hc with
    | [a, b, c], _ => rfl
  rwa [e] at this
theorem upd3_far {W : World} {b k : Nat} {t : TypeId} {cs : Array Value} (h : Blk W k t cs) (hk : k ≠ b) (y : RB) : Blk (upd3 W b y) k t cs := ((h.far hk _).far hk _).far hk _
theorem upd3_bag {W : World} {b g : Nat} {cs : Array Value} {v : Value} {s : Bg} (h : BagAt W g v s) (hb : Blk W b 45 cs) (y : RB) : BagAt (upd3 W b y) g v s :=
  ((h.farC hb (by decide) (by decide) 0 _).farC (hb.set_ 0 _) (by decide) (by decide) 1 _).farC ((hb.set_ 0 _).set_ 1 _) (by decide) (by decide) 2 _
theorem upd3_rb {W : World} {b g : Nat} {v : Value} {x : RB} (h : RBg W g v x) (hf : ∀ ad, 0 < x.l.length → x.A = some ad → ad.block ≠ b) (y : RB) : RBg (upd3 W b y) g v x :=
  ⟨((h.rb.far0 (p := ⟨b, 0, none⟩) hf _).far0 (p := ⟨b, 1, none⟩) hf _).far0 (p := ⟨b, 2, none⟩) hf _, h.ap⟩
theorem upd3_below {B : Nat} {w W : World} {b : Nat} (h : Below B w W) (hb : B ≤ b) (y : RB) : Below B w (upd3 W b y) := ((h.setCell (p := ⟨b, 0, none⟩) hb _).setCell (p := ⟨b, 1, none⟩) hb _).setCell (p := ⟨b, 2, none⟩) hb _
theorem upd3_size (W : World) (b : Nat) (y : RB) : (upd3 W b y).heap.size = W.heap.size := by simp [upd3]
theorem bagPlays_law (most : Int) (A : Option Addr) (n c : Nat) (l : List Op3) (w : World) (hr : Reads w w.heap.size 3 A n (l.flatMap opc)) (hw : ∀ o ∈ l, I64 o.1 ∧ I64 o.2.1 ∧ I64 o.2.2) (hn : n ≤ c) (hc : c ≤ maxLen) :
    Calls Try.prog 5 #[.int .i64 most, .slice A n c] w fun e w' => e = .returned (.bool true) ∧ Below w.heap.size w w' := by
  unfold maxLen at hc
  have HR := Lib.hid hr
  have HW := Lib.hid hw
  have hn1 : (n : Int) ≤ 9223372036854775807 := by omega
  clear hr hw
  go_enter Try.func5, Try.ntmps5
  go_wp2_with (fail)
  refine (new_any most _).mono ?_
  rintro e w1 ⟨rfl, hA, hb⟩
  have hs1 : w.heap.size < w1.heap.size := hA.1.lt
  have HA1 := Lib.hid (hA.below ((Below.refl _ _).alloc (Nat.le_refl _) (.cells #[.int .i64 most, .int .i64 0, .slice none 0 0] 45)))
  have HB1 : Hid (Below w.heap.size w (w1.alloc (.cells #[.int .i64 most, .int .i64 0, .slice none 0 0] 45))) := Lib.hid (hb.alloc hb.size _)
  have HK1 := Lib.hid (Blk.new w1 45 (RB.cells ⟨most, 0, none, 0, []⟩))
  clear hA hb
  go_wp2_with (fail)
  go_loopw [7] (fun ia wr => ∃ (i : Nat) (v : Value) (y : RB), i ≤ n ∧ i ≤ 60 ∧ ia = .int .i64 i ∧ Hid (BagAt wr w.heap.size v y.bg ∧ RBg wr w.heap.size v y ∧ Srt y.bg ∧ 0 ≤ y.last ∧ y.last ≤ (i : Int) ∧ y.l.length ≤ i) ∧ Hid (Blk wr w1.heap.size 45 y.cells) ∧ Hid (∀ ad, 0 < y.l.length → y.A = some ad → ad.block ≠ w1.heap.size) ∧ Hid (Below w.heap.size w wr)) (fun ia _ => 60 - (intOf ia).toNat)
  case atStart => exact ⟨0, _, ⟨most, 0, none, 0, []⟩, by omega, by omega, rfl, Lib.hid ⟨HA1.out, ⟨⟨Reads.none_, Nat.le_refl _, Nat.zero_le _⟩, fun ad h0 => absurd h0 (by simp)⟩, ⟨by simp [RB.bg], by simp [RB.bg]⟩, Int.le_refl _, Int.le_refl _, Nat.le_refl _⟩, HK1, Lib.hid (fun ad h0 => absurd h0 (by simp)), HB1⟩
  case round =>
    clear HA1 HB1 HK1
    obtain ⟨i, v, ⟨ym, yl, yA, yc, yll⟩, hin, hi60, rfl, H, HK, HF, HB⟩ := hrel
    by_cases hlt : i < n ∧ i < 60
    · obtain ⟨hl1, hl2⟩ := hlt
      have hl1' : (i : Int) < n := by omega
      have hl2' : (i : Int) < 60 := by omega
      obtain ⟨b, off, o, rfl, hbb, ho, hcs⟩ := reads_at opc opc_len (by omega) HR.out hl1
      have hz := (HW.out o (List.mem_of_getElem? ho)).2.2.2
      have D0 := Lib.hid (hcs 0 _ rfl)
      have D1 := Lib.hid (hcs 1 _ rfl)
      have D2 := Lib.hid (hcs 2 _ rfl)
      have d0 := (HB.out.cell (p := ⟨b, off + i * 3, none⟩) hbb).trans (hcs 0 _ rfl)
      have d1 := (HB.out.cell (p := ⟨b, off + i * 3 + 1, none⟩) hbb).trans (hcs 1 _ rfl)
      have d2 := (HB.out.cell (p := ⟨b, off + i * 3 + 2, none⟩) hbb).trans (hcs 2 _ rfl)
      obtain ⟨x0, x1, x2⟩ := rb_cells HK.out
      obtain ⟨hA, hRB, hS, h0, h1, h2⟩ := H.out
      have lk := HK.out.lt
      have hsw := HB.out.size
      have lb : b < wr.heap.size := by omega
      have hxb : w1.heap.size ≠ b := by omega
      have hxb2 : b ≠ w1.heap.size := by omega
      have hn1b : wr.heap.size ≠ b := by omega
      have hn2b : b ≠ wr.heap.size := by omega
      have hn3 : wr.heap.size ≠ w1.heap.size := by omega
      have hn4 : w1.heap.size ≠ wr.heap.size := by omega
      have HRW := Lib.hid hRB.rb
      have hll : yll.length ≤ 1000000 := by (try simp only at h2); omega
      have hyl : yl ≤ 1000000 := by (try simp only at h1); omega
      have ST := fun W (hW : Below wr.heap.size wr W) => step_any w.heap.size v ⟨ym, yl, yA, yc, yll⟩ o.1 o.2.1 o.2.2 W (hA.below hW) (hRB.below hW) hll hS h0 hyl hz
      obtain ⟨V1, hV1⟩ : ∃ V1, V1 = (wr.alloc (.cells #[.int .i64 0, .int .i64 0, .slice none 0 0] 45)).drew := ⟨_, rfl⟩
      have bV1 : Below wr.heap.size wr V1 := by rw [hV1]; exact ((Below.refl _ _).alloc (Nat.le_refl _) _).drew
      have ST1 : Hid (Calls Try.prog 19 #[.pointer (some ⟨w.heap.size, 0, none⟩), .agg #[.int .i64 ym, .int .i64 yl, .slice yA yll.length yc], .agg #[.int .i64 o.1, .int .i64 o.2.1, .int .i64 o.2.2]] ((wr.alloc (.cells #[.int .i64 0, .int .i64 0, .slice none 0 0] 45)).drew) (StepPost V1 w.heap.size v ⟨ym, yl, yA, yc, yll⟩ ((RB.bg ⟨ym, yl, yA, yc, yll⟩).step o.1 o.2.1 o.2.2))) := Lib.hid (by rw [← hV1]; exact ST V1 bV1)
      have ST2 : Hid (Calls Try.prog 19 #[.pointer (some ⟨w.heap.size, 0, none⟩), .agg #[.int .i64 ym, .int .i64 yl, .slice yA yll.length yc], .agg #[.int .i64 o.1, .int .i64 o.2.1, .int .i64 o.2.2]] wr.drew (StepPost wr.drew w.heap.size v ⟨ym, yl, yA, yc, yll⟩ ((RB.bg ⟨ym, yl, yA, yc, yll⟩).step o.1 o.2.1 o.2.2))) := Lib.hid (ST wr.drew (Below.refl _ _).drew)
      have HZ1 : Hid (Blk V1 wr.heap.size 45 #[.int .i64 0, .int .i64 0, .slice none 0 0]) := Lib.hid (by rw [hV1]; exact Blk.new wr _ _)
      have HA1 := Lib.hid (hA.below bV1)
      have HK1 := Lib.hid (HK.out.below bV1 lk)
      have hv1 : V1.heap.size = wr.heap.size + 1 := by rw [hV1]; show (wr.alloc _).heap.size = _; simp
      have HBV1 := Lib.hid bV1
      clear ST hV1 bV1
      have HUP := Lib.hid (up_step hS o.1 o.2.1 o.2.2 h0)
      have HA := Lib.hid hA
      simp only [] at x0 x1 x2
      clear hcs ho hA hRB hS H
      go_wp2_with (fail)
      have HA2 : Hid (BagAt wr.drew w.heap.size v (RB.bg ⟨ym, yl, yA, yc, yll⟩)) := Lib.hid (HA.out.below ((Below.refl _ _).drew))
      have HK2 : Hid (Blk wr.drew w1.heap.size 45 (RB.cells ⟨ym, yl, yA, yc, yll⟩)) := Lib.hid HK.out
      have HB2 : Hid (Below wr.heap.size wr wr.drew) := Lib.hid ((Below.refl _ _).drew)
      go_region_held3 (fun w' => w'.cell? ⟨w1.heap.size, 0, none⟩ = some (.int .i64 ym) ∧ w'.cell? ⟨w1.heap.size, 1, none⟩ = some (.int .i64 yl) ∧ w'.cell? ⟨w1.heap.size, 2, none⟩ = some (.slice yA yll.length yc) ∧ w'.cell? ⟨b, off + i * 3, none⟩ = some (.int .i64 o.1) ∧ w'.cell? ⟨b, off + i * 3 + 1, none⟩ = some (.int .i64 o.2.1) ∧ w'.cell? ⟨b, off + i * 3 + 2, none⟩ = some (.int .i64 o.2.2)) (go_keep) (first
        | (go_at_call 19; (with_reducible refine ST2.out.mono ?_); rintro e w6 ⟨⟨qm, ql, qA, qc, qll⟩, v', rfl, hbg, hba, hrb, hst, hna⟩; have HK6 := Lib.hid (hst.blk HA2.out HK2.out (by decide) (by decide)); have hbl := hst.below HA2.out (B := w.heap.size) (Nat.le_refl _); have HB6 := Lib.hid (HB.out.trans (Below.trans (Below.mono HB2.out hsw) hbl)); have hbw := HB6.out; replace d0 := (hbw.cell (p := ⟨b, off + i * 3, none⟩) hbb).trans D0.out; replace d1 := (hbw.cell (p := ⟨b, off + i * 3 + 1, none⟩) hbb).trans D1.out; replace d2 := (hbw.cell (p := ⟨b, off + i * 3 + 2, none⟩) hbb).trans D2.out; have lk6 := HK6.out.lt; have hs6 : wr.heap.size ≤ w6.heap.size := Nat.le_trans HB2.out.size hst.chg.size; have lb6 : b < w6.heap.size := Nat.lt_of_lt_of_le lb hs6; clear x0 x1 x2; obtain ⟨x0, x1, x2⟩ := rb_cells HK6.out; simp only [] at x0 x1 x2; have xf0 := HK6.out.frozen 0; have xf1 := HK6.out.frozen 1; have xf2 := HK6.out.frozen 2; rw [← hbg] at hba; have HG6 := Lib.hid hbg; have HBA := Lib.hid hba; have HRB := Lib.hid hrb; have HNA := Lib.hid hna;  clear hbg hba hrb hna hst hbl hbw)
        | (go_at_call 19; (with_reducible refine ST1.out.mono ?_); rintro e w6 ⟨⟨qm, ql, qA, qc, qll⟩, v', rfl, hbg, hba, hrb, hst, hna⟩; have HK6 := Lib.hid (hst.blk HA1.out HK1.out (by decide) (by decide)); have hbl := hst.below HA1.out (B := w.heap.size) (Nat.le_refl _); have HB6 := Lib.hid (HB.out.trans (Below.trans (Below.mono HBV1.out hsw) hbl)); have hbw := HB6.out; replace d0 := (hbw.cell (p := ⟨b, off + i * 3, none⟩) hbb).trans D0.out; replace d1 := (hbw.cell (p := ⟨b, off + i * 3 + 1, none⟩) hbb).trans D1.out; replace d2 := (hbw.cell (p := ⟨b, off + i * 3 + 2, none⟩) hbb).trans D2.out; have lk6 := HK6.out.lt; have hs6 : wr.heap.size ≤ w6.heap.size := Nat.le_trans HBV1.out.size hst.chg.size; have lb6 : b < w6.heap.size := Nat.lt_of_lt_of_le lb hs6; clear x0 x1 x2; obtain ⟨x0, x1, x2⟩ := rb_cells HK6.out; simp only [] at x0 x1 x2; have xf0 := HK6.out.frozen 0; have xf1 := HK6.out.frozen 1; have xf2 := HK6.out.frozen 2; rw [← hbg] at hba; have HG6 := Lib.hid hbg; have HBA := Lib.hid hba; have HRB := Lib.hid hrb; have HNA := Lib.hid hna; have hz6 := hst.blk HA1.out HZ1.out (by decide) (by decide); have z0 := hz6.cell 0; have z1 := hz6.cell 1; have z2 := hz6.cell 2; have zf0 := hz6.frozen 0; have zf1 := hz6.frozen 1; have zf2 := hz6.frozen 2; have zl := hz6.lt; have HZ6 := Lib.hid hz6; simp only [List.getElem?_toArray, List.getElem?_cons_succ, List.getElem?_cons_zero] at z0 z1 z2; clear hz6; clear hbg hba hrb hna hst hbl hbw))
      all_goals go_wp2_with (fail)
      · have hfar : ∀ ad, 0 < (⟨qm, ql, qA, qc, qll⟩ : RB).l.length → (⟨qm, ql, qA, qc, qll⟩ : RB).A = some ad → ad.block ≠ w1.heap.size := fun ad h0 hA => by
          rcases HNA.out with h | h
          · rw [h] at h0 hA; exact HF.out ad h0 hA
          · have := h ad hA; have h3 : wr.heap.size ≤ ad.block := this; omega
        obtain ⟨W9, hW9⟩ : ∃ W9, W9 = (upd3 w6 w1.heap.size ⟨qm, ql, qA, qc, qll⟩).alloc (.cells #[.int .i64 qm, .int .i64 ql, .slice qA qll.length qc] 45) := ⟨_, rfl⟩
        have hbl9 : Below (upd3 w6 w1.heap.size ⟨qm, ql, qA, qc, qll⟩).heap.size (upd3 w6 w1.heap.size ⟨qm, ql, qA, qc, qll⟩) W9 := by rw [hW9]; exact (Below.refl _ _).alloc (Nat.le_refl _) _
        have G1 := Lib.hid ((upd3_bag HBA.out HK6.out ⟨qm, ql, qA, qc, qll⟩).below hbl9)
        have G2 := Lib.hid ((upd3_rb HRB.out hfar ⟨qm, ql, qA, qc, qll⟩).below hbl9)
        have G3 := Lib.hid ((upd3_blk HK6.out rfl ⟨qm, ql, qA, qc, qll⟩).below hbl9 (by rw [upd3_size]; exact lk6))
        have hb8 := upd3_below HB6.out (Nat.le_of_lt hs1) ⟨qm, ql, qA, qc, qll⟩
        have G4 := Lib.hid (hb8.trans (hbl9.mono hb8.size))
        rw [upd3] at hW9
        rw [← hW9]
        clear hW9 hbl9 hb8
        have HFR := Lib.hid hfar
        have hup := HUP.out
        rw [← HG6.out] at hup
        obtain ⟨u1, u2, u3⟩ := hup
        have u2' : ql = yl ∨ ql = yl + 1 := u2
        have u3' : qll.length ≤ yll.length + 1 := u3
        have HSR := Lib.hid u1
        have hql0 : 0 ≤ ql := by (try simp only at h0); omega
        have hql1 : ql ≤ (i : Int) + 1 := by (try simp only at h1); omega
        have hqn : qll.length ≤ i + 1 := by (try simp only at h2); omega
        clear u1 u2 u3 hfar x0 x1 x2 d0 d1 d2 xf0 xf1 xf2 HUP
        refine (same_any w.heap.size v' (RB.bg ⟨qm, ql, qA, qc, qll⟩) ⟨qm, ql, qA, qc, qll⟩ W9 G1.out G2.out.rb rfl rfl (by show qll.length ≤ _; omega)).mono ?_
        rintro e w10 ⟨rfl, hb10⟩
        have K1 := Lib.hid (G1.out.below hb10)
        have K2 := Lib.hid (G2.out.below hb10)
        have K3 := Lib.hid (G3.out.below hb10 G3.out.lt)
        have K4 := Lib.hid (G4.out.trans (hb10.mono G4.out.size))
        clear hb10
        go_wp2_with (fail)
        go_roundw
        case rel => first | exact ⟨i + 1, v', ⟨qm, ql, qA, qc, qll⟩, by omega, by omega, by go_num, Lib.hid ⟨K1.out, K2.out, HSR.out, hql0, by push_cast; omega, hqn⟩, K3, HFR, K4⟩ | ((repeat apply Exists.intro); exact ⟨⟨i + 1, v', ⟨qm, ql, qA, qc, qll⟩, by omega, by omega, by go_num, Lib.hid ⟨K1.out, K2.out, HSR.out, hql0, by push_cast; omega, hqn⟩, K3, HFR, K4⟩, rfl⟩)
        case measure => simp [intOf]; omega
      · have hfar : ∀ ad, 0 < (⟨qm, ql, qA, qc, qll⟩ : RB).l.length → (⟨qm, ql, qA, qc, qll⟩ : RB).A = some ad → ad.block ≠ w1.heap.size ∧ ad.block ≠ wr.heap.size := fun ad h0 hA => by
          rcases HNA.out with h | h
          · rw [h] at h0 hA; exact ⟨HF.out ad h0 hA, fun e => by have := HRW.out.blt h0 hA; omega⟩
          · have := h ad hA; omega
        obtain ⟨W9, hW9⟩ : ∃ W9, W9 = upd3 (upd3 w6 wr.heap.size ⟨qm, ql, qA, qc, qll⟩) w1.heap.size ⟨qm, ql, qA, qc, qll⟩ := ⟨_, rfl⟩
        have hk8 := upd3_far HK6.out hn4 ⟨qm, ql, qA, qc, qll⟩
        have G1 : Hid (BagAt W9 w.heap.size v' (RB.bg ⟨qm, ql, qA, qc, qll⟩)) := Lib.hid (by rw [hW9]; exact upd3_bag (upd3_bag HBA.out HZ6.out ⟨qm, ql, qA, qc, qll⟩) hk8 ⟨qm, ql, qA, qc, qll⟩)
        have G2 : Hid (RBg W9 w.heap.size v' ⟨qm, ql, qA, qc, qll⟩) := Lib.hid (by rw [hW9]; exact upd3_rb (upd3_rb HRB.out (fun ad h0 hA => (hfar ad h0 hA).2) ⟨qm, ql, qA, qc, qll⟩) (fun ad h0 hA => (hfar ad h0 hA).1) ⟨qm, ql, qA, qc, qll⟩)
        have G3 : Hid (Blk W9 w1.heap.size 45 (RB.cells ⟨qm, ql, qA, qc, qll⟩)) := Lib.hid (by rw [hW9]; exact upd3_blk hk8 rfl ⟨qm, ql, qA, qc, qll⟩)
        have G4 : Hid (Below w.heap.size w W9) := Lib.hid (by rw [hW9]; exact upd3_below (upd3_below HB6.out hsw ⟨qm, ql, qA, qc, qll⟩) (Nat.le_of_lt hs1) ⟨qm, ql, qA, qc, qll⟩)
        replace hfar := fun ad h0 hA => (hfar ad h0 hA).1
        rw [upd3, upd3] at hW9
        rw [← hW9]
        clear hW9 hk8
        have HFR := Lib.hid hfar
        have hup := HUP.out
        rw [← HG6.out] at hup
        obtain ⟨u1, u2, u3⟩ := hup
        have u2' : ql = yl ∨ ql = yl + 1 := u2
        have u3' : qll.length ≤ yll.length + 1 := u3
        have HSR := Lib.hid u1
        have hql0 : 0 ≤ ql := by (try simp only at h0); omega
        have hql1 : ql ≤ (i : Int) + 1 := by (try simp only at h1); omega
        have hqn : qll.length ≤ i + 1 := by (try simp only at h2); omega
        clear u1 u2 u3 hfar x0 x1 x2 d0 d1 d2 xf0 xf1 xf2 HUP
        refine (same_any w.heap.size v' (RB.bg ⟨qm, ql, qA, qc, qll⟩) ⟨qm, ql, qA, qc, qll⟩ W9 G1.out G2.out.rb rfl rfl (by show qll.length ≤ _; omega)).mono ?_
        rintro e w10 ⟨rfl, hb10⟩
        have K1 := Lib.hid (G1.out.below hb10)
        have K2 := Lib.hid (G2.out.below hb10)
        have K3 := Lib.hid (G3.out.below hb10 G3.out.lt)
        have K4 := Lib.hid (G4.out.trans (hb10.mono G4.out.size))
        clear hb10
        go_wp2_with (fail)
        go_roundw
        case rel => first | exact ⟨i + 1, v', ⟨qm, ql, qA, qc, qll⟩, by omega, by omega, by go_num, Lib.hid ⟨K1.out, K2.out, HSR.out, hql0, by push_cast; omega, hqn⟩, K3, HFR, K4⟩ | ((repeat apply Exists.intro); exact ⟨⟨i + 1, v', ⟨qm, ql, qA, qc, qll⟩, by omega, by omega, by go_num, Lib.hid ⟨K1.out, K2.out, HSR.out, hql0, by push_cast; omega, hqn⟩, K3, HFR, K4⟩, rfl⟩)
        case measure => simp [intOf]; omega
    · have hx : ¬ i < n ∨ (i < n ∧ ¬ i < 60) := by omega
      rcases hx with hx | ⟨hx, hx4⟩
      all_goals (
        go_wp2_with (first | (go_at_call 13; refine (awake_any _).mono ?_; rintro e w2 ⟨rfl, hb2⟩) | fail)
        go_ret
        exact ⟨rfl, HB.out.trans (hb2.mono HB.out.size)⟩)
end Go.Proofs.Ytpkmbnmlepmceaa
