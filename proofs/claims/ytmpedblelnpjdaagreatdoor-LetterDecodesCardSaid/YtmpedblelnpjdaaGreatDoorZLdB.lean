/- LetterDecodes: the law, given the document's Decode. -/
import Derived.Test.YtmpedblelnpjdaaGreatDoorZLdA
import Derived.Test.YtmpedblelnpjdaaGreatDoorZLtuI
import Derived.Test.YtmpedblelnpjdaaGreatDoorZNtT
import Derived.Test.YtmpedblelnpjdaaGreatDoorZGH
namespace Go.Proofs.YtmpedblelnpjdaaGreatDoor
open Go.RowKit
set_option linter.unusedSimpArgs false
set_option linter.unusedVariables false
set_option maxHeartbeats 8000000
set_option maxRecDepth 100000
def RefDecP : Prop := ∀ (A : Option Addr) (n c B : Nat) (b : List Nat) (w : World), Reads w B 1 A n ((bI b).map (Value.int .u8)) → isBs b → B ≤ w.heap.size → n ≤ 900000 → n ≤ c → c ≤ maxLen →
 Calls Tryz.prog 10 #[.slice A n c] w fun e w' => ∃ z : LV, e = .returned (.tuple #[.agg z.l.cells, .int .i64 (dE b)]) ∧ z.val = (if dE b = 0 then dV b else LVal.zero) ∧ LIn w' w'.heap.size z ∧ Below w.heap.size w w'
theorem zero_near : LVal.zero.near := ⟨⟨by decide, fun u hu => (by cases hu)⟩, by decide, by decide, by decide⟩
theorem chkV_dec (b : List Nat) (h : dE b = 0) : chkV (dV b) = 0 := by
 unfold dE decE at h
 split at h
 ·rename_i h1; omega
 ·split at h
  ·omega
  ·split at h
   ·omega
   ·rename_i h3
    exact Classical.not_not.1 (fun h4 => h3 (.inr h4))
theorem letterDecodes_law (HAW : AwakeP) (HRD : RefDecP) (A : Option Addr) (n c : Nat) (b : List Nat) (w : World) (hK : KNAt w) (hr : Reads w w.heap.size 1 A n ((bI b).map (Value.int .u8))) (hb : isBs b) (hnc : n ≤ c) (hc : c ≤ maxLen) :
    Calls Tryz.prog 3 #[.slice A n c] w fun e w' => e = .returned (.bool true) ∧ Below w.heap.size w w' := by
  have HK := Lib.hid hK
  have HR := Lib.hid hr
  have HBS := Lib.hid hb
  have HC := Lib.hid hc
  unfold maxLen at hc
  have hlow := hK.k.lt
  have HA : Hid (∀ ad, 0 < n → A = some ad → ad.block < w.heap.size) := Lib.hid (fun ad h0 he => by
    obtain ⟨ad', h', hb, _⟩ := hr.2 h0
    rw [he] at h'
    cases h'
    exact hb)
  clear hK hr hb
  by_cases h3 : 3000 < n
  · have hd3 : decide (3000 < n) = true := decide_eq_true h3
    go_enter Tryz.func3, Tryz.ntmps3
    go_wp2_with (fail)
    refine (HAW _ HK.out).mono ?_
    rintro e w3 ⟨rfl, hb3⟩
    have HB3 := Lib.hid hb3
    clear hb3
    go_wp2_with (fail)
    go_ret
    exact ⟨rfl, HB3.out⟩
  have hd3 : decide (3000 < n) = false := decide_eq_false h3
  go_enter Tryz.func3, Tryz.ntmps3
  go_wp2_with (fail)
  refine (frNew_nil _).mono ?_
  rintro e w1 ⟨cc, rfl, hcw, hcd, hb1⟩
  obtain ⟨g, hg⟩ : ∃ g, g = w.heap.size := ⟨_, rfl⟩
  rw [← hg] at hcd
  have HB1 := Lib.hid hb1
  have hcl := hcd.1.lt
  have hgl := hcd.2.lt
  have hw1 := hb1.size
  have HG := Lib.hid hg
  have DE := Lib.hid (decode_any cc g false 0 0 A n c w.heap.size b w1 hcd (HR.out.below hb1) HBS.out hw1 (fun ad h0 he => by have := HA.out ad h0 he; omega) (by omega) hnc (by omega) (by omega) (by omega)
    (fun W hch => (HK.out.below hb1).k.chg hch (by have := HG.out; omega)))
  rw [show decE chkV stX b = dE b from rfl, show (decS stX b).2 = dV b from rfl] at DE
  clear hcd hb1 hg
  go_wp2_with (fail)
  refine DE.out.mono ?_
  rintro e w2 ⟨x, rfl, hxv, hxo, ⟨d2, hcd2⟩, hch2⟩
  have HB2 := Lib.hid (HB1.out.trans (hch2.below HB1.out.size (fun k hk e => by have := HG.out; omega)))
  have hw2 := hch2.size
  obtain ⟨W3, hW3⟩ : ∃ W3, W3 = w2.alloc (.cells x.l.cells 37) := ⟨_, rfl⟩
  have h23 : Below w2.heap.size w2 W3 := by rw [hW3]; exact (Below.refl _ _).alloc (Nat.le_refl _) _
  have X3 := Lib.hid (show Blk W3 w2.heap.size 37 x.l.cells by rw [hW3]; exact Blk.new _ _ _)
  have HXO := Lib.hid (hxo.below h23)
  have HXV := Lib.hid hxv
  have HCD := Lib.hid (hcd2.below h23 hcd2.1.lt hcd2.2.lt)
  have HB3 := Lib.hid (HB2.out.trans (h23.mono HB2.out.size))
  have HW3 := Lib.hid hW3
  have hs23 := h23.size
  clear hxv hxo hcd2 hch2 hW3 h23 DE HB2
  dsimp only
  rename_i hK9
  refine hK9 _ _ ?_
  clear hK9
  iterate 12 go_step
  refine wpList_store_fresh rfl 37 (.tmp 4) (.tmp 19) rfl x.l.cells 37 Lt.zero.cells rfl rfl ltInfo rfl (lt_all _) ?_
  rw [← HW3.out]
  clear HW3
  have RD := Lib.hid (HRD A n c w.heap.size b W3 (HR.out.below HB3.out) HBS.out HB3.out.size (by omega) hnc HC.out)
  obtain ⟨gx, hgx⟩ : ∃ gx, gx = w2.heap.size := ⟨_, rfl⟩
  rw [← hgx] at X3 ⊢
  clear hgx
  go_wp2_with (fail)
  refine RD.out.mono ?_
  rintro e w4 ⟨z, rfl, hzv, hzi, hb4⟩
  obtain ⟨W5, hW5⟩ : ∃ W5, W5 = w4.alloc (.cells z.l.cells 37) := ⟨_, rfl⟩
  have h45 : Below w4.heap.size w4 W5 := by rw [hW5]; exact (Below.refl _ _).alloc (Nat.le_refl _) _
  have h35 := hb4.trans (h45.mono hb4.size)
  have X5 := Lib.hid (X3.out.below h35 X3.out.lt)
  have Z5 := Lib.hid (show Blk W5 w4.heap.size 37 z.l.cells by rw [hW5]; exact Blk.new _ _ _)
  have HXO5 := Lib.hid (HXO.out.below h35)
  have HCD5 := Lib.hid (HCD.out.below h35 HCD.out.1.lt HCD.out.2.lt)
  have HZI := Lib.hid ((hzi.below h45).more h45.size)
  have HZV := Lib.hid hzv
  have HB5 := Lib.hid (HB3.out.trans (h35.mono HB3.out.size))
  have HW5 := Lib.hid hW5
  obtain ⟨gz, hgz⟩ : ∃ gz, gz = w4.heap.size := ⟨_, rfl⟩
  rw [← hgz] at Z5
  have HGZ := Lib.hid hgz
  have hs35 := h35.size
  clear hzv hzi hb4 hW5 h45 h35 RD HXO HCD HB3 X3 hgz
  dsimp only
  rename_i hK9
  refine hK9 _ _ ?_
  clear hK9
  iterate 12 go_step
  refine wpList_store_fresh rfl 37 (.tmp 6) (.tmp 24) rfl z.l.cells 37 Lt.zero.cells rfl rfl ltInfo rfl (lt_all _) ?_
  rw [← HW5.out, ← HGZ.out]
  clear HW5 HGZ
  have hXI := HXO5.out.lin
  have HNR : Hid x.near := Lib.hid (by
    by_cases h0 : dE b = 0
    · rw [if_pos h0] at HXV
      exact near_dec x W5 _ hXI b HBS.out HXV.out
    · rw [if_neg h0] at HXV
      exact near_of hXI (by rw [HXV.out]; exact zero_near))
  have SM := refSameG_any x z W5.heap.size W5.heap.size W5 hXI HZI.out (Nat.le_refl _) (Nat.le_refl _) HNR.out
  rw [show sameB x z = true from decide_eq_true (HXV.out.trans HZV.out.symm)] at SM
  have SM := Lib.hid SM
  have HXI := Lib.hid hXI
  clear hXI HZI HZV
  obtain ⟨de, hde⟩ : ∃ de, de = dE b := ⟨_, rfl⟩
  have HDE := Lib.hid hde
  rw [← hde]
  clear hde
  go_upto_region 6 with (fail)
  iterate 1 go_step
  refine wpList_load_row rfl 37 (.tmp 4) rfl gx rfl 37 x.l.cells (0, 0) _ X5.out Tryz.underlying37 rfl ltInfo ?_
  refine wpList_load_row rfl 37 (.tmp 6) rfl gz rfl 37 z.l.cells (0, 0) _ Z5.out Tryz.underlying37 rfl ltInfo ?_
  go_wp2_with (fail)
  refine SM.out.mono ?_
  rintro e w6 ⟨rfl, hb6⟩
  have X6 := Lib.hid (X5.out.below hb6 X5.out.lt)
  have HXI6 := Lib.hid ((HXI.out.below hb6).more hb6.size)
  have HCD6 := Lib.hid (HCD5.out.below hb6 HCD5.out.1.lt HCD5.out.2.lt)
  have HB6 := Lib.hid (HB5.out.trans (hb6.mono HB5.out.size))
  have hs6 := hb6.size
  clear hb6 SM X5 Z5 HXO5 HCD5 HXI HB5
  by_cases h0 : de = 0
  · have HD0 : Hid (dE b = 0) := Lib.hid (by rw [← HDE.out]; exact h0)
    subst h0
    have hxv : x.val = dV b := by have := HXV.out; rw [if_pos HD0.out] at this; exact this
    have hck : chkX x = 0 := by rw [chk_val x w6 _ HXI6.out, hxv]; exact chkV_dec b HD0.out
    have hen : encX x = b := enc_of_dec b HBS.out HD0.out x hxv HXI6.out.nl
    have EN := encode_any x w6 (fun V hV => (HK.out.below (HB6.out.trans (hV.mono HB6.out.size))).k) HXI6.out HNR.out hck cc g d2 _ _ HCD6.out (room_ok x _ _ HXI6.out hck)
    rw [show encB x.l.kd.toNat (bodyB x.l (partsI x.l.kd.toNat) (partB x)) = encX x from rfl, hen] at EN
    have EN := Lib.hid EN
    have hlen : b.length = n := reads_len HR.out
    clear hxv hck hen HDE HXV
    go_upto_region 8 with (fail)
    iterate 4 go_step
    refine wpList_load_row rfl 37 (.tmp 4) rfl gx rfl 37 x.l.cells (0, 0) _ X6.out Tryz.underlying37 rfl ltInfo ?_
    go_wp2_with (fail)
    refine EN.out.mono ?_
    rintro e w7 ⟨v, rfl, ho, _, hch⟩
    obtain ⟨A1, c1, rfl, r1, l1, m1⟩ := own_slice ho
    have HB7 := Lib.hid (HB6.out.trans (hch.below HB6.out.size (fun k hk e => by have := HG.out; omega)))
    have SM := Lib.hid (same_any A1 A n n c1 c w7.heap.size w.heap.size (bI b) (bI b) w7 (Nat.le_refl _) HB7.out.size (by rw [← hlen]; exact r1) (HR.out.below HB7.out) (by omega))
    rw [decide_eq_true rfl] at SM
    clear ho hch r1 EN X6 HXI6 HCD6
    go_wp2_with (fail)
    refine SM.out.mono ?_
    rintro e w8 ⟨rfl, hb8⟩
    have HB8 := Lib.hid (HB7.out.trans (hb8.mono HB7.out.size))
    clear hb8 SM
    go_wp2_with (fail)
    refine (HAW _ (HK.out.below HB8.out)).mono ?_
    rintro e w9 ⟨rfl, hb9⟩
    have HB9 := Lib.hid (HB8.out.trans (hb9.mono HB8.out.size))
    clear hb9
    go_wp2_with (fail)
    go_ret
    exact ⟨rfl, HB9.out⟩
  · have h0' : (de != 0) = true := by simpa using h0
    have hxv : x.val = LVal.zero := by have := HXV.out; rw [if_neg (by rw [← HDE.out]; exact h0)] at this; exact this
    have hck : chkX x ≠ 0 := by
      unfold chkX
      rw [if_pos (.inl (by have : x.val.kd = 0 := by rw [hxv]; rfl
                           show x.l.kd < 1
                           have h9 : x.l.kd = 0 := this
                           omega))]
      decide
    have EN := Lib.hid (encodeF_any x w6.heap.size w6 (fun V hV => (HK.out.below (HB6.out.trans (hV.mono HB6.out.size))).k) HXI6.out (Nat.le_refl _) HNR.out hck cc)
    generalize chkX x = cx at *
    clear hxv hck HDE HXV h0
    go_upto_region 8 with (fail)
    iterate 4 go_step
    refine wpList_load_row rfl 37 (.tmp 4) rfl gx rfl 37 x.l.cells (0, 0) _ X6.out Tryz.underlying37 rfl ltInfo ?_
    go_wp2_with (fail)
    refine EN.out.mono ?_
    rintro e w7 ⟨rfl, hb7⟩
    have HB7 := Lib.hid (HB6.out.trans (hb7.mono HB6.out.size))
    clear hb7 EN
    go_wp2_with (fail)
    refine (HAW _ (HK.out.below HB7.out)).mono ?_
    rintro e w9 ⟨rfl, hb9⟩
    have HB9 := Lib.hid (HB7.out.trans (hb9.mono HB7.out.size))
    clear hb9
    go_wp2_with (fail)
    go_ret
    exact ⟨rfl, HB9.out⟩
end Go.Proofs.YtmpedblelnpjdaaGreatDoor
