/- CallerPlays: the law (printed by cplgen.py). -/
import Derived.Test.YtmpedblelnpjdaaGreatDoorZCpC
import Derived.Test.YtmpedblelnpjdaaGreatDoorZTq
import Derived.Test.YtmpedblelnpjdaaGreatDoorZTk
import Derived.Test.YtmpedblelnpjdaaGreatDoorZDcI
import Derived.Test.YtmpedblelnpjdaaGreatDoorZCalV
namespace Go.Proofs.YtmpedblelnpjdaaGreatDoor
open Go.RowKit
set_option linter.unusedSimpArgs false
set_option linter.unusedVariables false
set_option maxHeartbeats 8000000
set_option maxRecDepth 100000
theorem callerPlays_law (p0 p1 : Int) (A : Option Addr) (n cp : Nat) (l : List Cf) (A2 : Option Addr) (n2 cp2 : Nat) (ss : List Stp) (w : World) (hK : KindsAt w) (hp0 : -9223372036854775808 ≤ p0 ∧ p0 ≤ 9223372036854775807) (hp1 : -9223372036854775808 ≤ p1 ∧ p1 ≤ 9223372036854775807)
  (hl : CfsIn w w.heap.size A n l) (hep : ∀ x ∈ l, x.ep ≤ 18446744073709551615) (hcn : n ≤ cp ∧ cp ≤ maxLen) (hs : StsIn w w.heap.size A2 n2 ss) (hc2 : n2 ≤ cp2 ∧ cp2 ≤ maxLen) :
  Calls Tryz.prog 5 #[.agg #[.int .i64 p0, .int .i64 p1], .slice A n cp, .slice A2 n2 cp2] w fun e w' => e = .returned (.bool true) ∧ Below w.heap.size w w' := by
 obtain ⟨W1, hW1⟩ : ∃ W1, W1 = w.alloc (.cells #[.int .i64 p0, .int .i64 p1] 51) := ⟨_, rfl⟩
 have HB1 : Hid (Below w.heap.size w W1) := Lib.hid (by rw [hW1]; exact (Below.refl _ _).alloc (Nat.le_refl _) _)
 have HG1 : Hid (Blk W1 w.heap.size 51 #[.int .i64 p0, .int .i64 p1]) := Lib.hid (by rw [hW1]; exact Blk.new _ _ _)
 have HW1 := Lib.hid hW1
 have HK := Lib.hid hK
 have HL := Lib.hid hl
 have HEP := Lib.hid hep
 have HCN := Lib.hid hcn
 have HS2 := Lib.hid hs
 have HC2 := Lib.hid hc2
 have HN2 : Hid ((n2 : Int) ≤ 9223372036854775807) := Lib.hid (by have := hc2.1; have := hc2.2; unfold maxLen at this; omega)
 clear hW1 hK hl hep hcn hs hc2
 have x0 : W1.cell? ⟨w.heap.size, 0, none⟩ = some (.int .i64 p0) := HG1.out.cell 0
 have x1 : W1.cell? ⟨w.heap.size, 1, none⟩ = some (.int .i64 p1) := HG1.out.cell 1
 by_cases h6 : 6 < n
 ·have hd : decide ((6 : Int) < (n : Int)) = true := decide_eq_true (by omega)
  go_enter Tryz.func5, Tryz.ntmps5
  go_upto_region 1 with (fail)
  rw [← HW1.out]
  clear HW1
  go_wp2_with (fail)
  refine (awake26b_any _ (HK.out.below HB1.out)).mono ?_
  rintro e wa ⟨rfl, hba⟩
  have HBA := Lib.hid (HB1.out.trans (hba.mono HB1.out.size))
  clear hba
  go_wp2_with (fail)
  go_ret
  exact ⟨rfl, HBA.out⟩
 have hd : decide ((6 : Int) < (n : Int)) = false := decide_eq_false (by omega)
 have H6 : Hid (n ≤ 6) := Lib.hid (by omega)
 clear h6
 go_enter Tryz.func5, Tryz.ntmps5
 go_upto_region 1 with (fail)
 rw [← HW1.out]
 clear HW1
 go_wp2_with (fail)
 refine (calNew_any p0 p1 A n cp w.heap.size l W1 (HL.out.below HB1.out) HB1.out.size).mono ?_
 rintro e w2 ⟨hb2, hcs⟩
 have HB2 := Lib.hid (HB1.out.trans (hb2.mono HB1.out.size))
 have HG2 := Lib.hid (HG1.out.below hb2 HG1.out.lt)
 have DN := Lib.hid (dNew_any p0 p1 A n cp w.heap.size l w2 (HL.out.below HB2.out) HB2.out.size (by have := H6.out; omega))
 have HLO : Hid (w.heap.size < W1.heap.size) := Lib.hid HG1.out.lt
 clear hb2 x0 x1
 have x0 : w2.cell? ⟨w.heap.size, 0, none⟩ = some (.int .i64 p0) := HG2.out.cell 0
 have x1 : w2.cell? ⟨w.heap.size, 1, none⟩ = some (.int .i64 p1) := HG2.out.cell 1
 rcases hcs with ⟨hno, rfl⟩ | ⟨hok, hall, g, G, rfl, hcal⟩
 ·have HNO := Lib.hid hno
  clear hno
  go_wp2_with (fail)
  refine DN.out.mono ?_
  rintro e w3 ⟨hb3, ⟨_, rfl⟩ | ⟨h1, h2, _⟩⟩
  ·dsimp only
   iterate 13 go_step
   refine wpList_store_row rfl 62 (.tmp 9) (.tmp 40) rfl w3.heap.size #[.int .i64 0, .int .i64 0, .int .u64 0, .int .i64 0, .slice none 0 0, .int .i64 0, .int .u32 0, .int .u64 0, .slice none 0 0, .int .i64 0, .int .i64 0, .int .i64 0, .int .u64 0, .slice none 0 0, .int .u64 0, .int .i64 0, .int .u64 0, .slice none 0 0] rfl rfl 62 #[.int .i64 0, .int .i64 0, .int .u64 0, .int .i64 0, .slice none 0 0, .int .i64 0, .int .u32 0, .int .u64 0, .slice none 0 0, .int .i64 0, .int .i64 0, .int .i64 0, .int .u64 0, .slice none 0 0, .int .u64 0, .int .i64 0, .int .u64 0, .slice none 0 0] (Blk.new w3 _ _) dcInfo rfl (by simp [Value.oneCell']) ?_
   have HB3 : Hid (Below w.heap.size w (World.setRow (w3.alloc (.cells #[.int .i64 0, .int .i64 0, .int .u64 0, .int .i64 0, .slice none 0 0, .int .i64 0, .int .u32 0, .int .u64 0, .slice none 0 0, .int .i64 0, .int .i64 0, .int .i64 0, .int .u64 0, .slice none 0 0, .int .u64 0, .int .i64 0, .int .u64 0, .slice none 0 0] 62)) w3.heap.size #[.int .i64 0, .int .i64 0, .int .u64 0, .int .i64 0, .slice none 0 0, .int .i64 0, .int .u32 0, .int .u64 0, .slice none 0 0, .int .i64 0, .int .i64 0, .int .i64 0, .int .u64 0, .slice none 0 0, .int .u64 0, .int .i64 0, .int .u64 0, .slice none 0 0])) := Lib.hid (by
    have h3 := HB2.out.trans (hb3.mono HB2.out.size)
    exact setRow_below (h3.alloc h3.size _) (h3.alloc h3.size _).size h3.size _)
   generalize World.setRow (w3.alloc (.cells #[.int .i64 0, .int .i64 0, .int .u64 0, .int .i64 0, .slice none 0 0, .int .i64 0, .int .u32 0, .int .u64 0, .slice none 0 0, .int .i64 0, .int .i64 0, .int .i64 0, .int .u64 0, .slice none 0 0, .int .u64 0, .int .i64 0, .int .u64 0, .slice none 0 0] 62)) w3.heap.size #[.int .i64 0, .int .i64 0, .int .u64 0, .int .i64 0, .slice none 0 0, .int .i64 0, .int .u32 0, .int .u64 0, .slice none 0 0, .int .i64 0, .int .i64 0, .int .i64 0, .int .u64 0, .slice none 0 0, .int .u64 0, .int .i64 0, .int .u64 0, .slice none 0 0] = W4 at HB3 ⊢
   clear hb3 x0 x1
   go_wp2_with (fail)
   refine (awake26b_any _ (HK.out.below HB3.out)).mono ?_
   rintro e wa ⟨rfl, hba⟩
   have HBA := Lib.hid (HB3.out.trans (hba.mono HB3.out.size))
   clear hba
   go_wp2_with (fail)
   go_ret
   exact ⟨rfl, HBA.out⟩
  ·exact absurd ⟨h1, h2⟩ HNO.out
 obtain ⟨h11, h12, h13, h14⟩ := hok
 obtain ⟨kc, rfl⟩ := Int.eq_ofNat_of_zero_le (show 0 ≤ p0 by omega)
 obtain ⟨km, rfl⟩ := Int.eq_ofNat_of_zero_le (show 0 ≤ p1 by omega)
 rw [Int.toNat_natCast, Int.toNat_natCast] at hcal
 obtain ⟨lo, hlo⟩ : ∃ lo, lo = W1.heap.size := ⟨_, rfl⟩
 rw [← hlo] at hcal HLO
 have hlo2 : lo ≤ w2.heap.size := by have := hcal.low; have := hcal.box.lt; omega
 have HST := Lib.hid (vs_start hall (fun x hx => by have h := ((HL.out.mem x hx).rd).1; rw [List.length_map] at h; omega) HEP.out)
 obtain ⟨q, hh, cB, o, hax, hov⟩ := hcal.atl
 have HP2 : Hid (PSt w2 lo g G q hh cB 0 (l.map Cf.val) (Cl.new kc km) (Cl.new kc km)) := Lib.hid ⟨hcal, ⟨o, hax, hov⟩, rfl⟩
 have HALL := Lib.hid hall
 have HKC : Hid (1 ≤ kc ∧ kc ≤ 6 ∧ 1 ≤ km ∧ km ≤ 5) := Lib.hid (by omega)
 have HQ2 : Hid (q < w2.heap.size) := Lib.hid hax.conf.lt
 have HQ3 : Hid (lo ≤ q) := Lib.hid (by have := hax.b0; have := hax.lt; omega)
 clear hall h11 h12 h13 h14 hcal hax hov hlo
 go_wp2_with (fail)
 refine DN.out.mono ?_
 rintro e w3 ⟨hb3, ⟨hno, _⟩ | ⟨h1, h2, rfl⟩⟩
 ·exact absurd ⟨by have := HKC.out; omega, HALL.out⟩ hno
 rw [Int.toNat_natCast, Int.toNat_natCast]
 obtain ⟨W4, hW4⟩ : ∃ W4, W4 = World.setRow (w3.alloc (.cells #[.int .i64 0, .int .i64 0, .int .u64 0, .int .i64 0, .slice none 0 0, .int .i64 0, .int .u32 0, .int .u64 0, .slice none 0 0, .int .i64 0, .int .i64 0, .int .i64 0, .int .u64 0, .slice none 0 0, .int .u64 0, .int .i64 0, .int .u64 0, .slice none 0 0] 62)) w3.heap.size ((Cl.new kc km).dcells (DA.new A n cp)) := ⟨_, rfl⟩
 have hb4 : Below w2.heap.size w2 W4 := by rw [hW4]; exact setRow_below (hb3.alloc hb3.size _) (hb3.alloc hb3.size _).size hb3.size _
 have hbx : Blk W4 w3.heap.size 62 ((Cl.new kc km).dcells (DA.new A n cp)) := by rw [hW4]; exact setRow_heap _ _ _ _ _ _ (Blk.new w3 _ _)
 obtain ⟨gr, hgr⟩ : ∃ gr, gr = w3.heap.size := ⟨_, rfl⟩
 have HB4 := Lib.hid (HB2.out.trans (hb4.mono HB2.out.size))
 have HPL : Hid (PlayI w lo g G q hh cB gr kc km kc (l.map Cf.val) (Cl.new kc km) (Cl.new kc km) 0 (DA.new A n cp) l 0 W4) := Lib.hid (by
  have hl4 := HL.out.below HB4.out
  have h6 := H6.out
  refine ⟨HP2.out.below hb4, ⟨hl4.rd.more HB4.out.size, hl4.mem, fun ad h0 hA e => ?_, ⟨HCN.out.1, HCN.out.2⟩, ⟨Reads.none_, Nat.le_refl _, Nat.zero_le _, ?_⟩, Reads.none_, ⟨Nat.le_refl _, Nat.zero_le _⟩, Reads.none_, ⟨Nat.le_refl _, Nat.zero_le _⟩, rfl, HB4.out.size⟩, ⟨HST.out.1.1, HST.out.1.2, HST.out.2, by show kc ≤ 6; have := HKC.out; omega, ⟨by show 1 ≤ km; have := HKC.out; omega, by show km ≤ 5; have := HKC.out; omega⟩, Nat.le_refl _, Nat.zero_le _, Nat.zero_le _, Nat.zero_le _⟩, rfl, rfl, by rw [hgr]; exact hbx, HG2.out.below hb4 HG2.out.lt, HB4.out, HLO.out, by rw [hgr]; exact Nat.le_trans hlo2 hb3.size⟩
  ·have h1 := reads_lt (HL.out.rd) ad h0 hA
   have h2 := HQ3.out
   have h3 := HLO.out
   omega
  ·constructor <;> simp [Cl.new, Opn.zero, Opn.at_])
 have HW4 := Lib.hid hW4
 have HGR := Lib.hid hgr
 clear hb3 hb4 hbx hgr hW4 DN x0 x1 h1 h2 hlo2
 dsimp only
 iterate 13 go_step
 refine wpList_store_row rfl 62 (.tmp 9) (.tmp 40) rfl w3.heap.size ((Cl.new kc km).dcells (DA.new A n cp)) rfl rfl 62 #[.int .i64 0, .int .i64 0, .int .u64 0, .int .i64 0, .slice none 0 0, .int .i64 0, .int .u32 0, .int .u64 0, .slice none 0 0, .int .i64 0, .int .i64 0, .int .i64 0, .int .u64 0, .slice none 0 0, .int .u64 0, .int .i64 0, .int .u64 0, .slice none 0 0] (Blk.new w3 _ _) dcInfo rfl (dc_all _ _) ?_
 rw [← HW4.out, ← HGR.out]
 clear HW4 HGR
 go_wp2_with (fail)
 go_loopw [11] (fun iv wr => ∃ (i : Nat) (vs : List CV) (N c : Cl) (h : Nat) (d : DA) (l' : List Cf), i ≤ 60 ∧ iv = .int .i64 i ∧ Hid (PlayI w lo g G q hh cB gr kc km kc vs N c h d l' i wr)) (fun iv _ => 60 - (intOf iv).toNat)
 case atStart => exact ⟨0, _, _, _, _, _, _, Nat.zero_le _, rfl, HPL⟩
 case round =>
  clear HPL
  obtain ⟨i, vs, N, c, h, d, l', hi60, rfl, HP⟩ := hrel
  by_cases hlt : i < n2 ∧ i < 60
  ·obtain ⟨hl1, hl2⟩ := hlt
   have hl1' : (i : Int) < n2 := by omega
   have hl2' : (i : Int) < 60 := by omega
   obtain ⟨b, off, s, hA2, hbb, hsl, hsin, hrg⟩ := (HS2.out.below HP.out.bel).at_ hl1
   have HSI : Hid (StIn w w.heap.size s) := Lib.hid (HS2.out.mem s (List.mem_of_getElem? hsl))
   have HRG := Lib.hid hrg
   subst hA2
   clear hbb hsl hsin hrg
   have ad9 : (if i = 0 then (⟨b, off, none⟩ : Addr) else ⟨b, off + i * 32, none⟩) = ⟨b, off + i * 32, none⟩ := by
    by_cases h : i = 0
    ·subst h; simp
    ·exact if_neg h
   go_upto_region 10 with (fail)
   iterate 10 go_step
   refine wpList_load_mid rfl 66 (.tmp 66) rfl b (off + i * 32) rfl s.row _ HRG.out Tryz.underlying66 rfl (by rw [Stp.row_len]; exact stInfo) ?_
   rw [show s.row.toArray = s.cells from rfl]
   iterate 3 go_step
   refine wpList_store_row rfl 66 (.tmp 12) (.tmp 67) rfl wr.heap.size s.cells rfl rfl 66 #[.int .i64 0, .int .i64 0, .int .u32 0, .int .u64 0, .slice none 0 0, .int .i64 0, .bool false, .int .i64 0, .int .i64 0, .int .i64 0, .int .i64 0, .int .u64 0, .int .u64 0, .int .u64 0, .int .u64 0, .int .u64 0, .int .u64 0, .int .i64 0, .int .u32 0, .int .i64 0, .int .i64 0, .int .i64 0, .int .u64 0, .int .i64 0, .int .i64 0, .int .u64 0, .slice none 0 0, .bool false, .int .i64 0, .slice none 0 0, .slice none 0 0, .slice none 0 0] (Blk.new wr _ _) stInfo rfl (st_all s) ?_
   have HB8 : Hid (Below wr.heap.size wr (World.setRow (wr.alloc (.cells #[.int .i64 0, .int .i64 0, .int .u32 0, .int .u64 0, .slice none 0 0, .int .i64 0, .bool false, .int .i64 0, .int .i64 0, .int .i64 0, .int .i64 0, .int .u64 0, .int .u64 0, .int .u64 0, .int .u64 0, .int .u64 0, .int .u64 0, .int .i64 0, .int .u32 0, .int .i64 0, .int .i64 0, .int .i64 0, .int .u64 0, .int .i64 0, .int .i64 0, .int .u64 0, .slice none 0 0, .bool false, .int .i64 0, .slice none 0 0, .slice none 0 0, .slice none 0 0] 66)) wr.heap.size s.cells)) := Lib.hid (setRow_below ((Below.refl _ _).alloc (Nat.le_refl _) _) ((Below.refl _ _).alloc (Nat.le_refl _) _).size (Nat.le_refl _) s.cells)
   have HX8 : Hid (Blk (World.setRow (wr.alloc (.cells #[.int .i64 0, .int .i64 0, .int .u32 0, .int .u64 0, .slice none 0 0, .int .i64 0, .bool false, .int .i64 0, .int .i64 0, .int .i64 0, .int .i64 0, .int .u64 0, .int .u64 0, .int .u64 0, .int .u64 0, .int .u64 0, .int .u64 0, .int .i64 0, .int .u32 0, .int .i64 0, .int .i64 0, .int .i64 0, .int .u64 0, .int .i64 0, .int .i64 0, .int .u64 0, .slice none 0 0, .bool false, .int .i64 0, .slice none 0 0, .slice none 0 0, .slice none 0 0] 66)) wr.heap.size s.cells) wr.heap.size 66 s.cells) := Lib.hid (setRow_heap _ _ _ _ _ _ (Blk.new wr _ _))
   generalize World.setRow (wr.alloc (.cells #[.int .i64 0, .int .i64 0, .int .u32 0, .int .u64 0, .slice none 0 0, .int .i64 0, .bool false, .int .i64 0, .int .i64 0, .int .i64 0, .int .i64 0, .int .u64 0, .int .u64 0, .int .u64 0, .int .u64 0, .int .u64 0, .int .u64 0, .int .i64 0, .int .u32 0, .int .i64 0, .int .i64 0, .int .i64 0, .int .u64 0, .int .i64 0, .int .i64 0, .int .u64 0, .slice none 0 0, .bool false, .int .i64 0, .slice none 0 0, .slice none 0 0, .slice none 0 0] 66)) wr.heap.size s.cells = W8 at HB8 HX8 ⊢
   obtain ⟨gx, hgx⟩ : ∃ gx, gx = wr.heap.size := ⟨_, rfl⟩
   rw [← hgx] at HX8 ⊢
   have HGX := Lib.hid hgx
   have HP8 := Lib.hid (HP.out.below HB8.out)
   clear hgx ad9 HRG
   go_upto_region 11 with (fail)
   iterate 4 go_step
   refine wpList_load_mid rfl 37 (.tmp 68) rfl gx 7 rfl s.x.l.cells.toList _ (st_lt HX8.out) Tryz.underlying37 rfl ltInfo ?_
   go_wp2_with (fail)
   refine (far14_any s.x w.heap.size W8 (HSI.out.lt.below HP8.out.bel) HP8.out.bel.size).mono ?_
   rintro e w9 ⟨bf, rfl, hnr, hb9⟩
   have HP9 := Lib.hid (HP8.out.below hb9)
   have HX9 := Lib.hid (HX8.out.below hb9 HX8.out.lt)
   have HB89 := Lib.hid (HB8.out.trans (hb9.mono HB8.out.size))
   have HB9 := Lib.hid HP9.out.bel
   have HNR := Lib.hid hnr
   clear hb9 hnr HP8 HX8 HB8
   have x4 : w9.cell? ⟨gx, 4, none⟩ = some (.slice s.o.A s.o.n s.o.c) := HX9.out.cell 4
   cases bf
   rotate_left
   ·go_wp2_with (fail)
    refine (awake26b_any _ (HK.out.below HB9.out)).mono ?_
    rintro e wa ⟨rfl, hba⟩
    have HBA := Lib.hid (HB9.out.trans (hba.mono HB9.out.size))
    clear hba
    go_wp2_with (fail)
    go_ret
    exact ⟨rfl, HBA.out⟩
   by_cases h21 : 2100 < s.o.n
   ·have hd2 : decide ((2100 : Int) < (s.o.n : Int)) = true := decide_eq_true (by omega)
    go_wp2_with (fail)
    refine (awake26b_any _ (HK.out.below HB9.out)).mono ?_
    rintro e wa ⟨rfl, hba⟩
    have HBA := Lib.hid (HB9.out.trans (hba.mono HB9.out.size))
    clear hba
    go_wp2_with (fail)
    go_ret
    exact ⟨rfl, HBA.out⟩
   have hd2 : decide ((2100 : Int) < (s.o.n : Int)) = false := decide_eq_false (by omega)
   have HNX9 := Lib.hid (HNR.out rfl)
   have HON9 : Hid (s.o.n ≤ 1000000) := Lib.hid (by omega)
   obtain ⟨ow, how⟩ : ∃ b, b = s.own := ⟨_, rfl⟩
   have x6 : w9.cell? ⟨gx, 6, none⟩ = some (.bool ow) := by rw [how]; exact HX9.out.cell 6
   have x2 : w9.cell? ⟨gr, 2, none⟩ = some (.int .u64 N.num) := HP9.out.box.cell 2
   have f13 := HX9.out.frozen 13
   have lgx := HX9.out.lt
   have x13 : w9.cell? ⟨gx, 13, none⟩ = some (.int .u64 s.x.l.nu) := HX9.out.cell 13
   clear how h21 HNR HB9
   cases ow
   ·go_upto_region 15 with (fail)
    clear x4 x6 x2 f13 x13 hd2
    have HPX := HP9
    have HXX := HX9
    have HI := HSI
    have HNX := HNX9
    have HONX := HON9
    clear HP9 HX9 HSI HNX9 HON9
    obtain ⟨wx, hwx⟩ : ∃ wx, wx = w9 := ⟨_, rfl⟩
    subst hwx
    obtain ⟨s1, hs1⟩ : ∃ s1, s1 = s := ⟨_, rfl⟩
    subst hs1
    exact rp78
   ·go_upto_region 15 with (fail)
    have HC := Lib.hid (chg_one w9 ⟨gx, 13, none⟩ (.int .u64 (N.num : Int)))
    have HXX : Hid (Blk (w9.setCell ⟨gx, 13, none⟩ (.int .u64 (N.num : Int))) gx 66 (s.own_ N.num).cells) := Lib.hid (by rw [← own_cells]; exact HX9.out.set_ 13 _)
    have HPX := Lib.hid (HP.out.below (HB89.out.trans (HC.out.below HB89.out.size (fun k hk e => by have := HGX.out; have e : k = gx := e; omega))))
    have HI := Lib.hid (own_in HSI.out N.num (by have := HP.out.bb.num; omega))
    have HNX := Lib.hid (own_near HNX9.out N.num)
    have HONX : Hid ((s.own_ N.num).o.n ≤ 1000000) := HON9
    clear x4 x6 x2 f13 x13 hd2 HP9 HX9 HSI HNX9 HON9 HC
    generalize w9.setCell ⟨gx, 13, none⟩ (.int .u64 (N.num : Int)) = wx at *
    generalize s.own_ N.num = s1 at *
    exact rp78
  ·have hends : i < n2 → 60 ≤ i := fun h => by omega
   have HENDS := Lib.hid hends
   have hkc : kc ≤ 6 := HKC.out.2.1
   have hwr : IntKind.i64.wrap (200 + (kc : Int)) = 200 + (kc : Int) := by rw [IntKind.wrap_i64]; omega
   have AD : Hid (∀ W, Below wr.heap.size wr W → Calls Tryz.prog 29 #[.pointer (some ⟨g, 0, none⟩)] W fun e w' => e = .returned (.int .i64 (200 + (kc : Int))) ∧ W = w') := Lib.hid (fun W hb => by
    have e1 : c.cl = kc := by
     have h1 := HP.out.kl
     rw [← HP.out.pp.nrm] at h1
     exact h1
    refine (calAddr_any lo g G h vs c (200 + c.cl) W (HP.out.pp.cal.below hb) rfl (by omega)).mono ?_
    rintro e w' ⟨rfl, hw⟩
    exact ⟨by rw [e1]; simp, hw⟩)
   clear hends hlt
   by_cases hin' : (i : Int) < n2
   ·have h60 : ¬ (i : Int) < 60 := by have := HENDS.out (by omega); omega
    exact rp13
   ·exact rp13
end Go.Proofs.YtmpedblelnpjdaaGreatDoor
