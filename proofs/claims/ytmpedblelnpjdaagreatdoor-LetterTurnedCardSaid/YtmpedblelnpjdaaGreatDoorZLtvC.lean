/- LetterTurned: the law. -/
import Derived.Test.YtmpedblelnpjdaaGreatDoorZLtvB
import Derived.Test.YtmpedblelnpjdaaGreatDoorZGD
import Derived.Test.YtmpedblelnpjdaaGreatDoorZCeG
namespace Go.Proofs.YtmpedblelnpjdaaGreatDoor
open Go.RowKit
set_option linter.unusedSimpArgs false
set_option linter.unusedVariables false
set_option maxHeartbeats 8000000
set_option maxRecDepth 100000

theorem letterTurned_law (HAW : AwakeP) (x : LV) (u pat : Nat) (hu : u < 65536) (hp : pat < 4294967296) (w : World) (hK : KNAt w) (h : LIn w w.heap.size x) :
    Calls Tryz.prog 4 #[.agg x.l.cells, .int .u16 (u : Int), .int .u32 (pat : Int)] w fun e w' => e = .returned (.bool true) ∧ Below w.heap.size w w' := by
  obtain ⟨W0, hW0, hb0, hbk⟩ := box_all x w
  have HX := Lib.hid h
  have HK := Lib.hid hK
  have HB0 := Lib.hid hb0
  have BK := Lib.hid hbk
  have HW := Lib.hid hW0
  have FR := Lib.hid (far10_any x w.heap.size W0 (h.below hb0) hb0.size)
  have CK := Lib.hid (fun (W : World) (h9 : Below w.heap.size w W) (hn : x.near) => refCheck10_any x w.heap.size W (h.below h9) h9.size hn)
  have EN := Lib.hid (fun (W : World) (h9 : Below w.heap.size w W) (hn : x.near) (h0 : chkX x = 0) (c gt : Nat) (hcd : Cd W c gt false 0 0) =>
    encode_any x W (fun V hV => (hK.below (h9.trans (hV.mono h9.size))).k) ((h.below h9).more h9.size) hn h0 c gt false 0 0 hcd (room_ok x _ _ h h0))
  have HFB : Hid (∀ h0 : chkX x = 0, isBs (encX x) ∧ dE (encX x) = 0 ∧ 0 < (encX x).length ∧ (encX x).length ≤ 20000 ∧ ∀ (k : Nat), k < 8 * (encX x).length → dE (turnV (k : Int) pat (encX x)) = 0 → turnV (k : Int) pat (encX x) = encX x) := Lib.hid (fun h0 => by
    obtain ⟨k, l, hl, hk, e, e2, h4, h5⟩ := encX_form x w _ h h0
    have hn := putS_len k l e
    exact ⟨encX_bs x w _ h h0, (dE_back x w _ h h0).1, by rw [e2, hn]; omega, by rw [e2, hn]; omega, fun k hk hd => turned_same x w _ h h0 k pat hk hd⟩)
  clear hK h hb0 hbk hW0
  have hlow := HK.out.k.lt
  go_enter Tryz.func4, Tryz.ntmps4
  go_upto_region 1 with (fail)
  rw [← HW.out]
  iterate 1 go_step
  refine wpList_load_row rfl 37 (.tmp 3) rfl w.heap.size rfl 37 x.l.cells (0, 0) _ BK.out Tryz.underlying37 rfl ltInfo ?_
  go_wp2_with (fail)
  refine FR.out.mono ?_
  rintro e w1 ⟨b, rfl, hnear, hb1⟩
  have BK1 := Lib.hid (BK.out.below hb1 BK.out.lt)
  have HB1 := Lib.hid (HB0.out.trans (hb1.mono HB0.out.size))
  have HN := Lib.hid hnear
  clear FR hb1 hnear HW BK HB0
  cases b
  rotate_left
  · go_wp2_with (fail)
    refine (HAW _ (HK.out.below HB1.out)).mono ?_
    rintro e w3 ⟨rfl, hb3⟩
    have HB3 := Lib.hid (HB1.out.trans (hb3.mono HB1.out.size))
    clear hb3
    go_wp2_with (fail)
    go_ret
    exact ⟨rfl, HB3.out⟩
  have NR := Lib.hid (HN.out rfl)
  dsimp only
  rename_i hK9
  refine hK9 _ _ ?_
  clear hK9
  iterate 3 go_step
  refine wpList_load_rowG (by rfl) 37 (.tmp 3) rfl w.heap.size rfl 37 x.l.cells (0, 0) _ BK1.out Tryz.underlying37 rfl ltInfo ?_
  go_wp2_with (fail)
  refine (CK.out _ HB1.out NR.out).mono ?_
  rintro e w2 ⟨rfl, hb2⟩
  have BK2 := Lib.hid (BK1.out.below hb2 BK1.out.lt)
  have HB2 := Lib.hid (HB1.out.trans (hb2.mono HB1.out.size))
  clear hb2 CK HN HB1 BK1
  by_cases h0 : chkX x = 0
  rotate_left
  · have hd : (chkX x != 0) = true := by simpa using h0
    go_wp2_with (fail)
    refine (HAW _ (HK.out.below HB2.out)).mono ?_
    rintro e w3 ⟨rfl, hb3⟩
    have HB3 := Lib.hid (HB2.out.trans (hb3.mono HB2.out.size))
    clear hb3
    go_wp2_with (fail)
    go_ret
    exact ⟨rfl, HB3.out⟩
  obtain ⟨hbs, hde, hpos, hmax, htur⟩ := HFB.out h0
  have EN2 := Lib.hid (fun W h9 c gt hcd => EN.out W h9 NR.out h0 c gt hcd)
  have HEX : Hid (encB x.l.kd.toNat (bodyB x.l (partsI x.l.kd.toNat) (partB x)) = encX x) := Lib.hid rfl
  rw [HEX.out] at EN2
  rw [h0]
  have HBS := Lib.hid hbs
  have HDE := Lib.hid hde
  have HTU := Lib.hid htur
  clear h0 EN HFB NR HEX hbs hde htur
  generalize encX x = f at *
  go_wp2_with (fail)
  refine (frNew_nil _).mono ?_
  rintro e w3 ⟨c, rfl, hcw, hcd, hb3⟩
  obtain ⟨g, hg⟩ : ∃ g, g = w2.heap.size := ⟨_, rfl⟩
  rw [← hg] at hcd
  have BK3 := Lib.hid (BK2.out.below hb3 BK2.out.lt)
  have HB3 := Lib.hid (HB2.out.trans (hb3.mono HB2.out.size))
  have HCD := Lib.hid hcd
  have hcl := hcd.1.lt
  have hgl := hcd.2.lt
  have hw2 := HB2.out.size
  have HG := Lib.hid hg
  clear hcd hb3 hg BK2
  go_upto_region 4 with (fail)
  iterate 4 go_step
  refine wpList_load_row rfl 37 (.tmp 3) rfl w.heap.size rfl 37 x.l.cells (0, 0) _ BK3.out Tryz.underlying37 rfl ltInfo ?_
  go_wp2_with (fail)
  refine (EN2.out w3 HB3.out c g HCD.out).mono ?_
  rintro e w4 ⟨v, rfl, ho, ⟨d', hcd4⟩, hch⟩
  obtain ⟨A1, c1, rfl, r1, f1, l1, m1⟩ := own_far (g := g) ho hgl
  have HB4 := Lib.hid (HB3.out.trans (hch.below HB3.out.size (fun k hk e => by have := HG.out; omega)))
  have R1 := Lib.hid r1
  have F1 := Lib.hid f1
  have M1 := Lib.hid m1
  have HCD4 := Lib.hid hcd4
  have HO1 := Lib.hid ho
  have hg4 := hcd4.2.lt
  have hc4 := hcd4.1.lt
  have hw4 := hch.size
  clear ho hcd4 hch r1 f1 m1 EN2 HCD
  obtain ⟨n, hn⟩ : ∃ n, n = f.length := ⟨_, rfl⟩
  rw [← hn] at R1 F1 hpos hmax l1 HO1
  rw [← hn]
  have HNF := Lib.hid hn
  clear hn
  obtain ⟨k, hk⟩ : ∃ k, k = u % (8 * n) := ⟨_, rfl⟩
  have hk8 : k < 8 * n := by rw [hk]; exact Nat.mod_lt _ (by omega)
  have hkm : (u : Int).tmod (8 * (n : Int)) = (k : Int) := by
    have e : (8 * (n : Int)) = ((8 * n : Nat) : Int) := by simp
    rw [e, Int.tmod_eq_emod_of_nonneg (by omega), hk]; rfl
  have hke : (u : Int) % (8 * (n : Int)) = (k : Int) := by
    have e : (8 * (n : Int)) = ((8 * n : Nat) : Int) := by simp
    rw [e, hk]; rfl
  have hu0 : IntKind.i64.wrap (u : Int) = u := by rw [IntKind.wrap_i64]; omega
  have h8n : IntKind.i64.wrap (8 * (n : Int)) = 8 * (n : Int) := by rw [IntKind.wrap_i64]; omega
  have hkw : IntKind.i64.wrap (k : Int) = k := by rw [IntKind.wrap_i64]; omega
  have hz2 : ¬ (8 * (n : Int)) = 0 := by omega
  have hn0 : (n == 0) = false := by simp; omega
  have hn0' : ((n : Int) == 0) = false := by simp; omega
  have hn0d : (n = 0) = False := by simp; omega
  have TU := Lib.hid (refTurn_any A1 n c1 w4.heap.size f (k : Int) pat HBS.out w4 R1.out (Nat.le_refl _) (by omega) hp (by omega) (by omega))
  have HTB := Lib.hid (turnV_bs (k : Int) pat f HBS.out)
  have HTE : Hid (decide (dE (turnV (k : Int) pat f) = 0) = decide (bI (turnV (k : Int) pat f) = bI f)) := Lib.hid (by
    rw [Bool.eq_iff_iff, decide_eq_true_eq, decide_eq_true_eq]
    constructor
    · intro hd; rw [HTU.out k (by rw [← HNF.out]; exact hk8) hd]
    · intro he; rw [bI_inj _ _ he]; exact HDE.out)
  clear hk HTU HDE
  generalize turnV (k : Int) pat f = t at *
  go_wp2_with (fail)
  refine TU.out.mono ?_
  rintro e w5 ⟨v5, rfl, ho5, hb5⟩
  obtain ⟨A2, c2, rfl, r2, f2, l2, m2⟩ := own_far (g := g) ho5 hg4
  have hf2c : ∀ ad, 0 < n → A2 = some ad → ad.block ≠ g := f2
  have HB5 := Lib.hid (HB4.out.trans (hb5.mono HB4.out.size))
  have R2 := Lib.hid r2
  have F2 := Lib.hid f2
  have M2 := Lib.hid m2
  have O1 := Lib.hid (own_block_same HO1.out (fun k hk => hb5.block k (HO1.out.lt k hk).2))
  have O2 := Lib.hid ho5
  have HCD5 := Lib.hid (HCD4.out.below hb5 hc4 hg4)
  have hw5 := hb5.size
  clear ho5 hb5 r2 f2 m2 TU R1 HCD4 HO1 hf2c F1
  have DE := Lib.hid (decode_any c g d' 0 0 A2 n c2 w5.heap.size t w5 HCD5.out R2.out HTB.out (Nat.le_refl _) F2.out (by omega) l2 (by have := M2.out; unfold maxLen at this; omega) (by omega) (by omega)
    (fun W hch => (HK.out.below HB5.out).k.chg hch (by have := HG.out; omega)))
  obtain ⟨de, hde⟩ : ∃ de, de = decE chkV stX t := ⟨_, rfl⟩
  obtain ⟨b2, hb2⟩ : ∃ b2, b2 = decide (bI t = bI f) := ⟨_, rfl⟩
  have HTD : Hid (decide (de = 0) = b2) := Lib.hid (by rw [hde, hb2]; exact HTE.out)
  have SM : Hid (∀ W, W.ownsRow w4.heap.size 5 1 (.slice A2 n c2) n ((bI t).map (Value.int .u8)) → W.ownsRow w3.heap.size 5 1 (.slice A1 n c1) n ((bI f).map (Value.int .u8)) → Calls Tryz.prog 13 #[.slice A2 n c2, .slice A1 n c1] W fun e w' => e = .returned (.bool b2) ∧ Below W.heap.size W w') := Lib.hid (fun W h1 h2 => by
    rw [hb2]
    exact same_any A2 A1 n n c2 c1 W.heap.size W.heap.size (bI t) (bI f) W (Nat.le_refl _) (Nat.le_refl _) (own_reads h1) (own_reads h2) (by omega))
  rw [← hde] at DE
  clear hde hb2 HTE
  go_wp2_with (fail)
  refine DE.out.mono ?_
  rintro e w6 ⟨z, rfl, hzv, hzo, hcd6, hch6⟩
  have HB6 := Lib.hid (HB5.out.trans (hch6.below HB5.out.size (fun k hk e => by have := HG.out; omega)))
  have P1 := Lib.hid (hch6.own O1.out (fun k hk e => by have := (O1.out.lt k hk).1; omega))
  have P2 := Lib.hid (hch6.own O2.out (fun k hk e => by have := (O2.out.lt k hk).1; omega))
  clear hzv hzo hcd6 hch6 DE HCD5 O1 O2 R2
  obtain ⟨W7, hW7⟩ : ∃ W7, W7 = w6.alloc (.cells z.l.cells 37) := ⟨_, rfl⟩
  have h67 : Below w6.heap.size w6 W7 := by rw [hW7]; exact (Below.refl _ _).alloc (Nat.le_refl _) _
  have HB7 := Lib.hid (HB6.out.trans (h67.mono HB6.out.size))
  have Q1 := Lib.hid (own_block_same P1.out (fun k hk => h67.block k (P1.out.lt k hk).2))
  have Q2 := Lib.hid (own_block_same P2.out (fun k hk => h67.block k (P2.out.lt k hk).2))
  have HW7 := Lib.hid hW7
  clear hW7 h67 P1 P2 HB6
  dsimp only
  rename_i hK9
  refine hK9 _ _ ?_
  clear hK9
  iterate 12 go_step
  refine wpList_store_fresh rfl 37 (.tmp 11) (.tmp 48) rfl z.l.cells 37 Lt.zero.cells rfl rfl ltInfo rfl (lt_all _) ?_
  rw [← HW7.out]
  clear HW7
  by_cases hd0 : de = 0
  · have hb2 : b2 = true := by rw [← HTD.out]; exact decide_eq_true hd0
    subst hd0
    rw [hb2] at SM
    go_wp2_with (fail)
    refine (SM.out _ Q2.out Q1.out).mono ?_
    rintro e w8 ⟨rfl, hb8⟩
    have HB8 := Lib.hid (HB7.out.trans (hb8.mono HB7.out.size))
    clear hb8
    go_wp2_with (fail)
    refine (HAW _ (HK.out.below HB8.out)).mono ?_
    rintro e w9 ⟨rfl, hb9⟩
    have HB9 := Lib.hid (HB8.out.trans (hb9.mono HB8.out.size))
    clear hb9
    go_wp2_with (fail)
    go_ret
    exact ⟨rfl, HB9.out⟩
  · have hb2 : b2 = false := by rw [← HTD.out]; exact decide_eq_false hd0
    have hd1 : (de == 0) = false := by simpa using hd0
    rw [hb2] at SM
    go_wp2_with (fail)
    refine (SM.out _ Q2.out Q1.out).mono ?_
    rintro e w8 ⟨rfl, hb8⟩
    have HB8 := Lib.hid (HB7.out.trans (hb8.mono HB7.out.size))
    clear hb8
    go_wp2_with (fail)
    refine (HAW _ (HK.out.below HB8.out)).mono ?_
    rintro e w9 ⟨rfl, hb9⟩
    have HB9 := Lib.hid (HB8.out.trans (hb9.mono HB8.out.size))
    clear hb9
    go_wp2_with (fail)
    go_ret
    exact ⟨rfl, HB9.out⟩
end Go.Proofs.YtmpedblelnpjdaaGreatDoor
