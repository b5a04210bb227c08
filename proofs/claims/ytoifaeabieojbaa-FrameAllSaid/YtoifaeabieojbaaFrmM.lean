/- The walk of FrameAll. -/
import Derived.Test.YtoifaeabieojbaaFrmL
namespace Go.Proofs.Ytoifaeabieojbaa
open Go.RowKit
set_option linter.unusedSimpArgs false
set_option linter.unusedVariables false
set_option maxRecDepth 100000
set_option maxHeartbeats 4000000

/-- a frame that came in -/
def Fq.inn (w : World) (f : Fq) : Prop := f.k < 256 ∧ isBs f.l ∧ Reads w w.heap.size 1 f.A f.l.length ((bI f.l).map (Value.int .u8))
theorem putS_le (k : Nat) (l : List Nat) : (putS k l).length ≤ l.length + 7 := by
  unfold putS; split
  · simp [sealB, putB, le4]
  · simp
theorem allF_len (m : Nat) (b : List Nat) (a : Nat) : ∀ x ∈ (allF m b a).1, x.2.length ≤ b.length := by
  induction m generalizing a with
  | zero => intro x hx; cases hx
  | succ m ih =>
    intro x hx
    rw [allF] at hx
    split at hx
    · split at hx
      · simp only [List.mem_cons] at hx
        rcases hx with rfl | hx
        · have := cutB_len (b.drop a)
          rw [List.length_drop] at this
          simp only
          omega
        · exact ih _ x hx
      · cases hx
    · cases hx
theorem all_len (b : List Nat) : ∀ x ∈ (allT b).1, x.2.length ≤ b.length := allF_len _ b 0
theorem frameAll_law (LA A : Option Addr) (m mc n cp : Nat) (F : List Fq) (l : List Nat) (w : World) (hF : Reads w w.heap.size 2 LA m (F.flatMap Fq.row)) (hin : ∀ f ∈ F, f.inn w) (hm : m ≤ mc) (hmc : mc ≤ maxLen)
    (hl : isBs l) (hr : Reads w w.heap.size 1 A n ((bI l).map (Value.int .u8))) (hn : n ≤ cp) (hc : cp ≤ maxLen) :
    Calls Try.prog 6 #[.slice LA m mc, .slice A n cp] w fun e w' => e = .returned (.bool true) ∧ Below w.heap.size w w' := by
  unfold maxLen at hc hmc
  obtain ⟨i0, hi, hz0, hz1, hz2⟩ := info_parts byteInfo
  have HFR := Lib.hid hF
  have HIN := Lib.hid hin
  have HL := Lib.hid hl
  have HR := Lib.hid hr
  clear hF hin hl hr
  go_enter Try.func6, Try.ntmps6
  go_wp2_with (fail)
  go_loopw [5, 6, 7, 8] (fun vb ia _ _ wr => ∃ (i : Nat) (bs : List Nat), i ≤ m ∧ i ≤ 8 ∧ ia = .int .i64 i ∧ Hid (isBs bs ∧ bs.length ≤ 207 * i) ∧ Hid (wr.ownsRow w.heap.size 5 1 vb bs.length ((bI bs).map (Value.int .u8))) ∧ Hid (Below w.heap.size w wr)) (fun _ ia _ _ _ => 8 - (intOf ia).toNat)
  case atStart => exact ⟨0, [], by omega, by omega, rfl, Lib.hid ⟨(fun b hb => absurd hb (by simp)), by simp⟩, Lib.hid (World.ownsRow_nil _ _ _ _), Lib.hid (Below.refl _ _)⟩
  case round =>
    obtain ⟨i, bs, him, hi8, rfl, HBS, HO, HB⟩ := hrel
    obtain ⟨Ab, cb, rfl, _, _, _⟩ := own_slice HO.out
    have hsz := HB.out.size
    by_cases hl : i < m ∧ i < 8
    · obtain ⟨hl1, hl2⟩ := hl
      have hl1' : (i : Int) < m := by omega
      have hl2' : (i : Int) < 8 := by omega
      obtain ⟨bb, off, f, rfl, hbb, hf, hcs⟩ := reads_at Fq.row Fq.row_len (by omega) (HFR.out.below HB.out) hl1
      have d0 := hcs 0 _ rfl
      have d1 := hcs 1 _ rfl
      rw [Nat.add_zero] at d0
      have HI := Lib.hid (HIN.out f (List.mem_of_getElem? hf))
      clear hcs hf
      by_cases h200 : 200 < f.l.length
      · have h2' : (200 : Int) < f.l.length := by omega
        go_wp2_with (fail)
        refine (awake_any _).mono ?_
        rintro e w12 ⟨rfl, h1⟩
        have HB12 := Lib.hid (HB.out.trans (h1.mono hsz))
        clear h1
        go_wp2_with (fail)
        go_ret
        exact ⟨rfl, HB12.out⟩
      · have h2' : (f.l.length : Int) ≤ 200 := by omega
        have P := Lib.hid (refPut3_any f.k f.A f.l.length f.c w.heap.size f.l wr (HI.out.2.2.below HB.out) HI.out.2.1 hsz (by omega) HI.out.1)
        have hpl := putS_le f.k f.l
        have HPB := Lib.hid (putS_bs f.k f.l HI.out.1 HI.out.2.1)
        generalize putE f.k f.l = pe at *
        go_wp2_with (fail)
        refine P.out.mono ?_
        rintro e w1 ⟨v, rfl, h1, h2⟩
        obtain ⟨A7, c7, rfl, r7, _, _⟩ := own_slice h1
        have HO1 := Lib.hid (own_below HO.out h2)
        have HB1 := Lib.hid (HB.out.trans (h2.mono hsz))
        have R7 := Lib.hid r7
        have hs1 := HB1.out.size
        have hbl := HBS.out.2
        clear h1 h2 r7 P d0 d1
        generalize putS f.k f.l = ps at *
        go_wp2_with (at_builtin; go_must (refine wpList_append_any _ rfl (.tmp 46) (.tmp 47) _ rfl w.heap.size 5 i0 _ 1 1 Try.underlying22 hi hz0 hz1 hz2 rfl (by omega) _ _ _ rfl HO1.out w1.heap.size A7 ps.length c7 ((bI ps).map (Value.int .u8)) rfl R7.out ?c1 ?c2 ?c3 ?c4 ?_))
        case c1 => exact u8_one _
        case c2 => unfold maxLen; omega
        case c3 => omega
        case c4 => exact hs1
        intro v3 w3 h5 h6 _
        have HO3 : Hid (w3.ownsRow w.heap.size 5 1 v3 (bs ++ ps).length ((bI (bs ++ ps)).map (Value.int .u8))) := Lib.hid (by rw [List.length_append, bI_append, List.map_append]; exact h5)
        have HB3 := Lib.hid (HB1.out.grown h6 hs1 (fun q hq => (HO1.out.lt q hq).1))
        clear h5 h6
        go_wp2
        go_roundw
        case rel => exact ⟨i + 1, bs ++ ps, by omega, by omega, by go_num, Lib.hid ⟨(fun b hb => by
          rcases List.mem_append.1 hb with hb | hb
          · exact HBS.out.1 b hb
          · exact HPB.out b hb), by rw [List.length_append]; omega⟩, HO3, HB3⟩
        case measure => simp [intOf]; omega
    · have hd' : ((m : Int) ≤ i) ∨ ((i : Int) < m ∧ (8 : Int) ≤ i) := by omega
      clear hl
      have hbl := HBS.out.2
      obtain ⟨t, ht⟩ : ∃ t, t = l.take (cutN n 100) := ⟨_, rfl⟩
      have htr := HR.out.take (cutN_le n 100)
      rw [bI_take_map, ← ht] at htr
      have htb : isBs t := by rw [ht]; exact isBs_take HL.out _
      have htn := cutN_le2 n 100
      have htn2 := Nat.le_trans (cutN_le n 100) hn
      have CT := Lib.hid (cut_any A n cp 100 hn (by omega) wr)
      generalize cutN n 100 = nt at *
      have TR := Lib.hid (htr.below HB.out)
      have TL := Lib.hid (reads_len htr)
      have TB := Lib.hid htb
      clear htr htb ht
      rcases hd' with h1 | ⟨h1, h2⟩
      all_goals
        go_wp2_with (fail)
        refine CT.out.mono ?_
        rintro e w1 ⟨rfl, rfl⟩
        go_wp2_with (at_builtin; go_must (refine wpList_append_any _ rfl (.tmp 49) (.tmp 51) _ rfl w.heap.size 5 i0 _ 1 1 Try.underlying22 hi hz0 hz1 hz2 rfl (by omega) _ _ _ rfl HO.out w.heap.size A nt cp ((bI t).map (Value.int .u8)) rfl TR.out ?c1 ?c2 ?c3 ?c4 ?_))
        case c1 => exact u8_one _
        case c2 => unfold maxLen; omega
        case c3 => omega
        case c4 => exact hsz
        intro v3 w3 h5 h6 _
        obtain ⟨b, hb⟩ : ∃ b, b = bs ++ t := ⟨_, rfl⟩
        have hbn : b.length = bs.length + nt := by rw [hb, List.length_append, TL.out]
        have HO3 : Hid (w3.ownsRow w.heap.size 5 1 v3 b.length ((bI b).map (Value.int .u8))) := Lib.hid (by rw [hbn, hb, bI_append, List.map_append]; exact h5)
        have HBB : Hid (isBs b) := Lib.hid (by
          rw [hb]; intro z hz
          rcases List.mem_append.1 hz with hz | hz
          · exact HBS.out.1 z hz
          · exact TB.out z hz)
        have HB3 := Lib.hid (HB.out.grown h6 hsz (fun q hq => (HO.out.lt q hq).1))
        have hb2000 : b.length ≤ 2000 := by omega
        obtain ⟨A3, c3, rfl, _, hl3, hm3⟩ := own_slice HO3.out
        have hc3 : c3 ≤ 9223372036854775807 := by unfold maxLen at hm3; omega
        have hs3 := HB3.out.size
        clear h5 h6 hb hbn HO HBS TR TB TL CT hm3
        go_wp2_with (fail)
        refine (frNew_nil _).mono ?_
        rintro e w4 ⟨c, rfl, hcw, h1, h2⟩
        obtain ⟨g, hg⟩ : ∃ g, g = w3.heap.size := ⟨_, rfl⟩
        rw [← hg] at h1 hcw
        have HO4 := Lib.hid (own_below HO3.out h2)
        have HB4 := Lib.hid (HB3.out.trans (h2.mono hs3))
        have hs4 := h2.size
        have hcl := h1.1.lt
        have hgl := h1.2.lt
        have r4 := Reads.of_own HO4.out
        have hne : ∀ ad, 0 < b.length → A3 = some ad → ad.block ≠ g := fun ad h0 he => by
          subst he
          obtain ⟨g', cc', hv, _⟩ := HO3.out.form h0
          injection hv with hv
          injection hv with hv
          have := (HO3.out.lt g' (by rw [hv]; rfl)).2
          rw [hv]
          show g' ≠ g
          omega
        have C := Lib.hid (cdAll_any c g false 0 0 A3 b.length c3 w4.heap.size b w4 h1 r4 HBB.out (Nat.le_refl _) hne (by omega) hl3 hc3 (by omega) (by omega))
        clear h1 h2 r4 hne
        go_wp2_with (fail)
        refine C.out.mono ?_
        rintro e w5 ⟨v5, fs, a, ee, rfl, hT, h6, h7, ⟨d5, h8⟩, h9⟩
        obtain ⟨A5, c5, rfl, _, _, _⟩ := own_slice h6
        have HO5 : Hid (w5.ownsRow w.heap.size 5 1 (.slice A3 b.length c3) b.length ((bI b).map (Value.int .u8))) := Lib.hid (h9.own HO4.out (fun k hk e => by have := (HO3.out.lt k hk).2; omega))
        have HB5 := Lib.hid (chg_far HB4.out h9 (by omega) (by omega))
        have hs5 := HB5.out.size
        have hs45 := h9.size
        have D := Lib.hid (refAll_any A3 b.length c3 w5.heap.size b w5 (Reads.of_own HO5.out) HBB.out (Nat.le_refl _) (by omega) hl3 hc3)
        have X5 := Lib.hid h6
        have F5 := Lib.hid h7
        have CD5 := Lib.hid h8
        have HT := Lib.hid hT
        clear h6 h7 h8 h9 hT C
        go_wp2_with (fail)
        refine D.out.mono ?_
        rintro e w6 ⟨v6, gs, a2, e2, rfl, hT2, h6, h7, h8⟩
        obtain ⟨A6, c6, rfl, _, _, _⟩ := own_slice h6
        rw [HT.out] at hT2
        injection hT2 with hkl hT2
        injection hT2 with ha he
        subst ha he
        have X6 : Hid (w6.ownsRow w4.heap.size 33 2 (.slice A5 fs.length c5) fs.length (fs.flatMap Fq.row)) := Lib.hid (own_block_same X5.out (fun k hk => h8.block k (X5.out.lt k hk).2))
        have Y6 := Lib.hid h6
        have F6 : Hid (∀ f ∈ fs, f.own w6 w4.heap.size) := Lib.hid (fun f hf => own_below (F5.out f hf) h8)
        have G6 := Lib.hid h7
        have CD6 := Lib.hid (CD5.out.below h8 (by omega) (by omega))
        have HB6 := Lib.hid (HB5.out.trans (h8.mono hs5))
        have hs6 := h8.size
        have HKL := Lib.hid hkl
        have hlen : gs.length = fs.length := by
          have := congrArg List.length hkl
          simpa using this.symm
        have hlen2 : ((fs.length : Int) != (gs.length : Int)) = false := by simp [hlen]
        have HLEN := Lib.hid hlen
        clear h6 h7 h8 hkl hlen D
        go_wp2_with (fail)
        go_loopw [16] (fun ia wr => ∃ i : Nat, i ≤ fs.length ∧ ia = .int .i64 i ∧ Hid (Below w6.heap.size w6 wr)) (fun ia _ => fs.length - (intOf ia).toNat)
        case atStart => exact ⟨0, by omega, rfl, Lib.hid (Below.refl _ _)⟩
        case round =>
          obtain ⟨i, hif, rfl, HBr⟩ := hrel
          by_cases hlt : i < fs.length
          · obtain ⟨bx, ox, f1, hA5, hbx, hf1, hcx⟩ := reads_at Fq.row Fq.row_len (by omega) ((Reads.of_own X6.out).below HBr.out) hlt
            obtain ⟨bz, oz, f2, hA6, hbz, hf2, hcz⟩ := reads_at Fq.row Fq.row_len (by omega) ((Reads.of_own Y6.out).below HBr.out) (k := i) (by have := HLEN.out; omega)
            subst hA5 hA6
            have hkl2 : f1.kl = f2.kl := by
              have h1 : (fs.map Fq.kl)[i]? = some f1.kl := by rw [List.getElem?_map, hf1]; rfl
              have h2 : (gs.map Fq.kl)[i]? = some f2.kl := by rw [List.getElem?_map, hf2]; rfl
              rw [HKL.out, h2] at h1
              injection h1 with h1
              exact h1.symm
            have b1 := F6.out f1 (List.mem_of_getElem? hf1)
            have b2 := G6.out f2 (List.mem_of_getElem? hf2)
            obtain ⟨k2, B2, e2, l2⟩ := f2
            obtain ⟨k1, B1, e1, l1⟩ := f1
            simp only [Fq.kl, Prod.mk.injEq] at hkl2
            obtain ⟨rfl, rfl⟩ := hkl2
            have x0 : wr.cell? ⟨bx, ox + i * 2, none⟩ = some (.int .u8 k1) := hcx 0 _ rfl
            have x1 : wr.cell? ⟨bx, ox + i * 2 + 1, none⟩ = some (.slice B1 l1.length e1) := hcx 1 _ rfl
            have z0 : wr.cell? ⟨bz, oz + i * 2, none⟩ = some (.int .u8 k1) := hcz 0 _ rfl
            have z1 : wr.cell? ⟨bz, oz + i * 2 + 1, none⟩ = some (.slice B2 l1.length e2) := hcz 1 _ rfl
            have hx7 : bx < wr.heap.size := Nat.lt_of_lt_of_le hbx HBr.out.size
            have hz7 : bz < wr.heap.size := Nat.lt_of_lt_of_le hbz HBr.out.size
            have hlx : l1.length ≤ 9223372036854775806 := by
              have q := all_len b (k1, l1) (by rw [HT.out]; exact List.mem_map.2 ⟨_, List.mem_of_getElem? hf1, rfl⟩)
              have q2 : l1.length ≤ b.length := q
              omega
            have LK := Lib.hid (like_yes k1 B1 B2 l1.length l1.length e1 e2 w6.heap.size w5.heap.size (bI l1) wr.drew HBr.out.size (Nat.le_trans hs6 HBr.out.size) (((Reads.of_own b1).below HBr.out).drew) ((b2.below (HBr.out.mono hs6)).drew) hlx)
            have hi1 : (i : Int) < fs.length := by omega
            have hi2 : (i : Int) < gs.length := by have := HLEN.out; omega
            have hi0 : (0 : Int) ≤ i := by omega
            have hi9 : (i : Int) ≤ 9223372036854775806 := by
              obtain ⟨_, _, _, _, q1, q2⟩ := own_slice X6.out
              unfold maxLen at q2
              omega
            clear hcx hcz b1 b2 hf1 hf2
            go_wp2_with (fail)
            go_region_held3 (fun w' => w'.cell? ⟨bx, ox + i * 2, none⟩ = some (.int .u8 k1) ∧ w'.cell? ⟨bx, ox + i * 2 + 1, none⟩ = some (.slice B1 l1.length e1) ∧ w'.cell? ⟨bz, oz + i * 2, none⟩ = some (.int .u8 k1) ∧ w'.cell? ⟨bz, oz + i * 2 + 1, none⟩ = some (.slice B2 l1.length e2)) (go_keep) (first
              | (go_at_call 23; refine LK.out.mono ?_; rintro e w7 ⟨rfl, hb7⟩; have q0 := (hb7.cell (p := ⟨bx, ox + i * 2, none⟩) hx7).trans x0; have q1 := (hb7.cell (p := ⟨bx, ox + i * 2 + 1, none⟩) hx7).trans x1; have q2 := (hb7.cell (p := ⟨bz, oz + i * 2, none⟩) hz7).trans z0; have q3 := (hb7.cell (p := ⟨bz, oz + i * 2 + 1, none⟩) hz7).trans z1; have HB7 := Lib.hid hb7; clear hb7)
              | fail)
            go_wp2_with (fail)
            go_roundw
            case rel => exact ⟨i + 1, by omega, by go_num, Lib.hid (HBr.out.trans (((Below.refl wr.heap.size wr).drew.trans HB7.out).mono HBr.out.size))⟩
            case measure => simp [intOf]; omega
          · obtain rfl : i = fs.length := by omega
            have CDr := CD6.out.below HBr.out (by omega) (by omega)
            rw [Int.zero_add] at CDr
            have e64 : IntKind.u64.wrap (gs.length : Int) = gs.length := by rw [IntKind.wrap_u64]; obtain ⟨_, _, _, _, q1, q2⟩ := own_slice X6.out; unfold maxLen at q2; have := HLEN.out; omega
            have hle : ((fs.length : Int) == (gs.length : Int)) = true := by simp [HLEN.out]
            have HBW := Lib.hid (HB6.out.trans (HBr.out.mono HB6.out.size))
            by_cases he : ee = 0
            · subst he
              simp only [if_true] at CDr
              have K := Lib.hid (counts_any c g d5 _ _ wr CDr)
              clear CDr
              go_wp2_with (fail)
              refine K.out.mono ?_
              rintro e w7 ⟨rfl, q, rfl⟩
              go_wp2_with (fail)
              refine (awake_any _).mono ?_
              rintro e w12 ⟨rfl, h1⟩
              have HB12 := Lib.hid (HBW.out.trans ((below_drewN (Below.refl wr.heap.size wr) q).trans h1 |>.mono HBW.out.size))
              clear h1
              go_wp2_with (fail)
              go_ret
              exact ⟨rfl, HB12.out⟩
            · rw [if_neg he] at CDr
              have he' : ((ee : Int) != 0) = true := by simp; omega
              have K := Lib.hid (counts_any c g d5 _ _ wr CDr)
              clear CDr he
              go_wp2_with (fail)
              refine K.out.mono ?_
              rintro e w7 ⟨rfl, q, rfl⟩
              go_wp2_with (fail)
              refine (awake_any _).mono ?_
              rintro e w12 ⟨rfl, h1⟩
              have HB12 := Lib.hid (HBW.out.trans ((below_drewN (Below.refl wr.heap.size wr) q).trans h1 |>.mono HBW.out.size))
              clear h1
              go_wp2_with (fail)
              go_ret
              exact ⟨rfl, HB12.out⟩
end Go.Proofs.Ytoifaeabieojbaa
