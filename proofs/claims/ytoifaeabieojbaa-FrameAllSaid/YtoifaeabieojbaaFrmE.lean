/- Package frame: the reference's Cut, Get; the law's like. -/
import Derived.Test.YtoifaeabieojbaaFrmD
namespace Go.Proofs.Ytoifaeabieojbaa
open Go.RowKit
set_option linter.unusedSimpArgs false
set_option linter.unusedVariables false
set_option maxRecDepth 100000
set_option maxHeartbeats 2000000

theorem plain_addr {w : World} {B n : Nat} {A : Option Addr} {l : List Nat} (h : Reads w B 1 A n ((bI l).map (Value.int .u8))) (hn : 0 < n) : ∃ b0 o, A = some ⟨b0, o, none⟩ ∧ b0 < B := by
  have hl := reads_len h
  obtain ⟨ad, hA, hb, hc⟩ := h.2 hn
  obtain ⟨b0, o, spot⟩ := ad
  have h00 : ((bI l).map (Value.int .u8))[0]? = some (((bI l).map (Value.int .u8))[0]'(by simp [bI]; omega)) := List.getElem?_eq_getElem _
  have := World.cell?_spot (hc 0 _ h00)
  exact ⟨b0, o, by rw [hA]; congr 1; simpa [Addr.add] using this, hb⟩
theorem refCut_any (A : Option Addr) (n cp B : Nat) (b : List Nat) (w : World) (hr : Reads w B 1 A n ((bI b).map (Value.int .u8))) (hb : isBs b) (hB : B ≤ w.heap.size) (hn : n ≤ 900000000) (hnc : n ≤ cp) (hc : cp ≤ 9223372036854775807) :
    Calls Try.prog 20 #[.slice A n cp] w fun e w' => ∃ A' c', e = .returned (.tuple #[.agg #[.int .u8 (cutK b), .slice A' (cutB b).length c'], .int .i64 (cutL b), .int .i64 (cutE b)]) ∧
      Reads w' B 1 A' (cutB b).length ((bI (cutB b)).map (Value.int .u8)) ∧ Below w.heap.size w w' := by
  have HR := Lib.hid hr
  have HBS := Lib.hid hb
  have LN := Lib.hid (reads_len hr)
  have hb0 : Below w.heap.size w (w.alloc (.cells #[.int .u8 0, .slice none 0 0] 24)) := (Below.refl _ _).alloc (Nat.le_refl _) _
  have HB0 := Lib.hid hb0
  clear hb0
  rcases cut_cases b n LN.out with ⟨h3, hE⟩ | ⟨h3, h0, hE⟩ | ⟨h3, h0, hb1, hE⟩ | ⟨h3, h0, hb1, hb2, hE⟩ | ⟨h3, h0, hb1, hb2, hE⟩
  · have ZZ := Lib.hid (cut_zero b (by rw [hE]; decide))
    have HE := Lib.hid hE
    have h3' : (n : Int) < 3 := by omega
    clear hE hr hb h3
    go_enter Try.func20, Try.ntmps20
    go_wp2_with (fail)
    refine bodyPost_ret (v := .tuple #[.agg #[.int .u8 0, .slice none 0 0], .int .i64 0, .int .i64 3]) (by simp [results, Try.results20, go_sem, *]) rfl ⟨none, 0, by rw [HE.out, ZZ.out.1, ZZ.out.2.1, ZZ.out.2.2]; rfl, by rw [ZZ.out.2.1]; exact Reads.none_, ?_⟩
    exact HB0.out
  all_goals
    obtain ⟨b0, o, rfl, hbB⟩ := plain_addr hr (by omega)
    obtain ⟨k1, hk1⟩ : ∃ k1, k1 = b.getD 0 0 := ⟨_, rfl⟩
    have hget : b[0]? = some k1 := by
      rw [hk1, List.getD_eq_getElem?_getD, List.getElem?_eq_getElem (show 0 < b.length by have := LN.out; omega)]; rfl
    have hk256 : k1 < 256 := isBs_get hb hget
    have d0 : (w.alloc (.cells #[.int .u8 0, .slice none 0 0] 24)).cell? ⟨b0, o, none⟩ = some (.int .u8 (k1 : Int)) := by
      obtain ⟨ad, z, hA, _, hz, hc0⟩ := reads_nat (hr.alloc hB (.cells #[.int .u8 0, .slice none 0 0] 24)) (k := 0) (by omega)
      cases hA
      rw [hget] at hz
      cases hz
      simpa [Addr.add] using hc0
    have HK1 := Lib.hid hk1
    rw [← hk1] at h0
    have h13 := ((hr.cut (k := 1) (cap := cp) (by omega) hnc).take (k := 2) (by omega))
    rw [Nat.mul_one, bI_drop_map, bI_take_map, if_neg (by omega)] at h13
    have N13 := Lib.hid (fun W h => refNum_any (some ⟨b0, o + 1, none⟩) 2 (cp - 1) B ((b.drop 1).take 2) W h (isBs_take (isBs_drop hb 1) 2) (by omega))
    have H13 : Hid (Reads (w.alloc (.cells #[.int .u8 0, .slice none 0 0] 24)) B 1 (some ⟨b0, o + 1, none⟩) 2 ((bI ((b.drop 1).take 2)).map (Value.int .u8))) := Lib.hid (Reads.alloc h13 hB _)
    have hfr := frN_lt b hb
    have N14 : Hid (Calls Try.prog 38 #[.slice (some ⟨b0, o + 1, none⟩) 2 (cp - 1)] (w.alloc (.cells #[.int .u8 0, .slice none 0 0] 24)) fun e w' => e = .returned (.int .u64 ((frN b : Nat) : Int)) ∧ (w.alloc (.cells #[.int .u8 0, .slice none 0 0] 24)) = w') := Lib.hid (N13.out _ H13.out)
    obtain ⟨k2, hk2⟩ : ∃ k2, k2 = frN b := ⟨_, rfl⟩
    rw [← hk2] at N14 hfr
    have HK2 := Lib.hid hk2
    have hn3 : (3 : Int) ≤ n := by omega
    have hn0 : (0 : Int) < n := by omega
    have hn00 : 0 < n := by omega
    have hcp3 : (3 : Int) ≤ cp := by omega
    clear h13 N13 H13 hk1 hget
  · have ZZ := Lib.hid (cut_zero b (by rw [hE]; decide))
    have HE := Lib.hid hE
    subst h0
    clear hE hr hb hk2
    go_enter Try.func20, Try.ntmps20
    go_wp2_with (fail)
    refine bodyPost_ret (v := .tuple #[.agg #[.int .u8 0, .slice none 0 0], .int .i64 0, .int .i64 4]) (by simp [results, Try.results20, go_sem, *]) rfl ⟨none, 0, by rw [HE.out, ZZ.out.1, ZZ.out.2.1, ZZ.out.2.2]; rfl, by rw [ZZ.out.2.1]; exact Reads.none_, ?_⟩
    exact HB0.out
  · have ZZ := Lib.hid (cut_zero b (by rw [hE]; decide))
    have HE := Lib.hid hE
    have hk : ((k1 : Int) == 0) = false := by simp; omega
    have hk16 : (16384 : Int) < k2 := by omega
    clear hE hr hb hk2 h0 hb1
    go_enter Try.func20, Try.ntmps20
    go_wp2_with (fail)
    refine N14.out.mono ?_
    rintro e w1 ⟨rfl, rfl⟩
    go_wp2_with (fail)
    refine bodyPost_ret (v := .tuple #[.agg #[.int .u8 0, .slice none 0 0], .int .i64 0, .int .i64 6]) (by simp [results, Try.results20, go_sem, *]) rfl ⟨none, 0, by rw [HE.out, ZZ.out.1, ZZ.out.2.1, ZZ.out.2.2]; rfl, by rw [ZZ.out.2.1]; exact Reads.none_, ?_⟩
    exact HB0.out
  · have ZZ := Lib.hid (cut_zero b (by rw [hE]; decide))
    have HE := Lib.hid hE
    have hk : ((k1 : Int) == 0) = false := by simp; omega
    have hk16 : (k2 : Int) ≤ 16384 := by omega
    have hk17 : (n : Int) < k2 + 7 := by omega
    clear hE hr hb hk2 h0 hb1 hb2
    go_enter Try.func20, Try.ntmps20
    go_wp2_with (fail)
    refine N14.out.mono ?_
    rintro e w1 ⟨rfl, rfl⟩
    go_wp2_with (fail)
    refine bodyPost_ret (v := .tuple #[.agg #[.int .u8 0, .slice none 0 0], .int .i64 0, .int .i64 3]) (by simp [results, Try.results20, go_sem, *]) rfl ⟨none, 0, by rw [HE.out, ZZ.out.1, ZZ.out.2.1, ZZ.out.2.2]; rfl, by rw [ZZ.out.2.1]; exact Reads.none_, ?_⟩
    exact HB0.out
  · have HE := Lib.hid hE
    have hk : ((k1 : Int) == 0) = false := by simp; omega
    have hk16 : (k2 : Int) ≤ 16384 := by omega
    have hk17 : (k2 : Int) + 7 ≤ n := by omega
    have hr4 := hr.take (k := k2 + 7) (by omega)
    rw [bI_take_map] at hr4
    have C := Lib.hid (refFits_any (some ⟨b0, o, none⟩) (k2 + 7) cp B (b.take (k2 + 7)) (isBs_take hb _) _ (Reads.alloc hr4 hB (.cells #[.int .u8 0, .slice none 0 0] 24)) (by simp; omega) (by omega) (by omega) hc)
    rw [hk2] at C
    rw [← hk2] at C
    have hr5 := (hr.cut (k := 3) (cap := cp) (by omega) hnc).take (k := k2) (by omega)
    rw [Nat.mul_one, bI_drop_map, bI_take_map, if_neg (by omega)] at hr5
    have HR5 : Hid (Reads w B 1 (some ⟨b0, o + 3, none⟩) k2 ((bI ((b.drop 3).take k2)).map (Value.int .u8))) := Lib.hid hr5
    have hlen : Hid (((b.drop 3).take k2).length = k2) := Lib.hid (by rw [List.length_take, List.length_drop]; have := LN.out; omega)
    have HE2 : Hid (cutE b = if fitsL (b.take (k2 + 7)) then 0 else 5) := Lib.hid (by rw [hE, hk2])
    generalize hfb : fitsL (b.take (k2 + 7)) = fb at *
    have R0 : Hid (Blk (w.alloc (.cells #[.int .u8 0, .slice none 0 0] 24)) w.heap.size 24 #[.int .u8 0, .slice none 0 0]) := Lib.hid (Blk.new w _ _)
    have D0 := Lib.hid d0
    have hbl : b0 < w.heap.size := by omega
    clear hE hr hb hk2 h0 hb1 hb2 hr4 hr5 hfb
    cases fb
    · have ZZ := Lib.hid (cut_zero b (by rw [HE2.out]; decide))
      go_enter Try.func20, Try.ntmps20
      go_wp2_with (fail)
      refine N14.out.mono ?_
      rintro e w1 ⟨rfl, rfl⟩
      go_wp2_with (fail)
      with_reducible refine C.out.mono ?_
      rintro e w1 ⟨rfl, h1⟩
      have r1 := R0.out.below h1 (by simp)
      have c0 : w1.cell? ⟨w.heap.size, 0, none⟩ = some (.int .u8 0) := r1.cell 0
      have c1 : w1.cell? ⟨w.heap.size, 1, none⟩ = some (.slice none 0 0) := r1.cell 1
      have f0 := r1.frozen 0
      have f1 := r1.frozen 1
      have H1 := Lib.hid (HB0.out.trans (h1.mono (by simp)))
      clear h1 r1 C N14 d0
      go_wp2_with (fail)
      refine bodyPost_ret (v := .tuple #[.agg #[.int .u8 0, .slice none 0 0], .int .i64 0, .int .i64 5]) (by simp [results, Try.results20, go_sem, *]) rfl ⟨none, 0, by rw [HE2.out, ZZ.out.1, ZZ.out.2.1, ZZ.out.2.2]; rfl, by rw [ZZ.out.2.1]; exact Reads.none_, ?_⟩
      exact (H1.out.setCell (Nat.le_refl _) _).setCell (Nat.le_refl _) _
    · have CC := Lib.hid (cut_some b (by rw [HE2.out]; rfl))
      go_enter Try.func20, Try.ntmps20
      go_wp2_with (fail)
      refine N14.out.mono ?_
      rintro e w1 ⟨rfl, rfl⟩
      go_wp2_with (fail)
      with_reducible refine C.out.mono ?_
      rintro e w1 ⟨rfl, h1⟩
      have r1 := R0.out.below h1 (by simp)
      have c0 : w1.cell? ⟨w.heap.size, 0, none⟩ = some (.int .u8 0) := r1.cell 0
      have c1 : w1.cell? ⟨w.heap.size, 1, none⟩ = some (.slice none 0 0) := r1.cell 1
      have f0 := r1.frozen 0
      have f1 := r1.frozen 1
      have e0 : w1.cell? ⟨b0, o, none⟩ = some (.int .u8 k1) := (h1.cell (p := ⟨b0, o, none⟩) (by simp; omega)).trans D0.out
      have H1 := Lib.hid (HB0.out.trans (h1.mono (by simp)))
      have hne1 : b0 ≠ w.heap.size := by omega
      have hne2 : w.heap.size ≠ b0 := by omega
      have hw1 : IntKind.i64.wrap ((k2 : Int) + 3) = k2 + 3 := by rw [IntKind.wrap_i64]; omega
      have hw2 : IntKind.i64.wrap ((k2 : Int) + 7) = k2 + 7 := by rw [IntKind.wrap_i64]; omega
      have hi1 : (0 : Int) ≤ (k2 : Int) + 3 := by omega
      have hi2 : (k2 : Int) + 3 ≤ cp := by omega
      have hi3 : (3 : Int) ≤ (k2 : Int) + 3 := by omega
      clear h1 r1 C N14 d0
      go_wp2_with (fail)
      go_region_held3 (fun w' => w'.cell? ⟨b0, o, none⟩ = some (.int .u8 k1)) (go_keep) (fail)
      have BEL := Lib.hid (((H1.out.setCell (p := ⟨w.heap.size, 0, none⟩) (Nat.le_refl _) (.int .u8 k1)).setCell (p := ⟨w.heap.size, 1, none⟩) (Nat.le_refl _) (.slice (some ⟨b0, o + 3, none⟩) k2 (cp - 3))).drew)
      have hlk : ((k2 : Int) + 3).toNat - 3 = k2 := by omega
      go_wp2_with (fail)
      refine bodyPost_ret (v := .tuple #[.agg #[.int .u8 k1, .slice (some ⟨b0, o + 3, none⟩) k2 (cp - 3)], .int .i64 (k2 + 7), .int .i64 0]) (by simp [results, Try.results20, go_sem, *]) rfl ⟨some ⟨b0, o + 3, none⟩, ⟨cp - 3, ?_⟩, ?_, ?_⟩
      · rw [HE2.out, CC.out.1, CC.out.2.1, CC.out.2.2, ← HK2.out, hlen.out, ← HK1.out]; rfl
      · rw [CC.out.2.1, ← HK2.out, hlen.out]
        exact HR5.out.below (BEL.out.mono hB)
      · exact BEL.out
theorem refGet_any (A : Option Addr) (n cp B : Nat) (b : List Nat) (w : World) (hr : Reads w B 1 A n ((bI b).map (Value.int .u8))) (hb : isBs b) (hB : B ≤ w.heap.size) (hn : n ≤ 900000000) (hnc : n ≤ cp) (hc : cp ≤ 9223372036854775807) :
    Calls Try.prog 22 #[.slice A n cp] w fun e w' => ∃ A' c', e = .returned (.tuple #[.agg #[.int .u8 (getK b), .slice A' (getB b).length c'], .int .i64 (getE b)]) ∧
      Reads w' B 1 A' (getB b).length ((bI (getB b)).map (Value.int .u8)) ∧ Below w.heap.size w w' := by
  have LN := Lib.hid (reads_len hr)
  have hb0 : Below w.heap.size w (w.alloc (.cells #[.int .u8 0, .slice none 0 0] 24)) := (Below.refl _ _).alloc (Nat.le_refl _) _
  have F := Lib.hid (refCut_any A n cp B b _ (hr.alloc hB (.cells #[.int .u8 0, .slice none 0 0] 24)) hb (by simp; omega) hn hnc hc)
  have R0 : Hid (Blk (w.alloc (.cells #[.int .u8 0, .slice none 0 0] 24)) w.heap.size 24 #[.int .u8 0, .slice none 0 0]) := Lib.hid (Blk.new w _ _)
  have HB0 := Lib.hid hb0
  have HZ := Lib.hid (get_zero b)
  have HO := Lib.hid (get_some b)
  have HGE := Lib.hid (getE_eq b)
  have HCZ := Lib.hid (cut_zero b)
  rw [LN.out] at HGE
  generalize getE b = ge at *
  generalize getK b = gk at *
  generalize getB b = gb at *
  generalize cutE b = ee at *
  generalize cutK b = kk at *
  generalize cutL b = ll at *
  generalize cutB b = body at *
  clear hr hb hb0
  go_enter Try.func22, Try.ntmps22
  go_wp2_with (fail)
  refine F.out.mono ?_
  rintro e w1 ⟨A1, c1, rfl, h1, h2⟩
  have r1 := R0.out.below h2 (by simp)
  have R1 := Lib.hid r1
  have hlt := r1.lt
  have RB := Lib.hid (r1.alloc (.cells #[.int .u8 kk, .slice A1 body.length c1] 24))
  have H1 := Lib.hid (Reads.alloc h1 (show B ≤ w1.heap.size by omega) (.cells #[.int .u8 kk, .slice A1 body.length c1] 24))
  have HB1 := Lib.hid ((HB0.out.trans (h2.mono (by simp))).alloc (by omega) (.cells #[.int .u8 kk, .slice A1 body.length c1] 24))
  have FB : Hid (Blk (w1.alloc (.cells #[.int .u8 kk, .slice A1 body.length c1] 24)) w1.heap.size 24 #[.int .u8 kk, .slice A1 body.length c1]) := Lib.hid (Blk.new _ _ _)
  obtain ⟨w5, hw5⟩ : ∃ w5, w5 = w1.alloc (.cells #[.int .u8 kk, .slice A1 body.length c1] 24) := ⟨_, rfl⟩
  rw [← hw5] at RB H1 HB1 FB
  have HW5 := Lib.hid hw5
  have hne1 : w1.heap.size ≠ w.heap.size := by omega
  have hne2 : w.heap.size ≠ w1.heap.size := by omega
  have c0 : w5.cell? ⟨w.heap.size, 0, none⟩ = some (.int .u8 0) := RB.out.cell 0
  have c1' : w5.cell? ⟨w.heap.size, 1, none⟩ = some (.slice none 0 0) := RB.out.cell 1
  have f0 := RB.out.frozen 0
  have f1 := RB.out.frozen 1
  have p0 : w5.cell? ⟨w1.heap.size, 0, none⟩ = some (.int .u8 kk) := FB.out.cell 0
  have p1 : w5.cell? ⟨w1.heap.size, 1, none⟩ = some (.slice A1 body.length c1) := FB.out.cell 1
  have HBEL : Hid (∀ (u v : Value) (o : Obj), Below w.heap.size w (((w1.setCell ⟨w.heap.size, 0, none⟩ u).setCell ⟨w.heap.size, 1, none⟩ v).alloc o)) := Lib.hid (fun u v o => (((HB0.out.trans (h2.mono (by simp))).setCell (p := ⟨w.heap.size, 0, none⟩) (Nat.le_refl _) u).setCell (p := ⟨w.heap.size, 1, none⟩) (Nat.le_refl _) v).alloc (by simp [World.setCell]; omega) o)
  have RD : Hid (∀ (u v : Value) (o : Obj), Reads (((w1.setCell ⟨w.heap.size, 0, none⟩ u).setCell ⟨w.heap.size, 1, none⟩ v).alloc o) B 1 A1 body.length ((bI body).map (Value.int .u8))) := Lib.hid (fun u v o => ((h1.setCell (p := ⟨w.heap.size, 0, none⟩) hB u).setCell (p := ⟨w.heap.size, 1, none⟩) hB v).alloc (by simp [World.setCell]; omega) o)
  clear h1 h2 r1 F R0 HB0
  clear c0 c1' f0 f1 p0 p1
  have e0 : w1.cell? ⟨w.heap.size, 0, none⟩ = some (.int .u8 0) := R1.out.cell 0
  have e1 : w1.cell? ⟨w.heap.size, 1, none⟩ = some (.slice none 0 0) := R1.out.cell 1
  have g0 := R1.out.frozen 0
  have g1 := R1.out.frozen 1
  subst hw5
  have c0 := RB.out.cell 0
  have c1' := RB.out.cell 1
  have f0 := RB.out.frozen 0
  have f1 := RB.out.frozen 1
  simp only [List.getElem?_toArray, List.getElem?_cons_succ, List.getElem?_cons_zero] at c0 c1'
  have key : (ee = 0 ∧ ll < n ∧ ge = 4) ∨ (((ee = 0 ∧ n ≤ ll) ∨ ee ≠ 0) ∧ ge = ee ∧ gk = kk ∧ gb = body) := by
    by_cases h0 : ee = 0
    · rcases Nat.lt_or_ge ll n with hl | hl
      · exact .inl ⟨h0, hl, by rw [HGE.out, if_pos ⟨h0, hl⟩]⟩
      · have hge : ge = ee := by rw [HGE.out, if_neg (fun h => by omega)]
        obtain ⟨a1, a2⟩ := HO.out (by omega)
        exact .inr ⟨.inl ⟨h0, hl⟩, hge, a1, a2⟩
    · have hge : ge = ee := by rw [HGE.out, if_neg (fun h => h0 h.1)]
      obtain ⟨a1, a2⟩ := HZ.out (by omega)
      obtain ⟨b1, b2, _⟩ := HCZ.out h0
      exact .inr ⟨.inr h0, hge, by rw [a1, b1], by rw [a2, b2]⟩
  rcases key with ⟨rfl, hl, rfl⟩ | ⟨hcase, rfl, rfl, rfl⟩
  · have ZZ := Lib.hid (HZ.out (by decide))
    have hl' : (ll : Int) < n := by omega
    go_wp2_with (fail)
    refine bodyPost_ret (v := .tuple #[.agg #[.int .u8 0, .slice none 0 0], .int .i64 4]) (by simp [results, Try.results22, go_sem, *]) rfl ⟨none, 0, by rw [ZZ.out.1, ZZ.out.2]; rfl, by rw [ZZ.out.2]; exact Reads.none_, HBEL.out _ _ _⟩
  · rcases hcase with ⟨rfl, hl⟩ | h0
    · have hl' : (n : Int) ≤ ll := by omega
      go_wp2_with (fail)
      refine bodyPost_ret (v := .tuple #[.agg #[.int .u8 gk, .slice A1 gb.length c1], .int .i64 0]) (by simp [results, Try.results22, go_sem, *]) rfl ⟨A1, c1, rfl, RD.out _ _ _, HBEL.out _ _ _⟩
    · have h1 : ((ge : Int) == 0) = false := by simp; omega
      go_wp2_with (fail)
      refine bodyPost_ret (v := .tuple #[.agg #[.int .u8 gk, .slice A1 gb.length c1], .int .i64 ge]) (by simp [results, Try.results22, go_sem, *]) rfl ⟨A1, c1, rfl, RD.out _ _ _, HBEL.out _ _ _⟩
theorem like_yes (k : Int) (A C : Option Addr) (n m c d B D : Nat) (x : List Int) (w : World) (hB : B ≤ w.heap.size) (hD : D ≤ w.heap.size) (hx : Reads w B 1 A n (x.map (Value.int .u8))) (hy : Reads w D 1 C m (x.map (Value.int .u8))) (hn : n ≤ 9223372036854775806) :
    Calls Try.prog 23 #[.agg #[.int .u8 k, .slice A n c], .agg #[.int .u8 k, .slice C m d]] w fun e w' => e = .returned (.bool true) ∧ Below w.heap.size w w' := by
  have HX := Lib.hid hx
  have HY := Lib.hid hy
  have hb2 : Below w.heap.size w ((w.alloc (.cells #[.int .u8 k, .slice A n c] 33)).alloc (.cells #[.int .u8 k, .slice C m d] 24)) := ((Below.refl _ _).alloc (Nat.le_refl _) _).alloc (by simp) _
  have S := Lib.hid (same_yes A C n m c d B D x x _ (by simp; omega) (by simp; omega) (hx.below (hb2.mono hB)) (hy.below (hb2.mono hD)) hn rfl)
  have HB2 := Lib.hid hb2
  clear hx hy hb2
  go_enter Try.func23, Try.ntmps23
  go_wp2_with (fail)
  refine S.out.mono ?_
  rintro e w1 ⟨rfl, h1⟩
  have H1 := Lib.hid (HB2.out.trans (h1.mono (by simp; omega)))
  clear h1
  go_wp2_with (fail)
  go_ret
  exact ⟨rfl, H1.out⟩
end Go.Proofs.Ytoifaeabieojbaa
