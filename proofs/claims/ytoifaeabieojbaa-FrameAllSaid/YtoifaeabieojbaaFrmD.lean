/- Package frame: Cut, Get. -/
import Derived.Test.YtoifaeabieojbaaFrmC
namespace Go.Proofs.Ytoifaeabieojbaa
open Go.RowKit
set_option linter.unusedSimpArgs false
set_option linter.unusedVariables false
set_option maxRecDepth 100000
set_option maxHeartbeats 2000000

theorem Chg.sub {w w' : World} {S T : Nat → Prop} (h : Chg w w' S) (hT : ∀ i, S i → T i) : Chg w w' T := h.mono (fun i _ hi => hT i hi)
theorem Cd.chg {w w' : World} {c g : Nat} {d d' : Bool} {x y : Int} (h : Cd w c g d x y) (hc : Chg w w' (fun k => k = g)) (ht : Tb w' g d') : Cd w' c g d' x y :=
  ⟨hc.blk h.1 (tb_ne h.1 h.2 (by decide)), ht⟩
theorem own_chg2 {w w' : World} {base n c : Nat} {v : Value} {xs : List Value} (h : w.ownsRow base 5 1 v n xs) (hc : Chg w w' (fun k => k = c)) (hb : c < base) : w'.ownsRow base 5 1 v n xs :=
  hc.own h (fun k hk e => by have := (h.lt k hk).1; omega)
def cntX (x : Int) (e : Nat) : Int := if e = 0 then x + 1 else x
def cntY (y : Int) (e : Nat) : Int := if e = 0 then y else y + 1
theorem cdCut_any (c g : Nat) (d : Bool) (x y : Int) (A : Option Addr) (n cp B : Nat) (b : List Nat) (w : World) (h : Cd w c g d x y) (hr : Reads w B 1 A n ((bI b).map (Value.int .u8))) (hb : isBs b) (hB : B ≤ w.heap.size)
    (hA : ∀ ad, 0 < n → A = some ad → ad.block ≠ g) (hn : n ≤ 900000000) (hnc : n ≤ cp) (hc : cp ≤ 9223372036854775807) (hx : 0 ≤ x ∧ x ≤ 1000000) (hy : 0 ≤ y ∧ y ≤ 1000000) :
    Calls Try.prog 19 #[.pointer (some ⟨c, 0, none⟩), .slice A n cp] w fun e w' => ∃ v, e = .returned (.tuple #[.agg #[.int .u8 (cutK b), v], .int .i64 (cutL b), .int .i64 (cutE b)]) ∧
      w'.ownsRow w.heap.size 5 1 v (cutB b).length ((bI (cutB b)).map (Value.int .u8)) ∧ (∃ d', Cd w' c g d' (cntX x (cutE b)) (cntY y (cutE b))) ∧ Chg w w' (fun k => k = g ∨ k = c) := by
  have hcl := h.1.lt
  have hgl := h.2.lt
  have hb0 : Below w.heap.size w (w.alloc (.cells #[.int .u8 0, .slice none 0 0] 33)) := (Below.refl _ _).alloc (Nat.le_refl _) _
  have hcd0 := h.below hb0 hcl hgl
  have F := Lib.hid (first_any c g d x y A n cp B b _ hcd0 (hr.alloc hB _) hb (by simp; omega) hA hn hnc hc)
  have R0 : Hid (Blk (w.alloc (.cells #[.int .u8 0, .slice none 0 0] 33)) w.heap.size 33 #[.int .u8 0, .slice none 0 0]) := Lib.hid (Blk.new w _ _)
  have HB0 := Lib.hid hb0
  have CD0 := Lib.hid hcd0
  have HZ := Lib.hid (cut_zero b)
  have hs0 : (w.alloc (.cells #[.int .u8 0, .slice none 0 0] 33)).heap.size = w.heap.size + 1 := by simp
  have HS0 := Lib.hid hs0
  generalize cutE b = ee at *
  generalize cutK b = kk at *
  generalize cutL b = ll at *
  generalize cutB b = body at *
  clear h hr hb hA hb0 hcd0 hs0
  go_enter Try.func19, Try.ntmps19
  go_wp2_with (fail)
  refine F.out.mono ?_
  rintro e w1 ⟨v, rfl, h1, ⟨d', h2⟩, h3⟩
  obtain ⟨A1, c1, rfl, _, _, _⟩ := own_slice h1
  have hw1 : w.heap.size < w1.heap.size := by have := h3.size; simp at this; omega
  obtain ⟨w5, hw5⟩ : ∃ w5, w5 = w1.alloc (.cells #[.int .u8 kk, .slice A1 body.length c1] 33) := ⟨_, rfl⟩
  have hb5 : Below w1.heap.size w1 w5 := by rw [hw5]; exact (Below.refl _ _).alloc (Nat.le_refl _) _
  have FB : Hid (Blk w5 w1.heap.size 33 #[.int .u8 kk, .slice A1 body.length c1]) := Lib.hid (by rw [hw5]; exact Blk.new _ _ _)
  have RB : Hid (Blk w5 w.heap.size 33 #[.int .u8 0, .slice none 0 0]) := Lib.hid ((h3.blk R0.out (by omega)).below hb5 hw1)
  have CD5 : Hid (Cd w5 c g d' x y) := Lib.hid ((CD0.out.chg h3 h2).below hb5 (by omega) (by omega))
  have OW5 : Hid (w5.ownsRow (w.heap.size + 1) 5 1 (.slice A1 body.length c1) body.length ((bI body).map (Value.int .u8))) := Lib.hid (by rw [← HS0.out]; exact own_block_same h1 (fun k hk => hb5.block k (h1.lt k hk).2))
  have CH5 : Hid (Chg w w5 (fun k => k = g ∨ k = c)) := Lib.hid (((Chg.of_below HB0.out (fun k => k = g ∨ k = c)).trans (h3.sub (fun i hi => Or.inl hi)) (fun _ _ h => h)).trans (Chg.of_below hb5 _) (fun _ _ h => h))
  have hsz5 := hb5.size
  clear h1 h2 h3 hb5 F CD0 R0 HB0
  have HW5 := Lib.hid hw5
  by_cases he : ee = 0
  · subst he
    have T := Lib.hid (told_any c g d' x y 1 0 w5.drew CD5.out (by omega) (by omega))
    clear hw5
    go_wp2_with (fail)
    rw [← HW5.out]
    have p0 : w5.cell? ⟨w1.heap.size, 0, none⟩ = some (.int .u8 kk) := FB.out.cell 0
    have p1 : w5.cell? ⟨w1.heap.size, 1, none⟩ = some (.slice A1 body.length c1) := FB.out.cell 1
    have hfb := FB.out.lt
    have hcf : Hid (c ≠ w1.heap.size ∧ c ≠ w.heap.size) := Lib.hid ⟨by omega, by omega⟩
    have hne1 : w1.heap.size ≠ w.heap.size := by omega
    have hne2 : w.heap.size ≠ w1.heap.size := by omega
    clear HW5
    generalize w1.heap.size = fB at *
    go_region_held3 (fun w' => w'.cell? ⟨fB, 0, none⟩ = some (.int .u8 kk) ∧ w'.cell? ⟨fB, 1, none⟩ = some (.slice A1 body.length c1)) (go_keep) (first
      | (go_at_call 37; refine T.out.mono ?_; rintro e w6 ⟨rfl, h1, h2⟩; have q0 := (h2.cell (p := ⟨fB, 0, none⟩) hfb (fun e => hcf.out.1 e.symm)).trans p0; have q1 := (h2.cell (p := ⟨fB, 1, none⟩) hfb (fun e => hcf.out.1 e.symm)).trans p1; have RB6 := Lib.hid (h2.blk RB.out (fun e => hcf.out.2 e.symm)); have r0 : w6.cell? ⟨w.heap.size, 0, none⟩ = some (.int .u8 0) := RB6.out.cell 0; have r1 : w6.cell? ⟨w.heap.size, 1, none⟩ = some (.slice none 0 0) := RB6.out.cell 1; have f0 := RB6.out.frozen 0; have f1 := RB6.out.frozen 1; have H1 := Lib.hid h1; have H2 := Lib.hid h2; clear h1 h2)
      | fail)
    go_wp2_with (fail)
    refine bodyPost_ret (v := .tuple #[.agg #[.int .u8 kk, .slice A1 body.length c1], .int .i64 ll, .int .i64 0]) (by simp [results, Try.results19, go_sem, *]) rfl ⟨.slice A1 body.length c1, rfl, ?_, ?_, ?_⟩
    · refine Go.Joins.ownsRow_le (ownsRow_setCell_below (ownsRow_setCell_below (own_chg2 (w := w5.drew) (c := c) OW5.out H2.out (by omega)) (Nat.lt_succ_self _) _) (Nat.lt_succ_self _) _) (Nat.le_succ _)
    · refine ⟨d', ?_⟩
      exact H1.out.below (((Below.refl w.heap.size w6).setCell (Nat.le_refl _) _).setCell (Nat.le_refl _) _) (by omega) (by omega)
    · exact Chg.setNew (Chg.setNew (CH5.out.trans ((Chg.refl w5 (fun k => k = c)).drewN 1 |>.trans (H2.out) (fun _ _ h => h) |>.sub (fun i hi => Or.inr hi)) (fun _ _ h => h)) (Nat.le_refl _) _) (Nat.le_refl _) _
  · have he1 : ((ee : Int) != 0) = true := by simp; omega
    have Z := Lib.hid (HZ.out he)
    have T := Lib.hid (told_any c g d' x y 0 ee w5 CD5.out (by omega) (by omega))
    have HX : Hid (cntX x ee = x + ((0 : Nat) : Int) ∧ cntY y ee = if ee = 0 then y else y + 1) := Lib.hid ⟨by rw [cntX, if_neg he]; simp, rfl⟩
    clear he
    rw [hw5] at T
    clear hw5
    go_wp2_with (fail)
    refine T.out.mono ?_
    rintro e w6 ⟨rfl, h1, h2⟩
    rw [← HW5.out] at h2
    have r6 := h2.blk RB.out (by omega)
    have r0 : w6.cell? ⟨w.heap.size, 0, none⟩ = some (.int .u8 0) := r6.cell 0
    have r1 : w6.cell? ⟨w.heap.size, 1, none⟩ = some (.slice none 0 0) := r6.cell 1
    have f0 := r6.frozen 0
    have f1 := r6.frozen 1
    have H1 := Lib.hid h1
    have H2 := Lib.hid (CH5.out.trans (h2.sub (fun i hi => Or.inr hi)) (fun _ _ h => h))
    have hs6 := h2.size
    clear h1 h2 T r6
    go_wp2_with (fail)
    refine bodyPost_ret (v := .tuple #[.agg #[.int .u8 0, .slice none 0 0], .int .i64 0, .int .i64 ee]) (by simp [results, Try.results19, go_sem, *]) rfl ⟨.slice none 0 0, by rw [Z.out.1, Z.out.2.2]; rfl, by rw [Z.out.2.1]; exact World.ownsRow_nil _ _ _ _, ?_, ?_⟩
    · refine ⟨d', ?_⟩
      rw [HX.out.1, HX.out.2]
      exact H1.out.below (((Below.refl w.heap.size w6).setCell (Nat.le_refl _) _).setCell (Nat.le_refl _) _) (by omega) (by omega)
    · exact Chg.setNew (Chg.setNew H2.out (Nat.le_refl _) _) (Nat.le_refl _) _
def getE (b : List Nat) : Nat := if cutE b = 0 ∧ cutL b < b.length then 4 else cutE b
def getK (b : List Nat) : Nat := if getE b = 0 then cutK b else 0
def getB (b : List Nat) : List Nat := if getE b = 0 then cutB b else []
theorem getE_eq (b : List Nat) : getE b = if cutE b = 0 ∧ cutL b < b.length then 4 else cutE b := rfl
theorem get_zero (b : List Nat) (h : getE b ≠ 0) : getK b = 0 ∧ getB b = [] := by
  unfold getK getB
  rw [if_neg h, if_neg h]; exact ⟨rfl, rfl⟩
theorem get_some (b : List Nat) (h : getE b = 0) : getK b = cutK b ∧ getB b = cutB b := by
  unfold getK getB
  rw [if_pos h, if_pos h]; exact ⟨rfl, rfl⟩
theorem cdGet_any (c g : Nat) (d : Bool) (x y : Int) (A : Option Addr) (n cp B : Nat) (b : List Nat) (w : World) (h : Cd w c g d x y) (hr : Reads w B 1 A n ((bI b).map (Value.int .u8))) (hb : isBs b) (hB : B ≤ w.heap.size)
    (hA : ∀ ad, 0 < n → A = some ad → ad.block ≠ g) (hn : n ≤ 900000000) (hnc : n ≤ cp) (hc : cp ≤ 9223372036854775807) (hx : 0 ≤ x ∧ x ≤ 1000000) (hy : 0 ≤ y ∧ y ≤ 1000000) :
    Calls Try.prog 21 #[.pointer (some ⟨c, 0, none⟩), .slice A n cp] w fun e w' => ∃ v, e = .returned (.tuple #[.agg #[.int .u8 (getK b), v], .int .i64 (getE b)]) ∧
      w'.ownsRow w.heap.size 5 1 v (getB b).length ((bI (getB b)).map (Value.int .u8)) ∧ (∃ d', Cd w' c g d' (cntX x (getE b)) (cntY y (getE b))) ∧ Chg w w' (fun k => k = g ∨ k = c) := by
  have hcl := h.1.lt
  have hgl := h.2.lt
  have hb0 : Below w.heap.size w (w.alloc (.cells #[.int .u8 0, .slice none 0 0] 33)) := (Below.refl _ _).alloc (Nat.le_refl _) _
  have hcd0 := h.below hb0 hcl hgl
  have F := Lib.hid (first_any c g d x y A n cp B b _ hcd0 (hr.alloc hB _) hb (by simp; omega) hA hn hnc hc)
  have R0 : Hid (Blk (w.alloc (.cells #[.int .u8 0, .slice none 0 0] 33)) w.heap.size 33 #[.int .u8 0, .slice none 0 0]) := Lib.hid (Blk.new w _ _)
  have HB0 := Lib.hid hb0
  have CD0 := Lib.hid hcd0
  have HZ := Lib.hid (get_zero b)
  have HO := Lib.hid (get_some b)
  have LN := Lib.hid (reads_len hr)
  have HGE := Lib.hid (getE_eq b)
  have hs0 : (w.alloc (.cells #[.int .u8 0, .slice none 0 0] 33)).heap.size = w.heap.size + 1 := by simp
  have HS0 := Lib.hid hs0
  rw [LN.out] at HGE
  generalize getE b = ge at *
  generalize getK b = gk at *
  generalize getB b = gb at *
  generalize cutE b = ee at *
  generalize cutK b = kk at *
  generalize cutL b = ll at *
  generalize cutB b = body at *
  clear h hr hb hA hb0 hcd0 hs0
  go_enter Try.func21, Try.ntmps21
  go_wp2_with (fail)
  refine F.out.mono ?_
  rintro e w1 ⟨v, rfl, h1, ⟨d', h2⟩, h3⟩
  obtain ⟨A1, c1, rfl, _, _, _⟩ := own_slice h1
  have hw1 : w.heap.size < w1.heap.size := by have := h3.size; simp at this; omega
  obtain ⟨w5, hw5⟩ : ∃ w5, w5 = w1.alloc (.cells #[.int .u8 kk, .slice A1 body.length c1] 33) := ⟨_, rfl⟩
  have hb5 : Below w1.heap.size w1 w5 := by rw [hw5]; exact (Below.refl _ _).alloc (Nat.le_refl _) _
  have FB : Hid (Blk w5 w1.heap.size 33 #[.int .u8 kk, .slice A1 body.length c1]) := Lib.hid (by rw [hw5]; exact Blk.new _ _ _)
  have RB : Hid (Blk w5 w.heap.size 33 #[.int .u8 0, .slice none 0 0]) := Lib.hid ((h3.blk R0.out (by omega)).below hb5 hw1)
  have CD5 : Hid (Cd w5 c g d' x y) := Lib.hid ((CD0.out.chg h3 h2).below hb5 (by omega) (by omega))
  have OW5 : Hid (w5.ownsRow (w.heap.size + 1) 5 1 (.slice A1 body.length c1) body.length ((bI body).map (Value.int .u8))) := Lib.hid (by rw [← HS0.out]; exact own_block_same h1 (fun k hk => hb5.block k (h1.lt k hk).2))
  have CH5 : Hid (Chg w w5 (fun k => k = g ∨ k = c)) := Lib.hid (((Chg.of_below HB0.out (fun k => k = g ∨ k = c)).trans (h3.sub (fun i hi => Or.inl hi)) (fun _ _ h => h)).trans (Chg.of_below hb5 _) (fun _ _ h => h))
  have hsz5 := hb5.size
  clear h1 h2 h3 hb5 F CD0 R0 HB0
  have HW5 := Lib.hid hw5
  by_cases he : ee = 0 ∧ ¬ ll < n
  · obtain ⟨he, hl⟩ := he
    subst he
    have hge : ge = 0 := by rw [HGE.out, if_neg (fun h => hl h.2)]
    have OO := Lib.hid (HO.out hge)
    subst hge
    have hd2 : (n : Int) ≤ (ll : Int) := by omega
    clear hl
    have T := Lib.hid (told_any c g d' x y 1 0 w5.drew CD5.out (by omega) (by omega))
    clear hw5
    go_wp2_with (fail)
    rw [← HW5.out]
    have p0 : w5.cell? ⟨w1.heap.size, 0, none⟩ = some (.int .u8 kk) := FB.out.cell 0
    have p1 : w5.cell? ⟨w1.heap.size, 1, none⟩ = some (.slice A1 body.length c1) := FB.out.cell 1
    have hfb := FB.out.lt
    have hcf : Hid (c ≠ w1.heap.size ∧ c ≠ w.heap.size) := Lib.hid ⟨by omega, by omega⟩
    have hne1 : w1.heap.size ≠ w.heap.size := by omega
    have hne2 : w.heap.size ≠ w1.heap.size := by omega
    clear HW5
    generalize w1.heap.size = fB at *
    go_region_held3 (fun w' => w'.cell? ⟨fB, 0, none⟩ = some (.int .u8 kk) ∧ w'.cell? ⟨fB, 1, none⟩ = some (.slice A1 body.length c1)) (go_keep) (first
      | (go_at_call 37; refine T.out.mono ?_; rintro e w6 ⟨rfl, h1, h2⟩; have q0 := (h2.cell (p := ⟨fB, 0, none⟩) hfb (fun e => hcf.out.1 e.symm)).trans p0; have q1 := (h2.cell (p := ⟨fB, 1, none⟩) hfb (fun e => hcf.out.1 e.symm)).trans p1; have RB6 := Lib.hid (h2.blk RB.out (fun e => hcf.out.2 e.symm)); have r0 : w6.cell? ⟨w.heap.size, 0, none⟩ = some (.int .u8 0) := RB6.out.cell 0; have r1 : w6.cell? ⟨w.heap.size, 1, none⟩ = some (.slice none 0 0) := RB6.out.cell 1; have f0 := RB6.out.frozen 0; have f1 := RB6.out.frozen 1; have H1 := Lib.hid h1; have H2 := Lib.hid h2; clear h1 h2)
      | fail)
    go_wp2_with (fail)
    refine bodyPost_ret (v := .tuple #[.agg #[.int .u8 kk, .slice A1 body.length c1], .int .i64 0]) (by simp [results, Try.results21, go_sem, *]) rfl ⟨.slice A1 body.length c1, by rw [OO.out.1]; rfl, ?_, ?_, ?_⟩
    · rw [OO.out.2]; refine Go.Joins.ownsRow_le (ownsRow_setCell_below (ownsRow_setCell_below (own_chg2 (w := w5.drew) (c := c) OW5.out H2.out (by omega)) (Nat.lt_succ_self _) _) (Nat.lt_succ_self _) _) (Nat.le_succ _)
    · refine ⟨d', ?_⟩
      exact H1.out.below (((Below.refl w.heap.size w6).setCell (Nat.le_refl _) _).setCell (Nat.le_refl _) _) (by omega) (by omega)
    · exact Chg.setNew (Chg.setNew (CH5.out.trans ((Chg.refl w5 (fun k => k = c)).drewN 1 |>.trans (H2.out) (fun _ _ h => h) |>.sub (fun i hi => Or.inr hi)) (fun _ _ h => h)) (Nat.le_refl _) _) (Nat.le_refl _) _
  · have hge : ge ≠ 0 := by rw [HGE.out]; split <;> omega
    have Z := Lib.hid (HZ.out hge)
    have T := Lib.hid (told_any c g d' x y 0 ge w5 CD5.out (by omega) (by omega))
    have HX : Hid (cntX x ge = x + ((0 : Nat) : Int) ∧ cntY y ge = if ge = 0 then y else y + 1) := Lib.hid ⟨by rw [cntX, if_neg hge]; simp, rfl⟩
    have hcase : (ee = 0 ∧ ll < n ∧ ge = 4) ∨ (ee ≠ 0 ∧ ge = ee) := by
      by_cases h0 : ee = 0
      · have hl : ll < n := by
          rcases Nat.lt_or_ge ll n with h | h
          · exact h
          · exact absurd ⟨h0, by omega⟩ he
        exact .inl ⟨h0, hl, by rw [HGE.out, if_pos ⟨h0, hl⟩]⟩
      · exact .inr ⟨h0, by rw [HGE.out, if_neg (fun h => h0 h.1)]⟩
    clear he hge
    rw [hw5] at T
    clear hw5
    rcases hcase with ⟨rfl, hl, rfl⟩ | ⟨h0, rfl⟩
    · have hd2 : (ll : Int) < (n : Int) := by omega
      go_wp2_with (fail)
      refine T.out.mono ?_
      rintro e w6 ⟨rfl, h1, h2⟩
      rw [← HW5.out] at h2
      have r6 := h2.blk RB.out (by omega)
      have r0 : w6.cell? ⟨w.heap.size, 0, none⟩ = some (.int .u8 0) := r6.cell 0
      have r1 : w6.cell? ⟨w.heap.size, 1, none⟩ = some (.slice none 0 0) := r6.cell 1
      have f0 := r6.frozen 0
      have f1 := r6.frozen 1
      have H1 := Lib.hid h1
      have H2 := Lib.hid (CH5.out.trans (h2.sub (fun i hi => Or.inr hi)) (fun _ _ h => h))
      have hs6 := h2.size
      clear h1 h2 T r6
      go_wp2_with (fail)
      refine bodyPost_ret (v := .tuple #[.agg #[.int .u8 0, .slice none 0 0], .int .i64 4]) (by simp [results, Try.results21, go_sem, *]) rfl ⟨.slice none 0 0, by rw [Z.out.1]; rfl, by rw [Z.out.2]; exact World.ownsRow_nil _ _ _ _, ?_, ?_⟩
      · refine ⟨d', ?_⟩
        rw [HX.out.1, HX.out.2]
        exact H1.out.below (((Below.refl w.heap.size w6).setCell (Nat.le_refl _) _).setCell (Nat.le_refl _) _) (by omega) (by omega)
      · exact Chg.setNew (Chg.setNew H2.out (Nat.le_refl _) _) (Nat.le_refl _) _
    · have he1 : ((ge : Int) != 0) = true := by simp; omega
      have he2 : ((ge : Int) == 0) = false := by simp; omega
      clear h0
      go_wp2_with (fail)
      refine T.out.mono ?_
      rintro e w6 ⟨rfl, h1, h2⟩
      rw [← HW5.out] at h2
      have r6 := h2.blk RB.out (by omega)
      have r0 : w6.cell? ⟨w.heap.size, 0, none⟩ = some (.int .u8 0) := r6.cell 0
      have r1 : w6.cell? ⟨w.heap.size, 1, none⟩ = some (.slice none 0 0) := r6.cell 1
      have f0 := r6.frozen 0
      have f1 := r6.frozen 1
      have H1 := Lib.hid h1
      have H2 := Lib.hid (CH5.out.trans (h2.sub (fun i hi => Or.inr hi)) (fun _ _ h => h))
      have hs6 := h2.size
      clear h1 h2 T r6
      go_wp2_with (fail)
      refine bodyPost_ret (v := .tuple #[.agg #[.int .u8 0, .slice none 0 0], .int .i64 ge]) (by simp [results, Try.results21, go_sem, *]) rfl ⟨.slice none 0 0, by rw [Z.out.1]; rfl, by rw [Z.out.2]; exact World.ownsRow_nil _ _ _ _, ?_, ?_⟩
      · refine ⟨d', ?_⟩
        rw [HX.out.1, HX.out.2]
        exact H1.out.below (((Below.refl w.heap.size w6).setCell (Nat.le_refl _) _).setCell (Nat.le_refl _) _) (by omega) (by omega)
      · exact Chg.setNew (Chg.setNew H2.out (Nat.le_refl _) _) (Nat.le_refl _) _
end Go.Proofs.Ytoifaeabieojbaa
