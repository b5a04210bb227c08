/- The law's put. -/
import Derived.Test.YtejjifbjmibapaaFixQ
namespace Go.Proofs.Ytejjifbjmibapaa
open Go.RowKit
set_option linter.unusedSimpArgs false
set_option linter.unusedVariables false
set_option maxHeartbeats 1000000
attribute [local go_sem] It.agg

def PutPost (g : Nat) (v : Value) (s : FO) (r : List Int × Int) (w : World) (e : Ending) (w' : World) : Prop :=
  ∃ v' A c, e = .returned (.tuple #[.slice A r.1.length c, .int .i64 r.2]) ∧ OutAt w' g v' (s.add r) ∧ OutStep w w' g v v' ∧ Reads w' w'.heap.size 1 A r.1.length (r.1.map (Value.int .u8))

theorem lawPut_any (g : Nat) (v : Value) (s : FO) (x : It) (B : Nat) (w : World) (h : OutAt w g v s) (hx : ItIn w B x) (hB : B ≤ g) (hl : s.l.length ≤ 100000000) :
    Calls Try.prog 9 #[.pointer (some ⟨g, 0, none⟩), x.agg] w (PutPost g v s x.ans w) := by
  have hg := h.1.lt
  have H := Lib.hid h
  have HX := Lib.hid hx
  have hc1 := hx.hc
  have hc2 := hx.hm
  have hxn := hx.hn
  have hcl := x.cut_len hx
  have hc60 := cutN_le2 x.len 60
  have HR := Lib.hid (cut_reads hx)
  unfold maxLen at hc2
  clear h hx
  by_cases h0 : x.kd = 0
  · have hA : x.ans = x.num := by rw [It.ans, if_pos h0]
    rw [hA]
    have h0' : (x.kd == 0) = true := by simp [h0]
    have HN := Lib.hid (add_num s x)
    clear h0 hA hcl hc60 HR
    go_enter Try.func9, Try.ntmps9
    go_wp2_with (first | (go_at_call 13; refine (cut_any _ _ _ 60 hc1 (by omega) _).mono ?_; rintro e w' ⟨rfl, rfl⟩) | fail)
    refine (putNum_any g v s x.n x.wd _ hxn (H.out.below (by exact (Below.refl _ _).alloc (Nat.le_refl _) _)) (by omega)).mono ?_
    rintro e w1 ⟨rfl, v', h1, h2⟩
    have hk := h2.2.blk (Blk.new w _ _) (fun hx => by
      rcases hx with hx | hx
      · omega
      · have := (H.out.2.1.lt _ hx).2; omega)
    have c1 := hk.cell 1
    have c2 := hk.cell 2
    simp only [List.getElem?_toArray, List.getElem?_cons_succ, List.getElem?_cons_zero] at c1 c2
    have H1 := Lib.hid h1
    have H2 := Lib.hid (OutStep.pre (by exact (Below.refl _ _).alloc (Nat.le_refl _) _) h2)
    clear h1 h2 hk
    go_wp2_with (fail)
    refine (refPut_any x.n x.wd x rfl rfl hxn _).mono ?_
    rintro e w2 ⟨A1, c, rfl, h1, h2⟩
    have H3 := Lib.hid h1
    have H4 := Lib.hid (H1.out.below h2)
    have H5 := Lib.hid (H2.out.trans ⟨.inl rfl, Chg.of_below h2 _⟩)
    clear h1 h2 c1 c2
    go_wp2
    go_ret2
    refine ⟨v', A1, c, rfl, ?_, H5.out, H3.out⟩
    rw [← HN.out]; exact H4.out
  · have h0' : (x.kd == 0) = false := by simp [h0]
    have hbelow : ∀ (a b : World) (v1 : Value), OutStep a b g v v1 → w.heap.size ≤ a.heap.size → B ≤ a.heap.size → Below B a b := fun a b v1 hs _ hb => hs.2.below hb (fun k hk hx => by
      rcases hx with hx | hx
      · omega
      · have := (H.out.2.1.lt k hx).1; omega)
    have HBl := Lib.hid hbelow
    clear hbelow
    have hBw : B ≤ w.heap.size := by omega
    have hba : ∀ o : Obj, Below B w (w.alloc o) := fun o => (Below.refl _ _).alloc hBw _
    have HA := Lib.hid hba
    clear hba
    by_cases h1 : x.kd = 1
    · have hA : x.ans = (x.cut, 0) := by rw [It.ans, if_neg h0, if_pos h1]
      rw [hA]
      have h1' : (x.kd == 1) = true := by simp [h1]
      have HN := Lib.hid (show s.add (x.cut, 0) = s.put x.cut by rw [FO.add, if_pos rfl])
      have HC := Lib.hid hcl
      clear h0 h1 hA hcl
      go_enter Try.func9, Try.ntmps9
      go_wp2_with (first | (go_at_call 13; refine (cut_any _ _ _ 60 hc1 (by omega) _).mono ?_; rintro e w' ⟨rfl, rfl⟩) | fail)
      refine (raw_any g v s x.A (cutN x.len 60) _ B x.cut _ (H.out.below (by exact (Below.refl _ _).alloc (Nat.le_refl _) _)) (by simp; omega) (HR.out.below (HA.out _)) HC.out.symm (by omega)).mono ?_
      rintro e w1 ⟨rfl, v', h1, h2⟩
      have H1 := Lib.hid h1
      have H2 := Lib.hid (OutStep.pre (by exact (Below.refl _ _).alloc (Nat.le_refl _) _) h2)
      have H3 := Lib.hid (((HR.out.below (HA.out _)).below (HBl.out _ _ _ h2 (by simp) (by simp; omega))).more (Nat.le_trans hBw H2.out.2.size))
      clear h1 h2
      go_wp2
      go_ret2
      refine ⟨v', x.A, _, by rw [HC.out]; rfl, ?_, H2.out, by rw [HC.out]; exact H3.out⟩
      rw [HN.out]; exact H1.out
    · have h1' : (x.kd == 1) = false := by simp [h1]
      by_cases h2 : x.kd = 2
      · have hA : x.ans = (big x.cut.length 2 ++ x.cut, 0) := by rw [It.ans, if_neg h0, if_neg h1, if_pos h2]
        rw [hA]
        have h2' : (x.kd == 2) = true := by simp [h2]
        have HN := Lib.hid (add_text s x.cut (by omega))
        have HC := Lib.hid hcl
        clear h0 h1 h2 hA hcl
        go_enter Try.func9, Try.ntmps9
        go_wp2_with (first | (go_at_call 13; refine (cut_any _ _ _ 60 hc1 (by omega) _).mono ?_; rintro e w' ⟨rfl, rfl⟩) | fail)
        refine (text_any g v s x.A (cutN x.len 60) _ B x.cut _ (H.out.below (by exact (Below.refl _ _).alloc (Nat.le_refl _) _)) (by simp; omega) (HR.out.below (HA.out _)) HC.out.symm (by omega) (by omega)).mono ?_
        rintro e w1 ⟨rfl, v', h1, h2⟩
        have H1 := Lib.hid h1
        have H2 := Lib.hid (OutStep.pre (by exact (Below.refl _ _).alloc (Nat.le_refl _) _) h2)
        have H3 := Lib.hid (((HR.out.below (HA.out _)).below (HBl.out _ _ _ h2 (by simp) (by simp; omega))).more (Nat.le_trans hBw H2.out.2.size))
        clear h1 h2
        go_wp2_with (fail)
        refine (refText_any x.A (cutN x.len 60) _ _ x.cut _ (Nat.le_refl _) H3.out (by omega)).mono ?_
        rintro e w2 ⟨u, rfl, h1, h2⟩
        obtain ⟨A1, c, rfl, h3, _, _⟩ := own_slice h1
        have H4 := Lib.hid h3
        have H5 := Lib.hid (H1.out.below h2)
        have H6 := Lib.hid (H2.out.trans ⟨.inl rfl, Chg.of_below h2 _⟩)
        have hlen : Hid ((big x.cut.length 2 ++ x.cut).length = 2 + cutN x.len 60) := Lib.hid (by rw [List.length_append, big_len, HC.out])
        clear h1 h2 h3
        go_wp2
        go_ret2
        refine ⟨v', A1, c, by rw [hlen.out]; rfl, ?_, H6.out, by rw [hlen.out, HC.out]; exact H4.out⟩
        rw [← HN.out]; exact H5.out
      · have hA : x.ans = ([((x.n % 2 : Nat) : Int)], 0) := by rw [It.ans, if_neg h0, if_neg h1, if_neg h2]
        rw [hA]
        have h2' : (x.kd == 2) = false := by simp [h2]
        have HN := Lib.hid (add_bool s x.n)
        clear h0 h1 h2 hA hcl HR
        rcases Nat.mod_two_eq_zero_or_one x.n with hp | hp
        all_goals
          have ep : (x.n : Int).tmod 2 = ((x.n % 2 : Nat) : Int) := by rw [Int.tmod_eq_emod_of_nonneg (by omega)]; rfl
          rw [hp] at ep HN ⊢
          clear hp
          go_enter Try.func9, Try.ntmps9
          go_wp2_with (first | (go_at_call 13; refine (cut_any _ _ _ 60 hc1 (by omega) _).mono ?_; rintro e w' ⟨rfl, rfl⟩) | fail)
          refine (putBool_any g v s _ _ (H.out.below (by exact (Below.refl _ _).alloc (Nat.le_refl _) _)) (by omega)).mono ?_
          rintro e w1 ⟨rfl, v', h1, h2⟩
          have hk := h2.2.blk (Blk.new w _ _) (fun hx => by
            rcases hx with hx | hx
            · omega
            · have := (H.out.2.1.lt _ hx).2; omega)
          have c1 := hk.cell 1
          simp only [List.getElem?_toArray, List.getElem?_cons_succ, List.getElem?_cons_zero] at c1
          have H1 := Lib.hid h1
          have H2 := Lib.hid (OutStep.pre (by exact (Below.refl _ _).alloc (Nat.le_refl _) _) h2)
          clear h1 h2 hk
          go_wp2_with (fail)
          refine (yes_any _ _).mono ?_
          rintro e w2 ⟨u, rfl, h1, h2⟩
          obtain ⟨A1, c, rfl, h3, _, _⟩ := own_slice h1
          have H4 := Lib.hid h3
          have H5 := Lib.hid (H1.out.below h2)
          have H6 := Lib.hid (H2.out.trans ⟨.inl rfl, Chg.of_below h2 _⟩)
          clear h1 h2 h3 c1
          go_wp2
          go_ret2
          refine ⟨v', A1, c, rfl, ?_, H6.out, H4.out⟩
          rw [← HN.out]; exact H5.out
end Go.Proofs.Ytejjifbjmibapaa
