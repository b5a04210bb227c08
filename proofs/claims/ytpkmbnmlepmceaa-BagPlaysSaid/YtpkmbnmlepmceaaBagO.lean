/- The reference's bag: Take. -/
import Derived.Test.YtpkmbnmlepmceaaBagN

namespace Go.Proofs.Ytpkmbnmlepmceaa
open Go.RowKit
set_option linter.unusedSimpArgs false
set_option linter.unusedVariables false
set_option maxHeartbeats 4000000
set_option maxRecDepth 100000
attribute [local go_sem] RB.agg RB.cells RB.zero

theorem it_cut {w : World} {B n b off : Nat} {l : List (Int × Int)} (h : Reads w B 2 (some ⟨b, off, none⟩) n (l.flatMap itc)) {k : Nat} (hk : k ≤ n) : Reads w B 2 (some ⟨b, off + k * 2, none⟩) (n - k) ((l.drop k).flatMap itc) := by
  have := h.cut (cap := n + k + 1) hk (by omega)
  rw [if_neg (by omega), flat_drop itc 2 itc_len] at this
  simp only [Option.map_some, Go.WideShapes.add_plain] at this
  exact this
theorem it_take {w : World} {B n : Nat} {A : Option Addr} {l : List (Int × Int)} (h : Reads w B 2 A n (l.flatMap itc)) {k : Nat} (hk : k ≤ n) : Reads w B 2 A k ((l.take k).flatMap itc) := by
  have hl := flat_len itc itc_len (by omega) h
  refine ⟨by rw [flat_length itc 2 itc_len, List.length_take]; congr 1; omega, fun h0 => ?_⟩
  obtain ⟨ad, hA, hb, hc⟩ := h.2 (by omega)
  refine ⟨ad, hA, hb, fun j u hu => hc j u ?_⟩
  rw [← flat_take itc 2 itc_len] at hu
  rw [List.getElem?_take] at hu
  split at hu
  · exact hu
  · cases hu
theorem Reads.none_z {w : World} {B size : Nat} {A : Option Addr} : Reads w B size A 0 [] := Reads.none_
def RTk (x : RB) (w : World) (s : Bg) (en : Ending) (w' : World) : Prop :=
  ∃ y : RB, en = .returned y.agg ∧ y.bg = s ∧ RBn w' y ∧ Below w.heap.size w w' ∧ NewA x w y
theorem refTake_any (x : RB) (i : Int) (w : World) (h : RBn w x) (hl : x.l.length ≤ 1000000) :
    Calls Try.prog 32 #[x.agg, .int .i64 i] w (RTk x w (x.bg.take i)) := by
  obtain ⟨i0, hi, hz0, hz1, hz2⟩ := info_parts ritInfo
  have H := Lib.hid h
  have HF := fun w => refHas_any x i w
  cases hh : x.bg.has i
  · have hv : Hid (x.bg.take i = x.bg) := Lib.hid (by rw [Bg.take, hh]; rfl)
    rw [hv.out]
    rw [hh] at HF
    clear h hh
    go_enter Try.func32, Try.ntmps32
    go_wp2_with (first | (go_at_call 34; refine (HF _).mono ?_; rintro e w' ⟨rfl, rfl⟩) | fail)
    refine bodyPost_ret (v := x.agg) (by simp [results, Try.results32, go_sem]) rfl ⟨x, rfl, rfl, H.out.below ?_, ?_, .inl rfl⟩
    · repeat (first | with_reducible exact Below.refl _ _ | with_reducible refine Below.setCell ?_ (by first | omega | (simp <;> omega)) _ | with_reducible refine Below.alloc ?_ (by first | omega | (simp <;> omega)) _ | with_reducible refine below_drewN ?_ _ | with_reducible refine Below.drew ?_)
    · repeat (first | with_reducible exact Below.refl _ _ | with_reducible refine Below.setCell ?_ (by first | omega | (simp <;> omega)) _ | with_reducible refine Below.alloc ?_ (by first | omega | (simp <;> omega)) _ | with_reducible refine below_drewN ?_ _ | with_reducible refine Below.drew ?_)
  · obtain ⟨j0, j1⟩ := (Bg.has_iff _ i).1 hh
    obtain ⟨k, rfl⟩ := Int.eq_ofNat_of_zero_le j0
    have hk : k < x.l.length := by have : (k : Int) < x.l.length := j1; omega
    have hv : Hid (x.bg.take k = ⟨max x.most 0, x.last, x.l.take k ++ x.l.drop (k + 1)⟩) := Lib.hid (by
      rw [Bg.take, if_pos hh, Int.toNat_natCast, List.eraseIdx_eq_take_drop_succ]; rfl)
    rw [hv.out]
    rw [hh] at HF
    obtain ⟨b, off, p, hA, hb, hp, e0, e1⟩ := it_at h.rd hk
    obtain ⟨xm, xl, xA, xc, ll⟩ := x
    simp only at hA hk hl
    subst hA
    have hc : ll.length ≤ xc := h.hc
    have hcm : xc ≤ maxLen := h.hm
    have hcm' : xc ≤ 9223372036854775807 := Nat.le_trans hcm (by decide)
    obtain ⟨n2, hn2⟩ : ∃ n2, n2 = ll.length - (k + 1) := ⟨_, rfl⟩
    have HLN : Hid ((ll.take k ++ ll.drop (k + 1)).length = k + n2) := Lib.hid (by rw [List.length_append, List.length_take, List.length_drop, hn2]; omega)
    have HN2 := Lib.hid hn2
    have hkl : (k : Int) < ll.length := by omega
    have hkc : (k : Int) ≤ xc := by omega
    have hw1 : IntKind.i64.wrap ((k : Int) + 1) = k + 1 := by rw [IntKind.wrap_i64]; omega
    have hk1 : (k : Int) + 1 ≤ ll.length := by omega
    have hk1c : (k : Int) + 1 ≤ xc := by omega
    clear h hh j1 hp j0 hv e0 e1 hn2
    by_cases hcn : xc = k + 1
    all_goals (
      have HCN := Lib.hid hcn
      clear hcn
      go_enter Try.func32, Try.ntmps32
      go_wp2_with (first | (go_at_call 34; refine (HF _).mono ?_; rintro e w' ⟨rfl, rfl⟩) | fail)
      obtain ⟨W5, hW5⟩ : ∃ W5, W5 = ((w.alloc (.cells #[.int .i64 xm, .int .i64 xl, .slice (some ⟨b, off, none⟩) ll.length xc] 45)).alloc (.cells #[.int .i64 0, .int .i64 0, .slice none 0 0] 45)).alloc (.cells #[.int .i64 xm, .int .i64 xl, .slice (some ⟨b, off, none⟩) ll.length xc] 45) := ⟨_, rfl⟩
      rw [← hW5]
      have HB0 : Hid (Blk W5 w.heap.size 45 (RB.cells ⟨xm, xl, some ⟨b, off, none⟩, xc, ll⟩)) := Lib.hid (by rw [hW5]; exact ((Blk.new w _ _).alloc _).alloc _)
      have HZ : Hid (Blk W5 (w.heap.size + 1) 45 #[.int .i64 0, .int .i64 0, .slice none 0 0]) := Lib.hid (by rw [hW5]; exact (blk_at6 _ _ _ _ (by simp)).alloc _)
      have HBW : Hid (Below w.heap.size w W5) := Lib.hid (by rw [hW5]; repeat (first | with_reducible exact Below.refl _ _ | with_reducible refine Below.setCell ?_ (by first | omega | (simp <;> omega)) _ | with_reducible refine Below.alloc ?_ (by first | omega | (simp <;> omega)) _ | with_reducible refine below_drewN ?_ _ | with_reducible refine Below.drew ?_))
      have HN := Lib.hid (H.out.below HBW.out)
      have HR1 : Hid (Reads W5 W5.heap.size 2 (some ⟨b, off, none⟩) k ((ll.take k).flatMap itc)) := Lib.hid (it_take HN.out.rd (by show k ≤ ll.length; omega))
      obtain ⟨d0, d1, d2⟩ := rb_cells HB0.out
      have l0 : w.heap.size < W5.heap.size := HB0.out.lt
      have l1 : w.heap.size + 1 < W5.heap.size := HZ.out.lt
      simp only [] at d0 d1 d2
      clear hW5
      obtain ⟨A2, HA2, HR2⟩ : ∃ A2, (A2 = if xc = k + 1 then some ⟨b, off, none⟩ else some ⟨b, off + (k + 1) * 2, none⟩) ∧ Hid (Reads W5 W5.heap.size 2 A2 n2 ((ll.drop (k + 1)).flatMap itc)) := by
        refine ⟨_, rfl, Lib.hid ?_⟩
        have := it_cut HN.out.rd (k := k + 1) (by show k + 1 ≤ ll.length; omega)
        have h2 := HN2.out
        split
        · have h0 : n2 = 0 := by omega
          have hd : ll.drop (k + 1) = [] := List.drop_eq_nil_of_le (by omega)
          rw [h0, hd]; exact Reads.none_z
        · rw [h2]; exact this
      have HA3 := Lib.hid HA2
      have hnk : k + n2 ≤ 1000000 := by have := HN2.out; omega
      clear HA2
      have hcn := HCN.out
      have hk0k : (k : Int) ≤ (k : Int) + 1 := by omega
      have h0k : (0 : Int) ≤ (k : Int) + 1 := by omega
      refine wp_region_held_drew (S := fun _ => True) (by kernel_rfl) trivial (fun hHeld => ?_)
      refine wpAnyH_take (i := 0) (oi := _) (v := ?_) rfl (by kernel_rfl) (by kernel_rfl) (by kernel_rfl) (fun _ _ _ h => h) (Or.inl ⟨by rfl, ?_⟩) (by assumption) ?_
      rotate_left 1
      · (intro wq hSw; (try dsimp only at hSw); go_simp; (try with_reducible rfl))
      try simp only [Act.put, List.setIfInBounds_toArray, List.set_cons_zero, List.set_cons_succ, List.getElem_toArray, List.getElem_cons_zero, List.getElem_cons_succ]
      refine wpAnyH_take (i := 2) (oi := _) (v := ?_) rfl (by kernel_rfl) (by kernel_rfl) (by kernel_rfl) (fun _ _ _ h => h) (Or.inl ⟨by rfl, ?_⟩) (by assumption) ?_
      rotate_left 1
      · (intro wq hSw; (try dsimp only at hSw); go_simp; (try with_reducible rfl))
      try simp only [Act.put, List.setIfInBounds_toArray, List.set_cons_zero, List.set_cons_succ, List.getElem_toArray, List.getElem_cons_zero, List.getElem_cons_succ]
      refine wpAnyH_take (i := 5) (oi := _) (v := ?_) rfl (by kernel_rfl) (by kernel_rfl) (by kernel_rfl) (fun _ _ _ h => h) (Or.inl ⟨by rfl, ?_⟩) (by assumption) ?_
      rotate_left 1
      · (intro wq hSw; (try dsimp only at hSw); go_simp; (try with_reducible rfl))
      try simp only [Act.put, List.setIfInBounds_toArray, List.set_cons_zero, List.set_cons_succ, List.getElem_toArray, List.getElem_cons_zero, List.getElem_cons_succ]
      refine wpAnyH_take (i := 7) (oi := _) (v := ?_) rfl (by kernel_rfl) (by kernel_rfl) (by kernel_rfl) (fun _ _ _ h => h) (Or.inl ⟨by rfl, ?_⟩) (by assumption) ?_
      rotate_left 1
      · (intro wq hSw; (try dsimp only at hSw); go_simp; (try with_reducible rfl))
      try simp only [Act.put, List.setIfInBounds_toArray, List.set_cons_zero, List.set_cons_succ, List.getElem_toArray, List.getElem_cons_zero, List.getElem_cons_succ]
      refine wpAnyH_take (i := 8) (oi := _) (v := ?_) rfl (by kernel_rfl) (by kernel_rfl) (by kernel_rfl) (fun _ _ _ h => h) (Or.inl ⟨by rfl, ?_⟩) (by assumption) ?_
      rotate_left 1
      · (intro wq hSw; (try dsimp only at hSw); go_simp; (try with_reducible rfl))
      try simp only [Act.put, List.setIfInBounds_toArray, List.set_cons_zero, List.set_cons_succ, List.getElem_toArray, List.getElem_cons_zero, List.getElem_cons_succ]
      refine wpAnyH_ready (rs := [1, 6]) (by kernel_rfl) (by simp) ?_
      refine AllReadyH.cons (o := _) rfl (fun K hK => ?_) ?_
      · go_simp
        refine hK.out _ _ trivial (fun hHeld => ?_)
        clear hK K
        try simp only [Act.put, List.setIfInBounds_toArray, List.set_cons_zero, List.set_cons_succ, List.getElem_toArray, List.getElem_cons_zero, List.getElem_cons_succ]
        refine wpAnyH_take (i := 3) (oi := _) (v := ?_) rfl (by kernel_rfl) (by kernel_rfl) (by kernel_rfl) (fun _ _ _ h => h) (Or.inl ⟨by rfl, ?_⟩) (by assumption) ?_
        rotate_left 1
        · (intro wq hSw; (try dsimp only at hSw); go_simp; (try with_reducible rfl))
        try simp only [Act.put, List.setIfInBounds_toArray, List.set_cons_zero, List.set_cons_succ, List.getElem_toArray, List.getElem_cons_zero, List.getElem_cons_succ]
        refine wpAnyH_ready (rs := [4, 6]) (by kernel_rfl) (by simp) ?_
        refine AllReadyH.cons (o := _) rfl (fun K hK => ?_) ?_
        · refine step_append_any _ rfl (.const (.slice none 0 0)) (.tmp 13) _ rfl W5.heap.size 63 i0 _ 2 16 Try.underlying43 hi hz0 hz1 hz2 rfl (by omega) (.slice none 0 0) 0 [] rfl (World.ownsRow_nil _ _ _ _) W5.heap.size _ k _ ((ll.take k).flatMap itc) rfl (HR1.out.drew) (flat_itc_one _) (by unfold maxLen; omega) (by omega) (by simp) ?_
          intro v8 w8 hown hg _
          simp only [Nat.zero_add, List.nil_append] at hown
          obtain ⟨A8, c8, rfl, _, _, _⟩ := own_slice hown
          have b8 : Below W5.heap.size W5 w8 := Below.grown (Below.refl W5.heap.size W5).drew hg (Nat.le_refl _) (fun k hk => by cases hk)
          have hs8 := b8.size
          have e2 := (b8.cell (p := ⟨w.heap.size, 2, none⟩) l0).trans d2
          refine hK.out _ _ trivial (fun hHeld => ?_)
          clear hK K
          try simp only [Act.put, List.setIfInBounds_toArray, List.set_cons_zero, List.set_cons_succ, List.getElem_toArray, List.getElem_cons_zero, List.getElem_cons_succ]
          refine wpAnyH_ready (rs := [6]) (by kernel_rfl) (by simp) ?_
          refine AllReadyH.cons (o := _) rfl (fun K hK => ?_) AllReadyH.nil
          go_simp
          refine hK.out _ _ trivial (fun hHeld => ?_)
          clear hK K
          try simp only [Act.put, List.setIfInBounds_toArray, List.set_cons_zero, List.set_cons_succ, List.getElem_toArray, List.getElem_cons_zero, List.getElem_cons_succ]
          refine wpAnyH_take (i := 9) (oi := _) (v := ?_) rfl (by kernel_rfl) (by kernel_rfl) (by kernel_rfl) (fun _ _ _ h => h) (Or.inl ⟨by rfl, ?_⟩) (by assumption) ?_
          rotate_left 1
          · (intro wq hSw; (try dsimp only at hSw); go_simp; (try with_reducible rfl))
          try simp only [Act.put, List.setIfInBounds_toArray, List.set_cons_zero, List.set_cons_succ, List.getElem_toArray, List.getElem_cons_zero, List.getElem_cons_succ]
          refine wpAnyH_ready (rs := [10]) (by kernel_rfl) (by simp) ?_
          refine AllReadyH.cons (o := _) rfl (fun K hK => ?_) AllReadyH.nil
          refine step_append_any _ rfl (.tmp 14) (.tmp 19) _ rfl W5.heap.size 63 i0 _ 2 16 Try.underlying43 hi hz0 hz1 hz2 rfl (by omega) (.slice A8 k c8) k ((ll.take k).flatMap itc) rfl hown W5.heap.size A2 n2 _ ((ll.drop (k + 1)).flatMap itc) (by rw [HA3.out, HN2.out]; first | rw [if_pos HCN.out]; rfl | rw [if_neg HCN.out]; rfl) (HR2.out.below b8) (flat_itc_one _) (by unfold maxLen; omega) (by omega) (by first | omega | (simp <;> omega)) ?_
          intro v9 w9 hown9 hg9 _
          have b9 : Below W5.heap.size W5 w9 := b8.grown hg9 (by first | omega | (simp <;> omega)) (fun k hk => (hown.lt k hk).1)
          obtain ⟨g0, g1, g2⟩ := rb_cells (HB0.out.below b9 l0)
          have gf := (HB0.out.below b9 l0).frozen 2
          have gl := (HB0.out.below b9 l0).lt
          obtain ⟨A9, c9, rfl, hr9, l9, m9⟩ := own_slice hown9
          simp only [] at g0 g1 g2
          refine hK.out _ _ trivial (fun hHeld => ?_)
          clear hK K
          try simp only [Act.put, List.setIfInBounds_toArray, List.set_cons_zero, List.set_cons_succ, List.getElem_toArray, List.getElem_cons_zero, List.getElem_cons_succ]
          refine wpAnyH_take (i := 11) (oi := _) (v := ?_) rfl (by kernel_rfl) (by kernel_rfl) (by kernel_rfl) (fun _ _ _ h => h) (Or.inl ⟨by rfl, ?_⟩) (by assumption) ?_
          rotate_left 1
          · (intro wq hSw; (try dsimp only at hSw); go_simp; (try with_reducible rfl))
          try simp only [Act.put, List.setIfInBounds_toArray, List.set_cons_zero, List.set_cons_succ, List.getElem_toArray, List.getElem_cons_zero, List.getElem_cons_succ]
          refine wpAnyH_ready (rs := [12]) (by kernel_rfl) (by simp) ?_
          refine AllReadyH.cons (o := _) rfl (fun K hK => ?_) AllReadyH.nil
          go_simp
          refine hK.out _ _ trivial (fun hHeld => ?_)
          clear hK K
          try simp only [Act.put, List.setIfInBounds_toArray, List.set_cons_zero, List.set_cons_succ, List.getElem_toArray, List.getElem_cons_zero, List.getElem_cons_succ]
          refine wpAnyH_done (by kernel_rfl) ?_ _
          have q9 : Blk (w9.setCell ⟨w.heap.size, 2, none⟩ (.slice A9 (k + n2) c9)) w.heap.size 45 #[.int .i64 xm, .int .i64 xl, .slice A9 (k + n2) c9] := (HB0.out.below b9 l0).set_ 2 _
          have z9 : Blk (w9.setCell ⟨w.heap.size, 2, none⟩ (.slice A9 (k + n2) c9)) (w.heap.size + 1) 45 #[.int .i64 0, .int .i64 0, .slice none 0 0] := (HZ.out.below b9 l1).far (by simp) _
          have p0 := q9.cell 0
          have p1 := q9.cell 1
          have p2 := q9.cell 2
          have p3 := z9.cell 0
          have p4 := z9.cell 1
          have p5 := z9.cell 2
          have p6 := z9.frozen 0
          have p7 := z9.frozen 1
          have p8 := z9.frozen 2
          have p9 := z9.lt
          simp only [List.getElem?_toArray, List.getElem?_cons_succ, List.getElem?_cons_zero] at p0 p1 p2 p3 p4 p5
          have hfin : Below w.heap.size w (w9.setCell ⟨w.heap.size, 2, none⟩ (.slice A9 (k + n2) c9)) := (HBW.out.trans (b9.mono HBW.out.size)).setCell (by simp) _
          have hown' := own_far hown9 (p := ⟨w.heap.size, 2, none⟩) l0 (.slice A9 (k + n2) c9)
          clear g0 g1 g2 gf gl b9 b8 hown9 hown hg hg9 hr9 q9 z9 d0 d1 d2 e2
          generalize w9.setCell ⟨w.heap.size, 2, none⟩ (.slice A9 (k + n2) c9) = W6 at *
          go_wp2_with (fail)
          refine bodyPost_ret (v := .agg #[.int .i64 xm, .int .i64 xl, .slice A9 (k + n2) c9]) (by simp [results, Try.results32, go_sem, p3, p4, p5, p9]) rfl ⟨⟨xm, xl, A9, c9, ll.take k ++ ll.drop (k + 1)⟩, by simp only [RB.agg]; rw [HLN.out], rfl, ⟨?_, by show (ll.take k ++ ll.drop (k + 1)).length ≤ c9; rw [HLN.out]; exact l9, m9⟩, ?_, .inr (fun ad e => by have := (hown'.lt ad.block (by show (Value.slice A9 (k + n2) c9).ownBlock = _; rw [show A9 = some ad from e]; rfl)).1; omega)⟩
          · show Reads _ _ 2 A9 (ll.take k ++ ll.drop (k + 1)).length ((ll.take k ++ ll.drop (k + 1)).flatMap itc)
            rw [HLN.out, List.flatMap_append]
            refine own_reads2 (base := W5.heap.size) (t := 63) (c := c9) ?_
            repeat (first | with_reducible exact hown' | with_reducible refine own_far ?_ (by first | omega | (simp; omega)) _ | with_reducible refine own_drewN ?_ _ | with_reducible refine own_drew ?_)
          · exact hfin.trans (by repeat (first | with_reducible exact Below.refl _ _ | with_reducible refine Below.setCell ?_ (by first | omega | (simp <;> omega)) _ | with_reducible refine Below.alloc ?_ (by first | omega | (simp <;> omega)) _ | with_reducible refine below_drewN ?_ _ | with_reducible refine Below.drew ?_))
        refine AllReadyH.cons (o := _) rfl (fun K hK => ?_) AllReadyH.nil
        go_simp
        refine hK.out _ _ trivial (fun hHeld => ?_)
        clear hK K
        try simp only [Act.put, List.setIfInBounds_toArray, List.set_cons_zero, List.set_cons_succ, List.getElem_toArray, List.getElem_cons_zero, List.getElem_cons_succ]
        refine wpAnyH_take (i := 9) (oi := _) (v := ?_) rfl (by kernel_rfl) (by kernel_rfl) (by kernel_rfl) (fun _ _ _ h => h) (Or.inl ⟨by rfl, ?_⟩) (by assumption) ?_
        rotate_left 1
        · (intro wq hSw; (try dsimp only at hSw); go_simp; (try with_reducible rfl))
        try simp only [Act.put, List.setIfInBounds_toArray, List.set_cons_zero, List.set_cons_succ, List.getElem_toArray, List.getElem_cons_zero, List.getElem_cons_succ]
        refine wpAnyH_ready (rs := [4]) (by kernel_rfl) (by simp) ?_
        refine AllReadyH.cons (o := _) rfl (fun K hK => ?_) AllReadyH.nil
        refine step_append_any _ rfl (.const (.slice none 0 0)) (.tmp 13) _ rfl W5.heap.size 63 i0 _ 2 16 Try.underlying43 hi hz0 hz1 hz2 rfl (by omega) (.slice none 0 0) 0 [] rfl (World.ownsRow_nil _ _ _ _) W5.heap.size _ k _ ((ll.take k).flatMap itc) rfl (HR1.out.drew) (flat_itc_one _) (by unfold maxLen; omega) (by omega) (by simp) ?_
        intro v8 w8 hown hg _
        simp only [Nat.zero_add, List.nil_append] at hown
        obtain ⟨A8, c8, rfl, _, _, _⟩ := own_slice hown
        have b8 : Below W5.heap.size W5 w8 := Below.grown (Below.refl W5.heap.size W5).drew hg (Nat.le_refl _) (fun k hk => by cases hk)
        have hs8 := b8.size
        have e2 := (b8.cell (p := ⟨w.heap.size, 2, none⟩) l0).trans d2
        refine hK.out _ _ trivial (fun hHeld => ?_)
        clear hK K
        try simp only [Act.put, List.setIfInBounds_toArray, List.set_cons_zero, List.set_cons_succ, List.getElem_toArray, List.getElem_cons_zero, List.getElem_cons_succ]
        refine wpAnyH_ready (rs := [10]) (by kernel_rfl) (by simp) ?_
        refine AllReadyH.cons (o := _) rfl (fun K hK => ?_) AllReadyH.nil
        refine step_append_any _ rfl (.tmp 14) (.tmp 19) _ rfl W5.heap.size 63 i0 _ 2 16 Try.underlying43 hi hz0 hz1 hz2 rfl (by omega) (.slice A8 k c8) k ((ll.take k).flatMap itc) rfl hown W5.heap.size A2 n2 _ ((ll.drop (k + 1)).flatMap itc) (by rw [HA3.out, HN2.out]; first | rw [if_pos HCN.out]; rfl | rw [if_neg HCN.out]; rfl) (HR2.out.below b8) (flat_itc_one _) (by unfold maxLen; omega) (by omega) (by first | omega | (simp <;> omega)) ?_
        intro v9 w9 hown9 hg9 _
        have b9 : Below W5.heap.size W5 w9 := b8.grown hg9 (by first | omega | (simp <;> omega)) (fun k hk => (hown.lt k hk).1)
        obtain ⟨g0, g1, g2⟩ := rb_cells (HB0.out.below b9 l0)
        have gf := (HB0.out.below b9 l0).frozen 2
        have gl := (HB0.out.below b9 l0).lt
        obtain ⟨A9, c9, rfl, hr9, l9, m9⟩ := own_slice hown9
        simp only [] at g0 g1 g2
        refine hK.out _ _ trivial (fun hHeld => ?_)
        clear hK K
        try simp only [Act.put, List.setIfInBounds_toArray, List.set_cons_zero, List.set_cons_succ, List.getElem_toArray, List.getElem_cons_zero, List.getElem_cons_succ]
        refine wpAnyH_take (i := 11) (oi := _) (v := ?_) rfl (by kernel_rfl) (by kernel_rfl) (by kernel_rfl) (fun _ _ _ h => h) (Or.inl ⟨by rfl, ?_⟩) (by assumption) ?_
        rotate_left 1
        · (intro wq hSw; (try dsimp only at hSw); go_simp; (try with_reducible rfl))
        try simp only [Act.put, List.setIfInBounds_toArray, List.set_cons_zero, List.set_cons_succ, List.getElem_toArray, List.getElem_cons_zero, List.getElem_cons_succ]
        refine wpAnyH_ready (rs := [12]) (by kernel_rfl) (by simp) ?_
        refine AllReadyH.cons (o := _) rfl (fun K hK => ?_) AllReadyH.nil
        go_simp
        refine hK.out _ _ trivial (fun hHeld => ?_)
        clear hK K
        try simp only [Act.put, List.setIfInBounds_toArray, List.set_cons_zero, List.set_cons_succ, List.getElem_toArray, List.getElem_cons_zero, List.getElem_cons_succ]
        refine wpAnyH_done (by kernel_rfl) ?_ _
        have q9 : Blk (w9.setCell ⟨w.heap.size, 2, none⟩ (.slice A9 (k + n2) c9)) w.heap.size 45 #[.int .i64 xm, .int .i64 xl, .slice A9 (k + n2) c9] := (HB0.out.below b9 l0).set_ 2 _
        have z9 : Blk (w9.setCell ⟨w.heap.size, 2, none⟩ (.slice A9 (k + n2) c9)) (w.heap.size + 1) 45 #[.int .i64 0, .int .i64 0, .slice none 0 0] := (HZ.out.below b9 l1).far (by simp) _
        have p0 := q9.cell 0
        have p1 := q9.cell 1
        have p2 := q9.cell 2
        have p3 := z9.cell 0
        have p4 := z9.cell 1
        have p5 := z9.cell 2
        have p6 := z9.frozen 0
        have p7 := z9.frozen 1
        have p8 := z9.frozen 2
        have p9 := z9.lt
        simp only [List.getElem?_toArray, List.getElem?_cons_succ, List.getElem?_cons_zero] at p0 p1 p2 p3 p4 p5
        have hfin : Below w.heap.size w (w9.setCell ⟨w.heap.size, 2, none⟩ (.slice A9 (k + n2) c9)) := (HBW.out.trans (b9.mono HBW.out.size)).setCell (by simp) _
        have hown' := own_far hown9 (p := ⟨w.heap.size, 2, none⟩) l0 (.slice A9 (k + n2) c9)
        clear g0 g1 g2 gf gl b9 b8 hown9 hown hg hg9 hr9 q9 z9 d0 d1 d2 e2
        generalize w9.setCell ⟨w.heap.size, 2, none⟩ (.slice A9 (k + n2) c9) = W6 at *
        go_wp2_with (fail)
        refine bodyPost_ret (v := .agg #[.int .i64 xm, .int .i64 xl, .slice A9 (k + n2) c9]) (by simp [results, Try.results32, go_sem, p3, p4, p5, p9]) rfl ⟨⟨xm, xl, A9, c9, ll.take k ++ ll.drop (k + 1)⟩, by simp only [RB.agg]; rw [HLN.out], rfl, ⟨?_, by show (ll.take k ++ ll.drop (k + 1)).length ≤ c9; rw [HLN.out]; exact l9, m9⟩, ?_, .inr (fun ad e => by have := (hown'.lt ad.block (by show (Value.slice A9 (k + n2) c9).ownBlock = _; rw [show A9 = some ad from e]; rfl)).1; omega)⟩
        · show Reads _ _ 2 A9 (ll.take k ++ ll.drop (k + 1)).length ((ll.take k ++ ll.drop (k + 1)).flatMap itc)
          rw [HLN.out, List.flatMap_append]
          refine own_reads2 (base := W5.heap.size) (t := 63) (c := c9) ?_
          repeat (first | with_reducible exact hown' | with_reducible refine own_far ?_ (by first | omega | (simp; omega)) _ | with_reducible refine own_drewN ?_ _ | with_reducible refine own_drew ?_)
        · exact hfin.trans (by repeat (first | with_reducible exact Below.refl _ _ | with_reducible refine Below.setCell ?_ (by first | omega | (simp <;> omega)) _ | with_reducible refine Below.alloc ?_ (by first | omega | (simp <;> omega)) _ | with_reducible refine below_drewN ?_ _ | with_reducible refine Below.drew ?_))
      refine AllReadyH.cons (o := _) rfl (fun K hK => ?_) AllReadyH.nil
      go_simp
      refine hK.out _ _ trivial (fun hHeld => ?_)
      clear hK K
      try simp only [Act.put, List.setIfInBounds_toArray, List.set_cons_zero, List.set_cons_succ, List.getElem_toArray, List.getElem_cons_zero, List.getElem_cons_succ]
      refine wpAnyH_take (i := 9) (oi := _) (v := ?_) rfl (by kernel_rfl) (by kernel_rfl) (by kernel_rfl) (fun _ _ _ h => h) (Or.inl ⟨by rfl, ?_⟩) (by assumption) ?_
      rotate_left 1
      · (intro wq hSw; (try dsimp only at hSw); go_simp; (try with_reducible rfl))
      try simp only [Act.put, List.setIfInBounds_toArray, List.set_cons_zero, List.set_cons_succ, List.getElem_toArray, List.getElem_cons_zero, List.getElem_cons_succ]
      refine wpAnyH_ready (rs := [1]) (by kernel_rfl) (by simp) ?_
      refine AllReadyH.cons (o := _) rfl (fun K hK => ?_) AllReadyH.nil
      go_simp
      refine hK.out _ _ trivial (fun hHeld => ?_)
      clear hK K
      try simp only [Act.put, List.setIfInBounds_toArray, List.set_cons_zero, List.set_cons_succ, List.getElem_toArray, List.getElem_cons_zero, List.getElem_cons_succ]
      refine wpAnyH_take (i := 3) (oi := _) (v := ?_) rfl (by kernel_rfl) (by kernel_rfl) (by kernel_rfl) (fun _ _ _ h => h) (Or.inl ⟨by rfl, ?_⟩) (by assumption) ?_
      rotate_left 1
      · (intro wq hSw; (try dsimp only at hSw); go_simp; (try with_reducible rfl))
      try simp only [Act.put, List.setIfInBounds_toArray, List.set_cons_zero, List.set_cons_succ, List.getElem_toArray, List.getElem_cons_zero, List.getElem_cons_succ]
      refine wpAnyH_ready (rs := [4]) (by kernel_rfl) (by simp) ?_
      refine AllReadyH.cons (o := _) rfl (fun K hK => ?_) AllReadyH.nil
      refine step_append_any _ rfl (.const (.slice none 0 0)) (.tmp 13) _ rfl W5.heap.size 63 i0 _ 2 16 Try.underlying43 hi hz0 hz1 hz2 rfl (by omega) (.slice none 0 0) 0 [] rfl (World.ownsRow_nil _ _ _ _) W5.heap.size _ k _ ((ll.take k).flatMap itc) rfl (HR1.out.drew) (flat_itc_one _) (by unfold maxLen; omega) (by omega) (by simp) ?_
      intro v8 w8 hown hg _
      simp only [Nat.zero_add, List.nil_append] at hown
      obtain ⟨A8, c8, rfl, _, _, _⟩ := own_slice hown
      have b8 : Below W5.heap.size W5 w8 := Below.grown (Below.refl W5.heap.size W5).drew hg (Nat.le_refl _) (fun k hk => by cases hk)
      have hs8 := b8.size
      have e2 := (b8.cell (p := ⟨w.heap.size, 2, none⟩) l0).trans d2
      refine hK.out _ _ trivial (fun hHeld => ?_)
      clear hK K
      try simp only [Act.put, List.setIfInBounds_toArray, List.set_cons_zero, List.set_cons_succ, List.getElem_toArray, List.getElem_cons_zero, List.getElem_cons_succ]
      refine wpAnyH_ready (rs := [10]) (by kernel_rfl) (by simp) ?_
      refine AllReadyH.cons (o := _) rfl (fun K hK => ?_) AllReadyH.nil
      refine step_append_any _ rfl (.tmp 14) (.tmp 19) _ rfl W5.heap.size 63 i0 _ 2 16 Try.underlying43 hi hz0 hz1 hz2 rfl (by omega) (.slice A8 k c8) k ((ll.take k).flatMap itc) rfl hown W5.heap.size A2 n2 _ ((ll.drop (k + 1)).flatMap itc) (by rw [HA3.out, HN2.out]; first | rw [if_pos HCN.out]; rfl | rw [if_neg HCN.out]; rfl) (HR2.out.below b8) (flat_itc_one _) (by unfold maxLen; omega) (by omega) (by first | omega | (simp <;> omega)) ?_
      intro v9 w9 hown9 hg9 _
      have b9 : Below W5.heap.size W5 w9 := b8.grown hg9 (by first | omega | (simp <;> omega)) (fun k hk => (hown.lt k hk).1)
      obtain ⟨g0, g1, g2⟩ := rb_cells (HB0.out.below b9 l0)
      have gf := (HB0.out.below b9 l0).frozen 2
      have gl := (HB0.out.below b9 l0).lt
      obtain ⟨A9, c9, rfl, hr9, l9, m9⟩ := own_slice hown9
      simp only [] at g0 g1 g2
      refine hK.out _ _ trivial (fun hHeld => ?_)
      clear hK K
      try simp only [Act.put, List.setIfInBounds_toArray, List.set_cons_zero, List.set_cons_succ, List.getElem_toArray, List.getElem_cons_zero, List.getElem_cons_succ]
      refine wpAnyH_take (i := 11) (oi := _) (v := ?_) rfl (by kernel_rfl) (by kernel_rfl) (by kernel_rfl) (fun _ _ _ h => h) (Or.inl ⟨by rfl, ?_⟩) (by assumption) ?_
      rotate_left 1
      · (intro wq hSw; (try dsimp only at hSw); go_simp; (try with_reducible rfl))
      try simp only [Act.put, List.setIfInBounds_toArray, List.set_cons_zero, List.set_cons_succ, List.getElem_toArray, List.getElem_cons_zero, List.getElem_cons_succ]
      refine wpAnyH_ready (rs := [12]) (by kernel_rfl) (by simp) ?_
      refine AllReadyH.cons (o := _) rfl (fun K hK => ?_) AllReadyH.nil
      go_simp
      refine hK.out _ _ trivial (fun hHeld => ?_)
      clear hK K
      try simp only [Act.put, List.setIfInBounds_toArray, List.set_cons_zero, List.set_cons_succ, List.getElem_toArray, List.getElem_cons_zero, List.getElem_cons_succ]
      refine wpAnyH_done (by kernel_rfl) ?_ _
      have q9 : Blk (w9.setCell ⟨w.heap.size, 2, none⟩ (.slice A9 (k + n2) c9)) w.heap.size 45 #[.int .i64 xm, .int .i64 xl, .slice A9 (k + n2) c9] := (HB0.out.below b9 l0).set_ 2 _
      have z9 : Blk (w9.setCell ⟨w.heap.size, 2, none⟩ (.slice A9 (k + n2) c9)) (w.heap.size + 1) 45 #[.int .i64 0, .int .i64 0, .slice none 0 0] := (HZ.out.below b9 l1).far (by simp) _
      have p0 := q9.cell 0
      have p1 := q9.cell 1
      have p2 := q9.cell 2
      have p3 := z9.cell 0
      have p4 := z9.cell 1
      have p5 := z9.cell 2
      have p6 := z9.frozen 0
      have p7 := z9.frozen 1
      have p8 := z9.frozen 2
      have p9 := z9.lt
      simp only [List.getElem?_toArray, List.getElem?_cons_succ, List.getElem?_cons_zero] at p0 p1 p2 p3 p4 p5
      have hfin : Below w.heap.size w (w9.setCell ⟨w.heap.size, 2, none⟩ (.slice A9 (k + n2) c9)) := (HBW.out.trans (b9.mono HBW.out.size)).setCell (by simp) _
      have hown' := own_far hown9 (p := ⟨w.heap.size, 2, none⟩) l0 (.slice A9 (k + n2) c9)
      clear g0 g1 g2 gf gl b9 b8 hown9 hown hg hg9 hr9 q9 z9 d0 d1 d2 e2
      generalize w9.setCell ⟨w.heap.size, 2, none⟩ (.slice A9 (k + n2) c9) = W6 at *
      go_wp2_with (fail)
      refine bodyPost_ret (v := .agg #[.int .i64 xm, .int .i64 xl, .slice A9 (k + n2) c9]) (by simp [results, Try.results32, go_sem, p3, p4, p5, p9]) rfl ⟨⟨xm, xl, A9, c9, ll.take k ++ ll.drop (k + 1)⟩, by simp only [RB.agg]; rw [HLN.out], rfl, ⟨?_, by show (ll.take k ++ ll.drop (k + 1)).length ≤ c9; rw [HLN.out]; exact l9, m9⟩, ?_, .inr (fun ad e => by have := (hown'.lt ad.block (by show (Value.slice A9 (k + n2) c9).ownBlock = _; rw [show A9 = some ad from e]; rfl)).1; omega)⟩
      · show Reads _ _ 2 A9 (ll.take k ++ ll.drop (k + 1)).length ((ll.take k ++ ll.drop (k + 1)).flatMap itc)
        rw [HLN.out, List.flatMap_append]
        refine own_reads2 (base := W5.heap.size) (t := 63) (c := c9) ?_
        repeat (first | with_reducible exact hown' | with_reducible refine own_far ?_ (by first | omega | (simp; omega)) _ | with_reducible refine own_drewN ?_ _ | with_reducible refine own_drew ?_)
      · exact hfin.trans (by repeat (first | with_reducible exact Below.refl _ _ | with_reducible refine Below.setCell ?_ (by first | omega | (simp <;> omega)) _ | with_reducible refine Below.alloc ?_ (by first | omega | (simp <;> omega)) _ | with_reducible refine below_drewN ?_ _ | with_reducible refine Below.drew ?_)))
end Go.Proofs.Ytpkmbnmlepmceaa
