/- The reference's bag: Twice. -/
import Derived.Test.YtpkmbnmlepmceaaBagM


namespace Go.Proofs.Ytpkmbnmlepmceaa
open Go.RowKit
set_option linter.unusedSimpArgs false
set_option linter.unusedVariables false
set_option maxHeartbeats 4000000
set_option maxRecDepth 100000
attribute [local go_sem] RB.agg RB.cells RB.zero

theorem below_step6 {w W w' : World} (h' : Below W.heap.size W w') (hb : Below w.heap.size w W) : Below w.heap.size w w' := hb.trans (h'.mono hb.size)
theorem refTwice_any (x : RB) (i : Int) (w : World) (h : RBn w x) (hl : x.l.length ≤ 1000000) (h0 : 0 ≤ x.last) (h1 : x.last ≤ 1000000) :
    Calls Try.prog 30 #[x.agg, .int .i64 i] w (RPut x w (x.bg.twice i) (x.bg.twiceN i) (x.bg.twiceE i)) := by
  have H := Lib.hid h
  have HF := fun w => refHas_any x i w
  cases hh : x.bg.has i
  · have hv : Hid (x.bg.twice i = x.bg ∧ x.bg.twiceN i = 0 ∧ x.bg.twiceE i = 7) := Lib.hid (by simp [Bg.twice, Bg.twiceN, Bg.twiceE, hh])
    rw [hv.out.1, hv.out.2.1, hv.out.2.2]
    rw [hh] at HF
    clear h hh
    go_enter Try.func30, Try.ntmps30
    go_wp2_with (first | (go_at_call 34; refine (HF _).mono ?_; rintro e w' ⟨rfl, rfl⟩) | fail)
    refine bodyPost_ret (v := .tuple #[x.agg, .int .i64 0, .int .i64 7]) (by simp [results, Try.results30, go_sem]) rfl ⟨x, rfl, rfl, H.out.below ?_, ?_, .inl rfl⟩
    · repeat (first | with_reducible exact Below.refl _ _ | with_reducible refine Below.setCell ?_ (by first | omega | (simp <;> omega)) _ | with_reducible refine Below.alloc ?_ (by first | omega | (simp <;> omega)) _ | with_reducible refine below_drewN ?_ _ | with_reducible refine Below.drew ?_)
    · repeat (first | with_reducible exact Below.refl _ _ | with_reducible refine Below.setCell ?_ (by first | omega | (simp <;> omega)) _ | with_reducible refine Below.alloc ?_ (by first | omega | (simp <;> omega)) _ | with_reducible refine below_drewN ?_ _ | with_reducible refine Below.drew ?_)
  · obtain ⟨i0, i1⟩ := (Bg.has_iff _ i).1 hh
    obtain ⟨k, rfl⟩ := Int.eq_ofNat_of_zero_le i0
    have hk : k < x.l.length := by have : (k : Int) < x.l.length := i1; omega
    obtain ⟨b, off, p, hA, hb, hp, e0, e1⟩ := it_at h.rd hk
    have hv : Hid (x.bg.twice k = x.bg.put p.2 ∧ x.bg.twiceN k = x.bg.putN ∧ x.bg.twiceE k = x.bg.putE) := Lib.hid (by
      have : x.bg.l.getD k (0, 0) = p := by rw [List.getD_eq_getElem?_getD]; show (x.l)[k]?.getD (0, 0) = p; rw [hp]; rfl
      simp only [Bg.twice, Bg.twiceN, Bg.twiceE, hh, if_true, Int.toNat_natCast, this, and_self])
    rw [hv.out.1, hv.out.2.1, hv.out.2.2]
    rw [hh] at HF
    have RP := fun w hx => refPut_any x p.2 w hx hl h0 h1
    have RP' := Lib.hid RP
    obtain ⟨xm, xl, xA, xc, ll⟩ := x
    simp only at hA hk
    subst hA
    have hkl : (k : Int) < ll.length := by omega
    have hb1 : b < w.heap.size + 1 := by omega
    have hb2 : b < w.heap.size + 1 + 1 := by omega
    clear h hh i1 hp i0 RP hv hl h0 h1
    go_enter Try.func30, Try.ntmps30
    go_wp2_with (first | (go_at_call 34; refine (HF _).mono ?_; rintro e w' ⟨rfl, rfl⟩) | fail)
    obtain ⟨W5, hW5⟩ : ∃ W5, W5 = ((w.alloc (.cells #[.int .i64 xm, .int .i64 xl, .slice (some ⟨b, off, none⟩) ll.length xc] 45)).alloc (.cells #[.int .i64 0, .int .i64 0, .slice none 0 0] 45)).alloc (.cells #[.int .i64 xm, .int .i64 xl, .slice (some ⟨b, off, none⟩) ll.length xc] 45) := ⟨_, rfl⟩
    rw [← hW5]
    have HB0 : Hid (Blk W5 w.heap.size 45 (RB.cells ⟨xm, xl, some ⟨b, off, none⟩, xc, ll⟩)) := Lib.hid (by rw [hW5]; exact ((Blk.new w _ _).alloc _).alloc _)
    have HZ : Hid (Blk W5 (w.heap.size + 1) 45 (RB.cells ⟨0, 0, none, 0, []⟩)) := Lib.hid (by rw [hW5]; exact (blk_at6 _ _ _ _ (by simp)).alloc _)
    have HBW : Hid (Below w.heap.size w W5) := Lib.hid (by rw [hW5]; repeat (first | with_reducible exact Below.refl _ _ | with_reducible refine Below.setCell ?_ (by first | omega | (simp <;> omega)) _ | with_reducible refine Below.alloc ?_ (by first | omega | (simp <;> omega)) _ | with_reducible refine below_drewN ?_ _ | with_reducible refine Below.drew ?_))
    have HN := Lib.hid (H.out.below HBW.out)
    have E1 := Lib.hid ((HBW.out.cell (p := ⟨b, off + k * 2 + 1, none⟩) hb).trans e1)
    have v1 := E1.out
    obtain ⟨d0, d1, d2⟩ := rb_cells HB0.out
    obtain ⟨z0, z1, z2⟩ := rb_cells HZ.out
    have f0 := HZ.out.frozen 0
    have f1 := HZ.out.frozen 1
    have f2 := HZ.out.frozen 2
    have l0 : w.heap.size < W5.heap.size := HB0.out.lt
    have l1 : w.heap.size + 1 < W5.heap.size := HZ.out.lt
    have l2 : b < W5.heap.size := by omega
    have hb : Below W5.heap.size W5 W5 := Below.refl _ _
    simp only [List.length_nil] at d0 d1 d2 z0 z1 z2
    have hne1 : w.heap.size + 1 ≠ b := by omega
    have hne2 : b ≠ w.heap.size + 1 := by omega
    have hsw : w.heap.size ≤ W5.heap.size := HBW.out.size
    clear hW5 e0 e1 hb1 hb2 HF H
    go_region_held3 (fun w' => w'.cell? ⟨w.heap.size, 0, none⟩ = some (.int .i64 xm) ∧ w'.cell? ⟨w.heap.size, 1, none⟩ = some (.int .i64 xl) ∧ w'.cell? ⟨w.heap.size, 2, none⟩ = some (.slice (some ⟨b, off, none⟩) ll.length xc) ∧ w'.cell? ⟨b, off + k * 2 + 1, none⟩ = some (.int .i64 p.2)) (go_keep) (first
      | (go_at_call 29; refine (RP'.out _ ?_).mono ?_; (· refine HN.out.below ?_; repeat (first | with_reducible exact hb | with_reducible refine Below.alloc ?_ (by first | omega | (simp <;> omega)) _ | with_reducible refine below_drewN ?_ _ | with_reducible refine Below.drew ?_)); rintro e w6 ⟨y, rfl, hy, hyn, hb6, hna⟩; have HNA := Lib.hid hna; have HY := Lib.hid hy; have HYN := Lib.hid hyn; replace hb := below_step6 (w := W5) hb6 (by repeat (first | with_reducible exact hb | with_reducible refine Below.alloc ?_ (by first | omega | (simp <;> omega)) _ | with_reducible refine below_drewN ?_ _ | with_reducible refine Below.drew ?_)); obtain ⟨d0, d1, d2⟩ := rb_cells (HB0.out.below hb l0); obtain ⟨z0, z1, z2⟩ := rb_cells (HZ.out.below hb l1); have f0 := (HZ.out.below hb l1).frozen 0; have f1 := (HZ.out.below hb l1).frozen 1; have f2 := (HZ.out.below hb l1).frozen 2; have v1 := (hb.cell (p := ⟨b, off + k * 2 + 1, none⟩) l2).trans E1.out; have l3 := (HZ.out.below hb l1).lt; simp only [List.length_nil] at d0 d1 d2 z0 z1 z2; clear hy hyn hb6 hna))
    go_wp2_with (fail)
    refine bodyPost_ret (v := .tuple #[y.agg, .int .i64 (RB.bg ⟨xm, xl, some ⟨b, off, none⟩, xc, ll⟩).putN, .int .i64 (RB.bg ⟨xm, xl, some ⟨b, off, none⟩, xc, ll⟩).putE]) (by simp [results, Try.results30, go_sem, z0, z1, z2, l3]) rfl ⟨y, rfl, HY.out, ?_, ?_, ?_⟩
    · have hfar : ∀ ad, y.A = some ad → ad.block ≠ w.heap.size + 1 := fun ad e => by
        rcases HNA.out with h | h
        · rw [h] at e; simp only at e; injection e with e; rw [← e]; show b ≠ _; omega
        · have := h ad e; simp at this; omega
      exact ((HYN.out.far (p := ⟨w.heap.size + 1, 0, none⟩) hfar _).far (p := ⟨w.heap.size + 1, 1, none⟩) hfar _).far (p := ⟨w.heap.size + 1, 2, none⟩) hfar _
    · exact HBW.out.trans (Below.trans (hb.mono (by omega)) (by repeat (first | with_reducible exact Below.refl _ _ | with_reducible refine Below.setCell ?_ (by first | omega | (simp <;> omega)) _ | with_reducible refine Below.alloc ?_ (by first | omega | (simp <;> omega)) _ | with_reducible refine below_drewN ?_ _ | with_reducible refine Below.drew ?_)))
    · rcases HNA.out with h | h
      · exact .inl h
      · exact .inr (fun ad e => by have := h ad e; simp at this; omega)
end Go.Proofs.Ytpkmbnmlepmceaa
