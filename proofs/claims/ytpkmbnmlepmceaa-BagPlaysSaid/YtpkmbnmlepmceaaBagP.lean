/- The reference's bag: Set, Odd. -/
import Derived.Test.YtpkmbnmlepmceaaBagO
import Derived.Test.YtpkmbnmlepmceaaBagH


namespace Go.Proofs.Ytpkmbnmlepmceaa
open Go.RowKit
set_option linter.unusedSimpArgs false
set_option linter.unusedVariables false
set_option maxHeartbeats 4000000
set_option maxRecDepth 100000
attribute [local go_sem] RB.agg RB.cells RB.zero

theorem refSet_any (x : RB) (i v : Int) (w : World) (h : RBn w x) (hl : x.l.length ≤ 1000000) :
    Calls Try.prog 33 #[x.agg, .int .i64 i, .int .i64 v] w (RTk x w (x.bg.set i v)) := by
  obtain ⟨i0, hi, hz0, hz1, hz2⟩ := info_parts ritInfo
  have H := Lib.hid h
  have HF := fun w => refHas_any x i w
  cases hh : x.bg.has i
  · have hv : Hid (x.bg.set i v = x.bg) := Lib.hid (by rw [Bg.set, hh]; rfl)
    rw [hv.out]
    rw [hh] at HF
    clear h hh
    go_enter Try.func33, Try.ntmps33
    go_wp2_with (first | (go_at_call 34; refine (HF _).mono ?_; rintro e w' ⟨rfl, rfl⟩) | fail)
    refine bodyPost_ret (v := x.agg) (by simp [results, Try.results33, go_sem]) rfl ⟨x, rfl, rfl, H.out.below ?_, ?_, .inl rfl⟩
    · repeat (first | with_reducible exact Below.refl _ _ | with_reducible refine Below.setCell ?_ (by first | omega | (simp <;> omega)) _ | with_reducible refine Below.alloc ?_ (by first | omega | (simp <;> omega)) _ | with_reducible refine below_drewN ?_ _ | with_reducible refine Below.drew ?_)
    · repeat (first | with_reducible exact Below.refl _ _ | with_reducible refine Below.setCell ?_ (by first | omega | (simp <;> omega)) _ | with_reducible refine Below.alloc ?_ (by first | omega | (simp <;> omega)) _ | with_reducible refine below_drewN ?_ _ | with_reducible refine Below.drew ?_)
  · obtain ⟨j0, j1⟩ := (Bg.has_iff _ i).1 hh
    obtain ⟨k, rfl⟩ := Int.eq_ofNat_of_zero_le j0
    have hk : k < x.l.length := by have : (k : Int) < x.l.length := j1; omega
    obtain ⟨xm, xl, xA, xc, ll⟩ := x
    simp only at hk hl
    have hv : Hid ((RB.bg ⟨xm, xl, xA, xc, ll⟩).set k v = ⟨max xm 0, xl, ll.set k ((ll.getD k (0, 0)).1, v)⟩) := Lib.hid (by rw [Bg.set, if_pos hh, Int.toNat_natCast]; rfl)
    rw [hv.out]
    obtain ⟨fl, hfl⟩ : ∃ fl, fl = ll.set k ((ll.getD k (0, 0)).1, v) := ⟨_, rfl⟩
    have hfll : Hid (fl.length = ll.length) := Lib.hid (by rw [hfl, List.length_set])
    have HSET : Hid (fl.flatMap itc = (ll.flatMap itc).set (k * 2 + 1) (.int .i64 v)) := Lib.hid (by rw [hfl]; exact set_row ll k v hk)
    rw [← hfl]
    clear hfl
    rw [hh] at HF
    have hkl : (k : Int) < ll.length := by omega
    have HF' := Lib.hid HF
    clear h hh j1 j0 hv HF
    go_enter Try.func33, Try.ntmps33
    go_wp2_with (fail)
    refine (HF'.out _).mono ?_
    rintro e w' ⟨rfl, rfl⟩
    obtain ⟨W5, hW5⟩ : ∃ W5, W5 = ((w.alloc (.cells #[.int .i64 xm, .int .i64 xl, .slice xA ll.length xc] 45)).alloc (.cells #[.int .i64 0, .int .i64 0, .slice none 0 0] 45)).alloc (.cells #[.int .i64 xm, .int .i64 xl, .slice xA ll.length xc] 45) := ⟨_, rfl⟩
    have HB0 : Hid (Blk W5 w.heap.size 45 (RB.cells ⟨xm, xl, xA, xc, ll⟩)) := Lib.hid (by rw [hW5]; exact ((Blk.new w _ _).alloc _).alloc _)
    have HZ : Hid (Blk W5 (w.heap.size + 1) 45 #[.int .i64 0, .int .i64 0, .slice none 0 0]) := Lib.hid (by rw [hW5]; exact (blk_at6 _ _ _ _ (by simp)).alloc _)
    have HBW : Hid (Below w.heap.size w W5) := Lib.hid (by rw [hW5]; repeat (first | with_reducible exact Below.refl _ _ | with_reducible refine Below.setCell ?_ (by first | omega | (simp <;> omega)) _ | with_reducible refine Below.alloc ?_ (by first | omega | (simp <;> omega)) _ | with_reducible refine below_drewN ?_ _ | with_reducible refine Below.drew ?_))
    have HN := Lib.hid (H.out.below HBW.out)
    have HRD : Hid (Reads W5 W5.heap.size 2 xA ll.length (ll.flatMap itc)) := Lib.hid HN.out.rd
    obtain ⟨d0, d1, d2⟩ := rb_cells HB0.out
    have l0 : w.heap.size < W5.heap.size := HB0.out.lt
    have l1 : w.heap.size + 1 < W5.heap.size := HZ.out.lt
    simp only [] at d0 d1 d2
    rw [show (RB.cells ⟨xm, xl, xA, xc, ll⟩) = #[.int .i64 xm, .int .i64 xl, .slice xA ll.length xc] from rfl, ← hW5]
    clear hW5
    go_wp2_with (at_builtin; go_must (refine wpList_append_any _ rfl _ (.tmp 14) _ rfl W5.heap.size 63 i0 _ 2 16 Try.underlying43 hi hz0 hz1 hz2 rfl (by omega) (.slice none 0 0) 0 [] rfl (World.ownsRow_nil _ _ _ _) W5.heap.size xA ll.length xc (ll.flatMap itc) rfl HRD.out ?c1 ?c2 ?c3 ?c4 ?_))
    case c1 => exact flat_itc_one ll
    case c2 => unfold maxLen; omega
    case c3 => omega
    case c4 => exact Nat.le_refl _
    intro v8 w8 hown hg _
    replace hown : World.ownsRow w8 W5.heap.size 63 2 v8 ll.length (ll.flatMap itc) := by simpa using hown
    have b8 : Below W5.heap.size W5 w8 := (Below.refl W5.heap.size W5).grown hg (Nat.le_refl _) (fun k hk => by cases hk)
    have hown0 := Lib.hid hown
    rcases hown.2 with ⟨rfl, hz⟩ | ⟨r, cap, cur, rfl, hr2, hr3, hr4⟩
    · omega
    have hbr : Blk w8 r 63 cur := hr3
    obtain ⟨_, _, p, hA, _, hp, s0, s1⟩ := it_at (Reads.of_own hown0.out) (k := k) hk
    cases hA
    simp only [Nat.zero_add] at s0 s1
    have sf := hbr.frozen (k * 2 + 1)
    have e9 := (HB0.out.below b8 l0).far (p := ⟨r, k * 2 + 1, none⟩) (by show w.heap.size ≠ r; omega) (.int .i64 v)
    have z9' := (HZ.out.below b8 l1).far (p := ⟨r, k * 2 + 1, none⟩) (by show w.heap.size + 1 ≠ r; omega) (.int .i64 v)
    have hown9 : World.ownsRow (w8.setCell ⟨r, k * 2 + 1, none⟩ (.int .i64 v)) W5.heap.size 63 2 (.slice (some ⟨r, 0, none⟩) ll.length cap) ll.length (fl.flatMap itc) := by
      rw [HSET.out]
      exact own_set hown0.out (k * 2 + 1) _ (by rw [hown0.out.1]; omega)
    have HO9 := Lib.hid hown9
    have HE9 := Lib.hid e9
    have HZ9 := Lib.hid z9'
    have hrl := hbr.lt
    have B9 : Hid (Below w.heap.size w (w8.setCell ⟨r, k * 2 + 1, none⟩ (.int .i64 v))) := Lib.hid ((HBW.out.trans (b8.mono HBW.out.size)).setCell (by show _ ≤ r; omega) _)
    have d0' := (b8.cell (p := ⟨w.heap.size, 0, none⟩) l0).trans d0
    have d1' := (b8.cell (p := ⟨w.heap.size, 1, none⟩) l0).trans d1
    have d2' := (b8.cell (p := ⟨w.heap.size, 2, none⟩) l0).trans d2
    have zz := HZ.out.below b8 l1
    have ee := HB0.out.below b8 l0
    have f0 := ee.frozen 2
    have f3 := zz.frozen 0
    have f4 := zz.frozen 1
    have f5 := zz.frozen 2
    have y0 := zz.cell 0
    have y1 := zz.cell 1
    have y2 := zz.cell 2
    have l3 := zz.lt
    have hrw : w.heap.size + 1 < r := by omega
    simp only [List.getElem?_toArray, List.getElem?_cons_succ, List.getElem?_cons_zero] at y0 y1 y2
    clear hown hg hown0 hr3 hr4 hbr hp hown9 e9 z9' zz ee d0 d1 d2 b8 HSET
    go_wp2_with (fail)
    refine bodyPost_ret (v := .agg #[.int .i64 xm, .int .i64 xl, .slice (some ⟨r, 0, none⟩) ll.length cap]) (by simp [results, Try.results33, go_sem, y0, y1, y2, l3]) rfl ⟨⟨xm, xl, some ⟨r, 0, none⟩, cap, fl⟩, by simp only [RB.agg]; rw [hfll.out], rfl, ⟨?_, by show fl.length ≤ cap; rw [hfll.out]; exact (own_slice HO9.out).choose_spec.choose_spec.2.2.1 |> fun h => by obtain ⟨_, _, e, _, h1, _⟩ := own_slice HO9.out; cases e; exact h1, by obtain ⟨_, _, e, _, _, h1⟩ := own_slice HO9.out; cases e; exact h1⟩, ?_, .inr (fun ad e => by cases e; show _ ≤ r; omega)⟩
    · show Reads _ _ 2 (some ⟨r, 0, none⟩) fl.length (fl.flatMap itc)
      rw [hfll.out]
      have hownF := HO9.out
      refine own_reads2 (base := W5.heap.size) (t := 63) (c := cap) ?_
      repeat (first | with_reducible exact hownF | with_reducible refine own_far ?_ (by first | omega | (simp <;> omega)) _ | with_reducible refine own_drewN ?_ _ | with_reducible refine own_drew ?_)
    · refine B9.out.trans ?_
      repeat (first | with_reducible exact Below.refl _ _ | with_reducible refine Below.setCell ?_ (by first | omega | (simp <;> omega)) _ | with_reducible refine Below.alloc ?_ (by first | omega | (simp <;> omega)) _ | with_reducible refine below_drewN ?_ _ | with_reducible refine Below.drew ?_)
theorem oddL_take (l : List (Int × Int)) (k : Nat) (p : Int × Int) (h : l[k]? = some p) : oddL (l.take (k + 1)) = oddL (l.take k) ++ (if oddB p.2 then [p] else []) := by
  rw [List.take_add_one, h]; exact oddL_snoc _ _
def ROd (x : RB) (w : World) (en : Ending) (w' : World) : Prop :=
  ∃ y : RB, en = .returned (.tuple #[y.agg, .int .i64 ((x.l.length : Int) - (oddL x.l).length)]) ∧ y.bg = x.bg.keep ∧ RBn w' y ∧ Below w.heap.size w w' ∧ NewA x w y
theorem refOdd_any (x : RB) (w : World) (h : RBn w x) (hl : x.l.length ≤ 1000000) :
    Calls Try.prog 35 #[x.agg] w (ROd x w) := by
  obtain ⟨i0, hi, hz0, hz1, hz2⟩ := info_parts ritInfo
  obtain ⟨xm, xl, xA, xc, ll⟩ := x
  have H := Lib.hid h
  simp only at hl
  have HOL := Lib.hid (oddL_len ll)
  clear h
  go_enter Try.func35, Try.ntmps35
  go_wp2_with (fail)
  go_loopw [4, 5] (fun ov iv wr => ∃ (k : Nat), k ≤ ll.length ∧ iv = .int .i64 k ∧ Hid (wr.ownsRow (w.heap.size + 2) 63 2 ov (oddL (ll.take k)).length ((oddL (ll.take k)).flatMap itc)) ∧ Hid (Blk wr w.heap.size 45 (RB.cells ⟨xm, xl, xA, xc, ll⟩)) ∧ Hid (Blk wr (w.heap.size + 1) 45 #[.int .i64 0, .int .i64 0, .slice none 0 0]) ∧ Hid (Below w.heap.size w wr) ∧ w.heap.size + 2 ≤ wr.heap.size) (fun _ i _ => ll.length - (intOf i).toNat)
  case atStart => exact ⟨0, Nat.zero_le _, rfl, Lib.hid (World.ownsRow_nil _ _ _ _), Lib.hid ((Blk.new w _ _).alloc _), Lib.hid (blk_at6 _ _ _ _ (by simp)), Lib.hid (by repeat (first | with_reducible exact Below.refl _ _ | with_reducible refine Below.setCell ?_ (by first | omega | (simp <;> omega)) _ | with_reducible refine Below.alloc ?_ (by first | omega | (simp <;> omega)) _ | with_reducible refine below_drewN ?_ _ | with_reducible refine Below.drew ?_)), by simp⟩
  case round =>
    obtain ⟨k, hk, rfl, HO, HB0, HZ, HB, hs⟩ := hrel
    obtain ⟨d0, d1, d2⟩ := rb_cells HB0.out
    simp only [] at d0 d1 d2
    by_cases hlt : k < ll.length
    · obtain ⟨b, off, p, hA, hb, hp, e0, e1⟩ := it_at H.out.rd hlt
      simp only at hA
      subst hA
      have hs' := Lib.hid (oddL_take ll k p hp)
      have c0 := (HB.out.cell (p := ⟨b, off + k * 2, none⟩) hb).trans e0
      have c1 := (HB.out.cell (p := ⟨b, off + k * 2 + 1, none⟩) hb).trans e1
      have hkl : (k : Int) < ll.length := by omega
      obtain ⟨o, ho⟩ : ∃ o, o = oddL (ll.take k) := ⟨_, rfl⟩
      have hol : o.length ≤ 1000000 := by rw [ho]; have := oddL_len (ll.take k); rw [List.length_take] at this; omega
      rw [← ho] at HO hs'
      obtain ⟨A0, q0, rfl, _, _, _⟩ := own_slice HO.out
      clear e0 e1 hp ho
      cases hod : oddB p.2
      · have hod' : (Int.tmod p.2 2 != 0) = false := hod
        have hs2 : Hid (oddL (ll.take (k + 1)) = o) := Lib.hid (by rw [hs'.out, hod]; simp)
        clear hod
        go_wp2_with (fail)
        go_roundw
        case rel => first | exact ⟨k + 1, by omega, by go_num, Lib.hid (by rw [hs2.out]; exact HO.out), HB0, HZ, HB, hs⟩ | ((repeat apply Exists.intro); exact ⟨⟨k + 1, by omega, by go_num, Lib.hid (by rw [hs2.out]; exact HO.out), HB0, HZ, HB, hs⟩, rfl⟩)
        case measure => simp [intOf]; omega
      · have hod' : (Int.tmod p.2 2 != 0) = true := hod
        have hs2 : Hid (oddL (ll.take (k + 1)) = o ++ [p]) := Lib.hid (by rw [hs'.out, hod]; simp)
        have HOA := Lib.hid (HO.out.alloc (.cells #[.int .i64 p.1, .int .i64 p.2] 63))
        have HL := Lib.hid (news_new wr p)
        clear hod
        go_wp2_with (at_builtin; go_must (refine wpList_append_any _ rfl (.tmp 22) (.tmp 28) _ rfl (w.heap.size + 2) 63 i0 _ 2 16 Try.underlying43 hi hz0 hz1 hz2 rfl (by omega) _ _ _ rfl HOA.out _ _ 1 1 (itc p) rfl HL.out ?c1 ?c2 ?c3 ?c4 ?_))
        case c1 => exact itc_one _
        case c2 => unfold maxLen; omega
        case c3 => omega
        case c4 => simp; omega
        intro v3 y3 hown hg _
        have HO3 := Lib.hid (show y3.ownsRow (w.heap.size + 2) 63 2 v3 (o ++ [p]).length ((o ++ [p]).flatMap itc) from by simpa using hown)
        have hge : ∀ q, (Value.slice A0 o.length q0).ownBlock = some q → w.heap.size + 2 ≤ q := fun q hq => (HO.out.lt q hq).1
        have HB3 := Lib.hid ((HB0.out.alloc (.cells #[.int .i64 p.1, .int .i64 p.2] 63)).grown hg (fun e => by have := hge _ e.symm; omega))
        have HZ3 := Lib.hid ((HZ.out.alloc (.cells #[.int .i64 p.1, .int .i64 p.2] 63)).grown hg (fun e => by have := hge _ e.symm; omega))
        have HW3 := Lib.hid ((HB.out.alloc HB.out.size (.cells #[.int .i64 p.1, .int .i64 p.2] 63)).grown hg (by have := HB.out.size; simp; omega) (fun q hq => by have := hge q hq; omega))
        have hs3 : w.heap.size + 2 ≤ y3.heap.size := by have := hg.size; simp at this; omega
        obtain ⟨A3, q3, rfl, _, _, _⟩ := own_slice HO3.out
        clear hown hg d0 d1 d2 c0 c1
        go_wp2_with (fail)
        go_roundw
        case rel => first | exact ⟨k + 1, by omega, by go_num, Lib.hid (by rw [hs2.out]; exact HO3.out), HB3, HZ3, HW3, hs3⟩ | ((repeat apply Exists.intro); exact ⟨⟨k + 1, by omega, by go_num, Lib.hid (by rw [hs2.out]; exact HO3.out), HB3, HZ3, HW3, hs3⟩, rfl⟩)
        case measure => simp [intOf]; omega
    · obtain rfl : k = ll.length := by omega
      rw [List.take_length] at HO
      obtain ⟨A0, q0, rfl, _, hq1, hq2⟩ := own_slice HO.out
      obtain ⟨o, ho⟩ : ∃ o, o = oddL ll := ⟨_, rfl⟩
      have hol := HOL.out
      have HKP : Hid ((RB.bg ⟨xm, xl, xA, xc, ll⟩).keep = ⟨max xm 0, xl, o⟩) := Lib.hid (by rw [ho]; rfl)
      have HPO : Hid (∀ (y : RB) (en : Ending) (W : World), en = .returned (.tuple #[y.agg, .int .i64 ((ll.length : Int) - o.length)]) → y.bg = ⟨max xm 0, xl, o⟩ → RBn W y → Below w.heap.size w W → NewA ⟨xm, xl, xA, xc, ll⟩ w y → ROd ⟨xm, xl, xA, xc, ll⟩ w en W) := Lib.hid (fun y en W a1 a2 a3 a4 a5 => ⟨y, by rw [a1, ho], by rw [a2, HKP.out], a3, a4, a5⟩)
      rw [← ho] at HO hq1 hol ⊢
      have hwr : IntKind.i64.wrap ((ll.length : Int) - o.length) = (ll.length : Int) - o.length := by rw [IntKind.wrap_i64]; omega
      have f0 := HB0.out.frozen 2
      have f3 := HZ.out.frozen 0
      have f4 := HZ.out.frozen 1
      have f5 := HZ.out.frozen 2
      have y0 := HZ.out.cell 0
      have y1 := HZ.out.cell 1
      have y2 := HZ.out.cell 2
      have l3 := HZ.out.lt
      simp only [List.getElem?_toArray, List.getElem?_cons_succ, List.getElem?_cons_zero] at y0 y1 y2
      clear ho
      go_wp2_with (fail)
      refine bodyPost_ret (v := .tuple #[.agg #[.int .i64 xm, .int .i64 xl, .slice A0 o.length q0], .int .i64 ((ll.length : Int) - o.length)]) (by simp [results, Try.results35, go_sem, y0, y1, y2, l3]) rfl (HPO.out ⟨xm, xl, A0, q0, o⟩ _ _ rfl rfl ⟨?_, hq1, hq2⟩ ?_ (.inr (fun ad e => by have := (HO.out.lt ad.block (by rw [show A0 = some ad from e]; rfl)).1; omega)))
      · show Reads _ _ 2 A0 o.length (o.flatMap itc)
        have hownF := HO.out
        refine own_reads2 (base := w.heap.size + 2) (t := 63) (c := q0) ?_
        repeat (first | with_reducible exact hownF | with_reducible refine own_far ?_ (by first | omega | (simp <;> omega)) _ | with_reducible refine own_drewN ?_ _ | with_reducible refine own_drew ?_)
      · refine HB.out.trans ?_
        repeat (first | with_reducible exact Below.refl _ _ | with_reducible refine Below.setCell ?_ (by first | omega | (simp <;> omega)) _ | with_reducible refine Below.alloc ?_ (by first | omega | (simp <;> omega)) _ | with_reducible refine below_drewN ?_ _ | with_reducible refine Below.drew ?_)
end Go.Proofs.Ytpkmbnmlepmceaa
