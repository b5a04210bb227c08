/- The reference's bag: Put, Twice. -/
import Derived.Test.YtpkmbnmlepmceaaBagL

namespace Go.Proofs.Ytpkmbnmlepmceaa
open Go.RowKit
set_option linter.unusedSimpArgs false
set_option linter.unusedVariables false
set_option maxHeartbeats 4000000
set_option maxRecDepth 100000
attribute [local go_sem] RB.agg RB.cells RB.zero

theorem ritInfo : (Try.prog.info? 63).map (fun i => (i.zero, i.size, i.bytes)) = some (some (.agg #[.int .i64 0, .int .i64 0]), 2, 16) := by kernel_rfl
theorem flat_itc_one (l : List (Int × Int)) : ∀ u ∈ l.flatMap itc, u.oneCell' = true := by
  intro u hu; rw [List.mem_flatMap] at hu; obtain ⟨p, _, hp⟩ := hu; exact itc_one p u hp
theorem news_new (w : World) (p : Int × Int) : Reads (w.alloc (.cells #[.int .i64 p.1, .int .i64 p.2] 63)) (w.heap.size + 1) 2 (some ⟨w.heap.size, 0, none⟩) 1 (itc p) := news_at rfl rfl
theorem own_far {w : World} {base sz n : Nat} {e : TypeId} {v : Value} {xs : List Value} (h : w.ownsRow base e sz v n xs) {p : Addr} (hp : p.block < base) (u : Value) : (w.setCell p u).ownsRow base e sz v n xs :=
  (Chg.of_grown (only_setCell (World.grownBy.refl w (some p.block)) (.inl rfl) u)).own h (fun k hk e => by have := (h.lt k hk).1; injection e with e; omega)
theorem blk_at6 (w : World) (t : TypeId) (cs : Array Value) (g : Nat) (h : g = w.heap.size) : Blk (w.alloc (.cells cs t)) g t cs := by subst h; exact Blk.new w t cs
theorem own_reads2 {w : World} {base sz n c : Nat} {t : TypeId} {A : Option Addr} {xs : List Value} (h : w.ownsRow base t sz (.slice A n c) n xs) : Reads w w.heap.size sz A n xs := by
  obtain ⟨A', c', e, hr, _, _⟩ := own_slice h
  cases e
  exact hr
/-- the elder array, or a new one -/
def NewA (x : RB) (w : World) (y : RB) : Prop := y = x ∨ ∀ ad, y.A = some ad → w.heap.size ≤ ad.block
theorem RBn.far {w : World} {x : RB} (h : RBn w x) {p : Addr} (hp : ∀ ad, x.A = some ad → ad.block ≠ p.block) (u : Value) : RBn (w.setCell p u) x := by
  refine ⟨⟨h.rd.1, fun hn => ?_⟩, h.hc, h.hm⟩
  obtain ⟨ad, hA, hb, hc⟩ := h.rd.2 hn
  exact ⟨ad, hA, by simpa using hb, fun j v hv => (World.cell?_setCell_other w p _ u (fun e => hp ad hA (by have := congrArg Addr.block e; rw [block_of_add] at this; first | exact this | exact this.symm))).trans (hc j v hv)⟩
def RPut (x : RB) (w : World) (s : Bg) (n e : Int) (en : Ending) (w' : World) : Prop :=
  ∃ y : RB, en = .returned (.tuple #[y.agg, .int .i64 n, .int .i64 e]) ∧ y.bg = s ∧ RBn w' y ∧ Below w.heap.size w w' ∧ NewA x w y

theorem refPut_any (x : RB) (v : Int) (w : World) (h : RBn w x) (hl : x.l.length ≤ 1000000) (h0 : 0 ≤ x.last) (h1 : x.last ≤ 1000000) :
    Calls Try.prog 29 #[x.agg, .int .i64 v] w (RPut x w (x.bg.put v) x.bg.putN x.bg.putE) := by
  obtain ⟨i0, hi, hz0, hz1, hz2⟩ := info_parts ritInfo
  have H := Lib.hid h
  have hmax : ∀ a : Int, (if a < 0 then (0 : Int) else a) = max a 0 := fun a => by omega
  obtain ⟨xm, xl, xA, xc, ll⟩ := x
  simp only at hl h0 h1
  by_cases hm : max xm 0 ≤ ll.length
  · have hv : Hid (RB.bg ⟨xm, xl, xA, xc, ll⟩ = ⟨max xm 0, xl, ll⟩) := Lib.hid rfl
    have hv1 : Hid ((⟨max xm 0, xl, ll⟩ : Bg).put v = ⟨max xm 0, xl, ll⟩ ∧ (⟨max xm 0, xl, ll⟩ : Bg).putN = 0 ∧ (⟨max xm 0, xl, ll⟩ : Bg).putE = 9) := Lib.hid (by simp [Bg.put, Bg.putN, Bg.putE]; omega)
    rw [hv.out, hv1.out.1, hv1.out.2.1, hv1.out.2.2]
    clear h
    go_enter Try.func29, Try.ntmps29
    go_wp2_with (fail)
    refine bodyPost_ret (v := .tuple #[RB.agg ⟨xm, xl, xA, xc, ll⟩, .int .i64 0, .int .i64 9]) (by simp [results, Try.results29, go_sem]) rfl ⟨⟨xm, xl, xA, xc, ll⟩, rfl, rfl, H.out.below ?_, ?_, .inl rfl⟩
    · repeat (first | with_reducible exact Below.refl _ _ | with_reducible refine Below.setCell ?_ (by first | omega | (simp <;> omega)) _ | with_reducible refine Below.alloc ?_ (by first | omega | (simp <;> omega)) _ | with_reducible refine below_drewN ?_ _ | with_reducible refine Below.drew ?_)
    · repeat (first | with_reducible exact Below.refl _ _ | with_reducible refine Below.setCell ?_ (by first | omega | (simp <;> omega)) _ | with_reducible refine Below.alloc ?_ (by first | omega | (simp <;> omega)) _ | with_reducible refine below_drewN ?_ _ | with_reducible refine Below.drew ?_)
  · have hv : Hid (RB.bg ⟨xm, xl, xA, xc, ll⟩ = ⟨max xm 0, xl, ll⟩) := Lib.hid rfl
    have hv1 : Hid ((⟨max xm 0, xl, ll⟩ : Bg).put v = ⟨max xm 0, xl + 1, ll ++ [(xl + 1, v)]⟩ ∧ (⟨max xm 0, xl, ll⟩ : Bg).putN = xl + 1 ∧ (⟨max xm 0, xl, ll⟩ : Bg).putE = 0) := Lib.hid (by simp only [Bg.put, Bg.putN, Bg.putE, if_neg hm, and_self])
    rw [hv.out, hv1.out.1, hv1.out.2.1, hv1.out.2.2]
    have hw : IntKind.i64.wrap (xl + 1) = xl + 1 := by rw [IntKind.wrap_i64]; omega
    clear h
    go_enter Try.func29, Try.ntmps29
    go_wp2_with (fail)
    obtain ⟨W5, hW5⟩ : ∃ W5, W5 = (w.alloc (.cells #[.int .i64 xm, .int .i64 (xl + 1), .slice xA ll.length xc] 45)).alloc (.cells #[.int .i64 0, .int .i64 0, .slice none 0 0] 45) := ⟨_, rfl⟩
    rw [← hW5]
    have HB0 : Hid (Blk W5 w.heap.size 45 (RB.cells ⟨xm, xl + 1, xA, xc, ll⟩)) := Lib.hid (by rw [hW5]; exact (Blk.new w _ _).alloc _)
    have HZ : Hid (Blk W5 (w.heap.size + 1) 45 #[.int .i64 0, .int .i64 0, .slice none 0 0]) := Lib.hid (by rw [hW5]; exact blk_at6 _ _ _ _ (by simp))
    have HBW : Hid (Below w.heap.size w W5) := Lib.hid (by rw [hW5]; repeat (first | with_reducible exact Below.refl _ _ | with_reducible refine Below.setCell ?_ (by first | omega | (simp <;> omega)) _ | with_reducible refine Below.alloc ?_ (by first | omega | (simp <;> omega)) _ | with_reducible refine below_drewN ?_ _ | with_reducible refine Below.drew ?_))
    have HRD : Hid (Reads W5 W5.heap.size 2 xA ll.length (ll.flatMap itc)) := Lib.hid ((H.out.rd.below HBW.out).more HBW.out.size)
    obtain ⟨d0, d1, d2⟩ := rb_cells HB0.out
    have hb0l : w.heap.size < W5.heap.size := HB0.out.lt
    have hz0l : w.heap.size + 1 < W5.heap.size := HZ.out.lt
    simp only [] at d0 d1 d2
    clear hW5 hm hw
    refine wp_region_held_drew (S := fun w' => w'.cell? ⟨w.heap.size, 1, none⟩ = some (.int .i64 (xl + 1))) (by kernel_rfl) ?_ (fun hHeld => ?_)
    · exact d1
    refine wpAnyH_take (i := 0) (oi := _) (v := ?_) rfl (by kernel_rfl) (by kernel_rfl) (by kernel_rfl) (fun _ _ _ h => h) (Or.inl ⟨by rfl, ?_⟩) (by assumption) ?_
    rotate_left 1
    · (intro wq hSw; (try dsimp only at hSw); go_simp; (try with_reducible rfl))
    try simp only [Act.put, List.setIfInBounds_toArray, List.set_cons_zero, List.set_cons_succ, List.getElem_toArray, List.getElem_cons_zero, List.getElem_cons_succ]
    refine wpAnyH_take (i := 3) (oi := _) (v := ?_) rfl (by kernel_rfl) (by kernel_rfl) (by kernel_rfl) (fun _ _ _ h => h) (Or.inl ⟨by rfl, ?_⟩) (by assumption) ?_
    rotate_left 1
    · (intro wq hSw; (try dsimp only at hSw); go_simp; (try with_reducible rfl))
    try simp only [Act.put, List.setIfInBounds_toArray, List.set_cons_zero, List.set_cons_succ, List.getElem_toArray, List.getElem_cons_zero, List.getElem_cons_succ]
    refine wpAnyH_take (i := 4) (oi := _) (v := ?_) rfl (by kernel_rfl) (by kernel_rfl) (by kernel_rfl) (fun _ _ _ h => h) (Or.inl ⟨by rfl, ?_⟩) (by assumption) ?_
    rotate_left 1
    · (intro wq hSw; (try dsimp only at hSw); go_simp; (try with_reducible rfl))
    try simp only [Act.put, List.setIfInBounds_toArray, List.set_cons_zero, List.set_cons_succ, List.getElem_toArray, List.getElem_cons_zero, List.getElem_cons_succ]
    refine wpAnyH_take (i := 5) (oi := _) (v := ?_) rfl (by kernel_rfl) (by kernel_rfl) (by kernel_rfl) (fun _ _ _ h => h) (Or.inl ⟨by rfl, ?_⟩) (by assumption) ?_
    rotate_left 1
    · (intro wq hSw; (try dsimp only at hSw); go_simp; (try with_reducible rfl))
    try simp only [Act.put, List.setIfInBounds_toArray, List.set_cons_zero, List.set_cons_succ, List.getElem_toArray, List.getElem_cons_zero, List.getElem_cons_succ]
    refine wpAnyH_take (i := 6) (oi := _) (v := ?_) rfl (by kernel_rfl) (by kernel_rfl) (by kernel_rfl) (fun _ _ _ h => h) (Or.inl ⟨by rfl, ?_⟩) (by assumption) ?_
    rotate_left 1
    · (intro wq hSw; (try dsimp only at hSw); go_simp; (try with_reducible rfl))
    try simp only [Act.put, List.setIfInBounds_toArray, List.set_cons_zero, List.set_cons_succ, List.getElem_toArray, List.getElem_cons_zero, List.getElem_cons_succ]
    refine wpAnyH_ready (rs := [1, 7]) (by kernel_rfl) (by simp) ?_
    refine AllReadyH.cons (o := _) rfl (fun K hK => ?_) ?_
    · go_simp
      refine hK.out _ _ (by go_keep) (fun hHeld => ?_)
      clear hK K
      try simp only [Act.put, List.setIfInBounds_toArray, List.set_cons_zero, List.set_cons_succ, List.getElem_toArray, List.getElem_cons_zero, List.getElem_cons_succ]
      refine wpAnyH_ready (rs := [2, 7]) (by kernel_rfl) (by simp) ?_
      refine AllReadyH.cons (o := _) rfl (fun K hK => ?_) ?_
      · refine step_append_any _ rfl (.const (.slice none 0 0)) (.tmp 20) _ rfl W5.heap.size 63 i0 _ 2 16 Try.underlying43 hi hz0 hz1 hz2 rfl (by omega) (.slice none 0 0) 0 [] rfl (World.ownsRow_nil _ _ _ _) W5.heap.size xA ll.length xc (ll.flatMap itc) rfl ((HRD.out.drew)) (flat_itc_one ll) (by unfold maxLen; omega) (by omega) (by simp) ?_
        intro v8 w8 hown hg _
        simp only [Nat.zero_add, List.nil_append] at hown
        obtain ⟨A8, c8, rfl, _, _, _⟩ := own_slice hown
        have b8 : Below W5.heap.size W5 w8 := Below.grown ((Below.refl W5.heap.size W5).drew) hg (Nat.le_refl _) (fun k hk => by cases hk)
        have hs8 := b8.size
        refine hK.out _ _ ((b8.cell hb0l).trans d1) (fun hHeld => ?_)
        clear hK K
        try simp only [Act.put, List.setIfInBounds_toArray, List.set_cons_zero, List.set_cons_succ, List.getElem_toArray, List.getElem_cons_zero, List.getElem_cons_succ]
        refine wpAnyH_ready (rs := [7]) (by kernel_rfl) (by simp) ?_
        refine AllReadyH.cons (o := _) rfl (fun K hK => ?_) AllReadyH.nil
        go_simp
        refine hK.out _ _ (by first | go_keep | exact (World.cell?_alloc_lt _ _ _ (by simp; omega)).trans ((b8.cell hb0l).trans d1)) (fun hHeld => ?_)
        clear hK K
        try simp only [Act.put, List.setIfInBounds_toArray, List.set_cons_zero, List.set_cons_succ, List.getElem_toArray, List.getElem_cons_zero, List.getElem_cons_succ]
        refine wpAnyH_ready (rs := [8]) (by kernel_rfl) (by simp) ?_
        refine AllReadyH.cons (o := _) rfl (fun K hK => ?_) AllReadyH.nil
        refine step_append_any _ rfl (.tmp 21) (.tmp 26) _ rfl W5.heap.size 63 i0 _ 2 16 Try.underlying43 hi hz0 hz1 hz2 rfl (by omega) (.slice A8 ll.length c8) ll.length (ll.flatMap itc) rfl (hown.alloc _) _ _ 1 1 (itc (xl + 1, v)) rfl (news_new w8 (xl + 1, v)) (itc_one _) (by unfold maxLen; omega) (by omega) (by first | omega | (simp <;> omega)) ?_
        intro v9 w9 hown9 hg9 _
        have b9 : Below W5.heap.size W5 w9 := Below.grown (b8.alloc hs8 _) hg9 (by first | omega | (simp <;> omega)) (fun k hk => (hown.lt k hk).1)
        have e9 := HB0.out.below b9 HB0.out.lt
        obtain ⟨g0, g1, g2⟩ := rb_cells (x := ⟨xm, xl + 1, xA, xc, ll⟩) e9
        have gf := e9.frozen 2
        have gl := e9.lt
        obtain ⟨A9, c9, rfl, hr9, l9, m9⟩ := own_slice hown9
        refine hK.out _ _ g1 (fun hHeld => ?_)
        clear hK K
        try simp only [Act.put, List.setIfInBounds_toArray, List.set_cons_zero, List.set_cons_succ, List.getElem_toArray, List.getElem_cons_zero, List.getElem_cons_succ]
        refine wpAnyH_take (i := 9) (oi := _) (v := ?_) rfl (by kernel_rfl) (by kernel_rfl) (by kernel_rfl) (fun _ _ _ h => h) (Or.inl ⟨by rfl, ?_⟩) (by assumption) ?_
        rotate_left 1
        · (intro wq hSw; (try dsimp only at hSw); go_simp; (try with_reducible rfl))
        try simp only [Act.put, List.setIfInBounds_toArray, List.set_cons_zero, List.set_cons_succ, List.getElem_toArray, List.getElem_cons_zero, List.getElem_cons_succ]
        refine wpAnyH_ready (rs := [10]) (by kernel_rfl) (by simp) ?_
        refine AllReadyH.cons (o := _) rfl (fun K hK => ?_) AllReadyH.nil
        go_simp
        refine hK.out _ _ (by show _ = _; exact (World.cell?_setCell_other _ _ _ _ (by simp)).trans g1) (fun hHeld => ?_)
        clear hK K
        try simp only [Act.put, List.setIfInBounds_toArray, List.set_cons_zero, List.set_cons_succ, List.getElem_toArray, List.getElem_cons_zero, List.getElem_cons_succ]
        refine wpAnyH_done (by kernel_rfl) ?_ _
        have q9 : Blk (w9.setCell ⟨w.heap.size, 2, none⟩ (.slice A9 (ll.length + 1) c9)) w.heap.size 45 #[.int .i64 xm, .int .i64 (xl + 1), .slice A9 (ll.length + 1) c9] := e9.set_ 2 _
        have z9 : Blk (w9.setCell ⟨w.heap.size, 2, none⟩ (.slice A9 (ll.length + 1) c9)) (w.heap.size + 1) 45 #[.int .i64 0, .int .i64 0, .slice none 0 0] := (HZ.out.below b9 HZ.out.lt).far (by simp) _
        have p0 := q9.cell 0
        have p1 := q9.cell 1
        have p2 := q9.cell 2
        have p3 := z9.cell 0
        have p4 := z9.cell 1
        have p5 := z9.cell 2
        have p6 := z9.frozen 0
        have p7 := z9.frozen 1
        have p8 := z9.frozen 2
        have p9 := z9.lt
        simp only [List.getElem?_toArray, List.getElem?_cons_succ, List.getElem?_cons_zero] at p0 p1 p2 p3 p4 p5
        have hfin : Below w.heap.size w (w9.setCell ⟨w.heap.size, 2, none⟩ (.slice A9 (ll.length + 1) c9)) := (HBW.out.trans (b9.mono HBW.out.size)).setCell (by simp) _
        have hown' := own_far hown9 (p := ⟨w.heap.size, 2, none⟩) hb0l (.slice A9 (ll.length + 1) c9)
        clear g0 g1 g2 gf gl e9 b9 hown9 hg9 hr9 hHeld q9 z9 d1
        generalize w9.setCell ⟨w.heap.size, 2, none⟩ (.slice A9 (ll.length + 1) c9) = W6 at *
        go_wp2_with (fail)
        go_region_held3 (fun w' => w'.cell? ⟨w.heap.size, 0, none⟩ = some (.int .i64 xm) ∧ w'.cell? ⟨w.heap.size, 1, none⟩ = some (.int .i64 (xl + 1)) ∧ w'.cell? ⟨w.heap.size, 2, none⟩ = some (.slice A9 (ll.length + 1) c9)) (go_keep) (fail)
        go_wp2_with (fail)
        refine bodyPost_ret (v := .tuple #[.agg #[.int .i64 xm, .int .i64 (xl + 1), .slice A9 (ll.length + 1) c9], .int .i64 (xl + 1), .int .i64 0]) (by simp [results, Try.results29, go_sem, p3, p4, p5, p9]) rfl ⟨⟨xm, xl + 1, A9, c9, ll ++ [(xl + 1, v)]⟩, by simp [RB.agg], rfl, ⟨?_, by simpa using l9, m9⟩, ?_, .inr (fun ad e => by have := (hown'.lt ad.block (by show (Value.slice A9 (ll.length + 1) c9).ownBlock = _; rw [show A9 = some ad from e]; rfl)).1; omega)⟩
        · show Reads _ _ 2 A9 (ll ++ [(xl + 1, v)]).length ((ll ++ [(xl + 1, v)]).flatMap itc)
          rw [show (ll ++ [(xl + 1, v)]).length = ll.length + 1 from by simp, show (ll ++ [(xl + 1, v)]).flatMap itc = ll.flatMap itc ++ itc (xl + 1, v) from by simp]
          refine own_reads2 (base := W5.heap.size) (t := 63) (c := c9) ?_
          repeat (first | with_reducible exact hown' | with_reducible refine own_far ?_ (by first | omega | (simp; omega)) _ | with_reducible refine own_drewN ?_ _ | with_reducible refine own_drew ?_)
        · exact hfin.trans (by repeat (first | with_reducible exact Below.refl _ _ | with_reducible refine Below.setCell ?_ (by first | omega | (simp <;> omega)) _ | with_reducible refine Below.alloc ?_ (by first | omega | (simp <;> omega)) _ | with_reducible refine below_drewN ?_ _ | with_reducible refine Below.drew ?_))
      refine AllReadyH.cons (o := _) rfl (fun K hK => ?_) AllReadyH.nil
      go_simp
      refine hK.out _ _ (by go_keep) (fun hHeld => ?_)
      clear hK K
      try simp only [Act.put, List.setIfInBounds_toArray, List.set_cons_zero, List.set_cons_succ, List.getElem_toArray, List.getElem_cons_zero, List.getElem_cons_succ]
      refine wpAnyH_ready (rs := [2]) (by kernel_rfl) (by simp) ?_
      refine AllReadyH.cons (o := _) rfl (fun K hK => ?_) AllReadyH.nil
      refine step_append_any _ rfl (.const (.slice none 0 0)) (.tmp 20) _ rfl W5.heap.size 63 i0 _ 2 16 Try.underlying43 hi hz0 hz1 hz2 rfl (by omega) (.slice none 0 0) 0 [] rfl (World.ownsRow_nil _ _ _ _) W5.heap.size xA ll.length xc (ll.flatMap itc) rfl ((HRD.out.drew).alloc (Nat.le_refl _) _) (flat_itc_one ll) (by unfold maxLen; omega) (by omega) (by simp) ?_
      intro v8 w8 hown hg _
      simp only [Nat.zero_add, List.nil_append] at hown
      obtain ⟨A8, c8, rfl, _, _, _⟩ := own_slice hown
      have b8 : Below W5.heap.size W5 w8 := Below.grown (((Below.refl W5.heap.size W5).drew).alloc (Nat.le_refl _) _) hg (by simp) (fun k hk => by cases hk)
      have hs8 := b8.size
      have lit8 := (news_new W5.drew (xl + 1, v)).grown hg (by simp) (fun k hk => by cases hk)
      refine hK.out _ _ ((b8.cell hb0l).trans d1) (fun hHeld => ?_)
      clear hK K
      try simp only [Act.put, List.setIfInBounds_toArray, List.set_cons_zero, List.set_cons_succ, List.getElem_toArray, List.getElem_cons_zero, List.getElem_cons_succ]
      refine wpAnyH_ready (rs := [8]) (by kernel_rfl) (by simp) ?_
      refine AllReadyH.cons (o := _) rfl (fun K hK => ?_) AllReadyH.nil
      refine step_append_any _ rfl (.tmp 21) (.tmp 26) _ rfl W5.heap.size 63 i0 _ 2 16 Try.underlying43 hi hz0 hz1 hz2 rfl (by omega) (.slice A8 ll.length c8) ll.length (ll.flatMap itc) rfl hown _ _ 1 1 (itc (xl + 1, v)) rfl lit8 (itc_one _) (by unfold maxLen; omega) (by omega) (by first | omega | (simp <;> omega)) ?_
      intro v9 w9 hown9 hg9 _
      have b9 : Below W5.heap.size W5 w9 := Below.grown b8 hg9 (by first | omega | (simp <;> omega)) (fun k hk => (hown.lt k hk).1)
      have e9 := HB0.out.below b9 HB0.out.lt
      obtain ⟨g0, g1, g2⟩ := rb_cells (x := ⟨xm, xl + 1, xA, xc, ll⟩) e9
      have gf := e9.frozen 2
      have gl := e9.lt
      obtain ⟨A9, c9, rfl, hr9, l9, m9⟩ := own_slice hown9
      refine hK.out _ _ g1 (fun hHeld => ?_)
      clear hK K
      try simp only [Act.put, List.setIfInBounds_toArray, List.set_cons_zero, List.set_cons_succ, List.getElem_toArray, List.getElem_cons_zero, List.getElem_cons_succ]
      refine wpAnyH_take (i := 9) (oi := _) (v := ?_) rfl (by kernel_rfl) (by kernel_rfl) (by kernel_rfl) (fun _ _ _ h => h) (Or.inl ⟨by rfl, ?_⟩) (by assumption) ?_
      rotate_left 1
      · (intro wq hSw; (try dsimp only at hSw); go_simp; (try with_reducible rfl))
      try simp only [Act.put, List.setIfInBounds_toArray, List.set_cons_zero, List.set_cons_succ, List.getElem_toArray, List.getElem_cons_zero, List.getElem_cons_succ]
      refine wpAnyH_ready (rs := [10]) (by kernel_rfl) (by simp) ?_
      refine AllReadyH.cons (o := _) rfl (fun K hK => ?_) AllReadyH.nil
      go_simp
      refine hK.out _ _ (by show _ = _; exact (World.cell?_setCell_other _ _ _ _ (by simp)).trans g1) (fun hHeld => ?_)
      clear hK K
      try simp only [Act.put, List.setIfInBounds_toArray, List.set_cons_zero, List.set_cons_succ, List.getElem_toArray, List.getElem_cons_zero, List.getElem_cons_succ]
      refine wpAnyH_done (by kernel_rfl) ?_ _
      have q9 : Blk (w9.setCell ⟨w.heap.size, 2, none⟩ (.slice A9 (ll.length + 1) c9)) w.heap.size 45 #[.int .i64 xm, .int .i64 (xl + 1), .slice A9 (ll.length + 1) c9] := e9.set_ 2 _
      have z9 : Blk (w9.setCell ⟨w.heap.size, 2, none⟩ (.slice A9 (ll.length + 1) c9)) (w.heap.size + 1) 45 #[.int .i64 0, .int .i64 0, .slice none 0 0] := (HZ.out.below b9 HZ.out.lt).far (by simp) _
      have p0 := q9.cell 0
      have p1 := q9.cell 1
      have p2 := q9.cell 2
      have p3 := z9.cell 0
      have p4 := z9.cell 1
      have p5 := z9.cell 2
      have p6 := z9.frozen 0
      have p7 := z9.frozen 1
      have p8 := z9.frozen 2
      have p9 := z9.lt
      simp only [List.getElem?_toArray, List.getElem?_cons_succ, List.getElem?_cons_zero] at p0 p1 p2 p3 p4 p5
      have hfin : Below w.heap.size w (w9.setCell ⟨w.heap.size, 2, none⟩ (.slice A9 (ll.length + 1) c9)) := (HBW.out.trans (b9.mono HBW.out.size)).setCell (by simp) _
      have hown' := own_far hown9 (p := ⟨w.heap.size, 2, none⟩) hb0l (.slice A9 (ll.length + 1) c9)
      clear g0 g1 g2 gf gl e9 b9 hown9 hg9 hr9 hHeld q9 z9 d1
      generalize w9.setCell ⟨w.heap.size, 2, none⟩ (.slice A9 (ll.length + 1) c9) = W6 at *
      go_wp2_with (fail)
      go_region_held3 (fun w' => w'.cell? ⟨w.heap.size, 0, none⟩ = some (.int .i64 xm) ∧ w'.cell? ⟨w.heap.size, 1, none⟩ = some (.int .i64 (xl + 1)) ∧ w'.cell? ⟨w.heap.size, 2, none⟩ = some (.slice A9 (ll.length + 1) c9)) (go_keep) (fail)
      go_wp2_with (fail)
      refine bodyPost_ret (v := .tuple #[.agg #[.int .i64 xm, .int .i64 (xl + 1), .slice A9 (ll.length + 1) c9], .int .i64 (xl + 1), .int .i64 0]) (by simp [results, Try.results29, go_sem, p3, p4, p5, p9]) rfl ⟨⟨xm, xl + 1, A9, c9, ll ++ [(xl + 1, v)]⟩, by simp [RB.agg], rfl, ⟨?_, by simpa using l9, m9⟩, ?_, .inr (fun ad e => by have := (hown'.lt ad.block (by show (Value.slice A9 (ll.length + 1) c9).ownBlock = _; rw [show A9 = some ad from e]; rfl)).1; omega)⟩
      · show Reads _ _ 2 A9 (ll ++ [(xl + 1, v)]).length ((ll ++ [(xl + 1, v)]).flatMap itc)
        rw [show (ll ++ [(xl + 1, v)]).length = ll.length + 1 from by simp, show (ll ++ [(xl + 1, v)]).flatMap itc = ll.flatMap itc ++ itc (xl + 1, v) from by simp]
        refine own_reads2 (base := W5.heap.size) (t := 63) (c := c9) ?_
        repeat (first | with_reducible exact hown' | with_reducible refine own_far ?_ (by first | omega | (simp; omega)) _ | with_reducible refine own_drewN ?_ _ | with_reducible refine own_drew ?_)
      · exact hfin.trans (by repeat (first | with_reducible exact Below.refl _ _ | with_reducible refine Below.setCell ?_ (by first | omega | (simp <;> omega)) _ | with_reducible refine Below.alloc ?_ (by first | omega | (simp <;> omega)) _ | with_reducible refine below_drewN ?_ _ | with_reducible refine Below.drew ?_))
    refine AllReadyH.cons (o := _) rfl (fun K hK => ?_) AllReadyH.nil
    go_simp
    refine hK.out _ _ (by go_keep) (fun hHeld => ?_)
    clear hK K
    try simp only [Act.put, List.setIfInBounds_toArray, List.set_cons_zero, List.set_cons_succ, List.getElem_toArray, List.getElem_cons_zero, List.getElem_cons_succ]
    refine wpAnyH_ready (rs := [1]) (by kernel_rfl) (by simp) ?_
    refine AllReadyH.cons (o := _) rfl (fun K hK => ?_) AllReadyH.nil
    go_simp
    refine hK.out _ _ (by go_keep) (fun hHeld => ?_)
    clear hK K
    try simp only [Act.put, List.setIfInBounds_toArray, List.set_cons_zero, List.set_cons_succ, List.getElem_toArray, List.getElem_cons_zero, List.getElem_cons_succ]
    refine wpAnyH_ready (rs := [2]) (by kernel_rfl) (by simp) ?_
    refine AllReadyH.cons (o := _) rfl (fun K hK => ?_) AllReadyH.nil
    refine step_append_any _ rfl (.const (.slice none 0 0)) (.tmp 20) _ rfl W5.heap.size 63 i0 _ 2 16 Try.underlying43 hi hz0 hz1 hz2 rfl (by omega) (.slice none 0 0) 0 [] rfl (World.ownsRow_nil _ _ _ _) W5.heap.size xA ll.length xc (ll.flatMap itc) rfl ((HRD.out.drew).alloc (Nat.le_refl _) _) (flat_itc_one ll) (by unfold maxLen; omega) (by omega) (by simp) ?_
    intro v8 w8 hown hg _
    simp only [Nat.zero_add, List.nil_append] at hown
    obtain ⟨A8, c8, rfl, _, _, _⟩ := own_slice hown
    have b8 : Below W5.heap.size W5 w8 := Below.grown (((Below.refl W5.heap.size W5).drew).alloc (Nat.le_refl _) _) hg (by simp) (fun k hk => by cases hk)
    have hs8 := b8.size
    have lit8 := (news_new W5.drew (xl + 1, v)).grown hg (by simp) (fun k hk => by cases hk)
    refine hK.out _ _ ((b8.cell hb0l).trans d1) (fun hHeld => ?_)
    clear hK K
    try simp only [Act.put, List.setIfInBounds_toArray, List.set_cons_zero, List.set_cons_succ, List.getElem_toArray, List.getElem_cons_zero, List.getElem_cons_succ]
    refine wpAnyH_ready (rs := [8]) (by kernel_rfl) (by simp) ?_
    refine AllReadyH.cons (o := _) rfl (fun K hK => ?_) AllReadyH.nil
    refine step_append_any _ rfl (.tmp 21) (.tmp 26) _ rfl W5.heap.size 63 i0 _ 2 16 Try.underlying43 hi hz0 hz1 hz2 rfl (by omega) (.slice A8 ll.length c8) ll.length (ll.flatMap itc) rfl hown _ _ 1 1 (itc (xl + 1, v)) rfl lit8 (itc_one _) (by unfold maxLen; omega) (by omega) (by first | omega | (simp <;> omega)) ?_
    intro v9 w9 hown9 hg9 _
    have b9 : Below W5.heap.size W5 w9 := Below.grown b8 hg9 (by first | omega | (simp <;> omega)) (fun k hk => (hown.lt k hk).1)
    have e9 := HB0.out.below b9 HB0.out.lt
    obtain ⟨g0, g1, g2⟩ := rb_cells (x := ⟨xm, xl + 1, xA, xc, ll⟩) e9
    have gf := e9.frozen 2
    have gl := e9.lt
    obtain ⟨A9, c9, rfl, hr9, l9, m9⟩ := own_slice hown9
    refine hK.out _ _ g1 (fun hHeld => ?_)
    clear hK K
    try simp only [Act.put, List.setIfInBounds_toArray, List.set_cons_zero, List.set_cons_succ, List.getElem_toArray, List.getElem_cons_zero, List.getElem_cons_succ]
    refine wpAnyH_take (i := 9) (oi := _) (v := ?_) rfl (by kernel_rfl) (by kernel_rfl) (by kernel_rfl) (fun _ _ _ h => h) (Or.inl ⟨by rfl, ?_⟩) (by assumption) ?_
    rotate_left 1
    · (intro wq hSw; (try dsimp only at hSw); go_simp; (try with_reducible rfl))
    try simp only [Act.put, List.setIfInBounds_toArray, List.set_cons_zero, List.set_cons_succ, List.getElem_toArray, List.getElem_cons_zero, List.getElem_cons_succ]
    refine wpAnyH_ready (rs := [10]) (by kernel_rfl) (by simp) ?_
    refine AllReadyH.cons (o := _) rfl (fun K hK => ?_) AllReadyH.nil
    go_simp
    refine hK.out _ _ (by show _ = _; exact (World.cell?_setCell_other _ _ _ _ (by simp)).trans g1) (fun hHeld => ?_)
    clear hK K
    try simp only [Act.put, List.setIfInBounds_toArray, List.set_cons_zero, List.set_cons_succ, List.getElem_toArray, List.getElem_cons_zero, List.getElem_cons_succ]
    refine wpAnyH_done (by kernel_rfl) ?_ _
    have q9 : Blk (w9.setCell ⟨w.heap.size, 2, none⟩ (.slice A9 (ll.length + 1) c9)) w.heap.size 45 #[.int .i64 xm, .int .i64 (xl + 1), .slice A9 (ll.length + 1) c9] := e9.set_ 2 _
    have z9 : Blk (w9.setCell ⟨w.heap.size, 2, none⟩ (.slice A9 (ll.length + 1) c9)) (w.heap.size + 1) 45 #[.int .i64 0, .int .i64 0, .slice none 0 0] := (HZ.out.below b9 HZ.out.lt).far (by simp) _
    have p0 := q9.cell 0
    have p1 := q9.cell 1
    have p2 := q9.cell 2
    have p3 := z9.cell 0
    have p4 := z9.cell 1
    have p5 := z9.cell 2
    have p6 := z9.frozen 0
    have p7 := z9.frozen 1
    have p8 := z9.frozen 2
    have p9 := z9.lt
    simp only [List.getElem?_toArray, List.getElem?_cons_succ, List.getElem?_cons_zero] at p0 p1 p2 p3 p4 p5
    have hfin : Below w.heap.size w (w9.setCell ⟨w.heap.size, 2, none⟩ (.slice A9 (ll.length + 1) c9)) := (HBW.out.trans (b9.mono HBW.out.size)).setCell (by simp) _
    have hown' := own_far hown9 (p := ⟨w.heap.size, 2, none⟩) hb0l (.slice A9 (ll.length + 1) c9)
    clear g0 g1 g2 gf gl e9 b9 hown9 hg9 hr9 hHeld q9 z9 d1
    generalize w9.setCell ⟨w.heap.size, 2, none⟩ (.slice A9 (ll.length + 1) c9) = W6 at *
    go_wp2_with (fail)
    go_region_held3 (fun w' => w'.cell? ⟨w.heap.size, 0, none⟩ = some (.int .i64 xm) ∧ w'.cell? ⟨w.heap.size, 1, none⟩ = some (.int .i64 (xl + 1)) ∧ w'.cell? ⟨w.heap.size, 2, none⟩ = some (.slice A9 (ll.length + 1) c9)) (go_keep) (fail)
    go_wp2_with (fail)
    refine bodyPost_ret (v := .tuple #[.agg #[.int .i64 xm, .int .i64 (xl + 1), .slice A9 (ll.length + 1) c9], .int .i64 (xl + 1), .int .i64 0]) (by simp [results, Try.results29, go_sem, p3, p4, p5, p9]) rfl ⟨⟨xm, xl + 1, A9, c9, ll ++ [(xl + 1, v)]⟩, by simp [RB.agg], rfl, ⟨?_, by simpa using l9, m9⟩, ?_, .inr (fun ad e => by have := (hown'.lt ad.block (by show (Value.slice A9 (ll.length + 1) c9).ownBlock = _; rw [show A9 = some ad from e]; rfl)).1; omega)⟩
    · show Reads _ _ 2 A9 (ll ++ [(xl + 1, v)]).length ((ll ++ [(xl + 1, v)]).flatMap itc)
      rw [show (ll ++ [(xl + 1, v)]).length = ll.length + 1 from by simp, show (ll ++ [(xl + 1, v)]).flatMap itc = ll.flatMap itc ++ itc (xl + 1, v) from by simp]
      refine own_reads2 (base := W5.heap.size) (t := 63) (c := c9) ?_
      repeat (first | with_reducible exact hown' | with_reducible refine own_far ?_ (by first | omega | (simp; omega)) _ | with_reducible refine own_drewN ?_ _ | with_reducible refine own_drew ?_)
    · exact hfin.trans (by repeat (first | with_reducible exact Below.refl _ _ | with_reducible refine Below.setCell ?_ (by first | omega | (simp <;> omega)) _ | with_reducible refine Below.alloc ?_ (by first | omega | (simp <;> omega)) _ | with_reducible refine below_drewN ?_ _ | with_reducible refine Below.drew ?_))
end Go.Proofs.Ytpkmbnmlepmceaa
