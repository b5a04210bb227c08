/- The reference's Add. -/
import Derived.Test.YtfcjkkjgedcgpaaGreatDoorWinP




namespace Go.Proofs.YtfcjkkjgedcgpaaGreatDoor
open Go.RowKit
set_option linter.unusedSimpArgs false
set_option linter.unusedVariables false
set_option maxHeartbeats 8000000
set_option maxRecDepth 100000
attribute [local go_sem] Up.agg Up.cells

noncomputable def RW.addE (r : RW) (u : Up) : Int := if updE u false ≠ 0 then updE u false else if u.seq - 1 ≠ r.fin then 12 else 0
def RW.grown (r : RW) (u : Up) : RW := ⟨r.low, u.seq, r.done, none, 0, r.l ++ [u]⟩
/-- what Add makes of a window -/
def RAddS (r : RW) (u : Up) (r' : RW) : Prop := (r.addE u ≠ 0 ∧ r' = r) ∨ (r.addE u = 0 ∧ r'.low = (r.grown u).keptLow ∧ r'.fin = u.seq ∧ r'.done = r.done ∧ r'.l = (r.grown u).keptL)
def RAddP (r : RW) (u : Up) (W : World) (e : Ending) (W' : World) : Prop :=
  ∃ r' : RW, e = .returned (.tuple #[r'.agg, .int .i64 (r.addE u)]) ∧ RAddS r u r' ∧ Reads W' W'.heap.size 7 r'.A r'.l.length (r'.l.flatMap Up.row) ∧ ((r.addE u ≠ 0 ∧ r'.A = r.A) ∨ ∀ ad, r'.A = some ad → W.heap.size ≤ ad.block) ∧ Below W.heap.size W W'
theorem radd_any (r : RW) (u : Up) (B : Nat) (w : World) (h : RW.inn w B r) (hB : B ≤ w.heap.size) (hu : UpIn w B u) (hn : u.n ≤ 1000000) (hl : r.l.length + 1 ≤ 900000) (hb : r.fin + 1 ≤ 9000000000000000000) :
    Calls Tryz.prog 17 #[r.agg, u.agg] w (RAddP r u w) := by
  obtain ⟨i0, hi, hz0, hz1, hz2⟩ := info_parts upInfo
  have H := Lib.hid h
  have HU := Lib.hid hu
  have HLM := Lib.hid (And.intro hl hb)
  have RC := Lib.hid (fun W => refCheckT_any u W hu.wf hn)
  obtain ⟨z, hz⟩ : ∃ z, updE u false = z := ⟨_, rfl⟩
  have HZ := Lib.hid hz
  rw [hz] at RC
  obtain ⟨low, fin, done, A, c, l⟩ := r
  clear h hu hz hl hb hn
  have HB0 : Hid (Below w.heap.size w (((w.alloc (.cells #[.int .u64 low, .int .u64 fin, .int .u64 done, .slice A l.length c] 42)).alloc (.cells u.cells 29)).alloc (.cells rwZero 42))) := Lib.hid (by repeat (first | with_reducible exact Below.refl _ _ | with_reducible refine Below.setCell ?_ (by first | omega | (simp <;> omega)) _ | with_reducible refine Below.alloc ?_ (by first | omega | (simp <;> omega)) _ | with_reducible refine below_drewN ?_ _ | with_reducible refine Below.drew ?_))
  have B1 : Hid (Blk (((w.alloc (.cells #[.int .u64 low, .int .u64 fin, .int .u64 done, .slice A l.length c] 42)).alloc (.cells u.cells 29)).alloc (.cells rwZero 42)) w.heap.size 42 #[.int .u64 low, .int .u64 fin, .int .u64 done, .slice A l.length c]) := Lib.hid (((Blk.new _ _ _).alloc _).alloc _)
  have B2 : Hid (Blk (((w.alloc (.cells #[.int .u64 low, .int .u64 fin, .int .u64 done, .slice A l.length c] 42)).alloc (.cells u.cells 29)).alloc (.cells rwZero 42)) (w.heap.size + 1) 29 u.cells) := Lib.hid ((blk_at7 _ _ _ _ (by simp)).alloc _)
  have B3 : Hid (Blk (((w.alloc (.cells #[.int .u64 low, .int .u64 fin, .int .u64 done, .slice A l.length c] 42)).alloc (.cells u.cells 29)).alloc (.cells rwZero 42)) (w.heap.size + 2) 42 rwZero) := Lib.hid (blk_at7 _ _ _ _ (by simp))
  show Calls Tryz.prog 17 #[.agg #[.int .u64 low, .int .u64 fin, .int .u64 done, .slice A l.length c], .agg #[.int .u64 u.seq, .int .i64 u.cl, .int .u64 u.num, .int .i64 u.kd, .int .u32 u.key, .int .u64 u.ver, .slice u.A u.n u.c]] w _
  go_enter Tryz.func17, Tryz.ntmps17
  go_upto_region 1 with (fail)
  obtain ⟨W0, hW0⟩ : ∃ W0, W0 = ((w.alloc (.cells #[.int .u64 low, .int .u64 fin, .int .u64 done, .slice A l.length c] 42)).alloc (.cells u.cells 29)).alloc (.cells rwZero 42) := ⟨_, rfl⟩
  rw [show ((w.alloc (.cells #[.int .u64 low, .int .u64 fin, .int .u64 done, .slice A l.length c] 42)).alloc (.cells #[.int .u64 u.seq, .int .i64 u.cl, .int .u64 u.num, .int .i64 u.kd, .int .u32 u.key, .int .u64 u.ver, .slice u.A u.n u.c] 29)).alloc (.cells #[.int .u64 0, .int .u64 0, .int .u64 0, .slice none 0 0] 42) = W0 from hW0.symm]
  rw [← hW0] at HB0 B1 B2 B3
  clear hW0
  obtain ⟨x0, x1, x2, x3, x4, x5, x6⟩ := up_cells B2.out
  go_wp2_with (fail)
  refine (RC.out _).mono ?_
  rintro e w1 ⟨rfl, h1⟩
  replace B1 := Lib.hid (B1.out.below h1 B1.out.lt)
  replace B2 := Lib.hid (B2.out.below h1 B2.out.lt)
  replace B3 := Lib.hid (B3.out.below h1 B3.out.lt)
  have H1 := Lib.hid (HB0.out.trans (h1.mono HB0.out.size))
  clear h1 x0 x1 x2 x3 x4 x5 x6 RC HB0
  obtain ⟨x0, x1, x2, x3, x4, x5, x6⟩ := up_cells B2.out
  obtain ⟨q0, q1, q2, q3⟩ := rw_cells B1.out
  obtain ⟨y0, y1, y2, y3⟩ := rw_cells B3.out
  obtain ⟨f0, f1, f2, f3⟩ := rw_frozen B3.out
  by_cases h0 : z = 0
  rotate_left
  · have h0' : (z != 0) = true := by simpa using h0
    have HE : Hid (RW.addE ⟨low, fin, done, A, c, l⟩ u = z) := Lib.hid (by unfold RW.addE; rw [HZ.out, if_pos h0])
    have HNZ := Lib.hid h0
    clear h0
    go_wp2_with (fail)
    have HC := Lib.hid (chg_set4 w1 (w.heap.size + 2) (.int .u64 low) (.int .u64 fin) (.int .u64 done) (.slice A l.length c))
    have HK := Lib.hid (blk_set4 B3.out (.int .u64 low) (.int .u64 fin) (.int .u64 done) (.slice A l.length c))
    generalize (((w1.setCell ⟨w.heap.size + 2, 0, none⟩ (.int .u64 low)).setCell ⟨w.heap.size + 2, 1, none⟩ (.int .u64 fin)).setCell ⟨w.heap.size + 2, 2, none⟩ (.int .u64 done)).setCell ⟨w.heap.size + 2, 3, none⟩ (.slice A l.length c) = wz at HC HK ⊢
    obtain ⟨p0, p1, p2, p3⟩ := rw_cells HK.out
    refine bodyPost_ret (v := .tuple #[.agg #[.int .u64 low, .int .u64 fin, .int .u64 done, .slice A l.length c], .int .i64 z]) (by simp [results, Tryz.results17, go_sem, p0, p1, p2, p3]) rfl ?_
    have hbz : Below w.heap.size w wz := H1.out.trans (HC.out.below H1.out.size (fun k hk e => by simp only [isB] at e; omega))
    exact ⟨⟨low, fin, done, A, c, l⟩, by rw [HE.out]; rfl, .inl ⟨by rw [HE.out]; exact HNZ.out, rfl⟩, (H.out.ups.rd.below (hbz.mono hB)).more (Nat.le_trans hB hbz.size), .inl ⟨by rw [HE.out]; exact HNZ.out, rfl⟩, hbz⟩
  subst h0
  have hok := updE_zero HZ.out
  have hsq : 1 ≤ u.seq := by
    have h1 : ¬ u.seq = 0 := fun e => by have := hok.1.1 e; cases this
    have := HU.out.wf.seq.1
    omega
  have hw1 : IntKind.u64.wrap (u.seq - 1) = u.seq - 1 := by have := HU.out.wf.seq; rw [IntKind.wrap_u64]; omega
  clear hok hsq
  by_cases hq : u.seq - 1 = fin
  rotate_left
  · have hq' : (u.seq - 1 != fin) = true := by simpa using hq
    have HE : Hid (RW.addE ⟨low, fin, done, A, c, l⟩ u = 12) := Lib.hid (by unfold RW.addE; rw [HZ.out, if_neg (by simp), if_pos hq])
    clear hq
    go_wp2_with (fail)
    have HC := Lib.hid (chg_set4 w1 (w.heap.size + 2) (.int .u64 low) (.int .u64 fin) (.int .u64 done) (.slice A l.length c))
    have HK := Lib.hid (blk_set4 B3.out (.int .u64 low) (.int .u64 fin) (.int .u64 done) (.slice A l.length c))
    generalize (((w1.setCell ⟨w.heap.size + 2, 0, none⟩ (.int .u64 low)).setCell ⟨w.heap.size + 2, 1, none⟩ (.int .u64 fin)).setCell ⟨w.heap.size + 2, 2, none⟩ (.int .u64 done)).setCell ⟨w.heap.size + 2, 3, none⟩ (.slice A l.length c) = wz at HC HK ⊢
    obtain ⟨p0, p1, p2, p3⟩ := rw_cells HK.out
    refine bodyPost_ret (v := .tuple #[.agg #[.int .u64 low, .int .u64 fin, .int .u64 done, .slice A l.length c], .int .i64 12]) (by simp [results, Tryz.results17, go_sem, p0, p1, p2, p3]) rfl ?_
    have hbz : Below w.heap.size w wz := H1.out.trans (HC.out.below H1.out.size (fun k hk e => by simp only [isB] at e; omega))
    exact ⟨⟨low, fin, done, A, c, l⟩, by rw [HE.out]; rfl, .inl ⟨by rw [HE.out]; decide, rfl⟩, (H.out.ups.rd.below (hbz.mono hB)).more (Nat.le_trans hB hbz.size), .inl ⟨by rw [HE.out]; decide, rfl⟩, hbz⟩
  have hq' : (u.seq - 1 != fin) = false := by simpa using hq
  have HE : Hid (RW.addE ⟨low, fin, done, A, c, l⟩ u = 0) := Lib.hid (by unfold RW.addE; rw [HZ.out, if_neg (by simp), if_neg (by simpa using hq)])
  have HQ := Lib.hid hq
  clear hq
  have lx := B2.out.lt
  have lr := B1.out.lt
  have hlen : l.length + 1 ≤ 900000 := HLM.out.1
  have HRD : Hid (Reads w1 w1.heap.size 7 A l.length (l.flatMap Up.row)) := Lib.hid ((H.out.ups.rd.below (H1.out.mono hB)).more (Nat.le_trans hB H1.out.size))
  go_wp2_with (fail)
  go_cut [25] (fun v25 wx => ∃ (w9 : World) (A9 : Option Addr) (c9 : Nat), wx = w9.setCell ⟨w.heap.size, 3, none⟩ (.slice A9 (l.length + 1) c9) ∧ Hid (Blk w9 w.heap.size 42 #[.int .u64 low, .int .u64 fin, .int .u64 done, .slice A l.length c]) ∧ Hid (Below w1.heap.size w1 w9) ∧ Hid (w9.ownsRow w1.heap.size 29 7 (.slice A9 (l.length + 1) c9) (l.length + 1) (l.flatMap Up.row ++ u.row)))
  case first =>
    refine wp_region_k 5 (S := fun w' => w'.cell? ⟨w.heap.size, 3, none⟩ = some (.slice A l.length c) ∧ w'.cell? ⟨w.heap.size + 1, 0, none⟩ = some (.int .u64 u.seq) ∧ w'.cell? ⟨w.heap.size + 1, 1, none⟩ = some (.int .i64 u.cl) ∧ w'.cell? ⟨w.heap.size + 1, 2, none⟩ = some (.int .u64 u.num) ∧ w'.cell? ⟨w.heap.size + 1, 3, none⟩ = some (.int .i64 u.kd) ∧ w'.cell? ⟨w.heap.size + 1, 4, none⟩ = some (.int .u32 u.key) ∧ w'.cell? ⟨w.heap.size + 1, 5, none⟩ = some (.int .u64 u.ver) ∧ w'.cell? ⟨w.heap.size + 1, 6, none⟩ = some (.slice u.A u.n u.c)) (by kernel_rfl) ⟨q3, x0, x1, x2, x3, x4, x5, x6⟩ (fun hHeld => ?_)
    refine wpAnyK_take (n := 12) (i := 0) (oi := _) (v := ?_) rfl (by kernel_rfl) (by kernel_rfl) (by kernel_rfl) (by kernel_rfl) (by kernel_rfl) (by kernel_rfl) (fun _ _ _ h => h) (Or.inl ⟨by rfl, ?_⟩) (by assumption) ?_
    rotate_left 1
    · (intro wq hSw; (try dsimp only at hSw); go_simp; (try with_reducible rfl))
    try simp only [Act.put, List.setIfInBounds_toArray, List.set_cons_zero, List.set_cons_succ, List.getElem_toArray, List.getElem_cons_zero, List.getElem_cons_succ]
    refine wpAnyK_take (n := 12) (i := 1) (oi := _) (v := ?_) rfl (by kernel_rfl) (by kernel_rfl) (by kernel_rfl) (by kernel_rfl) (by kernel_rfl) (by kernel_rfl) (fun _ _ _ h => h) (Or.inl ⟨by rfl, ?_⟩) (by assumption) ?_
    rotate_left 1
    · (intro wq hSw; (try dsimp only at hSw); go_simp; (try with_reducible rfl))
    try simp only [Act.put, List.setIfInBounds_toArray, List.set_cons_zero, List.set_cons_succ, List.getElem_toArray, List.getElem_cons_zero, List.getElem_cons_succ]
    refine wpAnyK_take (n := 12) (i := 3) (oi := _) (v := ?_) rfl (by kernel_rfl) (by kernel_rfl) (by kernel_rfl) (by kernel_rfl) (by kernel_rfl) (by kernel_rfl) (fun _ _ _ h => h) (Or.inl ⟨by rfl, ?_⟩) (by assumption) ?_
    rotate_left 1
    · (intro wq hSw; (try dsimp only at hSw); go_simp; (try with_reducible rfl))
    try simp only [Act.put, List.setIfInBounds_toArray, List.set_cons_zero, List.set_cons_succ, List.getElem_toArray, List.getElem_cons_zero, List.getElem_cons_succ]
    refine wpAnyK_ready (rs := [2, 4]) (by kernel_rfl) (by simp) ?_
    refine AllReadyK.cons (o := _) rfl (fun K hK => ?_) ?_
    · refine step_append_any _ rfl (.const (.slice none 0 0)) (.tmp 21) _ rfl w1.heap.size 29 i0 _ 7 72 Tryz.underlying36 hi hz0 hz1 hz2 rfl (by omega) (.slice none 0 0) 0 [] rfl (World.ownsRow_nil _ _ _ _) w1.heap.size A l.length c (l.flatMap Up.row) rfl (HRD.out.drew) (up_rows_one l) (by unfold maxLen; omega) (by omega) (by simp) ?_
      intro v8 w8 hown hg _
      simp only [Nat.zero_add, List.nil_append] at hown
      obtain ⟨A8, c8, rfl, _, _, _⟩ := own_slice hown
      have b8 : Below w1.heap.size w1 w8 := Below.grown ((Below.refl w1.heap.size w1).drew) hg (Nat.le_refl _) (fun k hk => by cases hk)
      have HBX := Lib.hid (b8.alloc b8.size (.cells u.cells 29))
      have HSX := Lib.hid HBX.out.size
      have HOWN := Lib.hid (hown.alloc (.cells u.cells 29))
      have HNEW : Hid (Reads (w8.alloc (.cells u.cells 29)) (w8.alloc (.cells u.cells 29)).heap.size 7 (some ⟨w8.heap.size, 0, none⟩) 1 u.row) := Lib.hid ⟨rfl, fun _ => ⟨_, rfl, by simp, fun j x hx => cells_new_at w8 u.cells 29 _ rfl j x (by simpa [Up.cells, Up.row] using hx)⟩⟩
      have r3 := (b8.cell (p := ⟨w.heap.size, 3, none⟩) lr).trans q3
      have r0 := (b8.cell (p := ⟨w.heap.size + 1, 0, none⟩) lx).trans x0
      have s1 := (b8.cell (p := ⟨w.heap.size + 1, 1, none⟩) lx).trans x1
      have s2 := (b8.cell (p := ⟨w.heap.size + 1, 2, none⟩) lx).trans x2
      have s3 := (b8.cell (p := ⟨w.heap.size + 1, 3, none⟩) lx).trans x3
      have s4 := (b8.cell (p := ⟨w.heap.size + 1, 4, none⟩) lx).trans x4
      have s5 := (b8.cell (p := ⟨w.heap.size + 1, 5, none⟩) lx).trans x5
      have s6 := (b8.cell (p := ⟨w.heap.size + 1, 6, none⟩) lx).trans x6
      refine hK.out _ _ ⟨r3, r0, s1, s2, s3, s4, s5, s6⟩ (fun hHeld => ?_)
      clear hK K hown hg b8
      try simp only [Act.put, List.setIfInBounds_toArray, List.set_cons_zero, List.set_cons_succ, List.getElem_toArray, List.getElem_cons_zero, List.getElem_cons_succ]
      refine wpAnyK_ready (rs := [4]) (by kernel_rfl) (by simp) ?_
      refine AllReadyK.cons (o := _) rfl (fun K hK => ?_) AllReadyK.nil
      go_simp
      (try go_simp)
      refine hK.out _ _ ?_ (fun hHeld => ?_)
      · go_keep
      clear hK K
      try simp only [Act.put, List.setIfInBounds_toArray, List.set_cons_zero, List.set_cons_succ, List.getElem_toArray, List.getElem_cons_zero, List.getElem_cons_succ]
      refine wpAnyK_ready (rs := [5]) (by kernel_rfl) (by simp) ?_
      refine AllReadyK.last (o := _) rfl (by kernel_rfl) (fun K hK => ?_) AllReadyK.nil
      refine step_append_any _ rfl (.tmp 22) (.tmp 24) _ rfl w1.heap.size 29 i0 _ 7 72 Tryz.underlying36 hi hz0 hz1 hz2 rfl (by omega) (.slice A8 l.length c8) l.length (l.flatMap Up.row) rfl HOWN.out _ _ 1 1 u.row rfl HNEW.out (up_one u) (by unfold maxLen; omega) (by omega) HSX.out ?_
      intro v9 w9 hown9 hg9 _
      have b9 : Below w1.heap.size w1 w9 := HBX.out.grown hg9 HSX.out (fun k hk => (HOWN.out.lt k hk).1)
      have e1 := B1.out.below b9 lr
      have d3 := (e1.cell 3).trans (show _ = some (.slice A l.length c) from rfl)
      have fz := e1.frozen 3
      have l9 := e1.lt
      have HE9 := Lib.hid e1
      have H9 := Lib.hid b9
      have HO9 := Lib.hid hown9
      obtain ⟨A9, c9, rfl, _, _, _⟩ := own_slice hown9
      clear e1 b9 hown9 hg9 hHeld
      (try go_simp)
      refine hK.out _ _ ?_
      clear hK K
      try simp only [Act.put, List.setIfInBounds_toArray, List.set_cons_zero, List.set_cons_succ, List.getElem_toArray, List.getElem_cons_zero, List.getElem_cons_succ]
      refine wpAnyK_free' (i := 6) (oi := _) (v := ?_) rfl (by kernel_rfl) (by kernel_rfl) (by kernel_rfl) (by decide) (fun _ _ _ h => h) (Or.inl ⟨by rfl, ?_⟩) (fun h0 => by cases h0) ?_
      rotate_left 1
      · (intro wq hSw; (try dsimp only at hSw); go_simp; (try with_reducible rfl))
      try simp only [Act.put, List.setIfInBounds_toArray, List.set_cons_zero, List.set_cons_succ, List.getElem_toArray, List.getElem_cons_zero, List.getElem_cons_succ]
      refine wpAnyK_ready (rs := [7]) (by kernel_rfl) (by simp) ?_
      refine AllReadyK.last (o := _) rfl (by kernel_rfl) (fun K hK => ?_) AllReadyK.nil
      go_simp
      (try go_simp)
      refine hK.out _ _ ?_
      clear hK K
      try simp only [Act.put, List.setIfInBounds_toArray, List.set_cons_zero, List.set_cons_succ, List.getElem_toArray, List.getElem_cons_zero, List.getElem_cons_succ]
      refine wpAnyK_done (by kernel_rfl) ?_ _
      go_wp2_with (fail)
      go_meet
      case rel => exact ⟨w9, A9, c9, rfl, HE9, H9, HO9⟩
    · refine AllReadyK.cons (o := _) rfl (fun K hK => ?_) AllReadyK.nil
      go_simp
      refine hK.out _ _ ?_ (fun hHeld => ?_)
      · go_keep
      clear hK K
      try simp only [Act.put, List.setIfInBounds_toArray, List.set_cons_zero, List.set_cons_succ, List.getElem_toArray, List.getElem_cons_zero, List.getElem_cons_succ]
      have HB7 : Hid (Below w1.heap.size w1 (w1.drew.alloc (.cells u.cells 29))) := Lib.hid (by repeat (first | with_reducible exact Below.refl _ _ | with_reducible refine Below.setCell ?_ (by first | omega | (simp <;> omega)) _ | with_reducible refine Below.alloc ?_ (by first | omega | (simp <;> omega)) _ | with_reducible refine below_drewN ?_ _ | with_reducible refine Below.drew ?_))
      refine wpAnyK_ready (rs := [2]) (by kernel_rfl) (by simp) ?_
      refine AllReadyK.cons (o := _) rfl (fun K hK => ?_) AllReadyK.nil
      refine step_append_any _ rfl (.const (.slice none 0 0)) (.tmp 21) _ rfl w1.heap.size 29 i0 _ 7 72 Tryz.underlying36 hi hz0 hz1 hz2 rfl (by omega) (.slice none 0 0) 0 [] rfl (World.ownsRow_nil _ _ _ _) w1.heap.size A l.length c (l.flatMap Up.row) rfl ((HRD.out.drew.alloc (Nat.le_refl _) _)) (up_rows_one l) (by unfold maxLen; omega) (by omega) (by simp) ?_
      intro v8 w8 hown hg _
      simp only [Nat.zero_add, List.nil_append] at hown
      obtain ⟨A8, c8, rfl, _, _, _⟩ := own_slice hown
      have b8 : Below w1.heap.size w1 w8 := Below.grown HB7.out hg HB7.out.size (fun k hk => by cases hk)
      have HBX := Lib.hid b8
      have HSX := Lib.hid b8.size
      have HOWN := Lib.hid hown
      have HNEW : Hid (Reads w8 w8.heap.size 7 (some ⟨w1.heap.size, 0, none⟩) 1 u.row) := Lib.hid (by
        have h1 : Reads (w1.drew.alloc (.cells u.cells 29)) (w1.drew.alloc (.cells u.cells 29)).heap.size 7 (some ⟨w1.heap.size, 0, none⟩) 1 u.row := ⟨rfl, fun _ => ⟨_, rfl, by simp, fun j x hx => cells_new_at w1.drew u.cells 29 _ rfl j x (by simpa [Up.cells, Up.row] using hx)⟩⟩
        exact (h1.grown hg (Nat.le_refl _) (fun k hk => by cases hk)).more hg.size)
      have r3 := (b8.cell (p := ⟨w.heap.size, 3, none⟩) lr).trans q3
      have r0 := (b8.cell (p := ⟨w.heap.size + 1, 0, none⟩) lx).trans x0
      have s1 := (b8.cell (p := ⟨w.heap.size + 1, 1, none⟩) lx).trans x1
      have s2 := (b8.cell (p := ⟨w.heap.size + 1, 2, none⟩) lx).trans x2
      have s3 := (b8.cell (p := ⟨w.heap.size + 1, 3, none⟩) lx).trans x3
      have s4 := (b8.cell (p := ⟨w.heap.size + 1, 4, none⟩) lx).trans x4
      have s5 := (b8.cell (p := ⟨w.heap.size + 1, 5, none⟩) lx).trans x5
      have s6 := (b8.cell (p := ⟨w.heap.size + 1, 6, none⟩) lx).trans x6
      refine hK.out _ _ ⟨r3, r0, s1, s2, s3, s4, s5, s6⟩ (fun hHeld => ?_)
      clear hK K hown hg b8
      try simp only [Act.put, List.setIfInBounds_toArray, List.set_cons_zero, List.set_cons_succ, List.getElem_toArray, List.getElem_cons_zero, List.getElem_cons_succ]
      refine wpAnyK_ready (rs := [5]) (by kernel_rfl) (by simp) ?_
      refine AllReadyK.last (o := _) rfl (by kernel_rfl) (fun K hK => ?_) AllReadyK.nil
      refine step_append_any _ rfl (.tmp 22) (.tmp 24) _ rfl w1.heap.size 29 i0 _ 7 72 Tryz.underlying36 hi hz0 hz1 hz2 rfl (by omega) (.slice A8 l.length c8) l.length (l.flatMap Up.row) rfl HOWN.out _ _ 1 1 u.row rfl HNEW.out (up_one u) (by unfold maxLen; omega) (by omega) HSX.out ?_
      intro v9 w9 hown9 hg9 _
      have b9 : Below w1.heap.size w1 w9 := HBX.out.grown hg9 HSX.out (fun k hk => (HOWN.out.lt k hk).1)
      have e1 := B1.out.below b9 lr
      have d3 := (e1.cell 3).trans (show _ = some (.slice A l.length c) from rfl)
      have fz := e1.frozen 3
      have l9 := e1.lt
      have HE9 := Lib.hid e1
      have H9 := Lib.hid b9
      have HO9 := Lib.hid hown9
      obtain ⟨A9, c9, rfl, _, _, _⟩ := own_slice hown9
      clear e1 b9 hown9 hg9 hHeld
      (try go_simp)
      refine hK.out _ _ ?_
      clear hK K
      try simp only [Act.put, List.setIfInBounds_toArray, List.set_cons_zero, List.set_cons_succ, List.getElem_toArray, List.getElem_cons_zero, List.getElem_cons_succ]
      refine wpAnyK_free' (i := 6) (oi := _) (v := ?_) rfl (by kernel_rfl) (by kernel_rfl) (by kernel_rfl) (by decide) (fun _ _ _ h => h) (Or.inl ⟨by rfl, ?_⟩) (fun h0 => by cases h0) ?_
      rotate_left 1
      · (intro wq hSw; (try dsimp only at hSw); go_simp; (try with_reducible rfl))
      try simp only [Act.put, List.setIfInBounds_toArray, List.set_cons_zero, List.set_cons_succ, List.getElem_toArray, List.getElem_cons_zero, List.getElem_cons_succ]
      refine wpAnyK_ready (rs := [7]) (by kernel_rfl) (by simp) ?_
      refine AllReadyK.last (o := _) rfl (by kernel_rfl) (fun K hK => ?_) AllReadyK.nil
      go_simp
      (try go_simp)
      refine hK.out _ _ ?_
      clear hK K
      try simp only [Act.put, List.setIfInBounds_toArray, List.set_cons_zero, List.set_cons_succ, List.getElem_toArray, List.getElem_cons_zero, List.getElem_cons_succ]
      refine wpAnyK_done (by kernel_rfl) ?_ _
      go_wp2_with (fail)
      go_meet
      case rel => exact ⟨w9, A9, c9, rfl, HE9, H9, HO9⟩
  case rest =>
    obtain ⟨w9, A9, c9, rfl, HE9, H9, HO9⟩ := hcut
    have hc1 := (chg_setB w9 w.heap.size (.slice A9 (l.length + 1) c9) 3).trans (chg_setB _ w.heap.size (.int .u64 u.seq) 1) (fun _ _ x => x)
    have k1 := HE9.out.set_ 3 (.slice A9 (l.length + 1) c9)
    have k2 := (B2.out.below H9.out lx).far (show w.heap.size + 1 ≠ (⟨w.heap.size, 3, none⟩ : Addr).block by simp) (.slice A9 (l.length + 1) c9)
    have m1 := k1.set_ 1 (.int .u64 u.seq)
    have m3 := ((B3.out.below H9.out B3.out.lt).far (show w.heap.size + 2 ≠ (⟨w.heap.size, 3, none⟩ : Addr).block by simp) (.slice A9 (l.length + 1) c9)).far (show w.heap.size + 2 ≠ (⟨w.heap.size, 1, none⟩ : Addr).block by simp) (.int .u64 u.seq)
    have hown := hc1.own HO9.out (fun k hk e => by have := (HO9.out.lt k hk).1; simp only [isB] at e; omega)
    have hbel : Below w.heap.size w ((w9.setCell ⟨w.heap.size, 3, none⟩ (.slice A9 (l.length + 1) c9)).setCell ⟨w.heap.size, 1, none⟩ (.int .u64 u.seq)) := (H1.out.trans (H9.out.mono H1.out.size)).trans (hc1.below (Nat.le_trans H1.out.size H9.out.size) (fun k hk e => by simp only [isB] at e; omega))
    have hsz : ((w9.setCell ⟨w.heap.size, 3, none⟩ (.slice A9 (l.length + 1) c9)).setCell ⟨w.heap.size, 1, none⟩ (.int .u64 u.seq)).heap.size = w9.heap.size := by simp
    have lw1 : w.heap.size + 2 < w1.heap.size := B3.out.lt
    have HNA : Hid (∀ ad, A9 = some ad → w1.heap.size ≤ ad.block) := Lib.hid (fun ad hA => by subst hA; exact (HO9.out.lt ad.block rfl).1)
    clear x0 x1 x2 x3 x4 x5 x6 q0 q1 q2 q3 y0 y1 y2 y3 f0 f1 f2 f3
    obtain ⟨t0, t1, t2, t3⟩ := rw_cells k1
    obtain ⟨tf0, tf1, tf2, tf3⟩ := rw_frozen k1
    obtain ⟨x0, x1, x2, x3, x4, x5, x6⟩ := up_cells k2
    have KC : Hid (Calls Tryz.prog 29 #[.agg #[.int .u64 low, .int .u64 u.seq, .int .u64 done, .slice A9 (l.length + 1) c9]] ((w9.setCell ⟨w.heap.size, 3, none⟩ (.slice A9 (l.length + 1) c9)).setCell ⟨w.heap.size, 1, none⟩ (.int .u64 u.seq)) (KeptP ⟨low, u.seq, done, A9, c9, l ++ [u]⟩ ((w9.setCell ⟨w.heap.size, 3, none⟩ (.slice A9 (l.length + 1) c9)).setCell ⟨w.heap.size, 1, none⟩ (.int .u64 u.seq)))) := Lib.hid (by
      have h1 : RW.inn ((w9.setCell ⟨w.heap.size, 3, none⟩ (.slice A9 (l.length + 1) c9)).setCell ⟨w.heap.size, 1, none⟩ (.int .u64 u.seq)) ((w9.setCell ⟨w.heap.size, 3, none⟩ (.slice A9 (l.length + 1) c9)).setCell ⟨w.heap.size, 1, none⟩ (.int .u64 u.seq)).heap.size ⟨low, u.seq, done, A9, c9, l ++ [u]⟩ := by
        have h2 := Reads.of_own hown
        refine ⟨⟨by simpa [List.flatMap_append] using h2, fun x hx => ?_⟩, by simpa using HLM.out.1, H.out.low, H.out.ld, ?_, ?_⟩
        · have hm : UpIn w B x := by
            simp only [List.mem_append, List.mem_singleton] at hx
            rcases hx with hx | rfl
            · exact H.out.ups.mem x hx
            · exact HU.out
          exact (hm.below (hbel.mono hB)).more (Nat.le_trans hB hbel.size)
        · have g1 : done ≤ fin := H.out.de
          have g2 : u.seq - 1 = fin := HQ.out
          show done ≤ u.seq; omega
        · have g1 : fin + 1 ≤ 9000000000000000000 := HLM.out.2
          have g2 : u.seq - 1 = fin := HQ.out
          show u.seq ≤ 9000000000000000000; omega
      have h3 := kept_any ⟨low, u.seq, done, A9, c9, l ++ [u]⟩ _ _ h1 (Nat.le_refl _)
      simpa [RW.agg] using h3)
    have HM1 := Lib.hid m1
    have HM3 := Lib.hid m3
    have HOW := Lib.hid hown
    have HBEL := Lib.hid hbel
    clear k1 k2 m1 m3 hown hbel hc1
    go_wp2_with (fail)
    refine KC.out.mono ?_
    rintro e w12 ⟨A', c', rfl, hrd, hsn, hb12⟩
    obtain ⟨X, hX⟩ : ∃ X, RW.keptLow ⟨low, u.seq, done, A9, c9, l ++ [u]⟩ = X := ⟨_, rfl⟩
    obtain ⟨ol, hol⟩ : ∃ ol, RW.keptL ⟨low, u.seq, done, A9, c9, l ++ [u]⟩ = ol := ⟨_, rfl⟩
    rw [hX, hol]
    rw [hol] at hrd
    have HXX := Lib.hid hX
    have HOL := Lib.hid hol
    have HN3 := Lib.hid (HM3.out.below hb12 HM3.out.lt)
    have HB12 := Lib.hid (HBEL.out.trans (hb12.mono HBEL.out.size))
    have HRD12 := Lib.hid hrd
    have HNW : Hid (∀ ad, A' = some ad → w1.heap.size ≤ ad.block) := Lib.hid (fun ad hA => by
      rcases hsn with h | h
      · exact HNA.out ad (by rw [← hA]; exact h.symm)
      · have := h ad hA; rw [hsz] at this; exact Nat.le_trans H9.out.size this)
    clear hX hol hrd hsn hb12 hsz t0 t1 t2 t3 tf0 tf1 tf2 tf3 x0 x1 x2 x3 x4 x5 x6
    obtain ⟨y0, y1, y2, y3⟩ := rw_cells HN3.out
    obtain ⟨f0, f1, f2, f3⟩ := rw_frozen HN3.out
    simp only [RW.agg]
    go_wp2_with (fail)
    have HC := Lib.hid (chg_set4 w12 (w.heap.size + 2) (.int .u64 X) (.int .u64 u.seq) (.int .u64 done) (.slice A' ol.length c'))
    have HK := Lib.hid (blk_set4 HN3.out (.int .u64 X) (.int .u64 u.seq) (.int .u64 done) (.slice A' ol.length c'))
    generalize (((w12.setCell ⟨w.heap.size + 2, 0, none⟩ (.int .u64 X)).setCell ⟨w.heap.size + 2, 1, none⟩ (.int .u64 u.seq)).setCell ⟨w.heap.size + 2, 2, none⟩ (.int .u64 done)).setCell ⟨w.heap.size + 2, 3, none⟩ (.slice A' ol.length c') = wz at HC HK ⊢
    obtain ⟨p0, p1, p2, p3⟩ := rw_cells HK.out
    refine bodyPost_ret (v := .tuple #[.agg #[.int .u64 X, .int .u64 u.seq, .int .u64 done, .slice A' ol.length c'], .int .i64 0]) (by simp [results, Tryz.results17, go_sem, p0, p1, p2, p3]) rfl ?_
    have hbz : Below w.heap.size w wz := HB12.out.trans (HC.out.below HB12.out.size (fun k hk e => by simp only [isB] at e; omega))
    refine ⟨⟨X, u.seq, done, A', c', ol⟩, by rw [HE.out]; rfl, .inr ⟨HE.out, HXX.out.symm, rfl, rfl, HOL.out.symm⟩, ?_, .inr (fun ad hA => ?_), hbz⟩
    · refine (HC.out.reads HRD12.out (Nat.le_refl _) (fun ad h0 hA e => ?_)).more HC.out.size
      have := HNW.out ad hA
      simp only [isB] at e
      omega
    · have h1 := HNW.out ad hA
      show w.heap.size ≤ _
      omega
end Go.Proofs.YtfcjkkjgedcgpaaGreatDoor
