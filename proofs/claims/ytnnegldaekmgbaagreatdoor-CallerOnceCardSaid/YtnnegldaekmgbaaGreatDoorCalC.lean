/- A caller: check. -/
import Derived.Test.YtnnegldaekmgbaaGreatDoorCalB
namespace Go.Proofs.YtnnegldaekmgbaaGreatDoor
open Go.RowKit
set_option linter.unusedSimpArgs false
set_option linter.unusedVariables false
set_option maxHeartbeats 8000000
set_option maxRecDepth 100000

attribute [local go_sem] Opn.agg Opn.cells






noncomputable def chkE (o : Opn) (cl num : Int) : Int := if o.kd = 1 then (if o.ver ≠ 0 ∨ 0 < o.n then 4 else 0) else if o.kd = 2 ∨ o.kd = 3 then reqE o cl num else 1
theorem opInfo : (Tryz.prog.info? 26).map (·.size) = some 5 := by kernel_rfl
theorem load_op (o : Opn) (g : Nat) (w : World) (h : Blk w g 26 o.cells) : (loadVar 26 ⟨g, 0, none⟩).run Tryz.prog w = .ok o.agg w := run_loadVar_row w g 26 26 o.cells (0, 0) _ h Tryz.underlying26 rfl opInfo
theorem upInfo7 : (Tryz.prog.info? 121).map (·.size) = some 7 := by kernel_rfl
theorem up_all (u : Up) : u.cells.all (·.oneCell') = true := by simp [Up.cells, Value.oneCell']
theorem op_cells {w : World} {g : Nat} {o : Opn} (h : Blk w g 26 o.cells) : w.cell? ⟨g, 0, none⟩ = some (.int .i64 o.kd) ∧ w.cell? ⟨g, 1, none⟩ = some (.int .u32 o.key) ∧ w.cell? ⟨g, 2, none⟩ = some (.int .u64 o.ver) ∧ w.cell? ⟨g, 3, none⟩ = some (.slice o.A o.n o.c) ∧ w.cell? ⟨g, 4, none⟩ = some (.int .i64 o.pick) :=
  ⟨h.cell 0, h.cell 1, h.cell 2, h.cell 3, h.cell 4⟩
theorem calCheck_any (lo g G h : Nat) (vs : List (Int × Int × List Int × Bool × Int)) (c : Cl) (o : Opn) (B : Nat) (w : World) (hK : KindsAt w) (a : CalAt w lo g G h vs c) (ho : OpIn w B o) (hB : B ≤ w.heap.size) (hn : o.n ≤ 1000000) (hcl : c.cl ≤ 6) (hnum : c.num ≤ 1000000) :
    Calls Tryz.prog 51 #[.pointer (some ⟨g, 0, none⟩), o.agg] w fun e w' => e = .returned (.int .i64 (chkE o c.cl ((c.num + 1 : Nat) : Int))) ∧ Below w.heap.size w w' := by
  obtain ⟨W5, hW5⟩ : ∃ W5, W5 = w.alloc (.cells o.cells 26) := ⟨_, rfl⟩
  have hb1 : Blk W5 w.heap.size 26 o.cells := by rw [hW5]; exact Blk.new _ _ _
  have HBW : Hid (Below w.heap.size w W5) := Lib.hid (by rw [hW5]; exact (Below.refl _ _).alloc (Nat.le_refl _) _)
  have HA : Hid (CalAt W5 lo g G h vs c) := Lib.hid (a.below HBW.out)
  have HO : Hid (OpIn W5 B o) := Lib.hid (ho.below (HBW.out.mono hB))
  have HK := Lib.hid (hK.below HBW.out)
  have HB5 := Nat.le_trans hB HBW.out.size
  have lg := a.box.lt
  have l1 := hb1.lt
  obtain ⟨x0, x1, x2, x3, x4⟩ := op_cells hb1
  have nw : g ≠ w.heap.size := by omega
  have y0 : W5.cell? ⟨g, 0, none⟩ = some (.int .i64 c.cl) := (HA.out.box.cell 0).trans rfl
  have y2 : W5.cell? ⟨g, 2, none⟩ = some (.int .u64 c.num) := (HA.out.box.cell 2).trans rfl
  have lg5 := HA.out.box.lt
  have HW5 := Lib.hid hW5
  have e1 : IntKind.u64.wrap ((c.num : Int) + 1) = ((c.num + 1 : Nat) : Int) := by rw [IntKind.wrap_u64]; omega
  have RQ := Lib.hid (fun W (h9 : Below W5.heap.size W5 W) => request_any o c.cl ((c.num + 1 : Nat) : Int) B W (HK.out.below (h9.mono (by omega))) (HO.out.below (h9.mono HB5)) (Nat.le_trans HB5 h9.size) hn (by omega) (by omega))
  clear hW5 a ho hK
  by_cases hk1 : o.kd = 1
  · have q1 : (o.kd == 1) = true := by simp [hk1]
    by_cases hv : o.ver = 0
    · have q2 : (o.ver != 0) = false := by simp [hv]
      by_cases h0 : 0 < o.n
      · have q3 : decide (0 < o.n) = true := decide_eq_true h0
        have HE : Hid (chkE o c.cl ((c.num + 1 : Nat) : Int) = 4) := Lib.hid (by unfold chkE; rw [if_pos hk1, if_pos (.inr h0)])
        rw [HE.out]
        clear hk1 hv h0 HE
        go_enter Tryz.func51, Tryz.ntmps51
        go_upto_region 1 with (fail)
        rw [show w.alloc (.cells #[.int .i64 o.kd, .int .u32 o.key, .int .u64 o.ver, .slice o.A o.n o.c, .int .i64 o.pick] 26) = W5 from HW5.out.symm]
        go_wp2_with (fail)
        go_ret
        exact ⟨rfl, HBW.out⟩
      · have q3 : decide (0 < o.n) = false := decide_eq_false h0
        have HE : Hid (chkE o c.cl ((c.num + 1 : Nat) : Int) = 0) := Lib.hid (by unfold chkE; rw [if_pos hk1, if_neg (by rintro (e | e); exact e hv; exact h0 e)])
        rw [HE.out]
        clear hk1 hv h0 HE
        go_enter Tryz.func51, Tryz.ntmps51
        go_upto_region 1 with (fail)
        rw [show w.alloc (.cells #[.int .i64 o.kd, .int .u32 o.key, .int .u64 o.ver, .slice o.A o.n o.c, .int .i64 o.pick] 26) = W5 from HW5.out.symm]
        go_wp2_with (fail)
        go_ret
        exact ⟨rfl, HBW.out⟩
    · have q2 : (o.ver != 0) = true := by simp [hv]
      have HE : Hid (chkE o c.cl ((c.num + 1 : Nat) : Int) = 4) := Lib.hid (by unfold chkE; rw [if_pos hk1, if_pos (.inl hv)])
      rw [HE.out]
      clear hk1 hv HE
      go_enter Tryz.func51, Tryz.ntmps51
      go_upto_region 1 with (fail)
      rw [show w.alloc (.cells #[.int .i64 o.kd, .int .u32 o.key, .int .u64 o.ver, .slice o.A o.n o.c, .int .i64 o.pick] 26) = W5 from HW5.out.symm]
      go_wp2_with (fail)
      go_ret
      exact ⟨rfl, HBW.out⟩
  · have q1 : (o.kd == 1) = false := by simp [hk1]
    by_cases hk2 : o.kd = 2 ∨ o.kd = 3
    · have HE : Hid (chkE o c.cl ((c.num + 1 : Nat) : Int) = reqE o c.cl ((c.num + 1 : Nat) : Int)) := Lib.hid (by unfold chkE; rw [if_neg hk1, if_pos hk2])
      rw [HE.out]
      have q23 : ((o.kd == 2) = true) ∨ ((o.kd == 2) = false ∧ (o.kd == 3) = true) := by
        rcases hk2 with e | e
        · exact .inl (by simp [e])
        · exact .inr ⟨by simp [e], by simp [e]⟩
      clear hk1 hk2 HE
      have HBO : Hid (Blk W5 w.heap.size 26 o.cells) := Lib.hid hb1
      clear hb1
      rcases q23 with q2 | ⟨q2, q3⟩
      all_goals
        go_enter Tryz.func51, Tryz.ntmps51
        go_upto_region 9 with (fail)
        rw [show w.alloc (.cells #[.int .i64 o.kd, .int .u32 o.key, .int .u64 o.ver, .slice o.A o.n o.c, .int .i64 o.pick] 26) = W5 from HW5.out.symm]
        have HB : Hid (Below W5.heap.size W5 W5.drew) := Lib.hid (Below.refl _ _).drew
        have hBO := HBO.out
        clear x0 x1 x2 x3 x4
        refine wp_region_held_drew (S := fun wq => wq.cell? ⟨g, 0, none⟩ = some (.int .i64 c.cl) ∧ wq.cell? ⟨g, 2, none⟩ = some (.int .u64 c.num) ∧ Blk wq w.heap.size 26 o.cells) (by kernel_rfl) ⟨y0, y2, hBO⟩ (fun hHeld => ?_)
        refine wpAnyH_take (i := 0) (v := o.agg) rfl (by kernel_rfl) (by kernel_rfl) (by kernel_rfl) (fun _ _ _ h => h) (Or.inl ⟨by rfl, ?_⟩) (by assumption) ?_
        · exact fun wq hSw => exec_load_row rfl _ rfl (load_op o _ wq hSw.2.2)
        try simp only [Act.put, List.setIfInBounds_toArray, List.set_cons_zero, List.set_cons_succ, List.getElem_toArray, List.getElem_cons_zero, List.getElem_cons_succ]
        refine wpAnyH_take (i := 1) (v := ?_) rfl (by kernel_rfl) (by kernel_rfl) (by kernel_rfl) (fun _ _ _ h => h) (Or.inl ⟨by rfl, ?_⟩) (by assumption) ?_
        rotate_left 1
        · (intro wq hSw; (try dsimp only at hSw); go_simp; (try with_reducible rfl))
        refine wpAnyH_take (i := 2) (v := ?_) rfl (by kernel_rfl) (by kernel_rfl) (by kernel_rfl) (fun _ _ _ h => h) (Or.inl ⟨by rfl, ?_⟩) (by assumption) ?_
        rotate_left 1
        · (intro wq hSw; (try dsimp only at hSw); go_simp; (try with_reducible rfl))
        refine wpAnyH_take (i := 3) (v := ?_) rfl (by kernel_rfl) (by kernel_rfl) (by kernel_rfl) (fun _ _ _ h => h) (Or.inl ⟨by rfl, ?_⟩) (by assumption) ?_
        rotate_left 1
        · (intro wq hSw; (try dsimp only at hSw); go_simp; (try with_reducible rfl))
        refine wpAnyH_take (i := 4) (v := ?_) rfl (by kernel_rfl) (by kernel_rfl) (by kernel_rfl) (fun _ _ _ h => h) (Or.inl ⟨by rfl, ?_⟩) (by assumption) ?_
        rotate_left 1
        · (intro wq hSw; (try dsimp only at hSw); go_simp; (try with_reducible rfl))
        refine wpAnyH_take (i := 5) (v := ?_) rfl (by kernel_rfl) (by kernel_rfl) (by kernel_rfl) (fun _ _ _ h => h) (Or.inl ⟨by rfl, ?_⟩) (by assumption) ?_
        rotate_left 1
        · (intro wq hSw; (try dsimp only at hSw); go_simp; (try with_reducible rfl))
        refine wpAnyH_take (i := 6) (v := ?_) rfl (by kernel_rfl) (by kernel_rfl) (by kernel_rfl) (fun _ _ _ h => h) (Or.inl ⟨by rfl, ?_⟩) (by assumption) ?_
        rotate_left 1
        · (intro wq hSw; (try dsimp only at hSw); go_simp; (try with_reducible rfl))
        refine wpAnyH_take (i := 7) (v := ?_) rfl (by kernel_rfl) (by kernel_rfl) (by kernel_rfl) (fun _ _ _ h => h) (Or.inl ⟨by rfl, ?_⟩) (by assumption) ?_
        rotate_left 1
        · (intro wq hSw; (try dsimp only at hSw); go_simp; (try with_reducible rfl))
        refine wpAnyH_take (i := 8) (v := ?_) rfl (by kernel_rfl) (by kernel_rfl) (by kernel_rfl) (fun _ _ _ h => h) (Or.inl ⟨by rfl, ?_⟩) (by assumption) ?_
        rotate_left 1
        · (intro wq hSw; (try dsimp only at hSw); go_simp; (try with_reducible rfl))
        refine wpAnyH_take (i := 9) (v := ?_) rfl (by kernel_rfl) (by kernel_rfl) (by kernel_rfl) (fun _ _ _ h => h) (Or.inl ⟨by rfl, ?_⟩) (by assumption) ?_
        rotate_left 1
        · (intro wq hSw; (try dsimp only at hSw); go_simp; (try with_reducible rfl))
        try simp only [Act.put, List.setIfInBounds_toArray, List.set_cons_zero, List.set_cons_succ, List.getElem_toArray, List.getElem_cons_zero, List.getElem_cons_succ]
        refine wpAnyH_ready (rs := [10, 14]) (by kernel_rfl) (by simp) ?_
        refine (AllReadyH.cons rfl (fun K hK => ?_) (AllReadyH.cons rfl (fun K hK => ?_) AllReadyH.nil))
        · go_simp
          refine (RQ.out _ HB.out).mono ?_
          rintro e x10 ⟨A9, c9, rfl, hu9, h9⟩
          replace HB := Lib.hid (HB.out.trans (h9.mono HB.out.size))
          (try replace GB := Lib.hid (GB.out.below h9 GB.out.lt))
          have HS : x10.cell? ⟨g, 0, none⟩ = some (.int .i64 c.cl) ∧ x10.cell? ⟨g, 2, none⟩ = some (.int .u64 c.num) ∧ Blk x10 w.heap.size 26 o.cells := ⟨(HA.out.below HB.out).box.cell 0, (HA.out.below HB.out).box.cell 2, HBO.out.below HB.out l1⟩
          clear h9 hu9
          generalize reqV (reqE o c.cl ((c.num + 1 : Nat) : Int)) (reqU o c.cl ((c.num + 1 : Nat) : Int) A9 c9) = u9 at *
          refine hK.out _ _ ?_ (fun hHeld => ?_)
          · first | exact HS | go_keep
          clear hK K
          try simp only [Act.put, List.setIfInBounds_toArray, List.set_cons_zero, List.set_cons_succ, List.getElem_toArray, List.getElem_cons_zero, List.getElem_cons_succ]
          refine wpAnyH_take (i := 11) (v := ?_) rfl (by kernel_rfl) (by kernel_rfl) (by kernel_rfl) (fun _ _ _ h => h) (Or.inl ⟨by rfl, ?_⟩) (by assumption) ?_
          rotate_left 1
          · (intro wq hSw; (try dsimp only at hSw); go_simp; (try with_reducible rfl))
          refine wpAnyH_take (i := 12) (v := ?_) rfl (by kernel_rfl) (by kernel_rfl) (by kernel_rfl) (fun _ _ _ h => h) (Or.inl ⟨by rfl, ?_⟩) (by assumption) ?_
          rotate_left 1
          · (intro wq hSw; (try dsimp only at hSw); go_simp; (try with_reducible rfl))
          refine wpAnyH_take (i := 13) (v := ?_) rfl (by kernel_rfl) (by kernel_rfl) (by kernel_rfl) (fun _ _ _ h => h) (Or.inl ⟨by rfl, ?_⟩) (by assumption) ?_
          rotate_left 1
          · (intro wq hSw; (try dsimp only at hSw); go_simp; (try with_reducible rfl))
          try simp only [Act.put, List.setIfInBounds_toArray, List.set_cons_zero, List.set_cons_succ, List.getElem_toArray, List.getElem_cons_zero, List.getElem_cons_succ]
          refine wpAnyH_ready (rs := [14]) (by kernel_rfl) (by simp) ?_
          refine (AllReadyH.cons rfl (fun K hK => ?_) AllReadyH.nil)
          go_simp
          have lG : W5.heap.size ≤ x10.heap.size := HB.out.size
          have GB := Lib.hid (Blk.new x10 121 #[.int .u64 0, .int .i64 0, .int .u64 0, .int .i64 0, .int .u32 0, .int .u64 0, .slice none 0 0])
          replace HB := Lib.hid (HB.out.alloc HB.out.size (.cells #[.int .u64 0, .int .i64 0, .int .u64 0, .int .i64 0, .int .u32 0, .int .u64 0, .slice none 0 0] 121))
          have HS : (x10.alloc (.cells #[.int .u64 0, .int .i64 0, .int .u64 0, .int .i64 0, .int .u32 0, .int .u64 0, .slice none 0 0] 121)).cell? ⟨g, 0, none⟩ = some (.int .i64 c.cl) ∧ (x10.alloc (.cells #[.int .u64 0, .int .i64 0, .int .u64 0, .int .i64 0, .int .u32 0, .int .u64 0, .slice none 0 0] 121)).cell? ⟨g, 2, none⟩ = some (.int .u64 c.num) ∧ Blk (x10.alloc (.cells #[.int .u64 0, .int .i64 0, .int .u64 0, .int .i64 0, .int .u32 0, .int .u64 0, .slice none 0 0] 121)) w.heap.size 26 o.cells := ⟨(HA.out.below HB.out).box.cell 0, (HA.out.below HB.out).box.cell 2, HBO.out.below HB.out l1⟩
          refine hK.out _ _ ?_ (fun hHeld => ?_)
          · first | exact HS | go_keep
          clear hK K
          try simp only [Act.put, List.setIfInBounds_toArray, List.set_cons_zero, List.set_cons_succ, List.getElem_toArray, List.getElem_cons_zero, List.getElem_cons_succ]
          refine wpAnyH_ready (rs := [15]) (by kernel_rfl) (by simp) ?_
          refine (AllReadyH.cons rfl (fun K hK => ?_) AllReadyH.nil)
          replace HB : Hid (Below W5.heap.size W5 (World.setRow (x10.alloc (.cells #[.int .u64 0, .int .i64 0, .int .u64 0, .int .i64 0, .int .u32 0, .int .u64 0, .slice none 0 0] 121)) x10.heap.size u9.cells)) := Lib.hid (below_setRow HB.out lG _)
          have HS : (World.setRow (x10.alloc (.cells #[.int .u64 0, .int .i64 0, .int .u64 0, .int .i64 0, .int .u32 0, .int .u64 0, .slice none 0 0] 121)) x10.heap.size u9.cells).cell? ⟨g, 0, none⟩ = some (.int .i64 c.cl) ∧ (World.setRow (x10.alloc (.cells #[.int .u64 0, .int .i64 0, .int .u64 0, .int .i64 0, .int .u32 0, .int .u64 0, .slice none 0 0] 121)) x10.heap.size u9.cells).cell? ⟨g, 2, none⟩ = some (.int .u64 c.num) ∧ Blk (World.setRow (x10.alloc (.cells #[.int .u64 0, .int .i64 0, .int .u64 0, .int .i64 0, .int .u32 0, .int .u64 0, .slice none 0 0] 121)) x10.heap.size u9.cells) w.heap.size 26 o.cells := ⟨(HA.out.below HB.out).box.cell 0, (HA.out.below HB.out).box.cell 2, HBO.out.below HB.out l1⟩
          refine step_store_row rfl 121 (.tmp 5) (.tmp 35) rfl x10.heap.size u9.cells rfl rfl 121 #[.int .u64 0, .int .i64 0, .int .u64 0, .int .i64 0, .int .u32 0, .int .u64 0, .slice none 0 0] GB.out upInfo7 rfl (up_all _) ?_
          refine hK.out _ _ ?_ (fun hHeld => ?_)
          · first | exact HS | go_keep
          clear hK K
          try simp only [Act.put, List.setIfInBounds_toArray, List.set_cons_zero, List.set_cons_succ, List.getElem_toArray, List.getElem_cons_zero, List.getElem_cons_succ]
          refine wpAnyH_take (i := 16) (v := ?_) rfl (by kernel_rfl) (by kernel_rfl) (by kernel_rfl) (fun _ _ _ h => h) (Or.inl ⟨by rfl, ?_⟩) (by assumption) ?_
          rotate_left 1
          · (intro wq hSw; (try dsimp only at hSw); go_simp; (try with_reducible rfl))
          try simp only [Act.put, List.setIfInBounds_toArray, List.set_cons_zero, List.set_cons_succ, List.getElem_toArray, List.getElem_cons_zero, List.getElem_cons_succ]
          refine wpAnyH_done (by kernel_rfl) ?_ _
          go_wp2_with (fail)
          go_ret
          exact ⟨rfl, HBW.out.trans (HB.out.mono HBW.out.size)⟩
        · go_simp
          have lG : W5.heap.size ≤ W5.drew.heap.size := HB.out.size
          have GB := Lib.hid (Blk.new W5.drew 121 #[.int .u64 0, .int .i64 0, .int .u64 0, .int .i64 0, .int .u32 0, .int .u64 0, .slice none 0 0])
          replace HB := Lib.hid (HB.out.alloc HB.out.size (.cells #[.int .u64 0, .int .i64 0, .int .u64 0, .int .i64 0, .int .u32 0, .int .u64 0, .slice none 0 0] 121))
          have HS : (W5.drew.alloc (.cells #[.int .u64 0, .int .i64 0, .int .u64 0, .int .i64 0, .int .u32 0, .int .u64 0, .slice none 0 0] 121)).cell? ⟨g, 0, none⟩ = some (.int .i64 c.cl) ∧ (W5.drew.alloc (.cells #[.int .u64 0, .int .i64 0, .int .u64 0, .int .i64 0, .int .u32 0, .int .u64 0, .slice none 0 0] 121)).cell? ⟨g, 2, none⟩ = some (.int .u64 c.num) ∧ Blk (W5.drew.alloc (.cells #[.int .u64 0, .int .i64 0, .int .u64 0, .int .i64 0, .int .u32 0, .int .u64 0, .slice none 0 0] 121)) w.heap.size 26 o.cells := ⟨(HA.out.below HB.out).box.cell 0, (HA.out.below HB.out).box.cell 2, HBO.out.below HB.out l1⟩
          refine hK.out _ _ ?_ (fun hHeld => ?_)
          · first | exact HS | go_keep
          clear hK K
          try simp only [Act.put, List.setIfInBounds_toArray, List.set_cons_zero, List.set_cons_succ, List.getElem_toArray, List.getElem_cons_zero, List.getElem_cons_succ]
          refine wpAnyH_ready (rs := [10]) (by kernel_rfl) (by simp) ?_
          refine (AllReadyH.cons rfl (fun K hK => ?_) AllReadyH.nil)
          go_simp
          refine (RQ.out _ HB.out).mono ?_
          rintro e x10 ⟨A9, c9, rfl, hu9, h9⟩
          replace HB := Lib.hid (HB.out.trans (h9.mono HB.out.size))
          (try replace GB := Lib.hid (GB.out.below h9 GB.out.lt))
          have HS : x10.cell? ⟨g, 0, none⟩ = some (.int .i64 c.cl) ∧ x10.cell? ⟨g, 2, none⟩ = some (.int .u64 c.num) ∧ Blk x10 w.heap.size 26 o.cells := ⟨(HA.out.below HB.out).box.cell 0, (HA.out.below HB.out).box.cell 2, HBO.out.below HB.out l1⟩
          clear h9 hu9
          generalize reqV (reqE o c.cl ((c.num + 1 : Nat) : Int)) (reqU o c.cl ((c.num + 1 : Nat) : Int) A9 c9) = u9 at *
          refine hK.out _ _ ?_ (fun hHeld => ?_)
          · first | exact HS | go_keep
          clear hK K
          try simp only [Act.put, List.setIfInBounds_toArray, List.set_cons_zero, List.set_cons_succ, List.getElem_toArray, List.getElem_cons_zero, List.getElem_cons_succ]
          refine wpAnyH_take (i := 11) (v := ?_) rfl (by kernel_rfl) (by kernel_rfl) (by kernel_rfl) (fun _ _ _ h => h) (Or.inl ⟨by rfl, ?_⟩) (by assumption) ?_
          rotate_left 1
          · (intro wq hSw; (try dsimp only at hSw); go_simp; (try with_reducible rfl))
          refine wpAnyH_take (i := 12) (v := ?_) rfl (by kernel_rfl) (by kernel_rfl) (by kernel_rfl) (fun _ _ _ h => h) (Or.inl ⟨by rfl, ?_⟩) (by assumption) ?_
          rotate_left 1
          · (intro wq hSw; (try dsimp only at hSw); go_simp; (try with_reducible rfl))
          refine wpAnyH_take (i := 13) (v := ?_) rfl (by kernel_rfl) (by kernel_rfl) (by kernel_rfl) (fun _ _ _ h => h) (Or.inl ⟨by rfl, ?_⟩) (by assumption) ?_
          rotate_left 1
          · (intro wq hSw; (try dsimp only at hSw); go_simp; (try with_reducible rfl))
          try simp only [Act.put, List.setIfInBounds_toArray, List.set_cons_zero, List.set_cons_succ, List.getElem_toArray, List.getElem_cons_zero, List.getElem_cons_succ]
          refine wpAnyH_ready (rs := [15]) (by kernel_rfl) (by simp) ?_
          refine (AllReadyH.cons rfl (fun K hK => ?_) AllReadyH.nil)
          replace HB : Hid (Below W5.heap.size W5 (World.setRow x10 W5.drew.heap.size u9.cells)) := Lib.hid (below_setRow HB.out lG _)
          have HS : (World.setRow x10 W5.drew.heap.size u9.cells).cell? ⟨g, 0, none⟩ = some (.int .i64 c.cl) ∧ (World.setRow x10 W5.drew.heap.size u9.cells).cell? ⟨g, 2, none⟩ = some (.int .u64 c.num) ∧ Blk (World.setRow x10 W5.drew.heap.size u9.cells) w.heap.size 26 o.cells := ⟨(HA.out.below HB.out).box.cell 0, (HA.out.below HB.out).box.cell 2, HBO.out.below HB.out l1⟩
          refine step_store_row rfl 121 (.tmp 5) (.tmp 35) rfl W5.drew.heap.size u9.cells rfl rfl 121 #[.int .u64 0, .int .i64 0, .int .u64 0, .int .i64 0, .int .u32 0, .int .u64 0, .slice none 0 0] GB.out upInfo7 rfl (up_all _) ?_
          refine hK.out _ _ ?_ (fun hHeld => ?_)
          · first | exact HS | go_keep
          clear hK K
          try simp only [Act.put, List.setIfInBounds_toArray, List.set_cons_zero, List.set_cons_succ, List.getElem_toArray, List.getElem_cons_zero, List.getElem_cons_succ]
          refine wpAnyH_take (i := 16) (v := ?_) rfl (by kernel_rfl) (by kernel_rfl) (by kernel_rfl) (fun _ _ _ h => h) (Or.inl ⟨by rfl, ?_⟩) (by assumption) ?_
          rotate_left 1
          · (intro wq hSw; (try dsimp only at hSw); go_simp; (try with_reducible rfl))
          try simp only [Act.put, List.setIfInBounds_toArray, List.set_cons_zero, List.set_cons_succ, List.getElem_toArray, List.getElem_cons_zero, List.getElem_cons_succ]
          refine wpAnyH_done (by kernel_rfl) ?_ _
          go_wp2_with (fail)
          go_ret
          exact ⟨rfl, HBW.out.trans (HB.out.mono HBW.out.size)⟩
    · have HE : Hid (chkE o c.cl ((c.num + 1 : Nat) : Int) = 1) := Lib.hid (by unfold chkE; rw [if_neg hk1, if_neg hk2])
      rw [HE.out]
      have q2 : (o.kd == 2) = false := by simp; omega
      have q3 : (o.kd == 3) = false := by simp; omega
      clear hk1 hk2 HE
      go_enter Tryz.func51, Tryz.ntmps51
      go_upto_region 1 with (fail)
      rw [show w.alloc (.cells #[.int .i64 o.kd, .int .u32 o.key, .int .u64 o.ver, .slice o.A o.n o.c, .int .i64 o.pick] 26) = W5 from HW5.out.symm]
      go_wp2_with (fail)
      go_ret
      exact ⟨rfl, HBW.out⟩
end Go.Proofs.YtnnegldaekmgbaaGreatDoor
