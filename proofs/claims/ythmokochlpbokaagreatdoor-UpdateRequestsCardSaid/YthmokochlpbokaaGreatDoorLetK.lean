/- The reference's Check, Asked, Outcome, Made; Made; versions the same. -/
import Derived.Test.YthmokochlpbokaaGreatDoorLetJ

namespace Go.Proofs.YthmokochlpbokaaGreatDoor
open Go.RowKit
set_option linter.unusedSimpArgs false
set_option linter.unusedVariables false
set_option maxHeartbeats 8000000
set_option maxRecDepth 100000
attribute [local go_sem] Up.agg Up.cells

theorem refCheckT_any (u : Up) (w : World) (hw : u.wf) (hn : u.n ≤ 1000000) :
    Calls Tryz.prog 11 #[u.agg] w fun e w' => e = .returned (.int .i64 (updE u false)) ∧ Below w.heap.size w w' := by
  have HB : Hid (Below w.heap.size w (w.alloc (.cells u.cells 26))) := Lib.hid (by repeat (first | with_reducible exact Below.refl _ _ | with_reducible refine Below.setCell ?_ (by first | omega | (simp <;> omega)) _ | with_reducible refine Below.alloc ?_ (by first | omega | (simp <;> omega)) _ | with_reducible refine below_drewN ?_ _ | with_reducible refine Below.drew ?_))
  have C := fun W => Lib.hid (refUpdCheck_any u true W hw hn)
  clear hw
  go_enter Tryz.func11, Tryz.ntmps11
  go_wp2_with (fail)
  refine (C _).out.mono ?_
  rintro e w2 ⟨rfl, h2⟩
  have H3 := Lib.hid (HB.out.trans (h2.mono HB.out.size))
  clear h2
  go_wp2_with (fail)
  go_ret
  exact ⟨rfl, H3.out⟩
theorem refAsked_any (u : Up) (w : World) (hw : u.wf) (hn : u.n ≤ 1000000) :
    Calls Tryz.prog 13 #[u.agg] w fun e w' => e = .returned (.int .i64 (updE u true)) ∧ Below w.heap.size w w' := by
  have HB : Hid (Below w.heap.size w (w.alloc (.cells u.cells 26))) := Lib.hid (by repeat (first | with_reducible exact Below.refl _ _ | with_reducible refine Below.setCell ?_ (by first | omega | (simp <;> omega)) _ | with_reducible refine Below.alloc ?_ (by first | omega | (simp <;> omega)) _ | with_reducible refine below_drewN ?_ _ | with_reducible refine Below.drew ?_))
  have C := fun W => Lib.hid (refUpdCheck_any u false W hw hn)
  clear hw
  go_enter Tryz.func13, Tryz.ntmps13
  go_wp2_with (fail)
  refine (C _).out.mono ?_
  rintro e w2 ⟨rfl, h2⟩
  have H3 := Lib.hid (HB.out.trans (h2.mono HB.out.size))
  clear h2
  go_wp2_with (fail)
  go_ret
  exact ⟨rfl, H3.out⟩

theorem refOutcome_any (u : Up) (ver : Int) (room : Bool) (w : World) (h0 : 0 ≤ ver) (h1 : ver ≤ 18446744073709551615) :
    Calls Tryz.prog 8 #[u.agg, .int .u64 ver, .bool room] w fun e w' => e = .returned (.tuple #[.int .i64 (outc u ver room).1, .int .u64 (outc u ver room).2.1, .bool (outc u ver room).2.2]) ∧ Below w.heap.size w w' := by
  by_cases hk : u.kd = 2 ∨ u.kd = 3
  rotate_left
  · have h2 : (u.kd != 2) = true := by simp; intro e; exact hk (.inl e)
    have h3 : (u.kd != 3) = true := by simp; intro e; exact hk (.inr e)
    have hv : Hid (outc u ver room = (1, ver, false)) := Lib.hid (by rw [outc, if_pos (by unfold writesB; simpa using hk)])
    rw [hv.out]
    clear hk
    go_enter Tryz.func8, Tryz.ntmps8
    go_wp2_with (fail); go_ret3; exact ⟨rfl, by repeat (first | with_reducible exact Below.refl _ _ | with_reducible refine Below.setCell ?_ (by first | omega | (simp <;> omega)) _ | with_reducible refine Below.alloc ?_ (by first | omega | (simp <;> omega)) _ | with_reducible refine below_drewN ?_ _ | with_reducible refine Below.drew ?_)⟩
  have hw : writesB u.kd = true := by unfold writesB; simpa using hk
  by_cases hm : u.kd = 3 ∧ u.ver ≠ ver
  · have hv : Hid (outc u ver room = (11, ver, false)) := Lib.hid (by rw [outc, if_neg (by simp [hw]), if_pos hm])
    rw [hv.out]
    have m1 := hm.1
    have m2 : (u.ver != ver) = true := by simp [hm.2]
    clear hk hm hw
    go_enter Tryz.func8, Tryz.ntmps8
    go_wp2_with (fail); go_ret3; exact ⟨rfl, by repeat (first | with_reducible exact Below.refl _ _ | with_reducible refine Below.setCell ?_ (by first | omega | (simp <;> omega)) _ | with_reducible refine Below.alloc ?_ (by first | omega | (simp <;> omega)) _ | with_reducible refine below_drewN ?_ _ | with_reducible refine Below.drew ?_)⟩
  have hm' : u.kd = 2 ∨ (u.kd = 3 ∧ (u.ver != ver) = false) := by
    by_cases h3 : u.kd = 3
    · exact .inr ⟨h3, by simpa [h3] using hm⟩
    · exact .inl (by omega)
  by_cases hf : (ver = 0 ∧ room = false) ∨ ver = 18446744073709551615
  · have hv : Hid (outc u ver room = (9, ver, false)) := Lib.hid (by rw [outc, if_neg (by simp [hw]), if_neg hm, if_pos hf])
    rw [hv.out]
    clear hk hm hw
    by_cases hf1 : ver = 0 ∧ room = false
    · obtain ⟨rfl, rfl⟩ := hf1
      clear hf
      rcases hm' with m1 | ⟨m1, m2⟩
      all_goals
        go_enter Tryz.func8, Tryz.ntmps8
        go_wp2_with (fail); go_ret3; exact ⟨rfl, by repeat (first | with_reducible exact Below.refl _ _ | with_reducible refine Below.setCell ?_ (by first | omega | (simp <;> omega)) _ | with_reducible refine Below.alloc ?_ (by first | omega | (simp <;> omega)) _ | with_reducible refine below_drewN ?_ _ | with_reducible refine Below.drew ?_)⟩
    · obtain rfl : ver = 18446744073709551615 := by rcases hf with h | h; exact absurd h hf1; exact h
      clear hf hf1
      rcases hm' with m1 | ⟨m1, m2⟩
      all_goals
        go_enter Tryz.func8, Tryz.ntmps8
        go_wp2_with (fail); go_ret3; exact ⟨rfl, by repeat (first | with_reducible exact Below.refl _ _ | with_reducible refine Below.setCell ?_ (by first | omega | (simp <;> omega)) _ | with_reducible refine Below.alloc ?_ (by first | omega | (simp <;> omega)) _ | with_reducible refine below_drewN ?_ _ | with_reducible refine Below.drew ?_)⟩
  · have hv : Hid (outc u ver room = (0, ver + 1, true)) := Lib.hid (by rw [outc, if_neg (by simp [hw]), if_neg hm, if_neg hf])
    rw [hv.out]
    clear hk hm hw
    have hn : ver ≠ 18446744073709551615 := fun e => hf (.inr e)
    have v2 : (ver == 18446744073709551615) = false := by simp [hn]
    have v3 : IntKind.u64.wrap (ver + 1) = ver + 1 := by rw [IntKind.wrap_u64]; omega
    by_cases hz : ver = 0
    · obtain rfl : room = true := by
        cases room
        · exact absurd (.inl ⟨hz, rfl⟩) hf
        · rfl
      subst hz
      clear hf hn h0 h1 v2 v3
      rcases hm' with m1 | ⟨m1, m2⟩
      all_goals
        go_enter Tryz.func8, Tryz.ntmps8
        go_wp2_with (fail); go_ret3; exact ⟨rfl, by repeat (first | with_reducible exact Below.refl _ _ | with_reducible refine Below.setCell ?_ (by first | omega | (simp <;> omega)) _ | with_reducible refine Below.alloc ?_ (by first | omega | (simp <;> omega)) _ | with_reducible refine below_drewN ?_ _ | with_reducible refine Below.drew ?_)⟩
    · have v1 : (ver == 0) = false := by simp [hz]
      clear hf hn h0 h1 hz
      rcases hm' with m1 | ⟨m1, m2⟩
      all_goals
        go_enter Tryz.func8, Tryz.ntmps8
        go_wp2_with (fail); go_ret3; exact ⟨rfl, by repeat (first | with_reducible exact Below.refl _ _ | with_reducible refine Below.setCell ?_ (by first | omega | (simp <;> omega)) _ | with_reducible refine Below.alloc ?_ (by first | omega | (simp <;> omega)) _ | with_reducible refine below_drewN ?_ _ | with_reducible refine Below.drew ?_)⟩
theorem refMade_any (u : Up) (ver : Int) (w : World) :
    Calls Tryz.prog 15 #[u.agg, .int .u64 ver] w fun e w' => e = .returned (.agg #[.int .u64 ver, .int .u64 u.seq, .slice u.A u.n u.c]) ∧ Below w.heap.size w w' := by
  go_enter Tryz.func15, Tryz.ntmps15
  go_wp2_with (fail)
  refine bodyPost_ret (v := .agg #[.int .u64 ver, .int .u64 u.seq, .slice u.A u.n u.c]) (by simp [results, Tryz.results15, go_sem]) rfl ?_
  exact ⟨rfl, by repeat (first | with_reducible exact Below.refl _ _ | with_reducible refine Below.setCell ?_ (by first | omega | (simp <;> omega)) _ | with_reducible refine Below.alloc ?_ (by first | omega | (simp <;> omega)) _ | with_reducible refine below_drewN ?_ _ | with_reducible refine Below.drew ?_)⟩
def MadeP (u : Up) (ver : Int) (w : World) (e : Ending) (w' : World) : Prop := ∃ (A : Option Addr) (c : Nat), e = .returned (.agg #[.int .u64 ver, .int .u64 u.seq, .slice A u.n c]) ∧ Reads w' w'.heap.size 1 A u.n (u.bs.map (Value.int .u8)) ∧ Below w.heap.size w w'
theorem made_any (u : Up) (B : Nat) (ver : Int) (w : World) (h : UpIn w B u) (hB : B ≤ w.heap.size) (hn : u.n ≤ 1000000) :
    Calls Tryz.prog 9 #[u.agg, .int .u64 ver] w (MadeP u ver w) := by
  have H := Lib.hid h
  clear h
  go_enter Tryz.func9, Tryz.ntmps9
  go_wp2_with (fail)
  obtain ⟨W5, hW5⟩ : ∃ W5, W5 = (w.alloc (.cells u.cells 26)).alloc (.cells #[.int .u64 0, .int .u64 0, .slice none 0 0] 34) := ⟨_, rfl⟩
  rw [show (w.alloc (.cells #[.int .u64 u.seq, .int .i64 u.cl, .int .u64 u.num, .int .i64 u.kd, .int .u32 u.key, .int .u64 u.ver, .slice u.A u.n u.c] 26)).alloc (.cells #[.int .u64 0, .int .u64 0, .slice none 0 0] 34) = W5 from hW5.symm]
  have hb1 : Blk W5 w.heap.size 26 u.cells := by rw [hW5]; exact (Blk.new w _ _).alloc _
  have hb2 : Blk W5 (w.heap.size + 1) 34 #[.int .u64 0, .int .u64 0, .slice none 0 0] := by rw [hW5]; exact blk_at7 _ _ _ _ (by simp)
  have HBW : Hid (Below w.heap.size w W5) := Lib.hid (by rw [hW5]; repeat (first | with_reducible exact Below.refl _ _ | with_reducible refine Below.setCell ?_ (by first | omega | (simp <;> omega)) _ | with_reducible refine Below.alloc ?_ (by first | omega | (simp <;> omega)) _ | with_reducible refine below_drewN ?_ _ | with_reducible refine Below.drew ?_))
  have HR : Hid (Reads W5 B 1 u.A u.n (u.bs.map (Value.int .u8))) := Lib.hid (H.out.rd.below (HBW.out.mono hB))
  have x0 := (hb1.cell 0).trans (show _ = some (.int .u64 u.seq) from rfl)
  have x6 := (hb1.cell 6).trans (show _ = some (.slice u.A u.n u.c) from rfl)
  have l1 := hb1.lt
  have l2 := hb2.lt
  have HB2 := Lib.hid hb2
  have hsz : w.heap.size + 2 ≤ W5.heap.size := by omega
  have CL := Lib.hid (bclone_any u.A u.n u.c B u.bs W5.drew (Nat.le_trans hB HBW.out.size) HR.out.drew (by omega))
  clear hW5 hb1 hb2
  go_region_held3 (fun w' => w'.cell? ⟨w.heap.size, 0, none⟩ = some (.int .u64 u.seq) ∧ w'.cell? ⟨w.heap.size, 6, none⟩ = some (.slice u.A u.n u.c)) (go_keep) (first
    | (go_at_call 21; refine CL.out.mono ?_; rintro e w6 ⟨v, rfl, hown, h6⟩; obtain ⟨A7, c7, rfl, hrd, hnc, hcm⟩ := own_slice hown; replace x0 := (h6.cell (p := ⟨w.heap.size, 0, none⟩) l1).trans x0; replace x6 := (h6.cell (p := ⟨w.heap.size, 6, none⟩) l1).trans x6; have hb7 := HB2.out.drew.below h6 l2; have q0 := (hb7.cell 0).trans (show _ = some (.int .u64 0) from rfl); have q1 := (hb7.cell 1).trans (show _ = some (.int .u64 0) from rfl); have q2 := (hb7.cell 2).trans (show _ = some (.slice none 0 0) from rfl); have g0 := hb7.frozen 0; have g1 := hb7.frozen 1; have g2 := hb7.frozen 2; have HB6 := Lib.hid (HBW.out.drew.trans (h6.mono HBW.out.size)); have HOWN := Lib.hid hown; have HRD := Lib.hid hrd; have l6 := Lib.hid (Nat.lt_of_lt_of_le l2 h6.size); have HLE := Lib.hid h6.size; have HB7 := Lib.hid hb7; clear hown hrd hb7 h6)
    | fail)
  have HC : Hid (Chg w6 (((w6.setCell ⟨w.heap.size + 1, 0, none⟩ (.int .u64 ver)).setCell ⟨w.heap.size + 1, 1, none⟩ (.int .u64 u.seq)).setCell ⟨w.heap.size + 1, 2, none⟩ (.slice A7 u.n c7)) (isB (w.heap.size + 1))) :=
    Lib.hid (((chg_setB w6 (w.heap.size + 1) (.int .u64 ver) 0).trans (chg_setB _ (w.heap.size + 1) (.int .u64 u.seq) 1) (fun _ _ x => x)).trans (chg_setB _ (w.heap.size + 1) (.slice A7 u.n c7) 2) (fun _ _ x => x))
  have HK : Hid (Blk (((w6.setCell ⟨w.heap.size + 1, 0, none⟩ (.int .u64 ver)).setCell ⟨w.heap.size + 1, 1, none⟩ (.int .u64 u.seq)).setCell ⟨w.heap.size + 1, 2, none⟩ (.slice A7 u.n c7)) (w.heap.size + 1) 34 #[.int .u64 ver, .int .u64 u.seq, .slice A7 u.n c7]) :=
    Lib.hid (((HB7.out.set_ 0 (.int .u64 ver)).set_ 1 (.int .u64 u.seq)).set_ 2 (.slice A7 u.n c7))
  obtain ⟨wz, hwz⟩ : ∃ wz, wz = (((w6.setCell ⟨w.heap.size + 1, 0, none⟩ (.int .u64 ver)).setCell ⟨w.heap.size + 1, 1, none⟩ (.int .u64 u.seq)).setCell ⟨w.heap.size + 1, 2, none⟩ (.slice A7 u.n c7)) := ⟨_, rfl⟩
  rw [← hwz] at HC HK ⊢
  have k0 := (HK.out.cell 0).trans (show _ = some (.int .u64 ver) from rfl)
  have k1 := (HK.out.cell 1).trans (show _ = some (.int .u64 u.seq) from rfl)
  have k2 := (HK.out.cell 2).trans (show _ = some (.slice A7 u.n c7) from rfl)
  clear hwz q0 q1 q2 g0 g1 g2 x0 x6
  go_wp2_with (fail)
  refine bodyPost_ret (v := .agg #[.int .u64 ver, .int .u64 u.seq, .slice A7 u.n c7]) (by simp [results, Tryz.results9, go_sem, k0, k1, k2]) rfl ?_
  refine ⟨A7, c7, rfl, Reads.of_own (HC.out.own HOWN.out (fun k hk e => ?_)), HB6.out.trans (HC.out.below HB6.out.size (fun k hk e => ?_))⟩
  · have := (HOWN.out.lt k hk).1
    simp only [isB] at e
    simp at this
    omega
  · simp only [isB] at e
    omega
theorem vSame_any (A C : Option Addr) (n m c d B D : Nat) (x y : List Int) (v1 v2 s1 s2 : Int) (w : World) (hB : B ≤ w.heap.size) (hD : D ≤ w.heap.size) (hx : Reads w B 1 A n (x.map (Value.int .u8))) (hy : Reads w D 1 C m (y.map (Value.int .u8))) (hn : n ≤ 1000000) (h1 : v1 = v2) (h2 : s1 = s2) (h3 : x = y) :
    Calls Tryz.prog 14 #[.agg #[.int .u64 v1, .int .u64 s1, .slice A n c], .agg #[.int .u64 v2, .int .u64 s2, .slice C m d]] w fun e w' => e = .returned (.bool true) ∧ Below w.heap.size w w' := by
  subst h1 h2 h3
  have HB : Hid (Below w.heap.size w ((w.alloc (.cells #[.int .u64 v1, .int .u64 s1, .slice A n c] 38)).alloc (.cells #[.int .u64 v1, .int .u64 s1, .slice C m d] 38))) := Lib.hid (by repeat (first | with_reducible exact Below.refl _ _ | with_reducible refine Below.setCell ?_ (by first | omega | (simp <;> omega)) _ | with_reducible refine Below.alloc ?_ (by first | omega | (simp <;> omega)) _ | with_reducible refine below_drewN ?_ _ | with_reducible refine Below.drew ?_))
  have CS := Lib.hid (same_any A C n m c d B D x x _ (Nat.le_trans hB HB.out.size) (Nat.le_trans hD HB.out.size) (hx.below (HB.out.mono hB)) (hy.below (HB.out.mono hD)) (by omega))
  clear hx hy
  go_enter Tryz.func14, Tryz.ntmps14
  go_wp2_with (fail)
  refine CS.out.mono ?_
  rintro e w2 ⟨rfl, h2⟩
  have H3 := Lib.hid (HB.out.trans (h2.mono HB.out.size))
  clear h2
  go_wp2_with (fail)
  go_ret
  exact ⟨by simp, H3.out⟩
end Go.Proofs.YthmokochlpbokaaGreatDoor
