/- UpdateChecks. -/
import Derived.Test.YthmokochlpbokaaGreatDoorLetK



namespace Go.Proofs.YthmokochlpbokaaGreatDoor
open Go.RowKit
set_option linter.unusedSimpArgs false
set_option linter.unusedVariables false
set_option maxHeartbeats 8000000
set_option maxRecDepth 100000
attribute [local go_sem] Up.agg Up.cells

theorem vr_cells {w : World} {g n c : Nat} {a b : Int} {A : Option Addr} (h : Blk w g 34 #[.int .u64 a, .int .u64 b, .slice A n c]) : w.cell? ⟨g, 0, none⟩ = some (.int .u64 a) ∧ w.cell? ⟨g, 1, none⟩ = some (.int .u64 b) ∧ w.cell? ⟨g, 2, none⟩ = some (.slice A n c) :=
  ⟨(h.cell 0).trans rfl, (h.cell 1).trans rfl, (h.cell 2).trans rfl⟩
theorem updateChecks_law (u : Up) (ver : Int) (room : Bool) (w : World) (hK : KindsAt w) (h : UpIn w w.heap.size u) (h0 : 0 ≤ ver) (h1 : ver ≤ 18446744073709551615) :
    Calls Tryz.prog 3 #[u.agg, .int .u64 ver, .bool room] w fun e w' => e = .returned (.bool true) ∧ Below w.heap.size w w' := by
  have HK := Lib.hid hK
  have H := Lib.hid h
  have HV := Lib.hid (And.intro h0 h1)
  have FA : Hid (Calls Tryz.prog 5 #[.slice (some ⟨w.heap.size + 1, 0, none⟩) 1 1] ((w.alloc (.cells #[.int .u64 u.seq, .int .i64 u.cl, .int .u64 u.num, .int .i64 u.kd, .int .u32 u.key, .int .u64 u.ver, .slice u.A u.n u.c] 26)).alloc (.cells #[.int .u64 u.seq, .int .i64 u.cl, .int .u64 u.num, .int .i64 u.kd, .int .u32 u.key, .int .u64 u.ver, .slice u.A u.n u.c] 26)) fun e w' => e = .returned (.bool (farB 1 [u])) ∧ Below ((w.alloc (.cells u.cells 26)).alloc (.cells u.cells 26)).heap.size ((w.alloc (.cells u.cells 26)).alloc (.cells u.cells 26)) w') := Lib.hid (by
    have := ups_new (w.alloc (.cells u.cells 26)) u w.heap.size ⟨h.rd.alloc (Nat.le_refl _) _, h.hc, h.hm, h.wf⟩ (by simp)
    have := far_any (some ⟨w.heap.size + 1, 0, none⟩) 1 1 _ [u] _ (by simpa using this) (by omega)
    exact this)
  have HB2 : Hid (Below w.heap.size w ((w.alloc (.cells u.cells 26)).alloc (.cells u.cells 26))) := Lib.hid (by repeat (first | with_reducible exact Below.refl _ _ | with_reducible refine Below.setCell ?_ (by first | omega | (simp <;> omega)) _ | with_reducible refine Below.alloc ?_ (by first | omega | (simp <;> omega)) _ | with_reducible refine below_drewN ?_ _ | with_reducible refine Below.drew ?_))
  have HX2 : Hid (Blk ((w.alloc (.cells u.cells 26)).alloc (.cells u.cells 26)) w.heap.size 26 u.cells) := Lib.hid ((Blk.new w _ _).alloc _)
  clear hK h h0 h1
  go_enter Tryz.func3, Tryz.ntmps3
  go_wp2_with (fail)
  refine FA.out.mono ?_
  rintro e w1 ⟨rfl, hb⟩
  have H1 := Lib.hid (HB2.out.trans (hb.mono HB2.out.size))
  have BU := Lib.hid (HX2.out.below hb HX2.out.lt)
  clear hb FA HB2 HX2
  obtain ⟨x0, x1, x2, x3, x4, x5, x6⟩ := up_cells BU.out
  cases hf : farB 1 [u] with
  | true =>
    clear hf
    go_wp2_with (fail)
    refine (awake_any _).mono ?_
    rintro e w2 ⟨rfl, hb⟩
    have H2 := Lib.hid (H1.out.trans (hb.mono H1.out.size))
    clear hb
    go_wp2_with (fail)
    go_ret
    exact ⟨rfl, H2.out⟩
  | false =>
    have hn : u.n ≤ 2100 := (farB_no hf).2 u (by simp)
    have hn6 : u.n ≤ 1000000 := by omega
    have HN := Lib.hid hn6
    clear hf hn hn6
    go_wp2_with (fail)
    refine (outcome_any u ver room _ HV.out.1 HV.out.2).mono ?_
    rintro e w2 ⟨rfl, hb⟩
    have H2 := Lib.hid (H1.out.trans (hb.mono H1.out.size))
    replace BU := Lib.hid (BU.out.below hb BU.out.lt)
    clear hb H1 x0 x1 x2 x3 x4 x5 x6
    obtain ⟨x0, x1, x2, x3, x4, x5, x6⟩ := up_cells BU.out
    obtain ⟨o1, ho1⟩ : ∃ o, (outc u ver room).1 = o := ⟨_, rfl⟩
    obtain ⟨o2, ho2⟩ : ∃ o, (outc u ver room).2.1 = o := ⟨_, rfl⟩
    obtain ⟨o3, ho3⟩ : ∃ o, (outc u ver room).2.2 = o := ⟨_, rfl⟩
    have RO := fun W => Lib.hid (refOutcome_any u ver room W HV.out.1 HV.out.2)
    rw [ho1, ho2, ho3] at RO ⊢
    clear ho1 ho2 ho3
    go_wp2_with (fail)
    refine (RO _).out.mono ?_
    rintro e w3 ⟨rfl, hb⟩
    have H3 := Lib.hid (H2.out.trans (hb.mono H2.out.size))
    replace BU := Lib.hid (BU.out.below hb BU.out.lt)
    clear hb H2 x0 x1 x2 x3 x4 x5 x6 RO
    obtain ⟨x0, x1, x2, x3, x4, x5, x6⟩ := up_cells BU.out
    go_wp2_with (fail)
    refine (made_any u w.heap.size ver _ (H.out.below H3.out) H3.out.size HN.out).mono ?_
    rintro e w4 ⟨A, c, rfl, hr, hb⟩
    have H4 := Lib.hid (H3.out.trans (hb.mono H3.out.size))
    replace BU := Lib.hid (BU.out.below hb BU.out.lt)
    have HR := Lib.hid hr
    clear hb H3 hr x0 x1 x2 x3 x4 x5 x6
    obtain ⟨x0, x1, x2, x3, x4, x5, x6⟩ := up_cells BU.out
    go_wp2_with (fail)
    obtain ⟨W5, hW5⟩ : ∃ W5, W5 = w4.alloc (.cells #[.int .u64 ver, .int .u64 u.seq, .slice A u.n c] 34) := ⟨_, rfl⟩
    rw [← hW5]
    have BM : Hid (Blk W5 w4.heap.size 34 #[.int .u64 ver, .int .u64 u.seq, .slice A u.n c]) := Lib.hid (by rw [hW5]; exact Blk.new _ _ _)
    have HB5 : Hid (Below w.heap.size w W5) := Lib.hid (by rw [hW5]; exact H4.out.alloc H4.out.size _)
    have HR5 : Hid (Reads W5 W5.heap.size 1 A u.n (u.bs.map (Value.int .u8))) := Lib.hid (by rw [hW5]; exact (HR.out.alloc (Nat.le_refl _) _).more (by simp))
    replace BU : Hid (Blk W5 w.heap.size 26 u.cells) := Lib.hid (by rw [hW5]; exact BU.out.alloc _)
    clear hW5 x0 x1 x2 x3 x4 x5 x6 H4 HR
    obtain ⟨x0, x1, x2, x3, x4, x5, x6⟩ := up_cells BU.out
    obtain ⟨y0, y1, y2⟩ := vr_cells BM.out
    obtain ⟨q, hq⟩ : ∃ q, w4.heap.size = q := ⟨_, rfl⟩
    rw [hq] at BM y0 y1 y2 ⊢
    clear hq
    obtain ⟨e1, he1⟩ : ∃ x, updE u false = x := ⟨_, rfl⟩
    obtain ⟨e2, he2⟩ : ∃ x, updE u true = x := ⟨_, rfl⟩
    have C1 := Lib.hid (fun W (h9 : Below W5.heap.size W5 W) => updCheckT_any u w.heap.size W (HK.out.below (HB5.out.trans (h9.mono HB5.out.size))) ((H.out.below HB5.out).below (h9.mono HB5.out.size)) (Nat.le_trans HB5.out.size h9.size) HN.out)
    have C2 := Lib.hid (fun W (h9 : Below W5.heap.size W5 W) => updAsked_any u w.heap.size W (HK.out.below (HB5.out.trans (h9.mono HB5.out.size))) ((H.out.below HB5.out).below (h9.mono HB5.out.size)) (Nat.le_trans HB5.out.size h9.size) HN.out)
    have C3 := Lib.hid (fun W => refCheckT_any u W H.out.wf HN.out)
    have C4 := Lib.hid (fun W => refAsked_any u W H.out.wf HN.out)
    have C5 := Lib.hid (fun W => refMade_any u ver W)
    have C6 := Lib.hid (fun W (h9 : Below W5.heap.size W5 W) => vSame_any A u.A u.n u.n c u.c W5.heap.size w.heap.size u.bs u.bs ver ver u.seq u.seq W h9.size (Nat.le_trans HB5.out.size h9.size) (HR5.out.below h9) ((H.out.rd.below HB5.out).below (h9.mono HB5.out.size)) HN.out rfl rfl rfl)
    rw [he1] at C1 C3
    rw [he2] at C2 C4
    have hb : Below W5.heap.size W5 W5.drew := (Below.refl _ _).drew
    clear he1 he2 HR5 HN HK H HV
    go_region_held3 (fun w' => w'.cell? ⟨w.heap.size, 0, none⟩ = some (.int .u64 u.seq) ∧ w'.cell? ⟨w.heap.size, 1, none⟩ = some (.int .i64 u.cl) ∧ w'.cell? ⟨w.heap.size, 2, none⟩ = some (.int .u64 u.num) ∧ w'.cell? ⟨w.heap.size, 3, none⟩ = some (.int .i64 u.kd) ∧ w'.cell? ⟨w.heap.size, 4, none⟩ = some (.int .u32 u.key) ∧ w'.cell? ⟨w.heap.size, 5, none⟩ = some (.int .u64 u.ver) ∧ w'.cell? ⟨w.heap.size, 6, none⟩ = some (.slice u.A u.n u.c) ∧ w'.cell? ⟨q, 0, none⟩ = some (.int .u64 ver) ∧ w'.cell? ⟨q, 1, none⟩ = some (.int .u64 u.seq) ∧ w'.cell? ⟨q, 2, none⟩ = some (.slice A u.n c)) (go_keep) (first
      | (go_at_call 10; refine (C1.out _ hb).mono ?_; rintro e w6 ⟨rfl, hb6⟩; replace hb := hb.trans (hb6.mono hb.size); obtain ⟨x0, x1, x2, x3, x4, x5, x6⟩ := up_cells (BU.out.below hb BU.out.lt); obtain ⟨y0, y1, y2⟩ := vr_cells (BM.out.below hb BM.out.lt); clear hb6)
      | (go_at_call 12; refine (C2.out _ hb).mono ?_; rintro e w6 ⟨rfl, hb6⟩; replace hb := hb.trans (hb6.mono hb.size); obtain ⟨x0, x1, x2, x3, x4, x5, x6⟩ := up_cells (BU.out.below hb BU.out.lt); obtain ⟨y0, y1, y2⟩ := vr_cells (BM.out.below hb BM.out.lt); clear hb6)
      | (go_at_call 11; refine (C3.out _).mono ?_; rintro e w6 ⟨rfl, hb6⟩; replace hb := hb.trans (hb6.mono hb.size); obtain ⟨x0, x1, x2, x3, x4, x5, x6⟩ := up_cells (BU.out.below hb BU.out.lt); obtain ⟨y0, y1, y2⟩ := vr_cells (BM.out.below hb BM.out.lt); clear hb6)
      | (go_at_call 13; refine (C4.out _).mono ?_; rintro e w6 ⟨rfl, hb6⟩; replace hb := hb.trans (hb6.mono hb.size); obtain ⟨x0, x1, x2, x3, x4, x5, x6⟩ := up_cells (BU.out.below hb BU.out.lt); obtain ⟨y0, y1, y2⟩ := vr_cells (BM.out.below hb BM.out.lt); clear hb6)
      | (go_at_call 15; refine (C5.out _).mono ?_; rintro e w6 ⟨rfl, hb6⟩; replace hb := hb.trans (hb6.mono hb.size); obtain ⟨x0, x1, x2, x3, x4, x5, x6⟩ := up_cells (BU.out.below hb BU.out.lt); obtain ⟨y0, y1, y2⟩ := vr_cells (BM.out.below hb BM.out.lt); clear hb6)
      | (go_at_call 14; refine (C6.out _ hb).mono ?_; rintro e w6 ⟨rfl, hb6⟩; replace hb := hb.trans (hb6.mono hb.size); obtain ⟨x0, x1, x2, x3, x4, x5, x6⟩ := up_cells (BU.out.below hb BU.out.lt); obtain ⟨y0, y1, y2⟩ := vr_cells (BM.out.below hb BM.out.lt); clear hb6)
      | (go_at_call 6; refine (awake_any _).mono ?_; rintro e w6 ⟨rfl, hb6⟩; replace hb := hb.trans (hb6.mono hb.size); obtain ⟨x0, x1, x2, x3, x4, x5, x6⟩ := up_cells (BU.out.below hb BU.out.lt); obtain ⟨y0, y1, y2⟩ := vr_cells (BM.out.below hb BM.out.lt); clear hb6)
      | fail)
    go_wp2_with (fail)
    go_ret
    exact ⟨rfl, HB5.out.trans (hb.mono HB5.out.size)⟩
end Go.Proofs.YthmokochlpbokaaGreatDoor
