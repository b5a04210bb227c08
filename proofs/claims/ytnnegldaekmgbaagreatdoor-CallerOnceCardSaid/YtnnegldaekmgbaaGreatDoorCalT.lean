/- A caller: Tick. -/
import Derived.Test.YtnnegldaekmgbaaGreatDoorCalD
namespace Go.Proofs.YtnnegldaekmgbaaGreatDoor
open Go.RowKit
set_option linter.unusedSimpArgs false
set_option linter.unusedVariables false
set_option maxHeartbeats 8000000
set_option maxRecDepth 100000





theorem ltRowInfo : (Tryz.prog.info? 48).map (fun i => (i.zero, i.size, i.bytes)) = some (some Lt.zero.agg, 25, 264) := by kernel_rfl
theorem fld_ch (y : Cf) (w : World) : (Instr.field 44 y.agg 0).run Tryz.prog w = .ok (.int .i64 y.ch) w := by kernel_rfl
theorem tick_hdr (f tto ch : Int) (w : World) : (Instr.build 48 #[(0, .int .i64 10), (1, .int .i64 f), (2, .int .i64 tto), (3, .int .i64 ch)]).run Tryz.prog w = .ok (Lt.agg { Lt.zero with kd := 10, fr := f, tw := tto, ch := ch }) w := by kernel_rfl
theorem own_one_lt {W : World} {q base : Nat} {l : Lt} (h : Blk W q 48 l.cells) (hb : base ≤ q) : W.ownsRow base 48 25 (.slice (some ⟨q, 0, none⟩) 1 1) 1 l.cells.toList :=
  ⟨rfl, .inr ⟨q, 1, l.cells, rfl, hb, h, Nat.le_refl _, by decide, rfl, rfl⟩⟩
theorem reads_blk_lt {W : World} {q : Nat} {l : Lt} (h : Blk W q 48 l.cells) : Reads W W.heap.size 25 (some ⟨q, 0, none⟩) 1 l.cells.toList := by
  refine ⟨rfl, fun _ => ⟨_, rfl, h.lt, fun j u hu => ?_⟩⟩
  rw [Go.WideShapes.add_plain, h.cell]
  simpa using hu
theorem lt_news (l : Lt) : ∀ u ∈ l.cells.toList, u.oneCell' = true := by simp [Lt.cells, Value.oneCell']
theorem CalAt.move {W W' : World} {lo g G h : Nat} {vs : List (Int × Int × List Int × Bool × Int)} {c c' : Cl} (a : CalAt W lo g G h vs c) (hc : Chg W W' (fun k => k = g)) (hb : Blk W' g 111 (c'.cells G h)) (hop : c'.op = c.op) (hst : c'.st = c.st) (hrp : c'.rp = c.rp) (hrb : c'.rb = c.rb) (hly : c'.ly = c.ly) (hlb : c'.lb = c.lb) : CalAt W' lo g G h vs c' := by
  have hS1 : ∀ k, k = g → ∃ t cs, Blk W k t cs ∧ t ≠ 5 := fun k e => ⟨_, _, e ▸ a.box, by decide⟩
  refine ⟨hb, a.atl.chg hc (fun k e => ⟨_, _, e ▸ a.box, by decide, by decide, by decide, by decide⟩), a.low, by rw [hop]; exact a.op.chg hc hS1, by rw [hop]; exact a.ow, by rw [hst]; exact a.st, fun e => ?_, by rw [hrp, hrb]; exact a.rp.chg hc hS1, by rw [hly, hlb]; exact a.ly.chg hc hS1, by rw [hst, hrp]; exact a.zr⟩
  rw [hst] at e ⊢
  rw [hrp]
  obtain ⟨h1, h2⟩ := a.lat e
  exact ⟨h1, hc.blk h2 (fun e => Blk.ne_ h2 a.box (by decide) e)⟩
def Cl.ticked (c : Cl) : Cl := ⟨c.cl, c.ms, c.num, wrap64 (c.tk + 1), c.op, c.st, c.rp, c.rb, c.last, c.ly, c.lb⟩
def CTickP (lo g G h : Nat) (vs : List (Int × Int × List Int × Bool × Int)) (c : Cl) (w : World) (e : Ending) (w' : World) : Prop :=
  (∃ (A : Option Addr) (n cp : Nat), e = .returned (.slice A n cp) ∧ (c.st ≠ 1 → n = 0) ∧ (c.st = 1 → n = 2)) ∧ CalAt w' lo g G h vs c.ticked ∧ Chg w w' (fun i => i = g)
theorem calTick_any (lo g G h : Nat) (vs : List (Int × Int × List Int × Bool × Int)) (c : Cl) (k : Nat) (w : World) (hK : KindsAt w) (a : CalAt w lo g G h vs c) (hlo : lo ≤ w.heap.size) (hKg : ∀ W, Chg w W (fun i => i = g) → KindsAt W) (hk : c.op.key = (k : Int)) (hn : c.op.n ≤ 1000000) (hcl : c.cl ≤ 6) (hms : 1 ≤ c.ms ∧ c.ms ≤ 5) (hnum : c.num ≤ 1000000) :
    Calls Tryz.prog 17 #[.pointer (some ⟨g, 0, none⟩)] w (CTickP lo g G h vs c w) := by
  have hkk : k < 4294967296 := by have := a.ow.key.2; omega
  have c3 : w.cell? ⟨g, 3, none⟩ = some (.int .i64 c.tk) := a.box.cell 3
  have f3 := a.box.frozen 3
  obtain ⟨W1, hW1⟩ : ∃ W1, W1 = w.setCell ⟨g, 3, none⟩ (.int .i64 (wrap64 (c.tk + 1))) := ⟨_, rfl⟩
  have hc1 : Chg w W1 (fun i => i = g) := by rw [hW1]; exact chg_one w ⟨g, 3, none⟩ _
  have ha1 : CalAt W1 lo g G h vs c.ticked := a.move hc1 (by rw [hW1]; exact a.box.set_ 3 _) rfl rfl rfl rfl rfl rfl
  have HA := Lib.hid ha1
  have HC := Lib.hid hc1
  have HK := Lib.hid (hKg W1 hc1)
  have HW1 := Lib.hid hW1
  have BU := Lib.hid (calBusy_any lo g G h vs c.ticked W1 ha1)
  have HKE := Lib.hid hk
  clear hW1 hc1 ha1 a hK hKg hk
  by_cases hst : c.st = 1
  rotate_left
  · rw [show (c.ticked.st == 1) = false by simp [Cl.ticked, hst]] at BU
    have HST := Lib.hid hst
    clear hst
    go_enter Tryz.func17, Tryz.ntmps17
    go_upto_region 4 with (fail)
    rw [← HW1.out]
    go_wp2_with (fail)
    refine BU.out.mono ?_
    rintro e w2 ⟨rfl, hb2⟩
    have HA2 := Lib.hid (HA.out.below hb2)
    have HC2 := Lib.hid (HC.out.trans (Chg.of_below hb2 _) (fun _ _ e => e))
    clear hb2 BU
    go_wp2_with (fail)
    go_ret
    exact ⟨⟨none, 0, 0, rfl, fun _ => rfl, fun e => absurd e HST.out⟩, HA2.out, HC2.out⟩
  rw [show (c.ticked.st == 1) = true by simp [Cl.ticked, hst]] at BU
  have HST := Lib.hid hst
  clear hst
  go_enter Tryz.func17, Tryz.ntmps17
  go_upto_region 4 with (fail)
  rw [← HW1.out]
  clear HW1 c3 f3
  go_wp2_with (fail)
  refine BU.out.mono ?_
  rintro e w2 ⟨rfl, hb2⟩
  have HA2 := Lib.hid (HA.out.below hb2)
  have HC2 := Lib.hid (HC.out.trans (Chg.of_below hb2 _) (fun _ _ e => e))
  have HK2 := Lib.hid (HK.out.below hb2)
  clear hb2 BU HA HC HK
  obtain ⟨q, hh, cB, o, hax, hov⟩ := HA2.out.atl
  have OF := Lib.hid (fun W (h9 : Below w2.heap.size w2 W) => atlOf_any lo G q hh cB o k hkk W (hax.below h9))
  obtain ⟨f, hf⟩ : ∃ f : Nat, f = 200 + c.cl := ⟨_, rfl⟩
  have AD := Lib.hid (fun W (h9 : Below w2.heap.size w2 W) => calAddr_any lo g G h vs c.ticked f W (HA2.out.below h9) hf hcl)
  have hz := tick_hdr
  have hfd := fld_ch
  obtain ⟨tk, htk⟩ : ∃ tk, tk = wrap64 (c.tk + 1) := ⟨_, rfl⟩
  have HTK := Lib.hid htk
  have y3 : w2.cell? ⟨g, 3, none⟩ = some (.int .i64 tk) := (HA2.out.box.cell 3).trans (by rw [htk]; rfl)
  have y1 : w2.cell? ⟨g, 1, none⟩ = some (.int .i64 c.ms) := HA2.out.box.cell 1
  have y4 : w2.cell? ⟨g, 4, none⟩ = some (.pointer (some ⟨G, 0, none⟩)) := HA2.out.box.cell 4
  have y6 : w2.cell? ⟨g, 6, none⟩ = some (.int .u32 (k : Int)) := (HA2.out.box.cell 6).trans (by rw [← HKE.out]; rfl)
  have lg := HA2.out.box.lt
  have m0 : (c.ms = 0) = False := by simp; omega
  clear hax hov hf htk
  go_upto_region 6 with (fail)
  go_cut [3] (fun v3 wx => ∃ (g3 : Nat) (l : Lt), v3 = .pointer (some ⟨g3, 0, none⟩) ∧ Hid (LetM2 w2 l g3 wx))
  case first =>
    have HB : Hid (Below w2.heap.size w2 w2.drew) := Lib.hid (Below.refl _ _).drew
    refine wp_region_held_drew (S := fun wq => wq.cell? ⟨g, 1, none⟩ = some (.int .i64 c.ms) ∧ wq.cell? ⟨g, 3, none⟩ = some (.int .i64 tk) ∧ wq.cell? ⟨g, 4, none⟩ = some (.pointer (some ⟨G, 0, none⟩)) ∧ wq.cell? ⟨g, 6, none⟩ = some (.int .u32 (k : Int))) (by kernel_rfl) ⟨y1, y3, y4, y6⟩ (fun hHeld => ?_)
    generalize w2.drew = Vd at *
    refine wpAnyH_take (i := 0) (v := ?_) rfl (by kernel_rfl) (by kernel_rfl) (by kernel_rfl) (fun _ _ _ h => h) (Or.inl ⟨by rfl, ?_⟩) (by assumption) ?_
    rotate_left 1
    · (intro wq hSw; (try dsimp only at hSw); go_simp; (try with_reducible rfl))
    try simp only [Act.put, List.setIfInBounds_toArray, List.set_cons_zero, List.set_cons_succ, List.getElem_toArray, List.getElem_cons_zero, List.getElem_cons_succ]
    refine wpAnyH_take (i := 2) (v := ?_) rfl (by kernel_rfl) (by kernel_rfl) (by kernel_rfl) (fun _ _ _ h => h) (Or.inl ⟨by rfl, ?_⟩) (by assumption) ?_
    rotate_left 1
    · (intro wq hSw; (try dsimp only at hSw); go_simp; (try with_reducible rfl))
    try simp only [Act.put, List.setIfInBounds_toArray, List.set_cons_zero, List.set_cons_succ, List.getElem_toArray, List.getElem_cons_zero, List.getElem_cons_succ]
    refine wpAnyH_take (i := 3) (v := ?_) rfl (by kernel_rfl) (by kernel_rfl) (by kernel_rfl) (fun _ _ _ h => h) (Or.inl ⟨by rfl, ?_⟩) (by assumption) ?_
    rotate_left 1
    · (intro wq hSw; (try dsimp only at hSw); go_simp; (try with_reducible rfl))
    try simp only [Act.put, List.setIfInBounds_toArray, List.set_cons_zero, List.set_cons_succ, List.getElem_toArray, List.getElem_cons_zero, List.getElem_cons_succ]
    refine wpAnyH_take (i := 4) (v := ?_) rfl (by kernel_rfl) (by kernel_rfl) (by kernel_rfl) (fun _ _ _ h => h) (Or.inl ⟨by rfl, ?_⟩) (by assumption) ?_
    rotate_left 1
    · (intro wq hSw; (try dsimp only at hSw); go_simp; (try with_reducible rfl))
    try simp only [Act.put, List.setIfInBounds_toArray, List.set_cons_zero, List.set_cons_succ, List.getElem_toArray, List.getElem_cons_zero, List.getElem_cons_succ]
    refine wpAnyH_take (i := 5) (v := ?_) rfl (by kernel_rfl) (by kernel_rfl) (by kernel_rfl) (fun _ _ _ h => h) (Or.inl ⟨by rfl, ?_⟩) (by assumption) ?_
    rotate_left 1
    · (intro wq hSw; (try dsimp only at hSw); go_simp; (try with_reducible rfl))
    try simp only [Act.put, List.setIfInBounds_toArray, List.set_cons_zero, List.set_cons_succ, List.getElem_toArray, List.getElem_cons_zero, List.getElem_cons_succ]
    refine wpAnyH_take (i := 6) (v := ?_) rfl (by kernel_rfl) (by kernel_rfl) (by kernel_rfl) (fun _ _ _ h => h) (Or.inl ⟨by rfl, ?_⟩) (by assumption) ?_
    rotate_left 1
    · (intro wq hSw; (try dsimp only at hSw); go_simp; (try with_reducible rfl))
    try simp only [Act.put, List.setIfInBounds_toArray, List.set_cons_zero, List.set_cons_succ, List.getElem_toArray, List.getElem_cons_zero, List.getElem_cons_succ]
    refine wpAnyH_take (i := 7) (v := ?_) rfl (by kernel_rfl) (by kernel_rfl) (by kernel_rfl) (fun _ _ _ h => h) (Or.inl ⟨by rfl, ?_⟩) (by assumption) ?_
    rotate_left 1
    · (intro wq hSw; (try dsimp only at hSw); go_simp; (try with_reducible rfl))
    try simp only [Act.put, List.setIfInBounds_toArray, List.set_cons_zero, List.set_cons_succ, List.getElem_toArray, List.getElem_cons_zero, List.getElem_cons_succ]
    refine wpAnyH_take (i := 8) (v := ?_) rfl (by kernel_rfl) (by kernel_rfl) (by kernel_rfl) (fun _ _ _ h => h) (Or.inl ⟨by rfl, ?_⟩) (by assumption) ?_
    rotate_left 1
    · (intro wq hSw; (try dsimp only at hSw); go_simp; (try with_reducible rfl))
    try simp only [Act.put, List.setIfInBounds_toArray, List.set_cons_zero, List.set_cons_succ, List.getElem_toArray, List.getElem_cons_zero, List.getElem_cons_succ]
    refine wpAnyH_take (i := 9) (v := ?_) rfl (by kernel_rfl) (by kernel_rfl) (by kernel_rfl) (fun _ _ _ h => h) (Or.inl ⟨by rfl, ?_⟩) (by assumption) ?_
    rotate_left 1
    · (intro wq hSw; (try dsimp only at hSw); go_simp; (try with_reducible rfl))
    try simp only [Act.put, List.setIfInBounds_toArray, List.set_cons_zero, List.set_cons_succ, List.getElem_toArray, List.getElem_cons_zero, List.getElem_cons_succ]
    refine wpAnyH_take (i := 10) (v := ?_) rfl (by kernel_rfl) (by kernel_rfl) (by kernel_rfl) (fun _ _ _ h => h) (Or.inl ⟨by rfl, ?_⟩) (by assumption) ?_
    rotate_left 1
    · (intro wq hSw; (try dsimp only at hSw); go_simp; (try with_reducible rfl))
    try simp only [Act.put, List.setIfInBounds_toArray, List.set_cons_zero, List.set_cons_succ, List.getElem_toArray, List.getElem_cons_zero, List.getElem_cons_succ]
    refine wpAnyH_take (i := 11) (v := ?_) rfl (by kernel_rfl) (by kernel_rfl) (by kernel_rfl) (fun _ _ _ h => h) (Or.inl ⟨by rfl, ?_⟩) (by assumption) ?_
    rotate_left 1
    · (intro wq hSw; (try dsimp only at hSw); go_simp; (try with_reducible rfl))
    try simp only [Act.put, List.setIfInBounds_toArray, List.set_cons_zero, List.set_cons_succ, List.getElem_toArray, List.getElem_cons_zero, List.getElem_cons_succ]
    refine wpAnyH_take (i := 12) (v := ?_) rfl (by kernel_rfl) (by kernel_rfl) (by kernel_rfl) (fun _ _ _ h => h) (Or.inl ⟨by rfl, ?_⟩) (by assumption) ?_
    rotate_left 1
    · (intro wq hSw; (try dsimp only at hSw); go_simp; (try with_reducible rfl))
    try simp only [Act.put, List.setIfInBounds_toArray, List.set_cons_zero, List.set_cons_succ, List.getElem_toArray, List.getElem_cons_zero, List.getElem_cons_succ]
    refine wpAnyH_take (i := 13) (v := ?_) rfl (by kernel_rfl) (by kernel_rfl) (by kernel_rfl) (fun _ _ _ h => h) (Or.inl ⟨by rfl, ?_⟩) (by assumption) ?_
    rotate_left 1
    · (intro wq hSw; (try dsimp only at hSw); go_simp; (try with_reducible rfl))
    try simp only [Act.put, List.setIfInBounds_toArray, List.set_cons_zero, List.set_cons_succ, List.getElem_toArray, List.getElem_cons_zero, List.getElem_cons_succ]
    refine wpAnyH_take (i := 14) (v := ?_) rfl (by kernel_rfl) (by kernel_rfl) (by kernel_rfl) (fun _ _ _ h => h) (Or.inl ⟨by rfl, ?_⟩) (by assumption) ?_
    rotate_left 1
    · (intro wq hSw; (try dsimp only at hSw); go_simp; (try with_reducible rfl))
    try simp only [Act.put, List.setIfInBounds_toArray, List.set_cons_zero, List.set_cons_succ, List.getElem_toArray, List.getElem_cons_zero, List.getElem_cons_succ]
    refine wpAnyH_take (i := 15) (v := ?_) rfl (by kernel_rfl) (by kernel_rfl) (by kernel_rfl) (fun _ _ _ h => h) (Or.inl ⟨by rfl, ?_⟩) (by assumption) ?_
    rotate_left 1
    · (intro wq hSw; (try dsimp only at hSw); go_simp; (try with_reducible rfl))
    try simp only [Act.put, List.setIfInBounds_toArray, List.set_cons_zero, List.set_cons_succ, List.getElem_toArray, List.getElem_cons_zero, List.getElem_cons_succ]
    refine wpAnyH_take (i := 16) (v := ?_) rfl (by kernel_rfl) (by kernel_rfl) (by kernel_rfl) (fun _ _ _ h => h) (Or.inl ⟨by rfl, ?_⟩) (by assumption) ?_
    rotate_left 1
    · (intro wq hSw; (try dsimp only at hSw); go_simp; (try with_reducible rfl))
    try simp only [Act.put, List.setIfInBounds_toArray, List.set_cons_zero, List.set_cons_succ, List.getElem_toArray, List.getElem_cons_zero, List.getElem_cons_succ]
    refine wpAnyH_take (i := 17) (v := ?_) rfl (by kernel_rfl) (by kernel_rfl) (by kernel_rfl) (fun _ _ _ h => h) (Or.inl ⟨by rfl, ?_⟩) (by assumption) ?_
    rotate_left 1
    · (intro wq hSw; (try dsimp only at hSw); go_simp; (try with_reducible rfl))
    try simp only [Act.put, List.setIfInBounds_toArray, List.set_cons_zero, List.set_cons_succ, List.getElem_toArray, List.getElem_cons_zero, List.getElem_cons_succ]
    refine wpAnyH_take (i := 18) (v := ?_) rfl (by kernel_rfl) (by kernel_rfl) (by kernel_rfl) (fun _ _ _ h => h) (Or.inl ⟨by rfl, ?_⟩) (by assumption) ?_
    rotate_left 1
    · (intro wq hSw; (try dsimp only at hSw); go_simp; (try with_reducible rfl))
    try simp only [Act.put, List.setIfInBounds_toArray, List.set_cons_zero, List.set_cons_succ, List.getElem_toArray, List.getElem_cons_zero, List.getElem_cons_succ]
    refine wpAnyH_take (i := 19) (v := ?_) rfl (by kernel_rfl) (by kernel_rfl) (by kernel_rfl) (fun _ _ _ h => h) (Or.inl ⟨by rfl, ?_⟩) (by assumption) ?_
    rotate_left 1
    · (intro wq hSw; (try dsimp only at hSw); go_simp; (try with_reducible rfl))
    try simp only [Act.put, List.setIfInBounds_toArray, List.set_cons_zero, List.set_cons_succ, List.getElem_toArray, List.getElem_cons_zero, List.getElem_cons_succ]
    refine wpAnyH_take (i := 20) (v := ?_) rfl (by kernel_rfl) (by kernel_rfl) (by kernel_rfl) (fun _ _ _ h => h) (Or.inl ⟨by rfl, ?_⟩) (by assumption) ?_
    rotate_left 1
    · (intro wq hSw; (try dsimp only at hSw); go_simp; (try with_reducible rfl))
    try simp only [Act.put, List.setIfInBounds_toArray, List.set_cons_zero, List.set_cons_succ, List.getElem_toArray, List.getElem_cons_zero, List.getElem_cons_succ]
    refine wpAnyH_take (i := 21) (v := ?_) rfl (by kernel_rfl) (by kernel_rfl) (by kernel_rfl) (fun _ _ _ h => h) (Or.inl ⟨by rfl, ?_⟩) (by assumption) ?_
    rotate_left 1
    · (intro wq hSw; (try dsimp only at hSw); go_simp; (try with_reducible rfl))
    try simp only [Act.put, List.setIfInBounds_toArray, List.set_cons_zero, List.set_cons_succ, List.getElem_toArray, List.getElem_cons_zero, List.getElem_cons_succ]
    refine wpAnyH_ready (rs := [1, 25]) (by kernel_rfl) (by simp) ?_
    refine (AllReadyH.cons rfl (fun K hK => ?_) (AllReadyH.cons rfl (fun K hK => ?_) AllReadyH.nil))
    · go_simp
      refine (AD.out _ HB.out).mono ?_
      rintro e x9 ⟨rfl, rfl⟩
      have HS : Vd.cell? ⟨g, 1, none⟩ = some (.int .i64 c.ms) ∧ Vd.cell? ⟨g, 3, none⟩ = some (.int .i64 tk) ∧ Vd.cell? ⟨g, 4, none⟩ = some (.pointer (some ⟨G, 0, none⟩)) ∧ Vd.cell? ⟨g, 6, none⟩ = some (.int .u32 (k : Int)) := ⟨(HA2.out.below HB.out).box.cell 1, ((HA2.out.below HB.out).box.cell 3).trans (by rw [HTK.out]; rfl), (HA2.out.below HB.out).box.cell 4, ((HA2.out.below HB.out).box.cell 6).trans (by rw [← HKE.out]; rfl)⟩
      refine hK.out _ _ ?_ (fun hHeld => ?_)
      · first | exact HS | go_keep
      clear hK K
      try simp only [Act.put, List.setIfInBounds_toArray, List.set_cons_zero, List.set_cons_succ, List.getElem_toArray, List.getElem_cons_zero, List.getElem_cons_succ]
      refine wpAnyH_ready (rs := [22, 25]) (by kernel_rfl) (by simp) ?_
      refine (AllReadyH.cons rfl (fun K hK => ?_) (AllReadyH.cons rfl (fun K hK => ?_) AllReadyH.nil))
      · go_simp
        refine (OF.out _ HB.out).mono ?_
        rintro e x22 ⟨y, rfl, hone, hown, h9⟩
        replace HB := Lib.hid (HB.out.trans (h9.mono HB.out.size))
        (try replace GB := Lib.hid (GB.out.below h9 GB.out.lt))
        have HS : x22.cell? ⟨g, 1, none⟩ = some (.int .i64 c.ms) ∧ x22.cell? ⟨g, 3, none⟩ = some (.int .i64 tk) ∧ x22.cell? ⟨g, 4, none⟩ = some (.pointer (some ⟨G, 0, none⟩)) ∧ x22.cell? ⟨g, 6, none⟩ = some (.int .u32 (k : Int)) := ⟨(HA2.out.below HB.out).box.cell 1, ((HA2.out.below HB.out).box.cell 3).trans (by rw [HTK.out]; rfl), (HA2.out.below HB.out).box.cell 4, ((HA2.out.below HB.out).box.cell 6).trans (by rw [← HKE.out]; rfl)⟩
        clear h9 hown hone
        refine hK.out _ _ ?_ (fun hHeld => ?_)
        · first | exact HS | go_keep
        clear hK K
        try simp only [Act.put, List.setIfInBounds_toArray, List.set_cons_zero, List.set_cons_succ, List.getElem_toArray, List.getElem_cons_zero, List.getElem_cons_succ]
        refine wpAnyH_take (i := 23) (v := ?_) rfl (by kernel_rfl) (by kernel_rfl) (by kernel_rfl) (fun _ _ _ h => h) (Or.inl ⟨by rfl, ?_⟩) (by assumption) ?_
        rotate_left 1
        · (intro wq hSw; (try dsimp only at hSw); go_simp; (try with_reducible rfl))
        try simp only [Act.put, List.setIfInBounds_toArray, List.set_cons_zero, List.set_cons_succ, List.getElem_toArray, List.getElem_cons_zero, List.getElem_cons_succ]
        refine wpAnyH_take (i := 24) (v := ?_) rfl (by kernel_rfl) (by kernel_rfl) (by kernel_rfl) (fun _ _ _ h => h) (Or.inl ⟨by rfl, ?_⟩) (by assumption) ?_
        rotate_left 1
        · (intro wq hSw; (try dsimp only at hSw); go_simp; (try with_reducible rfl))
        try simp only [Act.put, List.setIfInBounds_toArray, List.set_cons_zero, List.set_cons_succ, List.getElem_toArray, List.getElem_cons_zero, List.getElem_cons_succ]
        refine wpAnyH_ready (rs := [25]) (by kernel_rfl) (by simp) ?_
        refine (AllReadyH.cons rfl (fun K hK => ?_) AllReadyH.nil)
        go_simp
        have lG : w2.heap.size ≤ x22.heap.size := HB.out.size
        have GB := Lib.hid (Blk.new x22 48 #[.int .i64 0, .int .i64 0, .int .i64 0, .int .i64 0, .int .u64 0, .int .u64 0, .int .u64 0, .int .u64 0, .int .u64 0, .int .u64 0, .int .i64 0, .int .u32 0, .int .i64 0, .int .i64 0, .int .i64 0, .int .u64 0, .int .i64 0, .int .i64 0, .int .u64 0, .slice none 0 0, .bool false, .int .i64 0, .slice none 0 0, .slice none 0 0, .slice none 0 0])
        replace HB := Lib.hid (HB.out.alloc HB.out.size (.cells #[.int .i64 0, .int .i64 0, .int .i64 0, .int .i64 0, .int .u64 0, .int .u64 0, .int .u64 0, .int .u64 0, .int .u64 0, .int .u64 0, .int .i64 0, .int .u32 0, .int .i64 0, .int .i64 0, .int .i64 0, .int .u64 0, .int .i64 0, .int .i64 0, .int .u64 0, .slice none 0 0, .bool false, .int .i64 0, .slice none 0 0, .slice none 0 0, .slice none 0 0] 48))
        have HS : (x22.alloc (.cells #[.int .i64 0, .int .i64 0, .int .i64 0, .int .i64 0, .int .u64 0, .int .u64 0, .int .u64 0, .int .u64 0, .int .u64 0, .int .u64 0, .int .i64 0, .int .u32 0, .int .i64 0, .int .i64 0, .int .i64 0, .int .u64 0, .int .i64 0, .int .i64 0, .int .u64 0, .slice none 0 0, .bool false, .int .i64 0, .slice none 0 0, .slice none 0 0, .slice none 0 0] 48)).cell? ⟨g, 1, none⟩ = some (.int .i64 c.ms) ∧ (x22.alloc (.cells #[.int .i64 0, .int .i64 0, .int .i64 0, .int .i64 0, .int .u64 0, .int .u64 0, .int .u64 0, .int .u64 0, .int .u64 0, .int .u64 0, .int .i64 0, .int .u32 0, .int .i64 0, .int .i64 0, .int .i64 0, .int .u64 0, .int .i64 0, .int .i64 0, .int .u64 0, .slice none 0 0, .bool false, .int .i64 0, .slice none 0 0, .slice none 0 0, .slice none 0 0] 48)).cell? ⟨g, 3, none⟩ = some (.int .i64 tk) ∧ (x22.alloc (.cells #[.int .i64 0, .int .i64 0, .int .i64 0, .int .i64 0, .int .u64 0, .int .u64 0, .int .u64 0, .int .u64 0, .int .u64 0, .int .u64 0, .int .i64 0, .int .u32 0, .int .i64 0, .int .i64 0, .int .i64 0, .int .u64 0, .int .i64 0, .int .i64 0, .int .u64 0, .slice none 0 0, .bool false, .int .i64 0, .slice none 0 0, .slice none 0 0, .slice none 0 0] 48)).cell? ⟨g, 4, none⟩ = some (.pointer (some ⟨G, 0, none⟩)) ∧ (x22.alloc (.cells #[.int .i64 0, .int .i64 0, .int .i64 0, .int .i64 0, .int .u64 0, .int .u64 0, .int .u64 0, .int .u64 0, .int .u64 0, .int .u64 0, .int .i64 0, .int .u32 0, .int .i64 0, .int .i64 0, .int .i64 0, .int .u64 0, .int .i64 0, .int .i64 0, .int .u64 0, .slice none 0 0, .bool false, .int .i64 0, .slice none 0 0, .slice none 0 0, .slice none 0 0] 48)).cell? ⟨g, 6, none⟩ = some (.int .u32 (k : Int)) := ⟨(HA2.out.below HB.out).box.cell 1, ((HA2.out.below HB.out).box.cell 3).trans (by rw [HTK.out]; rfl), (HA2.out.below HB.out).box.cell 4, ((HA2.out.below HB.out).box.cell 6).trans (by rw [← HKE.out]; rfl)⟩
        refine hK.out _ _ ?_ (fun hHeld => ?_)
        · first | exact HS | go_keep
        clear hK K
        generalize (x22.alloc (.cells #[.int .i64 0, .int .i64 0, .int .i64 0, .int .i64 0, .int .u64 0, .int .u64 0, .int .u64 0, .int .u64 0, .int .u64 0, .int .u64 0, .int .i64 0, .int .u32 0, .int .i64 0, .int .i64 0, .int .i64 0, .int .u64 0, .int .i64 0, .int .i64 0, .int .u64 0, .slice none 0 0, .bool false, .int .i64 0, .slice none 0 0, .slice none 0 0, .slice none 0 0] 48)) = Va at *
        try simp only [Act.put, List.setIfInBounds_toArray, List.set_cons_zero, List.set_cons_succ, List.getElem_toArray, List.getElem_cons_zero, List.getElem_cons_succ]
        refine wpAnyH_ready (rs := [26]) (by kernel_rfl) (by simp) ?_
        refine (AllReadyH.cons rfl (fun K hK => ?_) AllReadyH.nil)
        replace HB : Hid (Below w2.heap.size w2 (World.setRow Va x22.heap.size (Lt.cells { Lt.zero with kd := 10, fr := (f : Int), tw := IntKind.i64.wrap (IntKind.i64.wrap (100 + tk.tmod (c.ms : Int)) + 1), ch := y.ch }))) := Lib.hid (below_setRow HB.out lG _)
        have HS : (World.setRow Va x22.heap.size (Lt.cells { Lt.zero with kd := 10, fr := (f : Int), tw := IntKind.i64.wrap (IntKind.i64.wrap (100 + tk.tmod (c.ms : Int)) + 1), ch := y.ch })).cell? ⟨g, 1, none⟩ = some (.int .i64 c.ms) ∧ (World.setRow Va x22.heap.size (Lt.cells { Lt.zero with kd := 10, fr := (f : Int), tw := IntKind.i64.wrap (IntKind.i64.wrap (100 + tk.tmod (c.ms : Int)) + 1), ch := y.ch })).cell? ⟨g, 3, none⟩ = some (.int .i64 tk) ∧ (World.setRow Va x22.heap.size (Lt.cells { Lt.zero with kd := 10, fr := (f : Int), tw := IntKind.i64.wrap (IntKind.i64.wrap (100 + tk.tmod (c.ms : Int)) + 1), ch := y.ch })).cell? ⟨g, 4, none⟩ = some (.pointer (some ⟨G, 0, none⟩)) ∧ (World.setRow Va x22.heap.size (Lt.cells { Lt.zero with kd := 10, fr := (f : Int), tw := IntKind.i64.wrap (IntKind.i64.wrap (100 + tk.tmod (c.ms : Int)) + 1), ch := y.ch })).cell? ⟨g, 6, none⟩ = some (.int .u32 (k : Int)) := ⟨(HA2.out.below HB.out).box.cell 1, ((HA2.out.below HB.out).box.cell 3).trans (by rw [HTK.out]; rfl), (HA2.out.below HB.out).box.cell 4, ((HA2.out.below HB.out).box.cell 6).trans (by rw [← HKE.out]; rfl)⟩
        have HLM : Hid (LetM2 w2 { Lt.zero with kd := 10, fr := (f : Int), tw := IntKind.i64.wrap (IntKind.i64.wrap (100 + tk.tmod (c.ms : Int)) + 1), ch := y.ch } x22.heap.size (World.setRow Va x22.heap.size (Lt.cells { Lt.zero with kd := 10, fr := (f : Int), tw := IntKind.i64.wrap (IntKind.i64.wrap (100 + tk.tmod (c.ms : Int)) + 1), ch := y.ch }))) := Lib.hid ⟨setRow_heap _ _ _ _ _ _ GB.out, lG, HB.out⟩
        refine step_store_row rfl 48 (.tmp 3) (.tmp 40) rfl x22.heap.size (Lt.cells { Lt.zero with kd := 10, fr := (f : Int), tw := IntKind.i64.wrap (IntKind.i64.wrap (100 + tk.tmod (c.ms : Int)) + 1), ch := y.ch }) rfl rfl 48 #[.int .i64 0, .int .i64 0, .int .i64 0, .int .i64 0, .int .u64 0, .int .u64 0, .int .u64 0, .int .u64 0, .int .u64 0, .int .u64 0, .int .i64 0, .int .u32 0, .int .i64 0, .int .i64 0, .int .i64 0, .int .u64 0, .int .i64 0, .int .i64 0, .int .u64 0, .slice none 0 0, .bool false, .int .i64 0, .slice none 0 0, .slice none 0 0, .slice none 0 0] GB.out ltInfo rfl (lt_all _) ?_
        refine hK.out _ _ ?_ (fun hHeld => ?_)
        · first | exact HS | go_keep
        clear hK K
        generalize (World.setRow Va x22.heap.size (Lt.cells { Lt.zero with kd := 10, fr := (f : Int), tw := IntKind.i64.wrap (IntKind.i64.wrap (100 + tk.tmod (c.ms : Int)) + 1), ch := y.ch })) = Vb at *
        try simp only [Act.put, List.setIfInBounds_toArray, List.set_cons_zero, List.set_cons_succ, List.getElem_toArray, List.getElem_cons_zero, List.getElem_cons_succ]
        refine wpAnyH_done (by kernel_rfl) ?_ _
        go_wp2_with (fail)
        go_meet
        case rel => exact ⟨_, _, rfl, HLM⟩
      · go_simp
        have lG : w2.heap.size ≤ Vd.heap.size := HB.out.size
        have GB := Lib.hid (Blk.new Vd 48 #[.int .i64 0, .int .i64 0, .int .i64 0, .int .i64 0, .int .u64 0, .int .u64 0, .int .u64 0, .int .u64 0, .int .u64 0, .int .u64 0, .int .i64 0, .int .u32 0, .int .i64 0, .int .i64 0, .int .i64 0, .int .u64 0, .int .i64 0, .int .i64 0, .int .u64 0, .slice none 0 0, .bool false, .int .i64 0, .slice none 0 0, .slice none 0 0, .slice none 0 0])
        replace HB := Lib.hid (HB.out.alloc HB.out.size (.cells #[.int .i64 0, .int .i64 0, .int .i64 0, .int .i64 0, .int .u64 0, .int .u64 0, .int .u64 0, .int .u64 0, .int .u64 0, .int .u64 0, .int .i64 0, .int .u32 0, .int .i64 0, .int .i64 0, .int .i64 0, .int .u64 0, .int .i64 0, .int .i64 0, .int .u64 0, .slice none 0 0, .bool false, .int .i64 0, .slice none 0 0, .slice none 0 0, .slice none 0 0] 48))
        have HS : (Vd.alloc (.cells #[.int .i64 0, .int .i64 0, .int .i64 0, .int .i64 0, .int .u64 0, .int .u64 0, .int .u64 0, .int .u64 0, .int .u64 0, .int .u64 0, .int .i64 0, .int .u32 0, .int .i64 0, .int .i64 0, .int .i64 0, .int .u64 0, .int .i64 0, .int .i64 0, .int .u64 0, .slice none 0 0, .bool false, .int .i64 0, .slice none 0 0, .slice none 0 0, .slice none 0 0] 48)).cell? ⟨g, 1, none⟩ = some (.int .i64 c.ms) ∧ (Vd.alloc (.cells #[.int .i64 0, .int .i64 0, .int .i64 0, .int .i64 0, .int .u64 0, .int .u64 0, .int .u64 0, .int .u64 0, .int .u64 0, .int .u64 0, .int .i64 0, .int .u32 0, .int .i64 0, .int .i64 0, .int .i64 0, .int .u64 0, .int .i64 0, .int .i64 0, .int .u64 0, .slice none 0 0, .bool false, .int .i64 0, .slice none 0 0, .slice none 0 0, .slice none 0 0] 48)).cell? ⟨g, 3, none⟩ = some (.int .i64 tk) ∧ (Vd.alloc (.cells #[.int .i64 0, .int .i64 0, .int .i64 0, .int .i64 0, .int .u64 0, .int .u64 0, .int .u64 0, .int .u64 0, .int .u64 0, .int .u64 0, .int .i64 0, .int .u32 0, .int .i64 0, .int .i64 0, .int .i64 0, .int .u64 0, .int .i64 0, .int .i64 0, .int .u64 0, .slice none 0 0, .bool false, .int .i64 0, .slice none 0 0, .slice none 0 0, .slice none 0 0] 48)).cell? ⟨g, 4, none⟩ = some (.pointer (some ⟨G, 0, none⟩)) ∧ (Vd.alloc (.cells #[.int .i64 0, .int .i64 0, .int .i64 0, .int .i64 0, .int .u64 0, .int .u64 0, .int .u64 0, .int .u64 0, .int .u64 0, .int .u64 0, .int .i64 0, .int .u32 0, .int .i64 0, .int .i64 0, .int .i64 0, .int .u64 0, .int .i64 0, .int .i64 0, .int .u64 0, .slice none 0 0, .bool false, .int .i64 0, .slice none 0 0, .slice none 0 0, .slice none 0 0] 48)).cell? ⟨g, 6, none⟩ = some (.int .u32 (k : Int)) := ⟨(HA2.out.below HB.out).box.cell 1, ((HA2.out.below HB.out).box.cell 3).trans (by rw [HTK.out]; rfl), (HA2.out.below HB.out).box.cell 4, ((HA2.out.below HB.out).box.cell 6).trans (by rw [← HKE.out]; rfl)⟩
        refine hK.out _ _ ?_ (fun hHeld => ?_)
        · first | exact HS | go_keep
        clear hK K
        generalize (Vd.alloc (.cells #[.int .i64 0, .int .i64 0, .int .i64 0, .int .i64 0, .int .u64 0, .int .u64 0, .int .u64 0, .int .u64 0, .int .u64 0, .int .u64 0, .int .i64 0, .int .u32 0, .int .i64 0, .int .i64 0, .int .i64 0, .int .u64 0, .int .i64 0, .int .i64 0, .int .u64 0, .slice none 0 0, .bool false, .int .i64 0, .slice none 0 0, .slice none 0 0, .slice none 0 0] 48)) = Va at *
        try simp only [Act.put, List.setIfInBounds_toArray, List.set_cons_zero, List.set_cons_succ, List.getElem_toArray, List.getElem_cons_zero, List.getElem_cons_succ]
        refine wpAnyH_ready (rs := [22]) (by kernel_rfl) (by simp) ?_
        refine (AllReadyH.cons rfl (fun K hK => ?_) AllReadyH.nil)
        go_simp
        refine (OF.out _ HB.out).mono ?_
        rintro e x22 ⟨y, rfl, hone, hown, h9⟩
        replace HB := Lib.hid (HB.out.trans (h9.mono HB.out.size))
        (try replace GB := Lib.hid (GB.out.below h9 GB.out.lt))
        have HS : x22.cell? ⟨g, 1, none⟩ = some (.int .i64 c.ms) ∧ x22.cell? ⟨g, 3, none⟩ = some (.int .i64 tk) ∧ x22.cell? ⟨g, 4, none⟩ = some (.pointer (some ⟨G, 0, none⟩)) ∧ x22.cell? ⟨g, 6, none⟩ = some (.int .u32 (k : Int)) := ⟨(HA2.out.below HB.out).box.cell 1, ((HA2.out.below HB.out).box.cell 3).trans (by rw [HTK.out]; rfl), (HA2.out.below HB.out).box.cell 4, ((HA2.out.below HB.out).box.cell 6).trans (by rw [← HKE.out]; rfl)⟩
        clear h9 hown hone
        refine hK.out _ _ ?_ (fun hHeld => ?_)
        · first | exact HS | go_keep
        clear hK K
        try simp only [Act.put, List.setIfInBounds_toArray, List.set_cons_zero, List.set_cons_succ, List.getElem_toArray, List.getElem_cons_zero, List.getElem_cons_succ]
        refine wpAnyH_take (i := 23) (v := ?_) rfl (by kernel_rfl) (by kernel_rfl) (by kernel_rfl) (fun _ _ _ h => h) (Or.inl ⟨by rfl, ?_⟩) (by assumption) ?_
        rotate_left 1
        · (intro wq hSw; (try dsimp only at hSw); go_simp; (try with_reducible rfl))
        try simp only [Act.put, List.setIfInBounds_toArray, List.set_cons_zero, List.set_cons_succ, List.getElem_toArray, List.getElem_cons_zero, List.getElem_cons_succ]
        refine wpAnyH_take (i := 24) (v := ?_) rfl (by kernel_rfl) (by kernel_rfl) (by kernel_rfl) (fun _ _ _ h => h) (Or.inl ⟨by rfl, ?_⟩) (by assumption) ?_
        rotate_left 1
        · (intro wq hSw; (try dsimp only at hSw); go_simp; (try with_reducible rfl))
        try simp only [Act.put, List.setIfInBounds_toArray, List.set_cons_zero, List.set_cons_succ, List.getElem_toArray, List.getElem_cons_zero, List.getElem_cons_succ]
        refine wpAnyH_ready (rs := [26]) (by kernel_rfl) (by simp) ?_
        refine (AllReadyH.cons rfl (fun K hK => ?_) AllReadyH.nil)
        replace HB : Hid (Below w2.heap.size w2 (World.setRow x22 Vd.heap.size (Lt.cells { Lt.zero with kd := 10, fr := (f : Int), tw := IntKind.i64.wrap (IntKind.i64.wrap (100 + tk.tmod (c.ms : Int)) + 1), ch := y.ch }))) := Lib.hid (below_setRow HB.out lG _)
        have HS : (World.setRow x22 Vd.heap.size (Lt.cells { Lt.zero with kd := 10, fr := (f : Int), tw := IntKind.i64.wrap (IntKind.i64.wrap (100 + tk.tmod (c.ms : Int)) + 1), ch := y.ch })).cell? ⟨g, 1, none⟩ = some (.int .i64 c.ms) ∧ (World.setRow x22 Vd.heap.size (Lt.cells { Lt.zero with kd := 10, fr := (f : Int), tw := IntKind.i64.wrap (IntKind.i64.wrap (100 + tk.tmod (c.ms : Int)) + 1), ch := y.ch })).cell? ⟨g, 3, none⟩ = some (.int .i64 tk) ∧ (World.setRow x22 Vd.heap.size (Lt.cells { Lt.zero with kd := 10, fr := (f : Int), tw := IntKind.i64.wrap (IntKind.i64.wrap (100 + tk.tmod (c.ms : Int)) + 1), ch := y.ch })).cell? ⟨g, 4, none⟩ = some (.pointer (some ⟨G, 0, none⟩)) ∧ (World.setRow x22 Vd.heap.size (Lt.cells { Lt.zero with kd := 10, fr := (f : Int), tw := IntKind.i64.wrap (IntKind.i64.wrap (100 + tk.tmod (c.ms : Int)) + 1), ch := y.ch })).cell? ⟨g, 6, none⟩ = some (.int .u32 (k : Int)) := ⟨(HA2.out.below HB.out).box.cell 1, ((HA2.out.below HB.out).box.cell 3).trans (by rw [HTK.out]; rfl), (HA2.out.below HB.out).box.cell 4, ((HA2.out.below HB.out).box.cell 6).trans (by rw [← HKE.out]; rfl)⟩
        have HLM : Hid (LetM2 w2 { Lt.zero with kd := 10, fr := (f : Int), tw := IntKind.i64.wrap (IntKind.i64.wrap (100 + tk.tmod (c.ms : Int)) + 1), ch := y.ch } Vd.heap.size (World.setRow x22 Vd.heap.size (Lt.cells { Lt.zero with kd := 10, fr := (f : Int), tw := IntKind.i64.wrap (IntKind.i64.wrap (100 + tk.tmod (c.ms : Int)) + 1), ch := y.ch }))) := Lib.hid ⟨setRow_heap _ _ _ _ _ _ GB.out, lG, HB.out⟩
        refine step_store_row rfl 48 (.tmp 3) (.tmp 40) rfl Vd.heap.size (Lt.cells { Lt.zero with kd := 10, fr := (f : Int), tw := IntKind.i64.wrap (IntKind.i64.wrap (100 + tk.tmod (c.ms : Int)) + 1), ch := y.ch }) rfl rfl 48 #[.int .i64 0, .int .i64 0, .int .i64 0, .int .i64 0, .int .u64 0, .int .u64 0, .int .u64 0, .int .u64 0, .int .u64 0, .int .u64 0, .int .i64 0, .int .u32 0, .int .i64 0, .int .i64 0, .int .i64 0, .int .u64 0, .int .i64 0, .int .i64 0, .int .u64 0, .slice none 0 0, .bool false, .int .i64 0, .slice none 0 0, .slice none 0 0, .slice none 0 0] GB.out ltInfo rfl (lt_all _) ?_
        refine hK.out _ _ ?_ (fun hHeld => ?_)
        · first | exact HS | go_keep
        clear hK K
        generalize (World.setRow x22 Vd.heap.size (Lt.cells { Lt.zero with kd := 10, fr := (f : Int), tw := IntKind.i64.wrap (IntKind.i64.wrap (100 + tk.tmod (c.ms : Int)) + 1), ch := y.ch })) = Vb at *
        try simp only [Act.put, List.setIfInBounds_toArray, List.set_cons_zero, List.set_cons_succ, List.getElem_toArray, List.getElem_cons_zero, List.getElem_cons_succ]
        refine wpAnyH_done (by kernel_rfl) ?_ _
        go_wp2_with (fail)
        go_meet
        case rel => exact ⟨_, _, rfl, HLM⟩
    · go_simp
      have lG : w2.heap.size ≤ Vd.heap.size := HB.out.size
      have GB := Lib.hid (Blk.new Vd 48 #[.int .i64 0, .int .i64 0, .int .i64 0, .int .i64 0, .int .u64 0, .int .u64 0, .int .u64 0, .int .u64 0, .int .u64 0, .int .u64 0, .int .i64 0, .int .u32 0, .int .i64 0, .int .i64 0, .int .i64 0, .int .u64 0, .int .i64 0, .int .i64 0, .int .u64 0, .slice none 0 0, .bool false, .int .i64 0, .slice none 0 0, .slice none 0 0, .slice none 0 0])
      replace HB := Lib.hid (HB.out.alloc HB.out.size (.cells #[.int .i64 0, .int .i64 0, .int .i64 0, .int .i64 0, .int .u64 0, .int .u64 0, .int .u64 0, .int .u64 0, .int .u64 0, .int .u64 0, .int .i64 0, .int .u32 0, .int .i64 0, .int .i64 0, .int .i64 0, .int .u64 0, .int .i64 0, .int .i64 0, .int .u64 0, .slice none 0 0, .bool false, .int .i64 0, .slice none 0 0, .slice none 0 0, .slice none 0 0] 48))
      have HS : (Vd.alloc (.cells #[.int .i64 0, .int .i64 0, .int .i64 0, .int .i64 0, .int .u64 0, .int .u64 0, .int .u64 0, .int .u64 0, .int .u64 0, .int .u64 0, .int .i64 0, .int .u32 0, .int .i64 0, .int .i64 0, .int .i64 0, .int .u64 0, .int .i64 0, .int .i64 0, .int .u64 0, .slice none 0 0, .bool false, .int .i64 0, .slice none 0 0, .slice none 0 0, .slice none 0 0] 48)).cell? ⟨g, 1, none⟩ = some (.int .i64 c.ms) ∧ (Vd.alloc (.cells #[.int .i64 0, .int .i64 0, .int .i64 0, .int .i64 0, .int .u64 0, .int .u64 0, .int .u64 0, .int .u64 0, .int .u64 0, .int .u64 0, .int .i64 0, .int .u32 0, .int .i64 0, .int .i64 0, .int .i64 0, .int .u64 0, .int .i64 0, .int .i64 0, .int .u64 0, .slice none 0 0, .bool false, .int .i64 0, .slice none 0 0, .slice none 0 0, .slice none 0 0] 48)).cell? ⟨g, 3, none⟩ = some (.int .i64 tk) ∧ (Vd.alloc (.cells #[.int .i64 0, .int .i64 0, .int .i64 0, .int .i64 0, .int .u64 0, .int .u64 0, .int .u64 0, .int .u64 0, .int .u64 0, .int .u64 0, .int .i64 0, .int .u32 0, .int .i64 0, .int .i64 0, .int .i64 0, .int .u64 0, .int .i64 0, .int .i64 0, .int .u64 0, .slice none 0 0, .bool false, .int .i64 0, .slice none 0 0, .slice none 0 0, .slice none 0 0] 48)).cell? ⟨g, 4, none⟩ = some (.pointer (some ⟨G, 0, none⟩)) ∧ (Vd.alloc (.cells #[.int .i64 0, .int .i64 0, .int .i64 0, .int .i64 0, .int .u64 0, .int .u64 0, .int .u64 0, .int .u64 0, .int .u64 0, .int .u64 0, .int .i64 0, .int .u32 0, .int .i64 0, .int .i64 0, .int .i64 0, .int .u64 0, .int .i64 0, .int .i64 0, .int .u64 0, .slice none 0 0, .bool false, .int .i64 0, .slice none 0 0, .slice none 0 0, .slice none 0 0] 48)).cell? ⟨g, 6, none⟩ = some (.int .u32 (k : Int)) := ⟨(HA2.out.below HB.out).box.cell 1, ((HA2.out.below HB.out).box.cell 3).trans (by rw [HTK.out]; rfl), (HA2.out.below HB.out).box.cell 4, ((HA2.out.below HB.out).box.cell 6).trans (by rw [← HKE.out]; rfl)⟩
      refine hK.out _ _ ?_ (fun hHeld => ?_)
      · first | exact HS | go_keep
      clear hK K
      generalize (Vd.alloc (.cells #[.int .i64 0, .int .i64 0, .int .i64 0, .int .i64 0, .int .u64 0, .int .u64 0, .int .u64 0, .int .u64 0, .int .u64 0, .int .u64 0, .int .i64 0, .int .u32 0, .int .i64 0, .int .i64 0, .int .i64 0, .int .u64 0, .int .i64 0, .int .i64 0, .int .u64 0, .slice none 0 0, .bool false, .int .i64 0, .slice none 0 0, .slice none 0 0, .slice none 0 0] 48)) = Va at *
      try simp only [Act.put, List.setIfInBounds_toArray, List.set_cons_zero, List.set_cons_succ, List.getElem_toArray, List.getElem_cons_zero, List.getElem_cons_succ]
      refine wpAnyH_ready (rs := [1]) (by kernel_rfl) (by simp) ?_
      refine (AllReadyH.cons rfl (fun K hK => ?_) AllReadyH.nil)
      go_simp
      refine (AD.out _ HB.out).mono ?_
      rintro e x9 ⟨rfl, rfl⟩
      have HS : Va.cell? ⟨g, 1, none⟩ = some (.int .i64 c.ms) ∧ Va.cell? ⟨g, 3, none⟩ = some (.int .i64 tk) ∧ Va.cell? ⟨g, 4, none⟩ = some (.pointer (some ⟨G, 0, none⟩)) ∧ Va.cell? ⟨g, 6, none⟩ = some (.int .u32 (k : Int)) := ⟨(HA2.out.below HB.out).box.cell 1, ((HA2.out.below HB.out).box.cell 3).trans (by rw [HTK.out]; rfl), (HA2.out.below HB.out).box.cell 4, ((HA2.out.below HB.out).box.cell 6).trans (by rw [← HKE.out]; rfl)⟩
      refine hK.out _ _ ?_ (fun hHeld => ?_)
      · first | exact HS | go_keep
      clear hK K
      try simp only [Act.put, List.setIfInBounds_toArray, List.set_cons_zero, List.set_cons_succ, List.getElem_toArray, List.getElem_cons_zero, List.getElem_cons_succ]
      refine wpAnyH_ready (rs := [22]) (by kernel_rfl) (by simp) ?_
      refine (AllReadyH.cons rfl (fun K hK => ?_) AllReadyH.nil)
      go_simp
      refine (OF.out _ HB.out).mono ?_
      rintro e x22 ⟨y, rfl, hone, hown, h9⟩
      replace HB := Lib.hid (HB.out.trans (h9.mono HB.out.size))
      (try replace GB := Lib.hid (GB.out.below h9 GB.out.lt))
      have HS : x22.cell? ⟨g, 1, none⟩ = some (.int .i64 c.ms) ∧ x22.cell? ⟨g, 3, none⟩ = some (.int .i64 tk) ∧ x22.cell? ⟨g, 4, none⟩ = some (.pointer (some ⟨G, 0, none⟩)) ∧ x22.cell? ⟨g, 6, none⟩ = some (.int .u32 (k : Int)) := ⟨(HA2.out.below HB.out).box.cell 1, ((HA2.out.below HB.out).box.cell 3).trans (by rw [HTK.out]; rfl), (HA2.out.below HB.out).box.cell 4, ((HA2.out.below HB.out).box.cell 6).trans (by rw [← HKE.out]; rfl)⟩
      clear h9 hown hone
      refine hK.out _ _ ?_ (fun hHeld => ?_)
      · first | exact HS | go_keep
      clear hK K
      try simp only [Act.put, List.setIfInBounds_toArray, List.set_cons_zero, List.set_cons_succ, List.getElem_toArray, List.getElem_cons_zero, List.getElem_cons_succ]
      refine wpAnyH_take (i := 23) (v := ?_) rfl (by kernel_rfl) (by kernel_rfl) (by kernel_rfl) (fun _ _ _ h => h) (Or.inl ⟨by rfl, ?_⟩) (by assumption) ?_
      rotate_left 1
      · (intro wq hSw; (try dsimp only at hSw); go_simp; (try with_reducible rfl))
      try simp only [Act.put, List.setIfInBounds_toArray, List.set_cons_zero, List.set_cons_succ, List.getElem_toArray, List.getElem_cons_zero, List.getElem_cons_succ]
      refine wpAnyH_take (i := 24) (v := ?_) rfl (by kernel_rfl) (by kernel_rfl) (by kernel_rfl) (fun _ _ _ h => h) (Or.inl ⟨by rfl, ?_⟩) (by assumption) ?_
      rotate_left 1
      · (intro wq hSw; (try dsimp only at hSw); go_simp; (try with_reducible rfl))
      try simp only [Act.put, List.setIfInBounds_toArray, List.set_cons_zero, List.set_cons_succ, List.getElem_toArray, List.getElem_cons_zero, List.getElem_cons_succ]
      refine wpAnyH_ready (rs := [26]) (by kernel_rfl) (by simp) ?_
      refine (AllReadyH.cons rfl (fun K hK => ?_) AllReadyH.nil)
      replace HB : Hid (Below w2.heap.size w2 (World.setRow x22 Vd.heap.size (Lt.cells { Lt.zero with kd := 10, fr := (f : Int), tw := IntKind.i64.wrap (IntKind.i64.wrap (100 + tk.tmod (c.ms : Int)) + 1), ch := y.ch }))) := Lib.hid (below_setRow HB.out lG _)
      have HS : (World.setRow x22 Vd.heap.size (Lt.cells { Lt.zero with kd := 10, fr := (f : Int), tw := IntKind.i64.wrap (IntKind.i64.wrap (100 + tk.tmod (c.ms : Int)) + 1), ch := y.ch })).cell? ⟨g, 1, none⟩ = some (.int .i64 c.ms) ∧ (World.setRow x22 Vd.heap.size (Lt.cells { Lt.zero with kd := 10, fr := (f : Int), tw := IntKind.i64.wrap (IntKind.i64.wrap (100 + tk.tmod (c.ms : Int)) + 1), ch := y.ch })).cell? ⟨g, 3, none⟩ = some (.int .i64 tk) ∧ (World.setRow x22 Vd.heap.size (Lt.cells { Lt.zero with kd := 10, fr := (f : Int), tw := IntKind.i64.wrap (IntKind.i64.wrap (100 + tk.tmod (c.ms : Int)) + 1), ch := y.ch })).cell? ⟨g, 4, none⟩ = some (.pointer (some ⟨G, 0, none⟩)) ∧ (World.setRow x22 Vd.heap.size (Lt.cells { Lt.zero with kd := 10, fr := (f : Int), tw := IntKind.i64.wrap (IntKind.i64.wrap (100 + tk.tmod (c.ms : Int)) + 1), ch := y.ch })).cell? ⟨g, 6, none⟩ = some (.int .u32 (k : Int)) := ⟨(HA2.out.below HB.out).box.cell 1, ((HA2.out.below HB.out).box.cell 3).trans (by rw [HTK.out]; rfl), (HA2.out.below HB.out).box.cell 4, ((HA2.out.below HB.out).box.cell 6).trans (by rw [← HKE.out]; rfl)⟩
      have HLM : Hid (LetM2 w2 { Lt.zero with kd := 10, fr := (f : Int), tw := IntKind.i64.wrap (IntKind.i64.wrap (100 + tk.tmod (c.ms : Int)) + 1), ch := y.ch } Vd.heap.size (World.setRow x22 Vd.heap.size (Lt.cells { Lt.zero with kd := 10, fr := (f : Int), tw := IntKind.i64.wrap (IntKind.i64.wrap (100 + tk.tmod (c.ms : Int)) + 1), ch := y.ch }))) := Lib.hid ⟨setRow_heap _ _ _ _ _ _ GB.out, lG, HB.out⟩
      refine step_store_row rfl 48 (.tmp 3) (.tmp 40) rfl Vd.heap.size (Lt.cells { Lt.zero with kd := 10, fr := (f : Int), tw := IntKind.i64.wrap (IntKind.i64.wrap (100 + tk.tmod (c.ms : Int)) + 1), ch := y.ch }) rfl rfl 48 #[.int .i64 0, .int .i64 0, .int .i64 0, .int .i64 0, .int .u64 0, .int .u64 0, .int .u64 0, .int .u64 0, .int .u64 0, .int .u64 0, .int .i64 0, .int .u32 0, .int .i64 0, .int .i64 0, .int .i64 0, .int .u64 0, .int .i64 0, .int .i64 0, .int .u64 0, .slice none 0 0, .bool false, .int .i64 0, .slice none 0 0, .slice none 0 0, .slice none 0 0] GB.out ltInfo rfl (lt_all _) ?_
      refine hK.out _ _ ?_ (fun hHeld => ?_)
      · first | exact HS | go_keep
      clear hK K
      generalize (World.setRow x22 Vd.heap.size (Lt.cells { Lt.zero with kd := 10, fr := (f : Int), tw := IntKind.i64.wrap (IntKind.i64.wrap (100 + tk.tmod (c.ms : Int)) + 1), ch := y.ch })) = Vb at *
      try simp only [Act.put, List.setIfInBounds_toArray, List.set_cons_zero, List.set_cons_succ, List.getElem_toArray, List.getElem_cons_zero, List.getElem_cons_succ]
      refine wpAnyH_done (by kernel_rfl) ?_ _
      go_wp2_with (fail)
      go_meet
      case rel => exact ⟨_, _, rfl, HLM⟩
  case rest =>
    obtain ⟨g3, l, rfl, HM⟩ := hcut
    clear y1 y3 y4 y6 OF AD hz hfd m0
    have HA3 := Lib.hid (HA2.out.below HM.out.bel)
    have HK3 := Lib.hid (HK2.out.below HM.out.bel)
    have AS1 := Lib.hid (fun W (h9 : Below wc.heap.size wc W) => ask_any lo g G h vs c.ticked k W (HA3.out.below h9) HKE.out hkk (HK3.out.below h9) hcl hnum hn)
    obtain ⟨i0, hi, hz0, hz1, hz2⟩ := info_parts ltRowInfo
    have hbl := HM.out.blk
    have l3 := HM.out.blk.lt
    have HBL := Lib.hid HM.out.blk
    have HB0 := Lib.hid HM.out.bel
    have hs2 := HM.out.bel.size
    have HLO : Hid (lo ≤ w2.heap.size) := Lib.hid (Nat.le_trans hlo HC2.out.size)
    clear HM
    go_upto_region 7 with (fail)
    refine wp_region_held_drew (S := fun wq => Blk wq g3 48 l.cells) (by kernel_rfl) hbl (fun hHeld => ?_)
    have HB : Hid (Below wc.heap.size wc wc.drew) := Lib.hid (Below.refl _ _).drew
    refine wpAnyH_take (i := 0) (v := ?_) rfl (by kernel_rfl) (by kernel_rfl) (by kernel_rfl) (fun _ _ _ h => h) (Or.inl ⟨by rfl, ?_⟩) (by assumption) ?_
    rotate_left 1
    · (intro wq hSw; (try dsimp only at hSw); go_simp; (try with_reducible rfl))
    try simp only [Act.put, List.setIfInBounds_toArray, List.set_cons_zero, List.set_cons_succ, List.getElem_toArray, List.getElem_cons_zero, List.getElem_cons_succ]
    refine wpAnyH_take (i := 2) (v := (.agg #[.int .i64 l.kd, .int .i64 l.fr, .int .i64 l.tw, .int .i64 l.ch, .int .u64 l.ep, .int .u64 l.bl, .int .u64 l.nu, .int .u64 l.sq, .int .u64 l.dz, .int .u64 l.vr, .int .i64 l.sl, .int .u32 l.ky, .int .i64 l.cd, .int .i64 l.qk, .int .i64 l.qc, .int .u64 l.qe, .int .i64 l.qn, .int .i64 l.fc, .int .u64 l.fe, .slice l.fA l.fn l.fp, .bool l.ff, .int .i64 l.fj, .slice l.vA l.vn l.vp, .slice l.uA l.un l.up, .slice l.dA l.dn l.dp])) rfl (by kernel_rfl) (by kernel_rfl) (by kernel_rfl) (fun _ _ _ h => h) (Or.inl ⟨by rfl, ?_⟩) (by assumption) ?_
    · exact fun wq hSw => exec_load_row rfl _ rfl (load_lt l _ wq hSw)
    try simp only [Act.put, List.setIfInBounds_toArray, List.set_cons_zero, List.set_cons_succ, List.getElem_toArray, List.getElem_cons_zero, List.getElem_cons_succ]
    refine wpAnyH_ready (rs := [1, 3]) (by kernel_rfl) (by simp) ?_
    refine (AllReadyH.cons rfl (fun K hK => ?_) (AllReadyH.cons rfl (fun K hK => ?_) AllReadyH.nil))
    · go_simp
      refine (AS1.out _ HB.out).mono ?_
      rintro e x1 ⟨q1, ya, yb, A1, rfl, hq1, ho1, ho2, hbk1, h9⟩
      have HQ := Lib.hid (own_one_lt hbk1 (Nat.le_trans HB.out.size hq1))
      replace HB := Lib.hid (HB.out.trans (h9.mono HB.out.size))
      (try replace HN := Lib.hid (HN.out.below h9 HN.out.lt))
      have HS : Blk x1 g3 48 l.cells := HBL.out.below HB.out l3
      clear hq1 ho1 ho2 hbk1 h9
      generalize (askLt c.ticked (200 + c.ticked.cl) (askTo c.ticked yb) ya A1).cells.toList = xs1 at *
      refine hK.out _ _ ?_ (fun hHeld => ?_)
      · first | exact HS | go_keep
      clear hK K
      try simp only [Act.put, List.setIfInBounds_toArray, List.set_cons_zero, List.set_cons_succ, List.getElem_toArray, List.getElem_cons_zero, List.getElem_cons_succ]
      refine wpAnyH_ready (rs := [3]) (by kernel_rfl) (by simp) ?_
      refine (AllReadyH.cons rfl (fun K hK => ?_) AllReadyH.nil)
      go_simp
      have HN : Hid (Blk (x1.alloc (.cells l.cells 48)) x1.heap.size 48 l.cells) := Lib.hid (Blk.new x1 48 l.cells)
      replace HB := Lib.hid (HB.out.alloc HB.out.size (.cells l.cells 48))
      (try replace HQ := Lib.hid (HQ.out.alloc (.cells l.cells 48)))
      have HS : Blk (x1.alloc (.cells l.cells 48)) g3 48 l.cells := HBL.out.below HB.out l3
      refine hK.out _ _ ?_ (fun hHeld => ?_)
      · first | exact HS | go_keep
      clear hK K
      try simp only [Act.put, List.setIfInBounds_toArray, List.set_cons_zero, List.set_cons_succ, List.getElem_toArray, List.getElem_cons_zero, List.getElem_cons_succ]
      refine wpAnyH_ready (rs := [4]) (by kernel_rfl) (by simp) ?_
      refine (AllReadyH.cons rfl (fun K hK => ?_) AllReadyH.nil)
      refine step_append_any _ rfl (.tmp 42) (.tmp 44) _ rfl wc.heap.size 48 i0 _ 25 264 Tryz.underlying36 hi hz0 hz1 hz2 rfl (by omega) (.slice (some ⟨q1, 0, none⟩) 1 1) 1 xs1 rfl HQ.out _ (some ⟨x1.heap.size, 0, none⟩) 1 1 l.cells.toList rfl (reads_blk_lt HN.out) (lt_news l) (by decide) (by decide) HB.out.size ?_
      intro v4 w4 hown hg hat
      replace HB := Lib.hid (HB.out.grown hg HB.out.size (fun g hg' => (HQ.out.lt g hg').1))
      have HO4 := Lib.hid hown
      have HS : Blk w4 g3 48 l.cells := HBL.out.below HB.out l3
      clear hown hg hat
      refine hK.out _ _ ?_ (fun hHeld => ?_)
      · first | exact HS | go_keep
      clear hK K
      try simp only [Act.put, List.setIfInBounds_toArray, List.set_cons_zero, List.set_cons_succ, List.getElem_toArray, List.getElem_cons_zero, List.getElem_cons_succ]
      refine wpAnyH_take (i := 5) (v := ?_) rfl (by kernel_rfl) (by kernel_rfl) (by kernel_rfl) (fun _ _ _ h => h) (Or.inl ⟨by rfl, ?_⟩) (by assumption) ?_
      rotate_left 1
      · (intro wq hSw; (try dsimp only at hSw); go_simp; (try with_reducible rfl))
      try simp only [Act.put, List.setIfInBounds_toArray, List.set_cons_zero, List.set_cons_succ, List.getElem_toArray, List.getElem_cons_zero, List.getElem_cons_succ]
      refine wpAnyH_done (by kernel_rfl) ?_ _
      obtain ⟨A4, c4, e4, _, _, _⟩ := own_slice HO4.out
      subst e4
      have HC4 := Lib.hid (HC2.out.trans (Chg.of_below (HB0.out.trans (HB.out.mono hs2)) _) (fun _ _ e => e))
      have HA4 := Lib.hid (HA2.out.below (HB0.out.trans (HB.out.mono hs2)))
      go_wp2_with (fail)
      go_ret
      exact ⟨⟨_, _, _, rfl, fun e => absurd HST.out e, fun _ => rfl⟩, HA4.out, HC4.out⟩
    · go_simp
      have HN : Hid (Blk (wc.drew.alloc (.cells l.cells 48)) wc.heap.size 48 l.cells) := Lib.hid (Blk.new wc.drew 48 l.cells)
      replace HB := Lib.hid (HB.out.alloc HB.out.size (.cells l.cells 48))
      (try replace HQ := Lib.hid (HQ.out.alloc (.cells l.cells 48)))
      have HS : Blk (wc.drew.alloc (.cells l.cells 48)) g3 48 l.cells := HBL.out.below HB.out l3
      refine hK.out _ _ ?_ (fun hHeld => ?_)
      · first | exact HS | go_keep
      clear hK K
      try simp only [Act.put, List.setIfInBounds_toArray, List.set_cons_zero, List.set_cons_succ, List.getElem_toArray, List.getElem_cons_zero, List.getElem_cons_succ]
      refine wpAnyH_ready (rs := [1]) (by kernel_rfl) (by simp) ?_
      refine (AllReadyH.cons rfl (fun K hK => ?_) AllReadyH.nil)
      go_simp
      refine (AS1.out _ HB.out).mono ?_
      rintro e x1 ⟨q1, ya, yb, A1, rfl, hq1, ho1, ho2, hbk1, h9⟩
      have HQ := Lib.hid (own_one_lt hbk1 (Nat.le_trans HB.out.size hq1))
      replace HB := Lib.hid (HB.out.trans (h9.mono HB.out.size))
      (try replace HN := Lib.hid (HN.out.below h9 HN.out.lt))
      have HS : Blk x1 g3 48 l.cells := HBL.out.below HB.out l3
      clear hq1 ho1 ho2 hbk1 h9
      generalize (askLt c.ticked (200 + c.ticked.cl) (askTo c.ticked yb) ya A1).cells.toList = xs1 at *
      refine hK.out _ _ ?_ (fun hHeld => ?_)
      · first | exact HS | go_keep
      clear hK K
      try simp only [Act.put, List.setIfInBounds_toArray, List.set_cons_zero, List.set_cons_succ, List.getElem_toArray, List.getElem_cons_zero, List.getElem_cons_succ]
      refine wpAnyH_ready (rs := [4]) (by kernel_rfl) (by simp) ?_
      refine (AllReadyH.cons rfl (fun K hK => ?_) AllReadyH.nil)
      refine step_append_any _ rfl (.tmp 42) (.tmp 44) _ rfl wc.heap.size 48 i0 _ 25 264 Tryz.underlying36 hi hz0 hz1 hz2 rfl (by omega) (.slice (some ⟨q1, 0, none⟩) 1 1) 1 xs1 rfl HQ.out _ (some ⟨wc.heap.size, 0, none⟩) 1 1 l.cells.toList rfl (reads_blk_lt HN.out) (lt_news l) (by decide) (by decide) HB.out.size ?_
      intro v4 w4 hown hg hat
      replace HB := Lib.hid (HB.out.grown hg HB.out.size (fun g hg' => (HQ.out.lt g hg').1))
      have HO4 := Lib.hid hown
      have HS : Blk w4 g3 48 l.cells := HBL.out.below HB.out l3
      clear hown hg hat
      refine hK.out _ _ ?_ (fun hHeld => ?_)
      · first | exact HS | go_keep
      clear hK K
      try simp only [Act.put, List.setIfInBounds_toArray, List.set_cons_zero, List.set_cons_succ, List.getElem_toArray, List.getElem_cons_zero, List.getElem_cons_succ]
      refine wpAnyH_take (i := 5) (v := ?_) rfl (by kernel_rfl) (by kernel_rfl) (by kernel_rfl) (fun _ _ _ h => h) (Or.inl ⟨by rfl, ?_⟩) (by assumption) ?_
      rotate_left 1
      · (intro wq hSw; (try dsimp only at hSw); go_simp; (try with_reducible rfl))
      try simp only [Act.put, List.setIfInBounds_toArray, List.set_cons_zero, List.set_cons_succ, List.getElem_toArray, List.getElem_cons_zero, List.getElem_cons_succ]
      refine wpAnyH_done (by kernel_rfl) ?_ _
      obtain ⟨A4, c4, e4, _, _, _⟩ := own_slice HO4.out
      subst e4
      have HC4 := Lib.hid (HC2.out.trans (Chg.of_below (HB0.out.trans (HB.out.mono hs2)) _) (fun _ _ e => e))
      have HA4 := Lib.hid (HA2.out.below (HB0.out.trans (HB.out.mono hs2)))
      go_wp2_with (fail)
      go_ret
      exact ⟨⟨_, _, _, rfl, fun e => absurd HST.out e, fun _ => rfl⟩, HA4.out, HC4.out⟩
end Go.Proofs.YtnnegldaekmgbaaGreatDoor
