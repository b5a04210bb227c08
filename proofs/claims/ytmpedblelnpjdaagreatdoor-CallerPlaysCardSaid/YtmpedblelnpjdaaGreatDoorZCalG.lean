/- A caller: Take of an answer. -/
import Derived.Test.YtmpedblelnpjdaaGreatDoorZCalH
import Derived.Test.YtmpedblelnpjdaaGreatDoorZTk
import Derived.Test.YtmpedblelnpjdaaGreatDoorZGN
namespace Go.Proofs.YtmpedblelnpjdaaGreatDoor
open Go.RowKit
set_option linter.unusedSimpArgs false
set_option linter.unusedVariables false
set_option maxHeartbeats 8000000
set_option maxRecDepth 100000
def TakenP (lo g G h : Nat) (vs : List (Int × Int × List Int × Bool × Int)) (c : Cl) (x : LV) (w : World) (e : Ending) (w' : World) : Prop :=
 e = .returned (.slice none 0 0) ∧ (c.st = 1 → ∃ (r : Rp) (rb : List Int), r.cd = (if x.l.kd = 18 then x.l.cd else 0) ∧ r.vr = x.l.vr ∧ rb = (if x.l.kd = 18 then [] else x.ds) ∧ r.n = rb.length ∧ CalAt w' lo g G h vs (c.answered r rb)) ∧ (c.st ≠ 1 → CalAt w' lo g G h vs c) ∧ Chg w w' (fun i => i = g ∨ (c.st = 1 ∧ i = h))
theorem calTake_mine (lo g G h : Nat) (vs : List (Int × Int × List Int × Bool × Int)) (c : Cl) (x : LV) (B : Nat) (w : World) (hK : KindsAt w) (a : CalAt w lo g G h vs c) (hx : LIn w B x) (hB : B ≤ w.heap.size) (hn : x.near) (hlo : lo ≤ w.heap.size) (hcl : c.cl ≤ 6) (hck : chkX x = 0) (hto : x.l.tw = ((200 + c.cl : Nat) : Int)) (hfr : 1 ≤ x.l.fr ∧ x.l.fr ≤ 24) (hnu : x.l.nu = (c.num : Int))
  (hk : (x.l.kd = 18 ∧ c.op.kd ≠ 1) ∨ (x.l.kd = 20 ∧ c.op.kd = 1 ∧ x.l.ky = c.op.key)) :
  Calls Tryz.prog 25 #[.pointer (some ⟨g, 0, none⟩), .agg x.l.cells] w (TakenP lo g G h vs c x w) := by
 obtain ⟨W1, hW1, hb1, hbk⟩ := box_all x w
 have HBW := Lib.hid hb1
 have HA : Hid (CalAt W1 lo g G h vs c) := Lib.hid (a.below hb1)
 have HX : Hid (LIn W1 B x) := Lib.hid (hx.below (hb1.mono hB))
 have HK := Lib.hid (hK.below hb1)
 have HBX := Lib.hid hbk
 have HW1 := Lib.hid hW1
 have hs1 := hb1.size
 have lg := a.box.lt
 have lb := hbk.lt
 have lg1 := HA.out.box.lt
 have nb : g ≠ w.heap.size := by omega
 have nb' : w.heap.size ≠ g := by omega
 have HH : Hid (c.st = 1 → h < w.heap.size ∧ lo ≤ h) := Lib.hid (fun e => ⟨Blk.lt (a.lat (by omega)).2, (a.lat (by omega)).1⟩)
 obtain ⟨f, hf⟩ : ∃ f : Nat, f = 200 + c.cl := ⟨_, rfl⟩
 have HLO : Hid (lo ≤ w.heap.size) := Lib.hid hlo
 have AD := Lib.hid (fun W (h9 : Below W1.heap.size W1 W) => calAddr_any lo g G h vs c f W (HA.out.below h9) hf hcl)
 rw [← hf] at hto
 obtain ⟨L, hL⟩ : ∃ L : Value, L = x.l.agg := ⟨_, rfl⟩
 have HLA := Lib.hid hL
 have hLD : ∀ wq, Blk wq w.heap.size 37 x.l.cells → (loadVar 37 ⟨w.heap.size, 0, none⟩).run Tryz.prog wq = .ok L wq := fun wq h => by rw [HLA.out]; exact load_lt x.l _ wq h
 have CK : Hid (∀ W, Below W1.heap.size W1 W → Calls Tryz.prog 49 #[L] W fun e w' => e = .returned (.int .i64 0) ∧ Below W.heap.size W w') := Lib.hid (fun W h9 => by
  rw [HLA.out]
  have := check_any x B W (HK.out.below h9) (HX.out.below (h9.mono (by omega))) (by have := h9.size; omega) hn
  rw [hck] at this
  exact this)
 have HNR := Lib.hid hn
 have HKD := Lib.hid hk
 have HFR := Lib.hid hfr
 have ND : Hid (∀ W, Calls Tryz.prog 78 #[.int .i64 x.l.fr] W fun e w' => e = .returned (.bool true) ∧ W = w') := Lib.hid (fun W => by
  have := node_any x.l.fr W
  rw [decide_eq_true HFR.out] at this
  exact this)
 have HNU := Lib.hid hnu
 have HTO := Lib.hid hto
 have x2 : W1.cell? ⟨w.heap.size, 2, none⟩ = some (.int .i64 (f : Int)) := (HBX.out.cell 2).trans (by rw [← hto]; rfl)
 have hBX := HBX.out
 obtain ⟨rd, hrd⟩ : ∃ rd : Bool, rd = (c.op.kd == 1) := ⟨_, rfl⟩
 have HRD := Lib.hid hrd
 have y5e : Hid (∀ W, Below W1.heap.size W1 W → W.cell? ⟨g, 5, none⟩ = some (.int .i64 c.op.kd)) := Lib.hid (fun W h9 => (HA.out.below h9).box.cell 5)
 have q1 : (c.op.kd == 1) = rd := hrd.symm
 clear hW1 hb1 hbk a hx hK hf hto hL hn hk hfr hnu hck hrd hlo
 go_enter Tryz.func25, Tryz.ntmps25
 go_upto_region 1 with (fail)
 have e0 := HW1.out
 simp only [Lt.cells] at e0
 first | rw [← e0] | rw [← HW1.out]
 clear e0
 have HB : Hid (Below W1.heap.size W1 W1.drew) := Lib.hid (Below.refl _ _).drew
 refine wp_region_held_drew (S := fun wq => Blk wq w.heap.size 37 x.l.cells ∧ wq.cell? ⟨w.heap.size, 2, none⟩ = some (.int .i64 (f : Int))) (by kernel_rfl) ⟨hBX, x2⟩ (fun hHeld => ?_)
 refine tkT 0 rfl (v := ?_) ?_ ?_
 rotate_left 1
 ·(intro wq hSw; (try dsimp only at hSw); go_simp; (try with_reducible rfl))
 try simp only [Act.put, pS]
 refine tkT 1 rfl (v := ?_) ?_ ?_
 rotate_left 1
 ·(intro wq hSw; (try dsimp only at hSw); go_simp; (try with_reducible rfl))
 try simp only [Act.put, pS]
 refine tkT 2 rfl (v := ?_) ?_ ?_
 rotate_left 1
 ·(intro wq hSw; (try dsimp only at hSw); go_simp; (try with_reducible rfl))
 try simp only [Act.put, pS]
 refine tkT 3 rfl (v := L) ?_ ?_
 ·exact fun wq hSw => exec_load_row rfl _ rfl (hLD wq hSw.1)
 try simp only [Act.put, pS]
 refine wpAnyH_ready (rs := [4]) (by kernel_rfl) (by simp) ?_
 refine (AllReadyH.cons rfl (fun K hK => ?_) AllReadyH.nil)
 go_simp
 refine (CK.out _ HB.out).mono ?_
 rintro e x4 ⟨rfl, h9⟩
 replace HB := Lib.hid (HB.out.trans (h9.mono HB.out.size))
 clear h9
 have HS : Blk x4 w.heap.size 37 x.l.cells ∧ x4.cell? ⟨w.heap.size, 2, none⟩ = some (.int .i64 (f : Int)) := ⟨HBX.out.below HB.out lb, ((HBX.out.below HB.out lb).cell 2).trans (by rw [← HTO.out]; rfl)⟩
 refine hK.out _ _ ?_ (fun hHeld => ?_)
 ·first | exact HS | go_keep
 clear hK K
 try simp only [Act.put, pS]
 refine tkT 5 rfl (v := ?_) ?_ ?_
 rotate_left 1
 ·(intro wq hSw; (try dsimp only at hSw); go_simp; (try with_reducible rfl))
 try simp only [Act.put, pS]
 refine tkT 6 rfl (v := ?_) ?_ ?_
 rotate_left 1
 ·(intro wq hSw; (try dsimp only at hSw); go_simp; (try with_reducible rfl))
 try simp only [Act.put, pS]
 refine tkT 7 rfl (v := ?_) ?_ ?_
 rotate_left 1
 ·(intro wq hSw; (try dsimp only at hSw); go_simp; (try with_reducible rfl))
 try simp only [Act.put, pS]
 refine tkT 8 rfl (v := ?_) ?_ ?_
 rotate_left 1
 ·(intro wq hSw; (try dsimp only at hSw); go_simp; (try with_reducible rfl))
 try simp only [Act.put, pS]
 refine tkT 9 rfl (v := ?_) ?_ ?_
 rotate_left 1
 ·(intro wq hSw; (try dsimp only at hSw); go_simp; (try with_reducible rfl))
 try simp only [Act.put, pS]
 refine tkT 10 rfl (v := ?_) ?_ ?_
 rotate_left 1
 ·(intro wq hSw; (try dsimp only at hSw); go_simp; (try with_reducible rfl))
 try simp only [Act.put, pS]
 refine wpAnyH_ready (rs := [11]) (by kernel_rfl) (by simp) ?_
 refine (AllReadyH.cons rfl (fun K hK => ?_) AllReadyH.nil)
 go_simp
 refine (AD.out _ HB.out).mono ?_
 rintro e x9 ⟨rfl, rfl⟩
 refine hK.out _ _ ?_ (fun hHeld => ?_)
 ·first | exact HS | go_keep
 clear hK K
 try simp only [Act.put, pS]
 refine tkT 12 rfl (v := ?_) ?_ ?_
 rotate_left 1
 ·(intro wq hSw; (try dsimp only at hSw); go_simp; (try with_reducible rfl))
 try simp only [Act.put, pS]
 refine tkT 13 rfl (v := ?_) ?_ ?_
 rotate_left 1
 ·(intro wq hSw; (try dsimp only at hSw); go_simp; (try with_reducible rfl))
 try simp only [Act.put, pS]
 refine wpAnyH_done (by kernel_rfl) ?_ _
 skip
 clear hLD CK AD hHeld HS hBX x2
 have y5 := y5e.out _ HB.out
 have x1 : x4.cell? ⟨w.heap.size, 1, none⟩ = some (.int .i64 x.l.fr) := (HBX.out.below HB.out lb).cell 1
 have x6 : x4.cell? ⟨w.heap.size, 6, none⟩ = some (.int .u64 (c.num : Int)) := ((HBX.out.below HB.out lb).cell 6).trans (by rw [← HNU.out]; rfl)
 have y2 : x4.cell? ⟨g, 2, none⟩ = some (.int .u64 (c.num : Int)) := (HA.out.below HB.out).box.cell 2
 obtain ⟨bz, hbz⟩ : ∃ bz : Bool, bz = (c.st == 1) := ⟨_, rfl⟩
 have BU : Hid (∀ W, Below W1.heap.size W1 W → Calls Tryz.prog 66 #[.pointer (some ⟨g, 0, none⟩)] W fun e w' => e = .returned (.bool bz) ∧ Below W.heap.size W w') := Lib.hid (fun W h9 => by
  rw [hbz]
  exact calBusy_any lo g G h vs c W (HA.out.below h9))
 have HBZ := Lib.hid hbz
 clear hbz
 go_upto_region 4 with (fail)
 have HB0 : Hid (Below W1.heap.size W1 x4) := HB
 have HB : Hid (Below W1.heap.size W1 x4.drew) := Lib.hid HB0.out.drew
 refine wp_region_held_drew (S := fun wq => wq.cell? ⟨w.heap.size, 1, none⟩ = some (.int .i64 x.l.fr) ∧ wq.cell? ⟨w.heap.size, 6, none⟩ = some (.int .u64 (c.num : Int)) ∧ wq.cell? ⟨g, 2, none⟩ = some (.int .u64 (c.num : Int))) (by kernel_rfl) ⟨x1, x6, y2⟩ (fun hHeld => ?_)
 refine tkT 0 rfl (v := ?_) ?_ ?_
 rotate_left 1
 ·(intro wq hSw; (try dsimp only at hSw); go_simp; (try with_reducible rfl))
 try simp only [Act.put, pS]
 refine tkT 1 rfl (v := ?_) ?_ ?_
 rotate_left 1
 ·(intro wq hSw; (try dsimp only at hSw); go_simp; (try with_reducible rfl))
 try simp only [Act.put, pS]
 refine wpAnyH_ready (rs := [2]) (by kernel_rfl) (by simp) ?_
 refine (AllReadyH.cons rfl (fun K hK => ?_) AllReadyH.nil)
 go_simp
 refine (ND.out _).mono ?_
 rintro e x9 ⟨rfl, rfl⟩
 have HS : x4.drew.cell? ⟨w.heap.size, 1, none⟩ = some (.int .i64 x.l.fr) ∧ x4.drew.cell? ⟨w.heap.size, 6, none⟩ = some (.int .u64 (c.num : Int)) ∧ x4.drew.cell? ⟨g, 2, none⟩ = some (.int .u64 (c.num : Int)) := ⟨x1, x6, y2⟩
 refine hK.out _ _ ?_ (fun hHeld => ?_)
 ·first | exact HS | go_keep
 clear hK K
 try simp only [Act.put, pS]
 refine tkT 3 rfl (v := ?_) ?_ ?_
 rotate_left 1
 ·(intro wq hSw; (try dsimp only at hSw); go_simp; (try with_reducible rfl))
 try simp only [Act.put, pS]
 refine tkT 4 rfl (v := ?_) ?_ ?_
 rotate_left 1
 ·(intro wq hSw; (try dsimp only at hSw); go_simp; (try with_reducible rfl))
 try simp only [Act.put, pS]
 refine tkT 5 rfl (v := ?_) ?_ ?_
 rotate_left 1
 ·(intro wq hSw; (try dsimp only at hSw); go_simp; (try with_reducible rfl))
 try simp only [Act.put, pS]
 refine tkT 6 rfl (v := ?_) ?_ ?_
 rotate_left 1
 ·(intro wq hSw; (try dsimp only at hSw); go_simp; (try with_reducible rfl))
 try simp only [Act.put, pS]
 refine tkT 7 rfl (v := ?_) ?_ ?_
 rotate_left 1
 ·(intro wq hSw; (try dsimp only at hSw); go_simp; (try with_reducible rfl))
 try simp only [Act.put, pS]
 refine tkT 8 rfl (v := ?_) ?_ ?_
 rotate_left 1
 ·(intro wq hSw; (try dsimp only at hSw); go_simp; (try with_reducible rfl))
 try simp only [Act.put, pS]
 refine tkT 9 rfl (v := ?_) ?_ ?_
 rotate_left 1
 ·(intro wq hSw; (try dsimp only at hSw); go_simp; (try with_reducible rfl))
 try simp only [Act.put, pS]
 refine tkT 10 rfl (v := ?_) ?_ ?_
 rotate_left 1
 ·(intro wq hSw; (try dsimp only at hSw); go_simp; (try with_reducible rfl))
 try simp only [Act.put, pS]
 refine tkT 11 rfl (v := ?_) ?_ ?_
 rotate_left 1
 ·(intro wq hSw; (try dsimp only at hSw); go_simp; (try with_reducible rfl))
 try simp only [Act.put, pS]
 refine tkT 12 rfl (v := ?_) ?_ ?_
 rotate_left 1
 ·(intro wq hSw; (try dsimp only at hSw); go_simp; (try with_reducible rfl))
 try simp only [Act.put, pS]
 refine tkT 13 rfl (v := ?_) ?_ ?_
 rotate_left 1
 ·(intro wq hSw; (try dsimp only at hSw); go_simp; (try with_reducible rfl))
 try simp only [Act.put, pS]
 refine wpAnyH_ready (rs := [14]) (by kernel_rfl) (by simp) ?_
 refine (AllReadyH.cons rfl (fun K hK => ?_) AllReadyH.nil)
 go_simp
 refine (BU.out _ HB.out).mono ?_
 rintro e x5 ⟨rfl, h9⟩
 replace HB := Lib.hid (HB.out.trans (h9.mono HB.out.size))
 clear h9
 have HS : x5.cell? ⟨w.heap.size, 1, none⟩ = some (.int .i64 x.l.fr) ∧ x5.cell? ⟨w.heap.size, 6, none⟩ = some (.int .u64 (c.num : Int)) ∧ x5.cell? ⟨g, 2, none⟩ = some (.int .u64 (c.num : Int)) := ⟨(HBX.out.below HB.out lb).cell 1, ((HBX.out.below HB.out lb).cell 6).trans (by rw [← HNU.out]; rfl), (HA.out.below HB.out).box.cell 2⟩
 refine hK.out _ _ ?_ (fun hHeld => ?_)
 ·first | exact HS | go_keep
 clear hK K
 try simp only [Act.put, pS]
 refine tkT 15 rfl (v := ?_) ?_ ?_
 rotate_left 1
 ·(intro wq hSw; (try dsimp only at hSw); go_simp; (try with_reducible rfl))
 try simp only [Act.put, pS]
 refine tkT 16 rfl (v := ?_) ?_ ?_
 rotate_left 1
 ·(intro wq hSw; (try dsimp only at hSw); go_simp; (try with_reducible rfl))
 try simp only [Act.put, pS]
 refine wpAnyH_done (by kernel_rfl) ?_ _
 skip
 clear HS hHeld x1 x6 y2 y5 BU ND HB0
 have HBX5 := Lib.hid (HBX.out.below HB.out lb)
 have HA5 := Lib.hid (HA.out.below HB.out)
 have HX5 := Lib.hid (HX.out.below (HB.out.mono (by omega)))
 have HB5 := Lib.hid (HBW.out.trans (HB.out.mono hs1))
 have lb5 := HBX5.out.lt
 have lg5 := HA5.out.box.lt
 have hs5 := HB5.out.size
 clear HBX HA HX HB HBW y5e
 rcases HKD.out with ⟨hk, hop⟩ | ⟨hk, hop, hky⟩
 ·have x0 : x5.cell? ⟨w.heap.size, 0, none⟩ = some (.int .i64 18) := (HBX5.out.cell 0).trans (by rw [← hk]; rfl)
  have hrd : rd = false := by rw [HRD.out]; simp [hop]
  have HKE := Lib.hid hk
  subst hrd
  clear hk hop
  cases bz
  ·have hne : c.st ≠ 1 := fun e => by have := HBZ.out; rw [e] at this; cases this
   have HNE := Lib.hid hne
   clear hne
   go_wp2_with (fail)
   go_ret
   exact ⟨rfl, fun e => absurd e HNE.out, fun _ => HA5.out, Chg.of_below HB5.out _⟩
  ·have hst : c.st = 1 := by have := HBZ.out; simpa using this.symm
   have HST := Lib.hid hst
   have hhh := HH.out hst
   have AN := Lib.hid (calAnswer_any lo g G h vs c ⟨x.l.cd, x.l.vr, none, 0, 0⟩ [] x5 HA5.out (by have := HLO.out; omega) hst (OwnB.nil _ _))
   have x12 : x5.cell? ⟨w.heap.size, 12, none⟩ = some (.int .i64 x.l.cd) := HBX5.out.cell 12
   have x9 : x5.cell? ⟨w.heap.size, 9, none⟩ = some (.int .u64 x.l.vr) := HBX5.out.cell 9
   clear hst
   go_wp2_with (fail)
   refine AN.out.mono ?_
   rintro e w6 ⟨rfl, ha6, hc6⟩
   have HA6 := Lib.hid ha6
   have HC6 : Hid (Chg w w6 (fun i => i = g ∨ (c.st = 1 ∧ i = h))) := Lib.hid ((Chg.of_below HB5.out _).trans hc6 (fun i _ e => by rcases e with e | e; exact .inl e; exact .inr ⟨HST.out, e⟩))
   clear ha6 hc6 AN
   go_wp2_with (fail)
   go_ret
   exact ⟨rfl, fun _ => ⟨⟨x.l.cd, x.l.vr, none, 0, 0⟩, [], by rw [if_pos HKE.out], rfl, by rw [if_pos HKE.out], rfl, HA6.out⟩, fun e => absurd HST.out e, HC6.out⟩
 ·have x0 : x5.cell? ⟨w.heap.size, 0, none⟩ = some (.int .i64 20) := (HBX5.out.cell 0).trans (by rw [← hk]; rfl)
  have hrd : rd = true := by rw [HRD.out]; simp [hop]
  have HKE := Lib.hid hk
  have HKY := Lib.hid hky
  subst hrd
  clear hk hop hky
  have x11 : x5.cell? ⟨w.heap.size, 11, none⟩ = some (.int .u32 c.op.key) := (HBX5.out.cell 11).trans (by rw [← HKY.out]; rfl)
  have y6 : x5.cell? ⟨g, 6, none⟩ = some (.int .u32 c.op.key) := HA5.out.box.cell 6
  have h18 : Hid (x.l.kd ≠ 18) := Lib.hid (by rw [HKE.out]; decide)
  cases bz
  ·have hne : c.st ≠ 1 := fun e => by have := HBZ.out; rw [e] at this; cases this
   have HNE := Lib.hid hne
   clear hne
   go_upto_region 13 with (fail)
   go_quiet (fail)
   go_wp2_with (fail)
   go_ret
   exact ⟨rfl, fun e => absurd e HNE.out, fun _ => HA5.out.below (below_drewN (Below.refl _ _) _), Chg.of_below (below_drewN HB5.out _) _⟩
  ·have hst : c.st = 1 := by have := HBZ.out; simpa using this.symm
   have HST := Lib.hid hst
   have hhh := HH.out hst
   clear hst
   go_upto_region 13 with (fail)
   go_quiet (fail)
   generalize hW6 : x5.drewN nq = W6
   have hb6 : Below x5.heap.size x5 W6 := by rw [← hW6]; exact below_drewN (Below.refl _ _) _
   have HA6 := Lib.hid (HA5.out.below hb6)
   have HBX6 := Lib.hid (HBX5.out.below hb6 lb5)
   have HX6 := Lib.hid (HX5.out.below (hb6.mono (by omega)))
   have HB6 := Lib.hid (HB5.out.trans (hb6.mono hs5))
   have hs6 := HB6.out.size
   have lb6 := HBX6.out.lt
   clear hW6 hb6 HA5 HBX5 HX5 HB5 x0 x11 y6
   have x9 : W6.cell? ⟨w.heap.size, 9, none⟩ = some (.int .u64 x.l.vr) := HBX6.out.cell 9
   have x24 : W6.cell? ⟨w.heap.size, 24, none⟩ = some (.slice x.l.dA x.l.dn x.l.dp) := HBX6.out.cell 24
   have CLN := Lib.hid (fun W (h9 : Below W6.heap.size W6 W) => bclone_any x.l.dA x.l.dn x.l.dp B x.ds W (by have := h9.size; omega) (HX6.out.da.below (h9.mono (by omega))) (by have := HNR.out.dl; omega))
   have HDB : Hid (∀ z ∈ x.ds, 0 ≤ z ∧ z ≤ 255) := Lib.hid (fun z hz => by have := HX6.out.by_ z hz; omega)
   have HDL : Hid (x.l.dn = x.ds.length) := Lib.hid (by have := HX6.out.da.1; simpa using this.symm)
   go_upto_region 14 with (fail)
   have HB : Hid (Below W6.heap.size W6 W6.drew) := Lib.hid (Below.refl _ _).drew
   refine wp_region_held_drew (S := fun wq => wq.cell? ⟨w.heap.size, 9, none⟩ = some (.int .u64 x.l.vr) ∧ wq.cell? ⟨w.heap.size, 24, none⟩ = some (.slice x.l.dA x.l.dn x.l.dp)) (by kernel_rfl) ⟨x9, x24⟩ (fun hHeld => ?_)
   refine tkT 0 rfl (v := ?_) ?_ ?_
   rotate_left 1
   ·(intro wq hSw; (try dsimp only at hSw); go_simp; (try with_reducible rfl))
   try simp only [Act.put, pS]
   refine tkT 1 rfl (v := ?_) ?_ ?_
   rotate_left 1
   ·(intro wq hSw; (try dsimp only at hSw); go_simp; (try with_reducible rfl))
   try simp only [Act.put, pS]
   refine tkT 2 rfl (v := ?_) ?_ ?_
   rotate_left 1
   ·(intro wq hSw; (try dsimp only at hSw); go_simp; (try with_reducible rfl))
   try simp only [Act.put, pS]
   refine tkT 3 rfl (v := ?_) ?_ ?_
   rotate_left 1
   ·(intro wq hSw; (try dsimp only at hSw); go_simp; (try with_reducible rfl))
   try simp only [Act.put, pS]
   refine tkT 4 rfl (v := ?_) ?_ ?_
   rotate_left 1
   ·(intro wq hSw; (try dsimp only at hSw); go_simp; (try with_reducible rfl))
   try simp only [Act.put, pS]
   refine wpAnyH_ready (rs := [5]) (by kernel_rfl) (by simp) ?_
   refine (AllReadyH.cons rfl (fun K hK => ?_) AllReadyH.nil)
   go_simp
   refine (CLN.out _ HB.out).mono ?_
   rintro e y5w ⟨v, rfl, hown, h9⟩
   obtain ⟨A7, c7, rfl, hrd7, hc7, hm7⟩ := own_slice hown
   have HOW : Hid (OwnB y5w lo A7 x.l.dn c7 x.ds) := Lib.hid ⟨own_mono hown (by have := HLO.out; have := HB.out.size; omega), HDB.out⟩
   replace HB := Lib.hid (HB.out.trans (h9.mono HB.out.size))
   have HA7w := Lib.hid (HA6.out.below HB.out)
   have AN := Lib.hid (calAnswer_any lo g G h vs c ⟨0, x.l.vr, A7, x.l.dn, c7⟩ x.ds y5w HA7w.out (by have := HLO.out; have := HB.out.size; omega) HST.out HOW.out)
   have HBY := Lib.hid (HBX6.out.below HB.out lb6)
   clear hown hrd7 hc7 hm7 h9
   have HS : y5w.cell? ⟨w.heap.size, 9, none⟩ = some (.int .u64 x.l.vr) ∧ y5w.cell? ⟨w.heap.size, 24, none⟩ = some (.slice x.l.dA x.l.dn x.l.dp) := ⟨HBY.out.cell 9, HBY.out.cell 24⟩
   refine hK.out _ _ ?_ (fun hHeld => ?_)
   ·first | exact HS | go_keep
   clear hK K
   try simp only [Act.put, pS]
   refine tkT 6 rfl (v := ?_) ?_ ?_
   rotate_left 1
   ·(intro wq hSw; (try dsimp only at hSw); go_simp; (try with_reducible rfl))
   try simp only [Act.put, pS]
   refine wpAnyH_ready (rs := [7]) (by kernel_rfl) (by simp) ?_
   refine (AllReadyH.cons rfl (fun K hK => ?_) AllReadyH.nil)
   go_simp
   refine AN.out.mono ?_
   rintro e y7w ⟨rfl, ha7, hc7⟩
   have HA7 := Lib.hid ha7
   have HC7 : Hid (Chg w y7w (fun i => i = g ∨ (c.st = 1 ∧ i = h))) := Lib.hid ((Chg.of_below (HB6.out.trans (HB.out.mono hs6)) _).trans hc7 (fun i _ e => by rcases e with e | e; exact .inl e; exact .inr ⟨HST.out, e⟩))
   have HBZ7 := hc7.blk HBY.out (fun e => by rcases e with e | e <;> omega)
   clear ha7 hc7
   have HS : y7w.cell? ⟨w.heap.size, 9, none⟩ = some (.int .u64 x.l.vr) ∧ y7w.cell? ⟨w.heap.size, 24, none⟩ = some (.slice x.l.dA x.l.dn x.l.dp) := ⟨HBZ7.cell 9, HBZ7.cell 24⟩
   clear HBZ7
   refine hK.out _ _ ?_ (fun hHeld => ?_)
   ·first | exact HS | go_keep
   clear hK K
   try simp only [Act.put, pS]
   refine wpAnyH_done (by kernel_rfl) ?_ _
   go_wp2_with (fail)
   go_ret
   exact ⟨rfl, fun _ => ⟨⟨0, x.l.vr, A7, x.l.dn, c7⟩, x.ds, by rw [if_neg h18.out], rfl, by rw [if_neg h18.out], HDL.out, HA7.out⟩, fun e => absurd HST.out e, HC7.out⟩
end Go.Proofs.YtmpedblelnpjdaaGreatDoor
