/- A caller: Take of a configuration. -/
import Derived.Test.YtmpedblelnpjdaaGreatDoorZAsD
import Derived.Test.YtmpedblelnpjdaaGreatDoorZTq
import Derived.Test.YtmpedblelnpjdaaGreatDoorZTk
import Derived.Test.YtmpedblelnpjdaaGreatDoorZDcG
namespace Go.Proofs.YtmpedblelnpjdaaGreatDoor
open Go.RowKit
set_option linter.unusedSimpArgs false
set_option linter.unusedVariables false
set_option maxHeartbeats 1500000
set_option maxRecDepth 100000
theorem CalAt.learnt {W W' : World} {lo g G h q : Nat} {vs vs' : List CV} {c : Cl} {cs : Array Value} (a : CalAt W lo g G h vs c) (hc : Chg W W' (fun k => k = q)) (hq : Blk W q 33 cs) (ha : At W' lo G vs') : CalAt W' lo g G h vs' c := by
 have hS1 : ∀ k, k = q → ∃ t cs, Blk W k t cs ∧ t ≠ 5 := fun k e => ⟨_, _, e ▸ hq, by decide⟩
 refine ⟨hc.blk a.box (fun e => Blk.ne_ a.box hq (by decide) e), ha, a.low, a.op.chg hc hS1, a.ow, a.st, fun e => ?_, a.rp.chg hc hS1, a.ly.chg hc hS1, a.zr⟩
 obtain ⟨h1, h2⟩ := a.lat e
 exact ⟨h1, hc.blk h2 (fun e => Blk.ne_ h2 hq (by decide) e)⟩
def CConfP (lo g G h q hh cB : Nat) (vs : List CV) (k : Nat) (c : Cl) (x : Cf) (w : World) (e : Ending) (w' : World) : Prop :=
  CalAt w' lo g G h (learnV vs x) c ∧ (∃ o', AtX w' lo G q hh cB o' ∧ o'.map Cf.val = learnV vs x) ∧ Chg w w' (fun i => i = q) ∧
  ((AskNow vs k c x ∧ ∃ (qq : Nat) (xx : LV), e = .returned (.slice (some ⟨qq, 0, none⟩) 1 1) ∧ w.heap.size ≤ qq ∧ Blk w' qq 37 xx.l.cells ∧ LIn w' qq xx ∧ xx.near ∧ AskOf (learnV vs x) k c xx.val) ∨
   (¬ AskNow vs k c x ∧ e = .returned (.slice none 0 0)))
theorem calTake_conf (q hh cB k : Nat) (o : List Cf) (lo g G h : Nat) (vs : List (Int × Int × List Int × Bool × Int)) (c : Cl) (x : LV) (B : Nat) (w : World) (hK : KindsAt w) (a : CalAt w lo g G h vs c) (hx : LIn w B x) (hB : B ≤ w.heap.size) (hn : x.near) (hlo : lo ≤ w.heap.size) (hcl : c.cl ≤ 6) (hax : AtX w lo G q hh cB o) (hov : o.map Cf.val = vs) (hKq : ∀ W, Chg w W (fun i => i = q) → KindsAt W) (hk : c.op.key = (k : Int)) (hnum : c.num ≤ 1000000) (hn2 : c.op.n ≤ 1000000) (hvs : VsOk vs) (hfi : ForIt c x) (hk11 : x.l.kd = 11) :
  Calls Tryz.prog 25 #[.pointer (some ⟨g, 0, none⟩), .agg x.l.cells] w (CConfP lo g G h q hh cB vs k c x.conf w) := by
 have HAX : Hid (∀ W, Below w.heap.size w W → AtX W lo G q hh cB o) := Lib.hid (fun W h9 => hax.below h9)
 have HOV := Lib.hid hov
 have HKQ := Lib.hid hKq
 have HKK := Lib.hid hk
 have HVS := Lib.hid hvs
 have HK11 := Lib.hid hk11
 have hkk : k < 4294967296 := by have := a.ow.key.2; omega
 have hqw : q < w.heap.size := hax.conf.lt
 have HFE := Lib.hid hx.wf.fe
 have HFN : Hid (x.l.fn ≤ 1000000) := Lib.hid hn.nl
 clear hax hov hKq hk hvs hk11
 obtain ⟨W1, hW1, hb1, hbk⟩ := box_all x w
 have HBW := Lib.hid hb1
 have HA : Hid (CalAt W1 lo g G h vs c) := Lib.hid (a.below hb1)
 have HX : Hid (LIn W1 B x) := Lib.hid (hx.below (hb1.mono hB))
 have HK := Lib.hid (hK.below hb1)
 have HBX := Lib.hid hbk
 have HW1 := Lib.hid hW1
 have hs1 := hb1.size
 have lg := a.box.lt
 have lb := hbk.lt
 have lg1 := HA.out.box.lt
 have nb : g ≠ w.heap.size := by omega
 have nb' : w.heap.size ≠ g := by omega
 have HH : Hid (c.st = 1 → h < w.heap.size ∧ lo ≤ h) := Lib.hid (fun e => ⟨Blk.lt (a.lat (by omega)).2, (a.lat (by omega)).1⟩)
 obtain ⟨f, hf⟩ : ∃ f : Nat, f = 200 + c.cl := ⟨_, rfl⟩
 have HLO : Hid (lo ≤ w.heap.size) := Lib.hid hlo
 have AD := Lib.hid (fun W (h9 : Below W1.heap.size W1 W) => calAddr_any lo g G h vs c f W (HA.out.below h9) hf hcl)
 obtain ⟨ckv, hckv⟩ : ∃ ckv, ckv = chkX x := ⟨_, rfl⟩
 have HCK := Lib.hid hckv
 have HFI := Lib.hid hfi
 have HF := Lib.hid hf
 obtain ⟨L, hL⟩ : ∃ L : Value, L = x.l.agg := ⟨_, rfl⟩
 have HLA := Lib.hid hL
 have hLD : ∀ wq, Blk wq w.heap.size 37 x.l.cells → (loadVar 37 ⟨w.heap.size, 0, none⟩).run Tryz.prog wq = .ok L wq := fun wq h => by rw [HLA.out]; exact load_lt x.l _ wq h
 have CK : Hid (∀ W, Below W1.heap.size W1 W → Calls Tryz.prog 49 #[L] W fun e w' => e = .returned (.int .i64 ckv) ∧ Below W.heap.size W w') := Lib.hid (fun W h9 => by
  rw [HLA.out]
  have := check_any x B W (HK.out.below h9) (HX.out.below (h9.mono (by omega))) (by have := h9.size; omega) hn
  rw [← hckv] at this
  exact this)
 have HNR := Lib.hid hn
 have x2 : W1.cell? ⟨w.heap.size, 2, none⟩ = some (.int .i64 x.l.tw) := HBX.out.cell 2
 have hBX := HBX.out
 obtain ⟨rd, hrd⟩ : ∃ rd : Bool, rd = (c.op.kd == 1) := ⟨_, rfl⟩
 have HRD := Lib.hid hrd
 have y5e : Hid (∀ W, Below W1.heap.size W1 W → W.cell? ⟨g, 5, none⟩ = some (.int .i64 c.op.kd)) := Lib.hid (fun W h9 => (HA.out.below h9).box.cell 5)
 have q1 : (c.op.kd == 1) = rd := hrd.symm
 clear hW1 hb1 hbk a hx hK hf hL hn hckv hrd hlo hfi
 go_enter Tryz.func25, Tryz.ntmps25
 go_upto_region 1 with (fail)
 have e0 := HW1.out
 simp only [Lt.cells] at e0
 first | rw [← e0] | rw [← HW1.out]
 clear e0
 have HB : Hid (Below W1.heap.size W1 W1.drew) := Lib.hid (Below.refl _ _).drew
 refine wp_region_held_drew (S := fun wq => Blk wq w.heap.size 37 x.l.cells ∧ wq.cell? ⟨w.heap.size, 2, none⟩ = some (.int .i64 x.l.tw)) (by kernel_rfl) ⟨hBX, x2⟩ (fun hHeld => ?_)
 have q2 : (ckv != 0) = false := by rw [HCK.out, HFI.out.1]; rfl
 have q3 : (x.l.tw != (f : Int)) = false := by rw [HFI.out.2, HF.out]; simp
 refine tkT 0 rfl (v := ?_) ?_ ?_
 rotate_left 1
 ·(intro wq hSw; (try dsimp only at hSw); go_simp; (try with_reducible rfl))
 try simp only [Act.put, pS]
 refine tkT 1 rfl (v := ?_) ?_ ?_
 rotate_left 1
 ·(intro wq hSw; (try dsimp only at hSw); go_simp; (try with_reducible rfl))
 try simp only [Act.put, pS]
 refine tkT 2 rfl (v := ?_) ?_ ?_
 rotate_left 1
 ·(intro wq hSw; (try dsimp only at hSw); go_simp; (try with_reducible rfl))
 try simp only [Act.put, pS]
 refine tkT 3 rfl (v := L) ?_ ?_
 ·exact fun wq hSw => exec_load_row rfl _ rfl (hLD wq hSw.1)
 try simp only [Act.put, pS]
 refine wpAnyH_ready (rs := [4]) (by kernel_rfl) (by simp) ?_
 refine (AllReadyH.cons rfl (fun K hK => ?_) AllReadyH.nil)
 go_simp
 refine (CK.out _ HB.out).mono ?_
 rintro e x4 ⟨rfl, h9⟩
 replace HB := Lib.hid (HB.out.trans (h9.mono HB.out.size))
 clear h9
 have HS : Blk x4 w.heap.size 37 x.l.cells ∧ x4.cell? ⟨w.heap.size, 2, none⟩ = some (.int .i64 x.l.tw) := ⟨HBX.out.below HB.out lb, (HBX.out.below HB.out lb).cell 2⟩
 refine hK.out _ _ ?_ (fun hHeld => ?_)
 ·first | exact HS | go_keep
 clear hK K
 try simp only [Act.put, pS]
 refine tkT 5 rfl (v := ?_) ?_ ?_
 rotate_left 1
 ·(intro wq hSw; (try dsimp only at hSw); go_simp; (try with_reducible rfl))
 try simp only [Act.put, pS]
 refine tkT 6 rfl (v := ?_) ?_ ?_
 rotate_left 1
 ·(intro wq hSw; (try dsimp only at hSw); go_simp; (try with_reducible rfl))
 try simp only [Act.put, pS]
 refine tkT 7 rfl (v := ?_) ?_ ?_
 rotate_left 1
 ·(intro wq hSw; (try dsimp only at hSw); go_simp; (try with_reducible rfl))
 try simp only [Act.put, pS]
 refine tkT 8 rfl (v := ?_) ?_ ?_
 rotate_left 1
 ·(intro wq hSw; (try dsimp only at hSw); go_simp; (try with_reducible rfl))
 try simp only [Act.put, pS]
 refine tkT 9 rfl (v := ?_) ?_ ?_
 rotate_left 1
 ·(intro wq hSw; (try dsimp only at hSw); go_simp; (try with_reducible rfl))
 try simp only [Act.put, pS]
 refine tkT 10 rfl (v := ?_) ?_ ?_
 rotate_left 1
 ·(intro wq hSw; (try dsimp only at hSw); go_simp; (try with_reducible rfl))
 try simp only [Act.put, pS]
 refine wpAnyH_ready (rs := [11]) (by kernel_rfl) (by simp) ?_
 refine (AllReadyH.cons rfl (fun K hK => ?_) AllReadyH.nil)
 go_simp
 refine (AD.out _ HB.out).mono ?_
 rintro e x9 ⟨rfl, rfl⟩
 refine hK.out _ _ ?_ (fun hHeld => ?_)
 ·first | exact HS | go_keep
 clear hK K
 try simp only [Act.put, pS]
 refine tkT 12 rfl (v := ?_) ?_ ?_
 rotate_left 1
 ·(intro wq hSw; (try dsimp only at hSw); go_simp; (try with_reducible rfl))
 try simp only [Act.put, pS]
 refine tkT 13 rfl (v := ?_) ?_ ?_
 rotate_left 1
 ·(intro wq hSw; (try dsimp only at hSw); go_simp; (try with_reducible rfl))
 try simp only [Act.put, pS]
 refine wpAnyH_done (by kernel_rfl) ?_ _
 skip
 clear hLD CK AD hHeld HS hBX x2
 have y5 := y5e.out _ HB.out
 obtain ⟨bz, hbz⟩ : ∃ bz : Bool, bz = (c.st == 1) := ⟨_, rfl⟩
 have BU : Hid (∀ W, Below W1.heap.size W1 W → Calls Tryz.prog 66 #[.pointer (some ⟨g, 0, none⟩)] W fun e w' => e = .returned (.bool bz) ∧ Below W.heap.size W w') := Lib.hid (fun W h9 => by
  rw [hbz]
  exact calBusy_any lo g G h vs c W (HA.out.below h9))
 have HBZ := Lib.hid hbz
 have ND := Lib.hid (node_any x.l.fr)
 clear hbz
 go_upto_region 4 with (fail)
 go_cut [6] (fun v6 wx => (∃ mn : Bool, v6 = .bool mn) ∧ Hid (Below W1.heap.size W1 wx))
 case first =>
  have x1 : x4.cell? ⟨w.heap.size, 1, none⟩ = some (.int .i64 x.l.fr) := (HBX.out.below HB.out lb).cell 1
  have x6 : x4.cell? ⟨w.heap.size, 6, none⟩ = some (.int .u64 x.l.nu) := (HBX.out.below HB.out lb).cell 6
  have y2 : x4.cell? ⟨g, 2, none⟩ = some (.int .u64 (c.num : Int)) := (HA.out.below HB.out).box.cell 2
  have HB0 : Hid (Below W1.heap.size W1 x4) := HB
  replace HB : Hid (Below W1.heap.size W1 x4.drew) := Lib.hid HB0.out.drew
  refine wp_region_held_drew (S := fun wq => wq.cell? ⟨w.heap.size, 1, none⟩ = some (.int .i64 x.l.fr) ∧ wq.cell? ⟨w.heap.size, 6, none⟩ = some (.int .u64 x.l.nu) ∧ wq.cell? ⟨g, 2, none⟩ = some (.int .u64 (c.num : Int))) (by kernel_rfl) ⟨x1, x6, y2⟩ (fun hHeld => ?_)
  clear HB0
  generalize x4.drew = x4d at *
  by_cases hfr : 1 ≤ x.l.fr ∧ x.l.fr ≤ 24
  rotate_left
  ·skip
   refine tkT 0 rfl (v := ?_) ?_ ?_
   rotate_left 1
   ·(intro wq hSw; (try dsimp only at hSw); go_simp; (try with_reducible rfl))
   try simp only [Act.put, pS]
   refine tkT 1 rfl (v := ?_) ?_ ?_
   rotate_left 1
   ·(intro wq hSw; (try dsimp only at hSw); go_simp; (try with_reducible rfl))
   try simp only [Act.put, pS]
   refine wpAnyH_ready (rs := [2]) (by kernel_rfl) (by simp) ?_
   refine (AllReadyH.cons rfl (fun K hK => ?_) AllReadyH.nil)
   go_simp
   refine (ND.out _).mono ?_
   rintro e x9 ⟨rfl, rfl⟩
   rw [decide_eq_false hfr]
   have HS : x4d.cell? ⟨w.heap.size, 1, none⟩ = some (.int .i64 x.l.fr) ∧ x4d.cell? ⟨w.heap.size, 6, none⟩ = some (.int .u64 x.l.nu) ∧ x4d.cell? ⟨g, 2, none⟩ = some (.int .u64 (c.num : Int)) := hHeld
   refine hK.out _ _ ?_ (fun hHeld => ?_)
   ·first | exact HS | go_keep
   clear hK K
   try simp only [Act.put, pS]
   refine tkT 3 rfl (v := ?_) ?_ ?_
   rotate_left 1
   ·(intro wq hSw; (try dsimp only at hSw); go_simp; (try with_reducible rfl))
   try simp only [Act.put, pS]
   refine wpAnyH_take (i := 4) (v := undef) rfl (by kernel_rfl) (by kernel_rfl) (by kernel_rfl) (fun _ _ _ h => h) (Or.inr ⟨by rfl, rfl⟩) (by assumption) ?_
   try simp only [Act.put, pS]
   refine wpAnyH_take (i := 5) (v := undef) rfl (by kernel_rfl) (by kernel_rfl) (by kernel_rfl) (fun _ _ _ h => h) (Or.inr ⟨by rfl, rfl⟩) (by assumption) ?_
   try simp only [Act.put, pS]
   refine wpAnyH_take (i := 6) (v := undef) rfl (by kernel_rfl) (by kernel_rfl) (by kernel_rfl) (fun _ _ _ h => h) (Or.inr ⟨by rfl, rfl⟩) (by assumption) ?_
   try simp only [Act.put, pS]
   refine wpAnyH_take (i := 7) (v := undef) rfl (by kernel_rfl) (by kernel_rfl) (by kernel_rfl) (fun _ _ _ h => h) (Or.inr ⟨by rfl, rfl⟩) (by assumption) ?_
   try simp only [Act.put, pS]
   refine wpAnyH_take (i := 8) (v := undef) rfl (by kernel_rfl) (by kernel_rfl) (by kernel_rfl) (fun _ _ _ h => h) (Or.inr ⟨by rfl, rfl⟩) (by assumption) ?_
   try simp only [Act.put, pS]
   refine wpAnyH_take (i := 9) (v := undef) rfl (by kernel_rfl) (by kernel_rfl) (by kernel_rfl) (fun _ _ _ h => h) (Or.inr ⟨by rfl, rfl⟩) (by assumption) ?_
   try simp only [Act.put, pS]
   refine wpAnyH_take (i := 10) (v := undef) rfl (by kernel_rfl) (by kernel_rfl) (by kernel_rfl) (fun _ _ _ h => h) (Or.inr ⟨by rfl, rfl⟩) (by assumption) ?_
   exact rp37
  by_cases hnu : x.l.nu = (c.num : Int)
  rotate_left
  ·have q5 : (x.l.nu == (c.num : Int)) = false := by simp [hnu]
   clear hnu
   refine tkT 0 rfl (v := ?_) ?_ ?_
   rotate_left 1
   ·(intro wq hSw; (try dsimp only at hSw); go_simp; (try with_reducible rfl))
   try simp only [Act.put, pS]
   refine tkT 1 rfl (v := ?_) ?_ ?_
   rotate_left 1
   ·(intro wq hSw; (try dsimp only at hSw); go_simp; (try with_reducible rfl))
   try simp only [Act.put, pS]
   refine wpAnyH_ready (rs := [2]) (by kernel_rfl) (by simp) ?_
   refine (AllReadyH.cons rfl (fun K hK => ?_) AllReadyH.nil)
   go_simp
   refine (ND.out _).mono ?_
   rintro e x9 ⟨rfl, rfl⟩
   rw [decide_eq_true hfr]
   have HS : x4d.cell? ⟨w.heap.size, 1, none⟩ = some (.int .i64 x.l.fr) ∧ x4d.cell? ⟨w.heap.size, 6, none⟩ = some (.int .u64 x.l.nu) ∧ x4d.cell? ⟨g, 2, none⟩ = some (.int .u64 (c.num : Int)) := hHeld
   refine hK.out _ _ ?_ (fun hHeld => ?_)
   ·first | exact HS | go_keep
   clear hK K
   try simp only [Act.put, pS]
   refine tkT 3 rfl (v := ?_) ?_ ?_
   rotate_left 1
   ·(intro wq hSw; (try dsimp only at hSw); go_simp; (try with_reducible rfl))
   try simp only [Act.put, pS]
   refine tkT 4 rfl (v := ?_) ?_ ?_
   rotate_left 1
   ·(intro wq hSw; (try dsimp only at hSw); go_simp; (try with_reducible rfl))
   try simp only [Act.put, pS]
   refine tkT 5 rfl (v := ?_) ?_ ?_
   rotate_left 1
   ·(intro wq hSw; (try dsimp only at hSw); go_simp; (try with_reducible rfl))
   try simp only [Act.put, pS]
   refine tkT 6 rfl (v := ?_) ?_ ?_
   rotate_left 1
   ·(intro wq hSw; (try dsimp only at hSw); go_simp; (try with_reducible rfl))
   try simp only [Act.put, pS]
   refine tkT 7 rfl (v := ?_) ?_ ?_
   rotate_left 1
   ·(intro wq hSw; (try dsimp only at hSw); go_simp; (try with_reducible rfl))
   try simp only [Act.put, pS]
   refine tkT 8 rfl (v := ?_) ?_ ?_
   rotate_left 1
   ·(intro wq hSw; (try dsimp only at hSw); go_simp; (try with_reducible rfl))
   try simp only [Act.put, pS]
   refine tkT 9 rfl (v := ?_) ?_ ?_
   rotate_left 1
   ·(intro wq hSw; (try dsimp only at hSw); go_simp; (try with_reducible rfl))
   try simp only [Act.put, pS]
   refine tkT 10 rfl (v := ?_) ?_ ?_
   rotate_left 1
   ·(intro wq hSw; (try dsimp only at hSw); go_simp; (try with_reducible rfl))
   exact rp37
  have q5 : (x.l.nu == (c.num : Int)) = true := by simp [hnu]
  clear hnu
  refine tkT 0 rfl (v := ?_) ?_ ?_
  rotate_left 1
  ·(intro wq hSw; (try dsimp only at hSw); go_simp; (try with_reducible rfl))
  try simp only [Act.put, pS]
  refine tkT 1 rfl (v := ?_) ?_ ?_
  rotate_left 1
  ·(intro wq hSw; (try dsimp only at hSw); go_simp; (try with_reducible rfl))
  try simp only [Act.put, pS]
  refine wpAnyH_ready (rs := [2]) (by kernel_rfl) (by simp) ?_
  refine (AllReadyH.cons rfl (fun K hK => ?_) AllReadyH.nil)
  go_simp
  refine (ND.out _).mono ?_
  rintro e x9 ⟨rfl, rfl⟩
  rw [decide_eq_true hfr]
  have HS : x4d.cell? ⟨w.heap.size, 1, none⟩ = some (.int .i64 x.l.fr) ∧ x4d.cell? ⟨w.heap.size, 6, none⟩ = some (.int .u64 x.l.nu) ∧ x4d.cell? ⟨g, 2, none⟩ = some (.int .u64 (c.num : Int)) := hHeld
  refine hK.out _ _ ?_ (fun hHeld => ?_)
  ·first | exact HS | go_keep
  clear hK K
  try simp only [Act.put, pS]
  refine tkT 3 rfl (v := ?_) ?_ ?_
  rotate_left 1
  ·(intro wq hSw; (try dsimp only at hSw); go_simp; (try with_reducible rfl))
  try simp only [Act.put, pS]
  refine tkT 4 rfl (v := ?_) ?_ ?_
  rotate_left 1
  ·(intro wq hSw; (try dsimp only at hSw); go_simp; (try with_reducible rfl))
  try simp only [Act.put, pS]
  refine tkT 5 rfl (v := ?_) ?_ ?_
  rotate_left 1
  ·(intro wq hSw; (try dsimp only at hSw); go_simp; (try with_reducible rfl))
  try simp only [Act.put, pS]
  refine tkT 6 rfl (v := ?_) ?_ ?_
  rotate_left 1
  ·(intro wq hSw; (try dsimp only at hSw); go_simp; (try with_reducible rfl))
  try simp only [Act.put, pS]
  refine tkT 7 rfl (v := ?_) ?_ ?_
  rotate_left 1
  ·(intro wq hSw; (try dsimp only at hSw); go_simp; (try with_reducible rfl))
  try simp only [Act.put, pS]
  refine tkT 8 rfl (v := ?_) ?_ ?_
  rotate_left 1
  ·(intro wq hSw; (try dsimp only at hSw); go_simp; (try with_reducible rfl))
  try simp only [Act.put, pS]
  refine tkT 9 rfl (v := ?_) ?_ ?_
  rotate_left 1
  ·(intro wq hSw; (try dsimp only at hSw); go_simp; (try with_reducible rfl))
  try simp only [Act.put, pS]
  refine tkT 10 rfl (v := ?_) ?_ ?_
  rotate_left 1
  ·(intro wq hSw; (try dsimp only at hSw); go_simp; (try with_reducible rfl))
  try simp only [Act.put, pS]
  refine tkT 11 rfl (v := ?_) ?_ ?_
  rotate_left 1
  ·(intro wq hSw; (try dsimp only at hSw); go_simp; (try with_reducible rfl))
  try simp only [Act.put, pS]
  refine tkT 12 rfl (v := ?_) ?_ ?_
  rotate_left 1
  ·(intro wq hSw; (try dsimp only at hSw); go_simp; (try with_reducible rfl))
  try simp only [Act.put, pS]
  refine tkT 13 rfl (v := ?_) ?_ ?_
  rotate_left 1
  ·(intro wq hSw; (try dsimp only at hSw); go_simp; (try with_reducible rfl))
  try simp only [Act.put, pS]
  refine wpAnyH_ready (rs := [14]) (by kernel_rfl) (by simp) ?_
  refine (AllReadyH.cons rfl (fun K hK => ?_) AllReadyH.nil)
  go_simp
  refine (BU.out _ HB.out).mono ?_
  rintro e x5 ⟨rfl, h9⟩
  replace HB := Lib.hid (HB.out.trans (h9.mono HB.out.size))
  clear h9
  have HS : x5.cell? ⟨w.heap.size, 1, none⟩ = some (.int .i64 x.l.fr) ∧ x5.cell? ⟨w.heap.size, 6, none⟩ = some (.int .u64 x.l.nu) ∧ x5.cell? ⟨g, 2, none⟩ = some (.int .u64 (c.num : Int)) := ⟨(HBX.out.below HB.out lb).cell 1, (HBX.out.below HB.out lb).cell 6, (HA.out.below HB.out).box.cell 2⟩
  refine hK.out _ _ ?_ (fun hHeld => ?_)
  ·first | exact HS | go_keep
  clear hK K
  try simp only [Act.put, pS]
  refine tkT 15 rfl (v := ?_) ?_ ?_
  rotate_left 1
  ·(intro wq hSw; (try dsimp only at hSw); go_simp; (try with_reducible rfl))
  try simp only [Act.put, pS]
  refine tkT 16 rfl (v := ?_) ?_ ?_
  rotate_left 1
  ·(intro wq hSw; (try dsimp only at hSw); go_simp; (try with_reducible rfl))
  try simp only [Act.put, pS]
  refine wpAnyH_done (by kernel_rfl) ?_ _
  go_wp2_with (fail)
  go_meet
  case rel => exact ⟨⟨_, rfl⟩, HB⟩
 case rest =>
  obtain ⟨⟨mn, rfl⟩, HB5⟩ := hcut
  clear HB y5 ND
  have HBX5 := Lib.hid (HBX.out.below HB5.out lb)
  have HA5 := Lib.hid (HA.out.below HB5.out)
  have HX5 := Lib.hid (HX.out.below (HB5.out.mono (by omega)))
  have HBB5 := Lib.hid (HBW.out.trans (HB5.out.mono hs1))
  have HAX5 := Lib.hid (HAX.out _ HBB5.out)
  have hs5 := HBB5.out.size
  clear HBX HA HX HB5 HBW y5e HAX BU
  have x0 : wc.cell? ⟨w.heap.size, 0, none⟩ = some (.int .i64 x.l.kd) := HBX5.out.cell 0
  have k1 : (x.l.kd == 11) = true := by simp [HK11.out]
  go_upto_region 7 with (fail)
  obtain ⟨xc, hxc⟩ : ∃ xc, xc = x.conf := ⟨_, rfl⟩
  have hfc : x.l.fc = xc.ch := by rw [hxc]; rfl
  have HXC : Hid (∀ W, Below wc.heap.size wc W → CfIn W B xc) := Lib.hid (fun W h9 => by rw [hxc]; exact (HX5.out.below (h9.mono (by omega))).conf)
  have HXL : Hid (xc.len ≤ 1000000) := Lib.hid (by rw [hxc]; exact HFN.out)
  have HXE : Hid (xc.ep ≤ 18446744073709551615) := Lib.hid (by rw [hxc]; show x.l.fe.toNat ≤ _; have := HFE.out.2; omega)
  have HXCL : Hid (xc.zs.length = xc.len) := Lib.hid (HXC.out wc (Below.refl _ _)).len_eq
  have HRG : Hid (∀ W, Blk W w.heap.size 37 x.l.cells → W.rangeAt w.heap.size 17 xc.row) := Lib.hid (fun W hb j u hu => by
   have e0 := HFE.out.1
   have he : ((x.l.fe.toNat : Nat) : Int) = x.l.fe := by omega
   rw [hxc] at hu
   match j, hu with
   | 0, hu => injection hu with hu; subst hu; exact hb.cell 17
   | 1, hu => injection hu with hu; subst hu; rw [show (x.conf.ep : Int) = x.l.fe from he]; exact hb.cell 18
   | 2, hu => injection hu with hu; subst hu; exact hb.cell 19
   | 3, hu => injection hu with hu; subst hu; exact hb.cell 20
   | 4, hu => injection hu with hu; subst hu; exact hb.cell 21
   | n + 5, hu => simp [Cf.row] at hu)
  have x17c : Hid (∀ W, Blk W w.heap.size 37 x.l.cells → W.cell? ⟨w.heap.size, 17, none⟩ = some (.int .i64 xc.ch)) := Lib.hid (fun W hb => (hb.cell 17).trans (by rw [← hfc]; rfl))
  have HXCE := Lib.hid hxc
  clear HX5 hxc hfc HFE HFN
  have lb5 := HBX5.out.lt
  have LN := Lib.hid (fun W (h9 : Below wc.heap.size wc W) => atLearn_any lo G B q hh cB o xc W (HAX5.out.below h9) (HXC.out W h9) (by have := h9.size; omega) HXL.out)
  have HWC : Hid (∀ W, Below wc.heap.size wc W → Blk W w.heap.size 37 x.l.cells) := Lib.hid (fun W h9 => HBX5.out.below h9 lb5)
  have hrg := HRG.out wc HBX5.out
  have x17 := x17c.out wc HBX5.out
  have y4 : wc.cell? ⟨g, 4, none⟩ = some (.pointer (some ⟨G, 0, none⟩)) := HA5.out.box.cell 4
  have y6 : wc.cell? ⟨g, 6, none⟩ = some (.int .u32 (k : Int)) := (HA5.out.box.cell 6).trans (by rw [← HKK.out]; rfl)
  refine wp_region_held_drew (S := fun wq => wq.cell? ⟨g, 4, none⟩ = some (.pointer (some ⟨G, 0, none⟩)) ∧ wq.cell? ⟨g, 6, none⟩ = some (.int .u32 (k : Int)) ∧ wq.cell? ⟨w.heap.size, 17, none⟩ = some (.int .i64 xc.ch) ∧ True ∧ wq.rangeAt w.heap.size 17 xc.row) (by kernel_rfl) ⟨y4, y6, x17, trivial, hrg⟩ (fun hHeld => ?_)
  have HB : Hid (Below wc.heap.size wc wc.drew) := Lib.hid (Below.refl _ _).drew
  have hqb : w.heap.size ≠ q := by omega
  generalize wc.drew = Vd at *
  obtain ⟨is, his⟩ : ∃ is, is = learnB vs xc := ⟨_, rfl⟩
  have HIS := Lib.hid his
  clear his hrg x17 y4 y6
  cases is
  ·have hnow : ¬ AskNow vs k c xc := fun e => by have := e.1; rw [← HIS.out] at this; cases this
   have HNOW := Lib.hid hnow
   clear hnow
   refine tkT 0 rfl (v := ?_) ?_ ?_
   rotate_left 1
   ·(intro wq hSw; (try dsimp only at hSw); go_simp; (try with_reducible rfl))
   try simp only [Act.put, pS]
   refine tkT 1 rfl (v := ?_) ?_ ?_
   rotate_left 1
   ·(intro wq hSw; (try dsimp only at hSw); go_simp; (try with_reducible rfl))
   try simp only [Act.put, pS]
   refine tkT 2 rfl (v := ?_) ?_ ?_
   rotate_left 1
   ·(intro wq hSw; (try dsimp only at hSw); go_simp; (try with_reducible rfl))
   try simp only [Act.put, pS]
   refine tkT 3 rfl (v := ?_) ?_ ?_
   rotate_left 1
   ·(intro wq hSw; (try dsimp only at hSw); go_simp; (try with_reducible rfl))
   try simp only [Act.put, pS]
   refine tkT 4 rfl (v := ?_) ?_ ?_
   rotate_left 1
   ·(intro wq hSw; (try dsimp only at hSw); go_simp; (try with_reducible rfl))
   try simp only [Act.put, pS]
   refine tkT 5 rfl (v := (.agg #[.int .i64 xc.ch, .int .u64 (xc.ep : Int), .slice xc.A xc.len xc.cap, .bool xc.fr, .int .i64 xc.jn])) ?_ ?_
   ·exact fun wq hSw => exec_load_at rfl _ _ rfl (load_cf_mid xc _ _ wq hSw.2.2.2.2)
   try simp only [Act.put, pS]
   refine wpAnyH_ready (rs := [6]) (by kernel_rfl) (by simp) ?_
   refine (AllReadyH.cons rfl (fun K hK => ?_) AllReadyH.nil)
   go_simp
   refine (LN.out _ HB.out).mono ?_
   rintro e x6 ⟨rfl, ⟨o6, hat6, hov6⟩, hc6⟩
   rw [HOV.out] at hov6 ⊢
   rw [← HIS.out]
   have HC6 : Hid (Chg w x6 (fun i => i = q)) := Lib.hid ((Chg.of_below (HBB5.out.trans (HB.out.mono hs5)) _).trans hc6 (fun _ _ e => e))
   have HA6 : Hid (CalAt x6 lo g G h (learnV vs xc) c) := Lib.hid ((HA5.out.below HB.out).learnt hc6 (HAX5.out.below HB.out).conf ⟨q, hh, cB, o6, hat6, hov6⟩)
   have HXV : Hid (Blk x6 w.heap.size 37 x.l.cells) := Lib.hid (hc6.blk (HWC.out _ HB.out) hqb)
   have HAT6 := Lib.hid hat6
   have HOV6 := Lib.hid hov6
   have HAT : Hid (∃ o', AtX x6 lo G q hh cB o' ∧ o'.map Cf.val = learnV vs xc) := Lib.hid ⟨o6, hat6, hov6⟩
   have HAV := HA6
   have HS : x6.cell? ⟨g, 4, none⟩ = some (.pointer (some ⟨G, 0, none⟩)) ∧ x6.cell? ⟨g, 6, none⟩ = some (.int .u32 (k : Int)) ∧ x6.cell? ⟨w.heap.size, 17, none⟩ = some (.int .i64 xc.ch) ∧ True ∧ x6.rangeAt w.heap.size 17 xc.row := ⟨HAV.out.box.cell 4, (HAV.out.box.cell 6).trans (by rw [← HKK.out]; rfl), x17c.out _ HXV.out, trivial, HRG.out _ HXV.out⟩
   clear hat6 hov6 hc6
   refine hK.out _ _ ?_ (fun hHeld => ?_)
   ·first | exact HS | go_keep
   clear hK K
   try simp only [Act.put, pS]
   refine tkT 7 rfl (v := ?_) ?_ ?_
   rotate_left 1
   ·(intro wq hSw; (try dsimp only at hSw); go_simp; (try with_reducible rfl))
   try simp only [Act.put, pS]
   refine wpAnyH_take (i := 8) (v := undef) rfl (by kernel_rfl) (by kernel_rfl) (by kernel_rfl) (fun _ _ _ h => h) (Or.inr ⟨by rfl, rfl⟩) (by assumption) ?_
   try simp only [Act.put, pS]
   refine wpAnyH_take (i := 9) (v := undef) rfl (by kernel_rfl) (by kernel_rfl) (by kernel_rfl) (fun _ _ _ h => h) (Or.inr ⟨by rfl, rfl⟩) (by assumption) ?_
   try simp only [Act.put, pS]
   refine tkT 10 rfl (v := ?_) ?_ ?_
   rotate_left 1
   ·(intro wq hSw; (try dsimp only at hSw); go_simp; (try with_reducible rfl))
   try simp only [Act.put, pS]
   refine tkT 11 rfl (v := ?_) ?_ ?_
   rotate_left 1
   ·(intro wq hSw; (try dsimp only at hSw); go_simp; (try with_reducible rfl))
   try simp only [Act.put, pS]
   refine wpAnyH_take (i := 12) (v := undef) rfl (by kernel_rfl) (by kernel_rfl) (by kernel_rfl) (fun _ _ _ h => h) (Or.inr ⟨by rfl, rfl⟩) (by assumption) ?_
   try simp only [Act.put, pS]
   refine wpAnyH_take (i := 13) (v := undef) rfl (by kernel_rfl) (by kernel_rfl) (by kernel_rfl) (fun _ _ _ h => h) (Or.inr ⟨by rfl, rfl⟩) (by assumption) ?_
   try simp only [Act.put, pS]
   refine wpAnyH_take (i := 14) (v := undef) rfl (by kernel_rfl) (by kernel_rfl) (by kernel_rfl) (fun _ _ _ h => h) (Or.inr ⟨by rfl, rfl⟩) (by assumption) ?_
   try simp only [Act.put, pS]
   refine wpAnyH_take (i := 15) (v := undef) rfl (by kernel_rfl) (by kernel_rfl) (by kernel_rfl) (fun _ _ _ h => h) (Or.inr ⟨by rfl, rfl⟩) (by assumption) ?_
   try simp only [Act.put, pS]
   refine wpAnyH_take (i := 16) (v := undef) rfl (by kernel_rfl) (by kernel_rfl) (by kernel_rfl) (fun _ _ _ h => h) (Or.inr ⟨by rfl, rfl⟩) (by assumption) ?_
   try simp only [Act.put, pS]
   refine wpAnyH_take (i := 17) (v := undef) rfl (by kernel_rfl) (by kernel_rfl) (by kernel_rfl) (fun _ _ _ h => h) (Or.inr ⟨by rfl, rfl⟩) (by assumption) ?_
   try simp only [Act.put, pS]
   refine wpAnyH_take (i := 18) (v := undef) rfl (by kernel_rfl) (by kernel_rfl) (by kernel_rfl) (fun _ _ _ h => h) (Or.inr ⟨by rfl, rfl⟩) (by assumption) ?_
   try simp only [Act.put, pS]
   refine wpAnyH_take (i := 19) (v := undef) rfl (by kernel_rfl) (by kernel_rfl) (by kernel_rfl) (fun _ _ _ h => h) (Or.inr ⟨by rfl, rfl⟩) (by assumption) ?_
   try simp only [Act.put, pS]
   refine wpAnyH_take (i := 20) (v := undef) rfl (by kernel_rfl) (by kernel_rfl) (by kernel_rfl) (fun _ _ _ h => h) (Or.inr ⟨by rfl, rfl⟩) (by assumption) ?_
   try simp only [Act.put, pS]
   refine wpAnyH_take (i := 21) (v := undef) rfl (by kernel_rfl) (by kernel_rfl) (by kernel_rfl) (fun _ _ _ h => h) (Or.inr ⟨by rfl, rfl⟩) (by assumption) ?_
   try simp only [Act.put, pS]
   refine wpAnyH_take (i := 22) (v := undef) rfl (by kernel_rfl) (by kernel_rfl) (by kernel_rfl) (fun _ _ _ h => h) (Or.inr ⟨by rfl, rfl⟩) (by assumption) ?_
   try simp only [Act.put, pS]
   refine wpAnyH_take (i := 23) (v := undef) rfl (by kernel_rfl) (by kernel_rfl) (by kernel_rfl) (fun _ _ _ h => h) (Or.inr ⟨by rfl, rfl⟩) (by assumption) ?_
   try simp only [Act.put, pS]
   refine wpAnyH_take (i := 24) (v := undef) rfl (by kernel_rfl) (by kernel_rfl) (by kernel_rfl) (fun _ _ _ h => h) (Or.inr ⟨by rfl, rfl⟩) (by assumption) ?_
   try simp only [Act.put, pS]
   refine wpAnyH_take (i := 25) (v := undef) rfl (by kernel_rfl) (by kernel_rfl) (by kernel_rfl) (fun _ _ _ h => h) (Or.inr ⟨by rfl, rfl⟩) (by assumption) ?_
   try simp only [Act.put, pS]
   refine wpAnyH_take (i := 26) (v := undef) rfl (by kernel_rfl) (by kernel_rfl) (by kernel_rfl) (fun _ _ _ h => h) (Or.inr ⟨by rfl, rfl⟩) (by assumption) ?_
   try simp only [Act.put, pS]
   refine tkT 27 rfl (v := ?_) ?_ ?_
   rotate_left 1
   ·(intro wq hSw; (try dsimp only at hSw); go_simp; (try with_reducible rfl))
   try simp only [Act.put, pS]
   refine wpAnyH_done (by kernel_rfl) ?_ _
   go_wp2_with (fail)
   go_ret
   rw [← HXCE.out]
   exact ⟨HA6.out, HAT.out, HC6.out, .inr ⟨HNOW.out, rfl⟩⟩
  cases bz
  ·have hnow : ¬ AskNow vs k c xc := fun e => by have := HBZ.out; rw [e.2.1] at this; cases this
   have HNOW := Lib.hid hnow
   clear hnow
   refine tkT 0 rfl (v := ?_) ?_ ?_
   rotate_left 1
   ·(intro wq hSw; (try dsimp only at hSw); go_simp; (try with_reducible rfl))
   try simp only [Act.put, pS]
   refine tkT 1 rfl (v := ?_) ?_ ?_
   rotate_left 1
   ·(intro wq hSw; (try dsimp only at hSw); go_simp; (try with_reducible rfl))
   try simp only [Act.put, pS]
   refine tkT 2 rfl (v := ?_) ?_ ?_
   rotate_left 1
   ·(intro wq hSw; (try dsimp only at hSw); go_simp; (try with_reducible rfl))
   try simp only [Act.put, pS]
   refine tkT 3 rfl (v := ?_) ?_ ?_
   rotate_left 1
   ·(intro wq hSw; (try dsimp only at hSw); go_simp; (try with_reducible rfl))
   try simp only [Act.put, pS]
   refine tkT 4 rfl (v := ?_) ?_ ?_
   rotate_left 1
   ·(intro wq hSw; (try dsimp only at hSw); go_simp; (try with_reducible rfl))
   try simp only [Act.put, pS]
   refine tkT 5 rfl (v := (.agg #[.int .i64 xc.ch, .int .u64 (xc.ep : Int), .slice xc.A xc.len xc.cap, .bool xc.fr, .int .i64 xc.jn])) ?_ ?_
   ·exact fun wq hSw => exec_load_at rfl _ _ rfl (load_cf_mid xc _ _ wq hSw.2.2.2.2)
   try simp only [Act.put, pS]
   refine wpAnyH_ready (rs := [6]) (by kernel_rfl) (by simp) ?_
   refine (AllReadyH.cons rfl (fun K hK => ?_) AllReadyH.nil)
   go_simp
   refine (LN.out _ HB.out).mono ?_
   rintro e x6 ⟨rfl, ⟨o6, hat6, hov6⟩, hc6⟩
   rw [HOV.out] at hov6 ⊢
   rw [← HIS.out]
   have HC6 : Hid (Chg w x6 (fun i => i = q)) := Lib.hid ((Chg.of_below (HBB5.out.trans (HB.out.mono hs5)) _).trans hc6 (fun _ _ e => e))
   have HA6 : Hid (CalAt x6 lo g G h (learnV vs xc) c) := Lib.hid ((HA5.out.below HB.out).learnt hc6 (HAX5.out.below HB.out).conf ⟨q, hh, cB, o6, hat6, hov6⟩)
   have HXV : Hid (Blk x6 w.heap.size 37 x.l.cells) := Lib.hid (hc6.blk (HWC.out _ HB.out) hqb)
   have HAT6 := Lib.hid hat6
   have HOV6 := Lib.hid hov6
   have HAT : Hid (∃ o', AtX x6 lo G q hh cB o' ∧ o'.map Cf.val = learnV vs xc) := Lib.hid ⟨o6, hat6, hov6⟩
   have HAV := HA6
   have HS : x6.cell? ⟨g, 4, none⟩ = some (.pointer (some ⟨G, 0, none⟩)) ∧ x6.cell? ⟨g, 6, none⟩ = some (.int .u32 (k : Int)) ∧ x6.cell? ⟨w.heap.size, 17, none⟩ = some (.int .i64 xc.ch) ∧ True ∧ x6.rangeAt w.heap.size 17 xc.row := ⟨HAV.out.box.cell 4, (HAV.out.box.cell 6).trans (by rw [← HKK.out]; rfl), x17c.out _ HXV.out, trivial, HRG.out _ HXV.out⟩
   clear hat6 hov6 hc6
   refine hK.out _ _ ?_ (fun hHeld => ?_)
   ·first | exact HS | go_keep
   clear hK K
   try simp only [Act.put, pS]
   refine tkT 7 rfl (v := ?_) ?_ ?_
   rotate_left 1
   ·(intro wq hSw; (try dsimp only at hSw); go_simp; (try with_reducible rfl))
   try simp only [Act.put, pS]
   refine tkT 8 rfl (v := ?_) ?_ ?_
   rotate_left 1
   ·(intro wq hSw; (try dsimp only at hSw); go_simp; (try with_reducible rfl))
   try simp only [Act.put, pS]
   refine wpAnyH_ready (rs := [9]) (by kernel_rfl) (by simp) ?_
   refine (AllReadyH.cons rfl (fun K hK => ?_) AllReadyH.nil)
   go_simp
   refine (calBusy_any lo g G h (learnV vs xc) c _ HA6.out).mono ?_
   rintro e x9 ⟨rfl, h9⟩
   have HBZ2 := HBZ.out
   rw [← HBZ.out]
   have HC9 : Hid (Chg w x9 (fun i => i = q)) := Lib.hid (HC6.out.trans (Chg.of_below h9 _) (fun _ _ e => e))
   replace HAV := Lib.hid (HA6.out.below h9)
   have HA9 := HAV
   replace HXV := Lib.hid (HXV.out.below h9 HXV.out.lt)
   have HAT9x := Lib.hid (HAT6.out.below h9)
   have HAT9 : Hid (∃ o', AtX x9 lo G q hh cB o' ∧ o'.map Cf.val = learnV vs xc) := Lib.hid ⟨o6, HAT9x.out, HOV6.out⟩
   have HS : x9.cell? ⟨g, 4, none⟩ = some (.pointer (some ⟨G, 0, none⟩)) ∧ x9.cell? ⟨g, 6, none⟩ = some (.int .u32 (k : Int)) ∧ x9.cell? ⟨w.heap.size, 17, none⟩ = some (.int .i64 xc.ch) ∧ True ∧ x9.rangeAt w.heap.size 17 xc.row := ⟨HAV.out.box.cell 4, (HAV.out.box.cell 6).trans (by rw [← HKK.out]; rfl), x17c.out _ HXV.out, trivial, HRG.out _ HXV.out⟩
   clear h9 HBZ2
   refine hK.out _ _ ?_ (fun hHeld => ?_)
   ·first | exact HS | go_keep
   clear hK K
   try simp only [Act.put, pS]
   refine tkT 10 rfl (v := ?_) ?_ ?_
   rotate_left 1
   ·(intro wq hSw; (try dsimp only at hSw); go_simp; (try with_reducible rfl))
   try simp only [Act.put, pS]
   refine tkT 11 rfl (v := ?_) ?_ ?_
   rotate_left 1
   ·(intro wq hSw; (try dsimp only at hSw); go_simp; (try with_reducible rfl))
   try simp only [Act.put, pS]
   refine wpAnyH_take (i := 12) (v := undef) rfl (by kernel_rfl) (by kernel_rfl) (by kernel_rfl) (fun _ _ _ h => h) (Or.inr ⟨by rfl, rfl⟩) (by assumption) ?_
   try simp only [Act.put, pS]
   refine wpAnyH_take (i := 13) (v := undef) rfl (by kernel_rfl) (by kernel_rfl) (by kernel_rfl) (fun _ _ _ h => h) (Or.inr ⟨by rfl, rfl⟩) (by assumption) ?_
   try simp only [Act.put, pS]
   refine wpAnyH_take (i := 14) (v := undef) rfl (by kernel_rfl) (by kernel_rfl) (by kernel_rfl) (fun _ _ _ h => h) (Or.inr ⟨by rfl, rfl⟩) (by assumption) ?_
   try simp only [Act.put, pS]
   refine wpAnyH_take (i := 15) (v := undef) rfl (by kernel_rfl) (by kernel_rfl) (by kernel_rfl) (fun _ _ _ h => h) (Or.inr ⟨by rfl, rfl⟩) (by assumption) ?_
   try simp only [Act.put, pS]
   refine wpAnyH_take (i := 16) (v := undef) rfl (by kernel_rfl) (by kernel_rfl) (by kernel_rfl) (fun _ _ _ h => h) (Or.inr ⟨by rfl, rfl⟩) (by assumption) ?_
   try simp only [Act.put, pS]
   refine wpAnyH_take (i := 17) (v := undef) rfl (by kernel_rfl) (by kernel_rfl) (by kernel_rfl) (fun _ _ _ h => h) (Or.inr ⟨by rfl, rfl⟩) (by assumption) ?_
   try simp only [Act.put, pS]
   refine wpAnyH_take (i := 18) (v := undef) rfl (by kernel_rfl) (by kernel_rfl) (by kernel_rfl) (fun _ _ _ h => h) (Or.inr ⟨by rfl, rfl⟩) (by assumption) ?_
   try simp only [Act.put, pS]
   refine wpAnyH_take (i := 19) (v := undef) rfl (by kernel_rfl) (by kernel_rfl) (by kernel_rfl) (fun _ _ _ h => h) (Or.inr ⟨by rfl, rfl⟩) (by assumption) ?_
   try simp only [Act.put, pS]
   refine wpAnyH_take (i := 20) (v := undef) rfl (by kernel_rfl) (by kernel_rfl) (by kernel_rfl) (fun _ _ _ h => h) (Or.inr ⟨by rfl, rfl⟩) (by assumption) ?_
   try simp only [Act.put, pS]
   refine wpAnyH_take (i := 21) (v := undef) rfl (by kernel_rfl) (by kernel_rfl) (by kernel_rfl) (fun _ _ _ h => h) (Or.inr ⟨by rfl, rfl⟩) (by assumption) ?_
   try simp only [Act.put, pS]
   refine wpAnyH_take (i := 22) (v := undef) rfl (by kernel_rfl) (by kernel_rfl) (by kernel_rfl) (fun _ _ _ h => h) (Or.inr ⟨by rfl, rfl⟩) (by assumption) ?_
   try simp only [Act.put, pS]
   refine wpAnyH_take (i := 23) (v := undef) rfl (by kernel_rfl) (by kernel_rfl) (by kernel_rfl) (fun _ _ _ h => h) (Or.inr ⟨by rfl, rfl⟩) (by assumption) ?_
   try simp only [Act.put, pS]
   refine wpAnyH_take (i := 24) (v := undef) rfl (by kernel_rfl) (by kernel_rfl) (by kernel_rfl) (fun _ _ _ h => h) (Or.inr ⟨by rfl, rfl⟩) (by assumption) ?_
   try simp only [Act.put, pS]
   refine wpAnyH_take (i := 25) (v := undef) rfl (by kernel_rfl) (by kernel_rfl) (by kernel_rfl) (fun _ _ _ h => h) (Or.inr ⟨by rfl, rfl⟩) (by assumption) ?_
   try simp only [Act.put, pS]
   refine wpAnyH_take (i := 26) (v := undef) rfl (by kernel_rfl) (by kernel_rfl) (by kernel_rfl) (fun _ _ _ h => h) (Or.inr ⟨by rfl, rfl⟩) (by assumption) ?_
   try simp only [Act.put, pS]
   refine tkT 27 rfl (v := ?_) ?_ ?_
   rotate_left 1
   ·(intro wq hSw; (try dsimp only at hSw); go_simp; (try with_reducible rfl))
   try simp only [Act.put, pS]
   refine wpAnyH_done (by kernel_rfl) ?_ _
   go_wp2_with (fail)
   go_ret
   rw [← HXCE.out]
   exact ⟨HA9.out, HAT9.out, HC9.out, .inr ⟨HNOW.out, rfl⟩⟩
  have hst : c.st = 1 := by have := HBZ.out; simpa using this.symm
  have HST := Lib.hid hst
  have hfd := fld_ch
  clear hst
  refine tkT 0 rfl (v := ?_) ?_ ?_
  rotate_left 1
  ·(intro wq hSw; (try dsimp only at hSw); go_simp; (try with_reducible rfl))
  try simp only [Act.put, pS]
  refine tkT 1 rfl (v := ?_) ?_ ?_
  rotate_left 1
  ·(intro wq hSw; (try dsimp only at hSw); go_simp; (try with_reducible rfl))
  try simp only [Act.put, pS]
  refine tkT 2 rfl (v := ?_) ?_ ?_
  rotate_left 1
  ·(intro wq hSw; (try dsimp only at hSw); go_simp; (try with_reducible rfl))
  try simp only [Act.put, pS]
  refine tkT 3 rfl (v := ?_) ?_ ?_
  rotate_left 1
  ·(intro wq hSw; (try dsimp only at hSw); go_simp; (try with_reducible rfl))
  try simp only [Act.put, pS]
  refine tkT 4 rfl (v := ?_) ?_ ?_
  rotate_left 1
  ·(intro wq hSw; (try dsimp only at hSw); go_simp; (try with_reducible rfl))
  try simp only [Act.put, pS]
  refine tkT 5 rfl (v := (.agg #[.int .i64 xc.ch, .int .u64 (xc.ep : Int), .slice xc.A xc.len xc.cap, .bool xc.fr, .int .i64 xc.jn])) ?_ ?_
  ·exact fun wq hSw => exec_load_at rfl _ _ rfl (load_cf_mid xc _ _ wq hSw.2.2.2.2)
  try simp only [Act.put, pS]
  refine wpAnyH_ready (rs := [6]) (by kernel_rfl) (by simp) ?_
  refine (AllReadyH.cons rfl (fun K hK => ?_) AllReadyH.nil)
  go_simp
  refine (LN.out _ HB.out).mono ?_
  rintro e x6 ⟨rfl, ⟨o6, hat6, hov6⟩, hc6⟩
  rw [HOV.out] at hov6 ⊢
  rw [← HIS.out]
  have HC6 : Hid (Chg w x6 (fun i => i = q)) := Lib.hid ((Chg.of_below (HBB5.out.trans (HB.out.mono hs5)) _).trans hc6 (fun _ _ e => e))
  have HA6 : Hid (CalAt x6 lo g G h (learnV vs xc) c) := Lib.hid ((HA5.out.below HB.out).learnt hc6 (HAX5.out.below HB.out).conf ⟨q, hh, cB, o6, hat6, hov6⟩)
  have HXV : Hid (Blk x6 w.heap.size 37 x.l.cells) := Lib.hid (hc6.blk (HWC.out _ HB.out) hqb)
  have HAT6 := Lib.hid hat6
  have HOV6 := Lib.hid hov6
  have HAT : Hid (∃ o', AtX x6 lo G q hh cB o' ∧ o'.map Cf.val = learnV vs xc) := Lib.hid ⟨o6, hat6, hov6⟩
  have HAV := HA6
  have HS : x6.cell? ⟨g, 4, none⟩ = some (.pointer (some ⟨G, 0, none⟩)) ∧ x6.cell? ⟨g, 6, none⟩ = some (.int .u32 (k : Int)) ∧ x6.cell? ⟨w.heap.size, 17, none⟩ = some (.int .i64 xc.ch) ∧ True ∧ x6.rangeAt w.heap.size 17 xc.row := ⟨HAV.out.box.cell 4, (HAV.out.box.cell 6).trans (by rw [← HKK.out]; rfl), x17c.out _ HXV.out, trivial, HRG.out _ HXV.out⟩
  clear hat6 hov6 hc6
  refine hK.out _ _ ?_ (fun hHeld => ?_)
  ·first | exact HS | go_keep
  clear hK K
  try simp only [Act.put, pS]
  refine tkT 7 rfl (v := ?_) ?_ ?_
  rotate_left 1
  ·(intro wq hSw; (try dsimp only at hSw); go_simp; (try with_reducible rfl))
  try simp only [Act.put, pS]
  refine tkT 8 rfl (v := ?_) ?_ ?_
  rotate_left 1
  ·(intro wq hSw; (try dsimp only at hSw); go_simp; (try with_reducible rfl))
  try simp only [Act.put, pS]
  refine wpAnyH_ready (rs := [9]) (by kernel_rfl) (by simp) ?_
  refine (AllReadyH.cons rfl (fun K hK => ?_) AllReadyH.nil)
  go_simp
  refine (calBusy_any lo g G h (learnV vs xc) c _ HA6.out).mono ?_
  rintro e x9 ⟨rfl, h9⟩
  have HBZ2 := HBZ.out
  rw [← HBZ.out]
  have HC9 : Hid (Chg w x9 (fun i => i = q)) := Lib.hid (HC6.out.trans (Chg.of_below h9 _) (fun _ _ e => e))
  replace HAV := Lib.hid (HA6.out.below h9)
  have HA9 := HAV
  replace HXV := Lib.hid (HXV.out.below h9 HXV.out.lt)
  have HAT9x := Lib.hid (HAT6.out.below h9)
  have HAT9 : Hid (∃ o', AtX x9 lo G q hh cB o' ∧ o'.map Cf.val = learnV vs xc) := Lib.hid ⟨o6, HAT9x.out, HOV6.out⟩
  have HS : x9.cell? ⟨g, 4, none⟩ = some (.pointer (some ⟨G, 0, none⟩)) ∧ x9.cell? ⟨g, 6, none⟩ = some (.int .u32 (k : Int)) ∧ x9.cell? ⟨w.heap.size, 17, none⟩ = some (.int .i64 xc.ch) ∧ True ∧ x9.rangeAt w.heap.size 17 xc.row := ⟨HAV.out.box.cell 4, (HAV.out.box.cell 6).trans (by rw [← HKK.out]; rfl), x17c.out _ HXV.out, trivial, HRG.out _ HXV.out⟩
  clear h9 HBZ2
  refine hK.out _ _ ?_ (fun hHeld => ?_)
  ·first | exact HS | go_keep
  clear hK K
  try simp only [Act.put, pS]
  refine tkT 10 rfl (v := ?_) ?_ ?_
  rotate_left 1
  ·(intro wq hSw; (try dsimp only at hSw); go_simp; (try with_reducible rfl))
  try simp only [Act.put, pS]
  refine tkT 11 rfl (v := ?_) ?_ ?_
  rotate_left 1
  ·(intro wq hSw; (try dsimp only at hSw); go_simp; (try with_reducible rfl))
  try simp only [Act.put, pS]
  refine tkT 12 rfl (v := ?_) ?_ ?_
  rotate_left 1
  ·(intro wq hSw; (try dsimp only at hSw); go_simp; (try with_reducible rfl))
  try simp only [Act.put, pS]
  refine tkT 13 rfl (v := ?_) ?_ ?_
  rotate_left 1
  ·(intro wq hSw; (try dsimp only at hSw); go_simp; (try with_reducible rfl))
  try simp only [Act.put, pS]
  refine tkT 14 rfl (v := ?_) ?_ ?_
  rotate_left 1
  ·(intro wq hSw; (try dsimp only at hSw); go_simp; (try with_reducible rfl))
  try simp only [Act.put, pS]
  refine tkT 15 rfl (v := ?_) ?_ ?_
  rotate_left 1
  ·(intro wq hSw; (try dsimp only at hSw); go_simp; (try with_reducible rfl))
  try simp only [Act.put, pS]
  refine tkT 16 rfl (v := ?_) ?_ ?_
  rotate_left 1
  ·(intro wq hSw; (try dsimp only at hSw); go_simp; (try with_reducible rfl))
  try simp only [Act.put, pS]
  refine tkT 17 rfl (v := ?_) ?_ ?_
  rotate_left 1
  ·(intro wq hSw; (try dsimp only at hSw); go_simp; (try with_reducible rfl))
  try simp only [Act.put, pS]
  refine tkT 18 rfl (v := ?_) ?_ ?_
  rotate_left 1
  ·(intro wq hSw; (try dsimp only at hSw); go_simp; (try with_reducible rfl))
  try simp only [Act.put, pS]
  refine tkT 19 rfl (v := ?_) ?_ ?_
  rotate_left 1
  ·(intro wq hSw; (try dsimp only at hSw); go_simp; (try with_reducible rfl))
  try simp only [Act.put, pS]
  refine tkT 20 rfl (v := ?_) ?_ ?_
  rotate_left 1
  ·(intro wq hSw; (try dsimp only at hSw); go_simp; (try with_reducible rfl))
  try simp only [Act.put, pS]
  refine tkT 23 rfl (v := ?_) ?_ ?_
  rotate_left 1
  ·(intro wq hSw; (try dsimp only at hSw); go_simp; (try with_reducible rfl))
  try simp only [Act.put, pS]
  refine tkT 24 rfl (v := ?_) ?_ ?_
  rotate_left 1
  ·(intro wq hSw; (try dsimp only at hSw); go_simp; (try with_reducible rfl))
  try simp only [Act.put, pS]
  refine tkT 25 rfl (v := ?_) ?_ ?_
  rotate_left 1
  ·(intro wq hSw; (try dsimp only at hSw); go_simp; (try with_reducible rfl))
  try simp only [Act.put, pS]
  refine wpAnyH_ready (rs := [21]) (by kernel_rfl) (by simp) ?_
  refine (AllReadyH.cons rfl (fun K hK => ?_) AllReadyH.nil)
  go_simp
  refine (atlOf_any lo G q hh cB o6 k hkk _ HAT9x.out).mono ?_
  rintro e x21 ⟨y, rfl, hone, hown, h9⟩
  have HYL : Hid ((learnV vs xc)[(chainV k (learnV vs xc).length).toNat]? = some y.val) := Lib.hid (by rw [← HOV6.out, List.length_map]; exact hone)
  obtain ⟨bq, hbq⟩ : ∃ bq, bq = (y.ch == xc.ch) := ⟨_, rfl⟩
  have q9 : (y.ch == xc.ch) = bq := hbq.symm
  have HBQ := Lib.hid hbq
  have HC21 : Hid (Chg w x21 (fun i => i = q)) := Lib.hid (HC9.out.trans (Chg.of_below h9 _) (fun _ _ e => e))
  replace HAV := Lib.hid (HA9.out.below h9)
  have HA21 := HAV
  replace HXV := Lib.hid (HXV.out.below h9 HXV.out.lt)
  have HAT21 : Hid (∃ o', AtX x21 lo G q hh cB o' ∧ o'.map Cf.val = learnV vs xc) := Lib.hid ⟨o6, HAT9x.out.below h9, HOV6.out⟩
  have HS : x21.cell? ⟨g, 4, none⟩ = some (.pointer (some ⟨G, 0, none⟩)) ∧ x21.cell? ⟨g, 6, none⟩ = some (.int .u32 (k : Int)) ∧ x21.cell? ⟨w.heap.size, 17, none⟩ = some (.int .i64 xc.ch) ∧ True ∧ x21.rangeAt w.heap.size 17 xc.row := ⟨HAV.out.box.cell 4, (HAV.out.box.cell 6).trans (by rw [← HKK.out]; rfl), x17c.out _ HXV.out, trivial, HRG.out _ HXV.out⟩
  clear h9 hone hown hbq
  refine hK.out _ _ ?_ (fun hHeld => ?_)
  ·first | exact HS | go_keep
  clear hK K
  try simp only [Act.put, pS]
  refine tkT 22 rfl (v := ?_) ?_ ?_
  rotate_left 1
  ·(intro wq hSw; (try dsimp only at hSw); go_simp; (try with_reducible rfl))
  try simp only [Act.put, pS]
  refine tkT 26 rfl (v := ?_) ?_ ?_
  rotate_left 1
  ·(intro wq hSw; (try dsimp only at hSw); go_simp; (try with_reducible rfl))
  try simp only [Act.put, pS]
  refine tkT 27 rfl (v := ?_) ?_ ?_
  rotate_left 1
  ·(intro wq hSw; (try dsimp only at hSw); go_simp; (try with_reducible rfl))
  try simp only [Act.put, pS]
  refine wpAnyH_done (by kernel_rfl) ?_ _
  skip
  clear HS hHeld
  clear q9 hfd
  cases bq
  ·have hnow : ¬ AskNow vs k c xc := fun e => by
    obtain ⟨v, h1, h2⟩ := e.2.2
    rw [HYL.out] at h1
    injection h1 with h1
    rw [← h1] at h2
    have h2 : y.ch = xc.ch := h2
    have := HBQ.out
    rw [h2] at this
    simp at this
   have HNOW := Lib.hid hnow
   clear hnow
   go_wp2_with (fail)
   go_ret
   rw [← HXCE.out]
   exact ⟨HA21.out, HAT21.out, HC21.out, .inr ⟨HNOW.out, rfl⟩⟩
  have HNOW : Hid (AskNow vs k c xc) := Lib.hid ⟨HIS.out.symm, HST.out, y.val, HYL.out, by have := HBQ.out; show y.ch = xc.ch; simpa using this.symm⟩
  have AS := Lib.hid (ask2_any lo g G h (learnV vs xc) c k x21 HA21.out HKK.out hkk (HKQ.out _ HC21.out) hcl hnum hn2 (HVS.out.learn HXCL.out HXE.out))
  go_wp2_with (fail)
  refine AS.out.mono ?_
  rintro e w9 ⟨qq, xx, rfl, hqq, hbk, hin, hnr, hof, hb9⟩
  have HA9x := Lib.hid (HA21.out.below hb9)
  have HC9x := Lib.hid (HC21.out.trans (Chg.of_below hb9 _) (fun _ _ e => e))
  have HAT9z : Hid (∃ o', AtX w9 lo G q hh cB o' ∧ o'.map Cf.val = learnV vs xc) := Lib.hid (by obtain ⟨o', h1, h2⟩ := HAT21.out; exact ⟨o', h1.below hb9, h2⟩)
  have hqw2 : w.heap.size ≤ qq := Nat.le_trans HC21.out.size hqq
  have HBK := Lib.hid hbk
  have HIN := Lib.hid hin
  have HNR := Lib.hid hnr
  have HOF := Lib.hid hof
  clear hb9 hbk hin hnr hof AS
  go_wp2_with (fail)
  go_ret
  rw [← HXCE.out]
  exact ⟨HA9x.out, HAT9z.out, HC9x.out, .inl ⟨HNOW.out, qq, xx, rfl, hqw2, HBK.out, HIN.out, HNR.out, HOF.out⟩⟩
end Go.Proofs.YtmpedblelnpjdaaGreatDoor
