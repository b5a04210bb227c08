/- letter.Check, given what its calls tell. -/
import Derived.Test.YtfcjkkjgedcgpaaGreatDoorLetG





namespace Go.Proofs.YtfcjkkjgedcgpaaGreatDoor
open Go.RowKit
set_option linter.unusedSimpArgs false
set_option linter.unusedVariables false
set_option maxHeartbeats 8000000
set_option maxRecDepth 100000

theorem mask12 (A : Option Addr) (c : Nat) : (uLt 12 A c).mask (partF 12 15) = uLt 12 A c := by kernel_rfl
theorem mask17 (A : Option Addr) (c : Nat) : (uLt 17 A c).mask (partF 17 15) = uLt 17 A c := by kernel_rfl
theorem known_any (k : Int) (w : World) (h0 : 1 ≤ k) (h1 : k ≤ 20) : Calls Tryz.prog 41 #[.int .i64 k] w fun e w' => e = .returned (.bool true) ∧ w = w' := by
  go_enter Tryz.func41, Tryz.ntmps41
  go_wp2
  go_ret
  exact ⟨rfl, rfl⟩
theorem node1_any (w : World) : Calls Tryz.prog 46 #[.int .i64 1] w fun e w' => e = .returned (.bool true) ∧ w = w' := by
  go_enter Tryz.func46, Tryz.ntmps46
  go_wp2
  go_ret
  exact ⟨rfl, rfl⟩
theorem address1_any (w : World) : Calls Tryz.prog 42 #[.int .i64 1] w fun e w' => e = .returned (.bool true) ∧ w = w' := by
  go_enter Tryz.func42, Tryz.ntmps42
  go_wp2_with (fail)
  refine (node1_any w).mono ?_
  rintro e w1 ⟨rfl, rfl⟩
  go_wp2_with (fail)
  go_ret
  exact ⟨rfl, rfl⟩
def chkR (b : Bool) : Int := if b then 0 else 4
theorem box_lt (l : Lt) (w : World) : (Instr.box 75 l.agg).run Tryz.prog w = .ok (.pointer (some ⟨w.heap.size, 0, none⟩)) (w.alloc (.cells l.cells 75)) := by
  kernel_rfl
theorem ltInfo : (Tryz.prog.info? 75).map (·.size) = some 25 := by kernel_rfl
theorem load_lt (l : Lt) (g : Nat) (w : World) (h : Blk w g 75 l.cells) : (loadVar 75 ⟨g, 0, none⟩).run Tryz.prog w = .ok l.agg w :=
  run_loadVar_row w g 75 75 l.cells (0, 0) _ h Tryz.underlying75 rfl ltInfo
theorem exec_load_row {P : Program} {ρ : Operand → Value} {o : Oper} {ty : TypeId} {x : Operand} (ho : o.op = .load ty x) (g : Nat) (hx : ρ x = .pointer (some ⟨g, 0, none⟩)) {L : Value} {w : World}
    (h : (loadVar ty ⟨g, 0, none⟩).run P w = .ok L w) : (execOp ρ o).run P w = .ok (.value L) w := by
  unfold execOp
  simp only [ho, hx, Instr.loadAt, Instr.sureAddr, Sem.run_bind, Sem.run_pure, Result.andThen_ok, h]
theorem bare_l (l : Lt) (k : Nat) (hk : k ≤ 20) (hkd : l.kd = k) (L : Value) (hL : L = l.agg) (w : World) (hK : KindsAt w) :
    Calls Tryz.prog 44 #[L] w fun e w' => e = .returned (l.mask (partF k 15)).agg ∧ Below w.heap.size w w' := by
  subst hL
  exact bare_any l k (by omega) hkd w hK
theorem check_of (l : Lt) (k : Nat) (hk1 : 1 ≤ k) (hk20 : k ≤ 20) (hkd : l.kd = k) (w : World) (hK : KindsAt w) (same : Bool)
    (hfa : ∀ W, Calls Tryz.prog 42 #[.int .i64 l.fr] W fun e w' => e = .returned (.bool true) ∧ W = w') (hta : ∀ W, Calls Tryz.prog 42 #[.int .i64 l.tw] W fun e w' => e = .returned (.bool true) ∧ W = w')
    (hsame : ∀ W, Below w.heap.size w W → Calls Tryz.prog 43 #[l.agg, (l.mask (partF k 15)).agg] W fun e W' => e = .returned (.bool same) ∧ Below W.heap.size W W')
    (fs : List Nat) (ok : Nat → Bool) (hparts : ∀ W, KindsAt W → Calls Tryz.prog 45 #[.int .i64 k] W fun e W' => ∃ v, e = .returned v ∧ PartsAt W fs v W')
    (hent : ∀ f ∈ fs, ∀ (args : Array Value) (w : World), (callFunc f args).run Tryz.prog w = .ok (.enter f args) w)
    (hfine : ∀ f ∈ fs, ∀ W, Below w.heap.size w W → Calls Tryz.prog f #[.agg l.cells] W fun e W' => e = .returned (.bool (ok f)) ∧ Below W.heap.size W W') (hlen : fs.length ≤ 100) :
    Calls Tryz.prog 39 #[l.agg] w fun e w' => e = .returned (.int .i64 (chkR (same && fs.all ok))) ∧ Below w.heap.size w w' := by
  have HP := Lib.hid hparts
  have HE := Lib.hid hent
  have HFN := Lib.hid hfine
  clear hparts hent hfine
  have HK := Lib.hid hK
  have HKD := Lib.hid hkd
  have HFA := Lib.hid hfa
  have HTA := Lib.hid hta
  have HS := Lib.hid hsame
  have hki1 : 1 ≤ (k : Int) := by omega
  have hki20 : (k : Int) ≤ 20 := by omega
  clear hK hfa hta hsame hkd
  show Calls Tryz.prog 39 #[.agg #[.int .i64 l.kd, .int .i64 l.fr, .int .i64 l.tw, .int .i64 l.ch, .int .u64 l.ep, .int .u64 l.bl, .int .u64 l.nu, .int .u64 l.sq, .int .u64 l.dz, .int .u64 l.vr, .int .i64 l.sl, .int .u32 l.ky, .int .i64 l.cd, .int .i64 l.qk, .int .i64 l.qc, .int .u64 l.qe, .int .i64 l.qn, .int .i64 l.fc, .int .u64 l.fe, .slice l.fA l.fn l.fp, .bool l.ff, .int .i64 l.fj, .slice l.vA l.vn l.vp, .slice l.uA l.un l.up, .slice l.dA l.dn l.dp]] w _
  go_enter Tryz.func39, Tryz.ntmps39
  go_upto_region 1 with (fail)
  obtain ⟨W0, hW0⟩ : ∃ W0, W0 = w.alloc (.cells #[.int .i64 l.kd, .int .i64 l.fr, .int .i64 l.tw, .int .i64 l.ch, .int .u64 l.ep, .int .u64 l.bl, .int .u64 l.nu, .int .u64 l.sq, .int .u64 l.dz, .int .u64 l.vr, .int .i64 l.sl, .int .u32 l.ky, .int .i64 l.cd, .int .i64 l.qk, .int .i64 l.qc, .int .u64 l.qe, .int .i64 l.qn, .int .i64 l.fc, .int .u64 l.fe, .slice l.fA l.fn l.fp, .bool l.ff, .int .i64 l.fj, .slice l.vA l.vn l.vp, .slice l.uA l.un l.up, .slice l.dA l.dn l.dp] 75) := ⟨_, rfl⟩
  rw [← hW0]
  obtain ⟨L, hL⟩ : ∃ L : Value, L = .agg #[.int .i64 l.kd, .int .i64 l.fr, .int .i64 l.tw, .int .i64 l.ch, .int .u64 l.ep, .int .u64 l.bl, .int .u64 l.nu, .int .u64 l.sq, .int .u64 l.dz, .int .u64 l.vr, .int .i64 l.sl, .int .u32 l.ky, .int .i64 l.cd, .int .i64 l.qk, .int .i64 l.qc, .int .u64 l.qe, .int .i64 l.qn, .int .i64 l.fc, .int .u64 l.fe, .slice l.fA l.fn l.fp, .bool l.ff, .int .i64 l.fj, .slice l.vA l.vn l.vp, .slice l.uA l.un l.up, .slice l.dA l.dn l.dp] := ⟨_, rfl⟩
  rw [← hL]
  have hb1 : Blk W0 w.heap.size 75 l.cells := by rw [hW0]; exact Blk.new w _ _
  have hLa : L = l.agg := hL
  have HBW : Hid (Below w.heap.size w W0) := Lib.hid (by rw [hW0]; exact (Below.refl _ _).alloc (Nat.le_refl _) _)
  have HBK := Lib.hid hb1
  have HLA := Lib.hid hLa
  have x0 := (hb1.cell 0).trans (show _ = some (.int .i64 l.kd) from rfl)
  have x1 := (hb1.cell 1).trans (show _ = some (.int .i64 l.fr) from rfl)
  have x2 := (hb1.cell 2).trans (show _ = some (.int .i64 l.tw) from rfl)
  rw [HKD.out] at x0
  have l1 := hb1.lt
  clear hW0 hb1 hL hLa
  go_wp2_with (fail)
  refine (known_any k W0 hki1 hki20).mono ?_
  rintro e w1 ⟨rfl, rfl⟩
  go_wp2_with (fail)
  have hLD : ∀ wq, Blk wq w.heap.size 75 l.cells → (loadVar 75 ⟨w.heap.size, 0, none⟩).run Tryz.prog wq = .ok L wq := fun wq h => by rw [HLA.out]; exact load_lt l _ wq h
  have HB0 : Hid (Below W0.heap.size W0 W0) := Lib.hid (Below.refl _ _)
  have HKW : Hid (∀ W, Below w.heap.size w W → KindsAt W) := Lib.hid (fun W h => HK.out.below h)
  have hB := HBK.out
  have CB := Lib.hid (bare_l l k hk20 HKD.out L HLA.out W0.drew (HKW.out _ (HBW.out.drew)))
  refine wp_region_held_drew (S := fun w' => w'.cell? ⟨w.heap.size, 1, none⟩ = some (.int .i64 l.fr) ∧ w'.cell? ⟨w.heap.size, 2, none⟩ = some (.int .i64 l.tw) ∧ Blk w' w.heap.size 75 l.cells) (by kernel_rfl) ⟨x1, x2, hB⟩ (fun hHeld => ?_)
  refine wpAnyH_take (i := 0) (oi := _) (v := ?_) rfl (by kernel_rfl) (by kernel_rfl) (by kernel_rfl) (fun _ _ _ h => h) (Or.inl ⟨by rfl, ?_⟩) (by assumption) ?_
  rotate_left 1
  · (intro wq hSw; (try dsimp only at hSw); go_simp; (try with_reducible rfl))
  try simp only [Act.put, List.setIfInBounds_toArray, List.set_cons_zero, List.set_cons_succ, List.getElem_toArray, List.getElem_cons_zero, List.getElem_cons_succ]
  refine wpAnyH_take (i := 1) (oi := _) (v := ?_) rfl (by kernel_rfl) (by kernel_rfl) (by kernel_rfl) (fun _ _ _ h => h) (Or.inl ⟨by rfl, ?_⟩) (by assumption) ?_
  rotate_left 1
  · (intro wq hSw; (try dsimp only at hSw); go_simp; (try with_reducible rfl))
  try simp only [Act.put, List.setIfInBounds_toArray, List.set_cons_zero, List.set_cons_succ, List.getElem_toArray, List.getElem_cons_zero, List.getElem_cons_succ]
  refine wpAnyH_ready (rs := [2]) (by kernel_rfl) (by simp) ?_
  refine AllReadyH.cons (o := _) rfl (fun K hK => ?_) AllReadyH.nil
  go_simp
  refine (HFA.out _).mono ?_; rintro e w9 ⟨rfl, rfl⟩
  (try go_simp)
  refine hK.out _ _ ?_ (fun hHeld => ?_)
  · go_keep
  clear hK K
  try simp only [Act.put, List.setIfInBounds_toArray, List.set_cons_zero, List.set_cons_succ, List.getElem_toArray, List.getElem_cons_zero, List.getElem_cons_succ]
  refine wpAnyH_take (i := 3) (oi := _) (v := ?_) rfl (by kernel_rfl) (by kernel_rfl) (by kernel_rfl) (fun _ _ _ h => h) (Or.inl ⟨by rfl, ?_⟩) (by assumption) ?_
  rotate_left 1
  · (intro wq hSw; (try dsimp only at hSw); go_simp; (try with_reducible rfl))
  try simp only [Act.put, List.setIfInBounds_toArray, List.set_cons_zero, List.set_cons_succ, List.getElem_toArray, List.getElem_cons_zero, List.getElem_cons_succ]
  refine wpAnyH_take (i := 4) (oi := _) (v := ?_) rfl (by kernel_rfl) (by kernel_rfl) (by kernel_rfl) (fun _ _ _ h => h) (Or.inl ⟨by rfl, ?_⟩) (by assumption) ?_
  rotate_left 1
  · (intro wq hSw; (try dsimp only at hSw); go_simp; (try with_reducible rfl))
  try simp only [Act.put, List.setIfInBounds_toArray, List.set_cons_zero, List.set_cons_succ, List.getElem_toArray, List.getElem_cons_zero, List.getElem_cons_succ]
  refine wpAnyH_take (i := 5) (oi := _) (v := ?_) rfl (by kernel_rfl) (by kernel_rfl) (by kernel_rfl) (fun _ _ _ h => h) (Or.inl ⟨by rfl, ?_⟩) (by assumption) ?_
  rotate_left 1
  · (intro wq hSw; (try dsimp only at hSw); go_simp; (try with_reducible rfl))
  try simp only [Act.put, List.setIfInBounds_toArray, List.set_cons_zero, List.set_cons_succ, List.getElem_toArray, List.getElem_cons_zero, List.getElem_cons_succ]
  refine wpAnyH_take (i := 6) (oi := _) (v := ?_) rfl (by kernel_rfl) (by kernel_rfl) (by kernel_rfl) (fun _ _ _ h => h) (Or.inl ⟨by rfl, ?_⟩) (by assumption) ?_
  rotate_left 1
  · (intro wq hSw; (try dsimp only at hSw); go_simp; (try with_reducible rfl))
  try simp only [Act.put, List.setIfInBounds_toArray, List.set_cons_zero, List.set_cons_succ, List.getElem_toArray, List.getElem_cons_zero, List.getElem_cons_succ]
  refine wpAnyH_ready (rs := [7]) (by kernel_rfl) (by simp) ?_
  refine AllReadyH.cons (o := _) rfl (fun K hK => ?_) AllReadyH.nil
  go_simp
  refine (HTA.out _).mono ?_; rintro e w9 ⟨rfl, rfl⟩
  (try go_simp)
  refine hK.out _ _ ?_ (fun hHeld => ?_)
  · go_keep
  clear hK K
  try simp only [Act.put, List.setIfInBounds_toArray, List.set_cons_zero, List.set_cons_succ, List.getElem_toArray, List.getElem_cons_zero, List.getElem_cons_succ]
  refine wpAnyH_take (i := 8) (oi := _) (v := ?_) rfl (by kernel_rfl) (by kernel_rfl) (by kernel_rfl) (fun _ _ _ h => h) (Or.inl ⟨by rfl, ?_⟩) (by assumption) ?_
  rotate_left 1
  · (intro wq hSw; (try dsimp only at hSw); go_simp; (try with_reducible rfl))
  try simp only [Act.put, List.setIfInBounds_toArray, List.set_cons_zero, List.set_cons_succ, List.getElem_toArray, List.getElem_cons_zero, List.getElem_cons_succ]
  refine wpAnyH_take (i := 9) (oi := _) (v := ?_) rfl (by kernel_rfl) (by kernel_rfl) (by kernel_rfl) (fun _ _ _ h => h) (Or.inl ⟨by rfl, ?_⟩) (by assumption) ?_
  rotate_left 1
  · (intro wq hSw; (try dsimp only at hSw); go_simp; (try with_reducible rfl))
  try simp only [Act.put, List.setIfInBounds_toArray, List.set_cons_zero, List.set_cons_succ, List.getElem_toArray, List.getElem_cons_zero, List.getElem_cons_succ]
  refine wpAnyH_take (i := 10) (oi := _) (v := ?_) rfl (by kernel_rfl) (by kernel_rfl) (by kernel_rfl) (fun _ _ _ h => h) (Or.inl ⟨by rfl, ?_⟩) (by assumption) ?_
  rotate_left 1
  · (intro wq hSw; (try dsimp only at hSw); go_simp; (try with_reducible rfl))
  try simp only [Act.put, List.setIfInBounds_toArray, List.set_cons_zero, List.set_cons_succ, List.getElem_toArray, List.getElem_cons_zero, List.getElem_cons_succ]
  refine wpAnyH_take (i := 11) (oi := _) (v := L) rfl (by kernel_rfl) (by kernel_rfl) (by kernel_rfl) (fun _ _ _ h => h) (Or.inl ⟨by rfl, ?_⟩) (by assumption) ?_
  · exact fun wq hSw => exec_load_row rfl _ rfl (hLD wq hSw.2.2)
  try simp only [Act.put, List.setIfInBounds_toArray, List.set_cons_zero, List.set_cons_succ, List.getElem_toArray, List.getElem_cons_zero, List.getElem_cons_succ]
  refine wpAnyH_take (i := 12) (oi := _) (v := L) rfl (by kernel_rfl) (by kernel_rfl) (by kernel_rfl) (fun _ _ _ h => h) (Or.inl ⟨by rfl, ?_⟩) (by assumption) ?_
  · exact fun wq hSw => exec_load_row rfl _ rfl (hLD wq hSw.2.2)
  try simp only [Act.put, List.setIfInBounds_toArray, List.set_cons_zero, List.set_cons_succ, List.getElem_toArray, List.getElem_cons_zero, List.getElem_cons_succ]
  refine wpAnyH_ready (rs := [13]) (by kernel_rfl) (by simp) ?_
  refine AllReadyH.cons (o := _) rfl (fun K hK => ?_) AllReadyH.nil
  go_simp
  clear hLD; refine CB.out.mono ?_; rintro e w9 ⟨rfl, h9⟩; replace x1 := (h9.cell (p := ⟨w.heap.size, 1, none⟩) l1).trans x1; replace x2 := (h9.cell (p := ⟨w.heap.size, 2, none⟩) l1).trans x2; replace hB := hB.drew.below h9 l1; have l9 := Nat.lt_of_lt_of_le l1 h9.size; have hBX := Lib.hid (HBW.out.drew.trans (h9.mono HBW.out.size)); clear h9
  (try go_simp)
  refine hK.out _ _ ?_ (fun hHeld => ?_)
  · go_keep
  clear hK K
  try simp only [Act.put, List.setIfInBounds_toArray, List.set_cons_zero, List.set_cons_succ, List.getElem_toArray, List.getElem_cons_zero, List.getElem_cons_succ]
  refine wpAnyH_ready (rs := [14]) (by kernel_rfl) (by simp) ?_
  refine AllReadyH.cons (o := _) rfl (fun K hK => ?_) AllReadyH.nil
  go_simp
  (have h7 := HS.out _ hBX.out; rw [← HLA.out] at h7; refine h7.mono ?_; clear h7); rintro e w10 ⟨rfl, h9⟩; replace x1 := (h9.cell (p := ⟨w.heap.size, 1, none⟩) l9).trans x1; replace x2 := (h9.cell (p := ⟨w.heap.size, 2, none⟩) l9).trans x2; replace hB := hB.below h9 l9; have hBY := Lib.hid (hBX.out.trans (h9.mono hBX.out.size)); clear h9
  (try go_simp)
  refine hK.out _ _ ?_ (fun hHeld => ?_)
  · go_keep
  clear hK K
  try simp only [Act.put, List.setIfInBounds_toArray, List.set_cons_zero, List.set_cons_succ, List.getElem_toArray, List.getElem_cons_zero, List.getElem_cons_succ]
  refine wpAnyH_take (i := 15) (oi := _) (v := ?_) rfl (by kernel_rfl) (by kernel_rfl) (by kernel_rfl) (fun _ _ _ h => h) (Or.inl ⟨by rfl, ?_⟩) (by assumption) ?_
  rotate_left 1
  · (intro wq hSw; (try dsimp only at hSw); go_simp; (try with_reducible rfl))
  try simp only [Act.put, List.setIfInBounds_toArray, List.set_cons_zero, List.set_cons_succ, List.getElem_toArray, List.getElem_cons_zero, List.getElem_cons_succ]
  refine wpAnyH_take (i := 16) (oi := _) (v := ?_) rfl (by kernel_rfl) (by kernel_rfl) (by kernel_rfl) (fun _ _ _ h => h) (Or.inl ⟨by rfl, ?_⟩) (by assumption) ?_
  rotate_left 1
  · (intro wq hSw; (try dsimp only at hSw); go_simp; (try with_reducible rfl))
  try simp only [Act.put, List.setIfInBounds_toArray, List.set_cons_zero, List.set_cons_succ, List.getElem_toArray, List.getElem_cons_zero, List.getElem_cons_succ]
  refine wpAnyH_done (by kernel_rfl) ?_ _
  clear hHeld
  have x0 := (hB.cell 0).trans (show _ = some (.int .i64 l.kd) from rfl)
  rw [HKD.out] at x0
  have HB := Lib.hid hB
  clear hB hBX x1 x2 l9
  have CP := Lib.hid (HP.out w10 (HKW.out _ hBY.out))
  cases same with
  | false =>
    go_wp2_with (fail)
    go_ret
    exact ⟨rfl, hBY.out⟩
  | true =>
    go_wp2_with (fail)
    refine CP.out.mono ?_
    rintro e w11 ⟨v, rfl, hp⟩
    obtain ⟨ps, hps, hown⟩ := hp.ex
    obtain ⟨A, c, rfl, hrd, _, _⟩ := own_slice hown
    have HPS := Lib.hid hps
    have HRD := Lib.hid hrd
    have HB11 := Lib.hid (hBY.out.trans (hp.bel.mono hBY.out.size))
    have hpl : ps.length = fs.length := by have h1 := congrArg List.length hps; rwa [List.length_map] at h1
    have HBL := Lib.hid (HB.out.below hp.bel HB.out.lt)
    have HBW0 : Hid (Below w11.heap.size w11 w11) := Lib.hid (Below.refl _ _)
    have hpl2 : ps.length ≤ 100 := by omega
    have HPL := Lib.hid hpl
    clear x0 hps hown hrd hp CP hpl
    go_wp2_with (fail)
    go_loopw [30] (fun iv wr => ∃ j : Nat, j ≤ ps.length ∧ iv = .int .i64 j ∧ Hid (∀ (i f : Nat), i < j → fs[i]? = some f → ok f = true) ∧ Hid (Below w11.heap.size w11 wr)) (fun iv _ => ps.length - (intOf iv).toNat)
    case atStart => exact ⟨0, Nat.zero_le _, rfl, Lib.hid (fun i f h => absurd h (by omega)), HBW0⟩
    case round =>
      clear HBW0
      obtain ⟨j, hj, rfl, HO, HBr⟩ := hrel
      by_cases hlt : j < ps.length
      · have hltZ : (j : Int) < ps.length := by omega
        obtain ⟨b, o, p, rfl, hb, hp, hc⟩ := reads_at Pt.row (fun _ => rfl) (by omega) (HRD.out.below HBr.out) hlt
        have q0 := hc 0 _ rfl
        have q1 := hc 1 _ rfl
        have q2 := hc 2 _ rfl
        have hpf : p.f ∈ fs := by rw [← HPS.out]; exact List.mem_map.2 ⟨p, List.mem_of_getElem? hp, rfl⟩
        have hfj : fs[j]? = some p.f := by rw [← HPS.out, List.getElem?_map, hp]; rfl
        have hent := HE.out p.f hpf
        have hbw : b < wr.heap.size := Nat.lt_of_lt_of_le hb HBr.out.size
        have HMEM := Lib.hid hpf
        have HFJ := Lib.hid hfj
        have HBA : Hid (Below w11.heap.size w11 (wr.alloc (.cells #[.func (.func p.f) #[] #[], .func p.a #[] p.x, .func p.b #[] p.y] 85))) := Lib.hid (HBr.out.alloc HBr.out.size _)
        have HBC := Lib.hid (HBL.out.below HBA.out HBL.out.lt)
        have CF := Lib.hid (HFN.out p.f hpf _ (HB11.out.trans (HBA.out.mono HB11.out.size)))
        clear hc hp hpf hfj hb
        simp only [Nat.add_zero] at q0 q1 q2
        go_upto_region 8 with (fail)
        iterate 7 go_step
        refine wpList_load_row rfl 75 (.tmp 1) rfl w.heap.size rfl 75 l.cells (0, 0) _ HBC.out Tryz.underlying75 rfl ltInfo ?_
        go_wp2_with (fail)
        refine CF.out.mono ?_
        rintro e w2 ⟨rfl, h2⟩
        have HB2 := Lib.hid (HBA.out.trans (h2.mono HBA.out.size))
        clear h2 q0 q1 q2
        cases hv : ok p.f with
        | true =>
          have HV := Lib.hid hv
          clear hv
          go_wp2_with (fail)
          go_roundw
          case rel =>
            exact ⟨j + 1, hlt, by simp, Lib.hid (fun i f hi hf => by
              by_cases hij : i < j
              · exact HO.out i f hij hf
              · obtain rfl : i = j := by omega
                rw [HFJ.out] at hf
                injection hf with hf
                subst hf
                exact HV.out), HB2⟩
          case measure => simp [intOf]; omega
        | false =>
          have HV := Lib.hid hv
          clear hv
          go_wp2_with (fail)
          go_ret
          refine ⟨?_, HB11.out.trans (HB2.out.mono HB11.out.size)⟩
          have : fs.all ok = false := by
            rw [List.all_eq_false]
            exact ⟨p.f, HMEM.out, by rw [HV.out]; simp⟩
          rw [this]; rfl
      · have hltZ : ¬ (j : Int) < ps.length := by omega
        have hje : j = ps.length := by omega
        have HJ := Lib.hid hje
        clear hje
        go_wp2_with (fail)
        go_ret
        refine ⟨?_, HB11.out.trans (HBr.out.mono HB11.out.size)⟩
        have : fs.all ok = true := by
          rw [List.all_eq_true]
          intro f hf
          obtain ⟨i, hi⟩ := List.getElem?_of_mem hf
          have hil : i < fs.length := (List.getElem?_eq_some_iff.1 hi).1
          exact HO.out i f (by rw [HJ.out, HPL.out]; exact hil) hi
        rw [this]; rfl
end Go.Proofs.YtfcjkkjgedcgpaaGreatDoor
