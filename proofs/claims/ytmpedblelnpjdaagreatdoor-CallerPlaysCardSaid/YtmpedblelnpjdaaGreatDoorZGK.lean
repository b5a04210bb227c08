/- GK: CdF CdG CdH -/
import Derived.Test.YtmpedblelnpjdaaGreatDoorZGI
import Derived.Test.YtmpedblelnpjdaaGreatDoorZTk
import Derived.Test.YtmpedblelnpjdaaGreatDoorZGH
/- letter.Check, given what its calls tell. -/
namespace Go.Proofs.YtmpedblelnpjdaaGreatDoor
open Go.RowKit
set_option linter.unusedSimpArgs false
set_option linter.unusedVariables false
set_option maxHeartbeats 8000000
set_option maxRecDepth 100000
def chkR (b : Bool) : Int := if b then 0 else 4
theorem load_lt (l : Lt) (g : Nat) (w : World) (h : Blk w g 37 l.cells) : (loadVar 37 ⟨g, 0, none⟩).run Tryz.prog w = .ok l.agg w :=
 run_loadVar_row w g 37 37 l.cells (0, 0) _ h Tryz.underlying37 rfl ltInfo
theorem exec_load_row {P : Program} {ρ : Operand → Value} {o : Oper} {ty : TypeId} {x : Operand} (ho : o.op = .load ty x) (g : Nat) (hx : ρ x = .pointer (some ⟨g, 0, none⟩)) {L : Value} {w : World}
  (h : (loadVar ty ⟨g, 0, none⟩).run P w = .ok L w) : (execOp ρ o).run P w = .ok (.value L) w := by
 unfold execOp
 simp only [ho, hx, Instr.loadAt, Instr.sureAddr, Sem.run_bind, Sem.run_pure, Result.andThen_ok, h]
theorem bare_l (l : Lt) (k : Nat) (hk : k ≤ 20) (hkd : l.kd = k) (L : Value) (hL : L = l.agg) (w : World) (hK : KindsAt w) :
  Calls Tryz.prog 119 #[L] w fun e w' => e = .returned (l.mask (partF k 15)).agg ∧ Below w.heap.size w w' := by
 subst hL
 exact bare_any l k (by omega) hkd w hK
def FineC (B : Nat) (Good : World → Prop) (L : Value) (i : Nat) (b : Bool) : Prop :=
 ∀ (p : Pm) (W0 : World), PartM W0 i p → ∃ fid, p.f = .func fid ∧ (∀ (args : Array Value) (w : World), (callFunc fid args).run Tryz.prog w = .ok (.enter fid args) w) ∧
  ∀ W, Good W → B ≤ W.heap.size → Calls Tryz.prog fid #[L] W fun e W' => e = .returned (.bool b) ∧ Below W.heap.size W W'
theorem checkT_of (l : Lt) (k : Nat) (hk1 : 1 ≤ k) (hk20 : k ≤ 20) (hkd : l.kd = k) (w : World) (hK : KindsAt w) (same : Bool)
  (hfa : ∀ W, Calls Tryz.prog 117 #[.int .i64 l.fr] W fun e w' => e = .returned (.bool true) ∧ W = w') (hta : ∀ W, Calls Tryz.prog 117 #[.int .i64 l.tw] W fun e w' => e = .returned (.bool true) ∧ W = w')
  (hsame : ∀ W, Below w.heap.size w W → Calls Tryz.prog 118 #[l.agg, (l.mask (partF k 15)).agg] W fun e W' => e = .returned (.bool same) ∧ Below W.heap.size W W')
  (Good : World → Prop) (hG : ∀ W, Below w.heap.size w W → Good W) (ok : Nat → Bool) (hfine : ∀ i ∈ partsI k, FineC w.heap.size Good (.agg l.cells) i (ok i)) (hlen : (partsI k).length ≤ 100) :
  Calls Tryz.prog 49 #[l.agg] w fun e w' => e = .returned (.int .i64 (chkR (same && (partsI k).all ok))) ∧ Below w.heap.size w w' := by
 have HP := Lib.hid (fun W (h : KindsAt W) => partsAll_any k (by omega) W h)
 have HFN := Lib.hid hfine
 have HGD := Lib.hid hG
 clear hfine hG
 generalize partsI k = fs at *
 have HK := Lib.hid hK
 have HKD := Lib.hid hkd
 have HFA := Lib.hid hfa
 have HTA := Lib.hid hta
 have HS := Lib.hid hsame
 have hki1 : 1 ≤ (k : Int) := by omega
 have hki20 : (k : Int) ≤ 20 := by omega
 clear hK hfa hta hsame hkd
 show Calls Tryz.prog 49 #[.agg #[.int .i64 l.kd, .int .i64 l.fr, .int .i64 l.tw, .int .i64 l.ch, .int .u64 l.ep, .int .u64 l.bl, .int .u64 l.nu, .int .u64 l.sq, .int .u64 l.dz, .int .u64 l.vr, .int .i64 l.sl, .int .u32 l.ky, .int .i64 l.cd, .int .i64 l.qk, .int .i64 l.qc, .int .u64 l.qe, .int .i64 l.qn, .int .i64 l.fc, .int .u64 l.fe, .slice l.fA l.fn l.fp, .bool l.ff, .int .i64 l.fj, .slice l.vA l.vn l.vp, .slice l.uA l.un l.up, .slice l.dA l.dn l.dp]] w _
 go_enter Tryz.func49, Tryz.ntmps49
 go_upto_region 1 with (fail)
 obtain ⟨W0, hW0⟩ : ∃ W0, W0 = w.alloc (.cells #[.int .i64 l.kd, .int .i64 l.fr, .int .i64 l.tw, .int .i64 l.ch, .int .u64 l.ep, .int .u64 l.bl, .int .u64 l.nu, .int .u64 l.sq, .int .u64 l.dz, .int .u64 l.vr, .int .i64 l.sl, .int .u32 l.ky, .int .i64 l.cd, .int .i64 l.qk, .int .i64 l.qc, .int .u64 l.qe, .int .i64 l.qn, .int .i64 l.fc, .int .u64 l.fe, .slice l.fA l.fn l.fp, .bool l.ff, .int .i64 l.fj, .slice l.vA l.vn l.vp, .slice l.uA l.un l.up, .slice l.dA l.dn l.dp] 37) := ⟨_, rfl⟩
 rw [← hW0]
 obtain ⟨L, hL⟩ : ∃ L : Value, L = .agg #[.int .i64 l.kd, .int .i64 l.fr, .int .i64 l.tw, .int .i64 l.ch, .int .u64 l.ep, .int .u64 l.bl, .int .u64 l.nu, .int .u64 l.sq, .int .u64 l.dz, .int .u64 l.vr, .int .i64 l.sl, .int .u32 l.ky, .int .i64 l.cd, .int .i64 l.qk, .int .i64 l.qc, .int .u64 l.qe, .int .i64 l.qn, .int .i64 l.fc, .int .u64 l.fe, .slice l.fA l.fn l.fp, .bool l.ff, .int .i64 l.fj, .slice l.vA l.vn l.vp, .slice l.uA l.un l.up, .slice l.dA l.dn l.dp] := ⟨_, rfl⟩
 rw [← hL]
 have hb1 : Blk W0 w.heap.size 37 l.cells := by rw [hW0]; exact Blk.new w _ _
 have hLa : L = l.agg := hL
 have HBW : Hid (Below w.heap.size w W0) := Lib.hid (by rw [hW0]; exact (Below.refl _ _).alloc (Nat.le_refl _) _)
 have HBK := Lib.hid hb1
 have HLA := Lib.hid hLa
 have x0 := (hb1.cell 0).trans (show _ = some (.int .i64 l.kd) from rfl)
 have x1 := (hb1.cell 1).trans (show _ = some (.int .i64 l.fr) from rfl)
 have x2 := (hb1.cell 2).trans (show _ = some (.int .i64 l.tw) from rfl)
 rw [HKD.out] at x0
 have l1 := hb1.lt
 clear hW0 hb1 hL hLa
 go_wp2_with (fail)
 refine (known_yes k W0 hki1 hki20).mono ?_
 rintro e w1 ⟨rfl, rfl⟩
 go_wp2_with (fail)
 have hLD : ∀ wq, Blk wq w.heap.size 37 l.cells → (loadVar 37 ⟨w.heap.size, 0, none⟩).run Tryz.prog wq = .ok L wq := fun wq h => by rw [HLA.out]; exact load_lt l _ wq h
 have HB0 : Hid (Below W0.heap.size W0 W0) := Lib.hid (Below.refl _ _)
 have HKW : Hid (∀ W, Below w.heap.size w W → KindsAt W) := Lib.hid (fun W h => HK.out.below h)
 have hB := HBK.out
 have CB := Lib.hid (bare_l l k hk20 HKD.out L HLA.out W0.drew (HKW.out _ (HBW.out.drew)))
 refine wp_region_held_drew (S := fun w' => w'.cell? ⟨w.heap.size, 1, none⟩ = some (.int .i64 l.fr) ∧ w'.cell? ⟨w.heap.size, 2, none⟩ = some (.int .i64 l.tw) ∧ Blk w' w.heap.size 37 l.cells) (by kernel_rfl) ⟨x1, x2, hB⟩ (fun hHeld => ?_)
 refine tkV 0 rfl ?_
 try simp only [Act.put, pS]
 refine tkV 1 rfl ?_
 try simp only [Act.put, pS]
 refine wpAnyH_ready (rs := [2]) (by kernel_rfl) (by simp) ?_
 refine AllReadyH.cons (o := _) rfl (fun K hK => ?_) AllReadyH.nil
 go_simp
 refine (HFA.out _).mono ?_; rintro e w9 ⟨rfl, rfl⟩
 (try go_simp)
 refine hK.out _ _ ?_ (fun hHeld => ?_)
 ·go_keep
 clear hK K
 try simp only [Act.put, pS]
 refine tkV 3 rfl ?_
 try simp only [Act.put, pS]
 refine tkV 4 rfl ?_
 try simp only [Act.put, pS]
 refine tkV 5 rfl ?_
 try simp only [Act.put, pS]
 refine tkV 6 rfl ?_
 try simp only [Act.put, pS]
 refine wpAnyH_ready (rs := [7]) (by kernel_rfl) (by simp) ?_
 refine AllReadyH.cons (o := _) rfl (fun K hK => ?_) AllReadyH.nil
 go_simp
 refine (HTA.out _).mono ?_; rintro e w9 ⟨rfl, rfl⟩
 (try go_simp)
 refine hK.out _ _ ?_ (fun hHeld => ?_)
 ·go_keep
 clear hK K
 try simp only [Act.put, pS]
 refine tkV 8 rfl ?_
 try simp only [Act.put, pS]
 refine tkV 9 rfl ?_
 try simp only [Act.put, pS]
 refine tkV 10 rfl ?_
 try simp only [Act.put, pS]
 refine tkT 11 rfl (v := L) ?_ ?_
 ·exact fun wq hSw => exec_load_row rfl _ rfl (hLD wq hSw.2.2)
 try simp only [Act.put, pS]
 refine tkT 12 rfl (v := L) ?_ ?_
 ·exact fun wq hSw => exec_load_row rfl _ rfl (hLD wq hSw.2.2)
 try simp only [Act.put, pS]
 refine wpAnyH_ready (rs := [13]) (by kernel_rfl) (by simp) ?_
 refine AllReadyH.cons (o := _) rfl (fun K hK => ?_) AllReadyH.nil
 go_simp
 clear hLD; refine CB.out.mono ?_; rintro e w9 ⟨rfl, h9⟩; replace x1 := (h9.cell (p := ⟨w.heap.size, 1, none⟩) l1).trans x1; replace x2 := (h9.cell (p := ⟨w.heap.size, 2, none⟩) l1).trans x2; replace hB := hB.drew.below h9 l1; have l9 := Nat.lt_of_lt_of_le l1 h9.size; have hBX := Lib.hid (HBW.out.drew.trans (h9.mono HBW.out.size)); clear h9
 (try go_simp)
 refine hK.out _ _ ?_ (fun hHeld => ?_)
 ·go_keep
 clear hK K
 try simp only [Act.put, pS]
 refine wpAnyH_ready (rs := [14]) (by kernel_rfl) (by simp) ?_
 refine AllReadyH.cons (o := _) rfl (fun K hK => ?_) AllReadyH.nil
 go_simp
 (have h7 := HS.out _ hBX.out; rw [← HLA.out] at h7; refine h7.mono ?_; clear h7); rintro e w10 ⟨rfl, h9⟩; replace x1 := (h9.cell (p := ⟨w.heap.size, 1, none⟩) l9).trans x1; replace x2 := (h9.cell (p := ⟨w.heap.size, 2, none⟩) l9).trans x2; replace hB := hB.below h9 l9; have hBY := Lib.hid (hBX.out.trans (h9.mono hBX.out.size)); clear h9
 (try go_simp)
 refine hK.out _ _ ?_ (fun hHeld => ?_)
 ·go_keep
 clear hK K
 try simp only [Act.put, pS]
 refine tkV 15 rfl ?_
 try simp only [Act.put, pS]
 refine tkV 16 rfl ?_
 try simp only [Act.put, pS]
 refine wpAnyH_done (by kernel_rfl) ?_ _
 clear hHeld
 have x0 := (hB.cell 0).trans (show _ = some (.int .i64 l.kd) from rfl)
 rw [HKD.out] at x0
 have HB := Lib.hid hB
 clear hB hBX x1 x2 l9
 have CP := Lib.hid (HP.out w10 (HKW.out _ hBY.out))
 cases same with
 | false =>
  go_wp2_with (fail)
  go_ret
  exact ⟨rfl, hBY.out⟩
 | true =>
  go_wp2_with (fail)
  refine CP.out.mono ?_
  rintro e w11 ⟨v, rfl, hp⟩
  obtain ⟨ps, hpl, hpm, hown⟩ := hp.ex
  obtain ⟨A, c, rfl, hrd, _, _⟩ := own_slice hown
  have HPM := Lib.hid hpm
  have HRD := Lib.hid hrd
  have HB11 := Lib.hid (hBY.out.trans (hp.bel.mono hBY.out.size))
  have HBL := Lib.hid (HB.out.below hp.bel HB.out.lt)
  have HBW0 : Hid (Below w11.heap.size w11 w11) := Lib.hid (Below.refl _ _)
  have hpl2 : ps.length ≤ 100 := by omega
  have HPL := Lib.hid hpl
  clear x0 hpm hown hrd hp CP hpl
  go_wp2_with (fail)
  go_loopw [30] (fun iv wr => ∃ j : Nat, j ≤ ps.length ∧ iv = .int .i64 j ∧ Hid (∀ (i f : Nat), i < j → fs[i]? = some f → ok f = true) ∧ Hid (Below w11.heap.size w11 wr)) (fun iv _ => ps.length - (intOf iv).toNat)
  case atStart => exact ⟨0, Nat.zero_le _, rfl, Lib.hid (fun i f h => absurd h (by omega)), HBW0⟩
  case round =>
   clear HBW0
   obtain ⟨j, hj, rfl, HO, HBr⟩ := hrel
   by_cases hlt : j < ps.length
   ·have hltZ : (j : Int) < ps.length := by omega
    obtain ⟨b, o, p, rfl, hb, hp, hc⟩ := reads_at Pm.row (fun _ => rfl) (by omega) (HRD.out.below HBr.out) hlt
    have q0 := hc 0 _ rfl
    have q1 := hc 1 _ rfl
    have q2 := hc 2 _ rfl
    have hjl : j < fs.length := by have := HPL.out; omega
    obtain ⟨kk, hkk⟩ : ∃ kk, fs[j]? = some kk := ⟨_, List.getElem?_eq_getElem hjl⟩
    have hmem : kk ∈ fs := List.mem_of_getElem? hkk
    obtain ⟨fid, hfa, hent, hfin⟩ := HFN.out kk hmem p w11 (HPM.out j kk p hkk hp)
    obtain ⟨pf, pa, pb, px, py⟩ := p
    simp only at hfa
    subst hfa
    have HFJ := Lib.hid hkk
    have HMEM := Lib.hid hmem
    have hbw : b < wr.heap.size := Nat.lt_of_lt_of_le hb HBr.out.size
    have HBA : Hid (Below w11.heap.size w11 (wr.alloc (.cells #[.func (.func fid) #[] #[], .func pa #[] px, .func pb #[] py] 123))) := Lib.hid (HBr.out.alloc HBr.out.size _)
    have HBC := Lib.hid (HBL.out.below HBA.out HBL.out.lt)
    have hbw2 := HB11.out.trans (HBA.out.mono HB11.out.size)
    have CF := Lib.hid (hfin _ (HGD.out _ hbw2) hbw2.size)
    clear hc hp hkk hmem hb hfin hbw2 hjl
    simp only [Nat.add_zero] at q0 q1 q2
    go_upto_region 8 with (fail)
    iterate 7 go_step
    refine wpList_load_row rfl 37 (.tmp 1) rfl w.heap.size rfl 37 l.cells (0, 0) _ HBC.out Tryz.underlying37 rfl ltInfo ?_
    go_wp2_with (fail)
    refine CF.out.mono ?_
    rintro e w2 ⟨rfl, h2⟩
    have HB2 := Lib.hid (HBA.out.trans (h2.mono HBA.out.size))
    clear h2 q0 q1 q2
    cases hv : ok kk with
    | true =>
     have HV := Lib.hid hv
     clear hv
     go_wp2_with (fail)
     go_roundw
     case rel =>
      exact ⟨j + 1, hlt, by simp, Lib.hid (fun i f hi hf => by
       by_cases hij : i < j
       ·exact HO.out i f hij hf
       ·obtain rfl : i = j := by omega
        rw [HFJ.out] at hf
        injection hf with hf
        subst hf
        exact HV.out), HB2⟩
     case measure => simp [intOf]; omega
    | false =>
     have HV := Lib.hid hv
     clear hv
     go_wp2_with (fail)
     go_ret
     refine ⟨?_, HB11.out.trans (HB2.out.mono HB11.out.size)⟩
     have : fs.all ok = false := by
      rw [List.all_eq_false]
      exact ⟨kk, HMEM.out, by rw [HV.out]; simp⟩
     rw [this]; rfl
   ·have hltZ : ¬ (j : Int) < ps.length := by omega
    have hje : j = ps.length := by omega
    have HJ := Lib.hid hje
    clear hje
    go_wp2_with (fail)
    go_ret
    refine ⟨?_, HB11.out.trans (HBr.out.mono HB11.out.size)⟩
    have : fs.all ok = true := by
     rw [List.all_eq_true]
     intro f hf
     obtain ⟨i, hi⟩ := List.getElem?_of_mem hf
     have hil : i < fs.length := (List.getElem?_eq_some_iff.1 hi).1
     exact HO.out i f (by rw [HJ.out, HPL.out]; exact hil) hi
    rw [this]; rfl
end Go.Proofs.YtmpedblelnpjdaaGreatDoor
/- The numeric parts of a letter: what is put, read, demanded (printed by cdgen5.py). -/
namespace Go.Proofs.YtmpedblelnpjdaaGreatDoor
open Go.RowKit
set_option linter.unusedSimpArgs false
set_option linter.unusedVariables false
set_option maxHeartbeats 4000000
set_option maxRecDepth 100000
end Go.Proofs.YtmpedblelnpjdaaGreatDoor
/- Addresses; a letter with the parts of its kind alone, in memory. -/
namespace Go.Proofs.YtmpedblelnpjdaaGreatDoor
open Go.RowKit
set_option linter.unusedSimpArgs false
set_option linter.unusedVariables false
set_option maxHeartbeats 4000000
set_option maxRecDepth 100000
theorem node_any (a : Int) (w : World) : Calls Tryz.prog 78 #[.int .i64 a] w fun e w' => e = .returned (.bool (decide (1 ≤ a ∧ a ≤ 24))) ∧ w = w' := by
 by_cases h1 : 1 ≤ a <;> by_cases h2 : a ≤ 24
 all_goals
  go_enter Tryz.func78, Tryz.ntmps78
  go_wp2
  go_ret
  exact ⟨ret_bool (by simp [h1, h2]), rfl⟩
theorem master_any (a : Int) (w : World) : Calls Tryz.prog 200 #[.int .i64 a] w fun e w' => e = .returned (.bool (decide (100 < a ∧ a ≤ 105))) ∧ w = w' := by
 by_cases h1 : 100 < a <;> by_cases h2 : a ≤ 105
 all_goals
  go_enter Tryz.func200, Tryz.ntmps200
  go_wp2
  go_ret
  exact ⟨ret_bool (by simp [h1, h2]), rfl⟩
theorem client_any (a : Int) (w : World) : Calls Tryz.prog 201 #[.int .i64 a] w fun e w' => e = .returned (.bool (decide (200 < a ∧ a ≤ 206))) ∧ w = w' := by
 by_cases h1 : 200 < a <;> by_cases h2 : a ≤ 206
 all_goals
  go_enter Tryz.func201, Tryz.ntmps201
  go_wp2
  go_ret
  exact ⟨ret_bool (by simp [h1, h2]), rfl⟩
def addrB (a : Int) : Bool := decide (1 ≤ a ∧ a ≤ 24) || (decide (100 < a ∧ a ≤ 105) || decide (200 < a ∧ a ≤ 206))
theorem address_any (a : Int) (w : World) : Calls Tryz.prog 117 #[.int .i64 a] w fun e w' => e = .returned (.bool (addrB a)) ∧ w = w' := by
 have N := Lib.hid (node_any a w)
 have M := Lib.hid (master_any a w)
 have C := Lib.hid (client_any a w)
 unfold addrB
 generalize decide (1 ≤ a ∧ a ≤ 24) = b1 at *
 generalize decide (100 < a ∧ a ≤ 105) = b2 at *
 generalize decide (200 < a ∧ a ≤ 206) = b3 at *
 cases b1
 ·cases b2
  ·go_enter Tryz.func117, Tryz.ntmps117
   go_wp2_with (fail)
   refine N.out.mono ?_
   rintro e w1 ⟨rfl, rfl⟩
   go_wp2_with (fail)
   refine M.out.mono ?_
   rintro e w1 ⟨rfl, rfl⟩
   go_wp2_with (fail)
   refine C.out.mono ?_
   rintro e w1 ⟨rfl, rfl⟩
   go_wp2_with (fail)
   go_ret
   exact ⟨ret_bool (by simp), rfl⟩
  ·go_enter Tryz.func117, Tryz.ntmps117
   go_wp2_with (fail)
   refine N.out.mono ?_
   rintro e w1 ⟨rfl, rfl⟩
   go_wp2_with (fail)
   refine M.out.mono ?_
   rintro e w1 ⟨rfl, rfl⟩
   go_wp2_with (fail)
   go_ret
   exact ⟨ret_bool (by simp), rfl⟩
 ·go_enter Tryz.func117, Tryz.ntmps117
  go_wp2_with (fail)
  refine N.out.mono ?_
  rintro e w1 ⟨rfl, rfl⟩
  go_wp2_with (fail)
  go_ret
  exact ⟨ret_bool (by simp), rfl⟩
def LV.mask (x : LV) (f : Nat → Bool) : LV := ⟨x.l.mask f, if f 11 then x.ns else [], if f 12 then x.vs else [], if f 13 then x.us else [], if f 14 then x.ds else []⟩
theorem LIn.mask {w : World} {B : Nat} {x : LV} (h : LIn w B x) (f : Nat → Bool) : LIn w B (x.mask f) := by
 have z : ∀ {P : Prop} (b : Bool), (b = true → P) → (b = false → P) → P := fun b h1 h2 => by cases b; exact h2 rfl; exact h1 rfl
 refine ⟨?_, ?_, ?_, ?_, ?_, ?_, ?_, ?_, ?_, ?_, ?_, ?_⟩
 ·refine z (f 11) (fun e => ?_) (fun e => ?_) <;> simp only [LV.mask, Lt.mask, e, if_true, if_false, Bool.false_eq_true]
  ·exact h.nd
  ·exact Reads.none_
 ·refine z (f 12) (fun e => ?_) (fun e => ?_) <;> simp only [LV.mask, Lt.mask, e, if_true, if_false, Bool.false_eq_true]
  ·exact h.vt
  ·exact Reads.none_
 ·refine z (f 13) (fun e => ?_) (fun e => ?_) <;> simp only [LV.mask, Lt.mask, e, if_true, if_false, Bool.false_eq_true]
  ·exact h.up
  ·exact UpsIn.nil _ _
 ·refine z (f 14) (fun e => ?_) (fun e => ?_) <;> simp only [LV.mask, Lt.mask, e, if_true, if_false, Bool.false_eq_true]
  ·exact h.da
  ·exact Reads.none_
 ·refine z (f 14) (fun e => ?_) (fun e => ?_) <;> simp only [LV.mask, Lt.mask, e, if_true, if_false, Bool.false_eq_true]
  ·exact h.by_
  ·exact bytesB_nil
 ·have hw := h.wf
  constructor <;> simp only [LV.mask, Lt.mask] <;> first | exact hw.kd | exact hw.fr | exact hw.tw | (split; (first | exact hw.ch | exact hw.ep | exact hw.bl | exact hw.nu | exact hw.sq | exact hw.dz | exact hw.vr | exact hw.sl | exact hw.ky | exact hw.cd | exact hw.qk | exact hw.qc | exact hw.qe | exact hw.qn | exact hw.fc | exact hw.fe | exact hw.fj); omega)
 ·refine z (f 12) (fun e => ?_) (fun e => ?_) <;> simp only [LV.mask, Lt.mask, e, if_true, if_false, Bool.false_eq_true]
  ·exact h.vw
  ·exact fun v hv => by cases hv
 ·refine z (f 11) (fun e => ?_) (fun e => ?_) <;> simp only [LV.mask, Lt.mask, e, if_true, if_false, Bool.false_eq_true]
  ·exact h.nw
  ·exact fun v hv => by cases hv
 ·refine z (f 11) (fun e => ?_) (fun e => ?_) <;> simp only [LV.mask, Lt.mask, e, if_true, if_false, Bool.false_eq_true]
  ·exact h.cf
  ·exact ⟨Nat.le_refl _, Nat.zero_le _⟩
 ·refine z (f 12) (fun e => ?_) (fun e => ?_) <;> simp only [LV.mask, Lt.mask, e, if_true, if_false, Bool.false_eq_true]
  ·exact h.cv
  ·exact ⟨Nat.le_refl _, Nat.zero_le _⟩
 ·refine z (f 13) (fun e => ?_) (fun e => ?_) <;> simp only [LV.mask, Lt.mask, e, if_true, if_false, Bool.false_eq_true]
  ·exact h.cu
  ·exact ⟨Nat.le_refl _, Nat.zero_le _⟩
 ·refine z (f 14) (fun e => ?_) (fun e => ?_) <;> simp only [LV.mask, Lt.mask, e, if_true, if_false, Bool.false_eq_true]
  ·exact h.cd
  ·exact ⟨Nat.le_refl _, Nat.zero_le _⟩
end Go.Proofs.YtmpedblelnpjdaaGreatDoor
