/- GI: CdD CdE -/
import Derived.Test.YtmpedblelnpjdaaGreatDoorZGG
import Derived.Test.YtmpedblelnpjdaaGreatDoorZTq
import Derived.Test.YtmpedblelnpjdaaGreatDoorZTk
/- letter.Encode, given what its calls tell. -/
namespace Go.Proofs.YtmpedblelnpjdaaGreatDoor
open Go.RowKit
set_option linter.unusedSimpArgs false
set_option linter.unusedVariables false
set_option maxHeartbeats 8000000
set_option maxRecDepth 100000
theorem ltInfo : (Tryz.prog.info? 37).map (·.size) = some 25 := by kernel_rfl
theorem OutStep.row {W W' : World} {g base n sz : Nat} {v v' rv : Value} {s : FO} {t : TypeId} {xs : List Value} (h : OutStep W W' g v v') (ho : OutAt W g v s) (hr : W.ownsRow base t sz rv n xs) (h1 : t ≠ 242) (h2 : t ≠ 5) : W'.ownsRow base t sz rv n xs := by
 refine own_block_same hr (fun k hk => ?_)
 rcases hr.2 with hn | ⟨k', cap, cur, hv, _, hh, _⟩
 ·rw [hn.1] at hk; cases hk
 ·have hkk : k = k' := by rw [hv] at hk; injection hk with hk; exact hk.symm
  subst hkk
  exact (h.typ ho (b := k) hh h1 h2).trans hh.symm
def PutC (B : Nat) (Good : World → Prop) (L : Value) (i : Nat) (pb : List Int) : Prop :=
 ∀ (p : Pm) (W0 : World), PartM W0 i p → ∃ fid, p.a = .func fid ∧ (∀ (args : Array Value) (w : World), (callFunc fid args).run Tryz.prog w = .ok (.enter fid args) w) ∧
  ∀ (g : Nat) (v : Value) (bs : List Int) (W : World), PartM W i p → Good W → B ≤ g → OutAt W g v ⟨bs, 16384, 0⟩ → bs.length + pb.length ≤ 16384 →
   Calls Tryz.prog fid (#[.pointer (some ⟨g, 0, none⟩), L] ++ p.x) W (PutP g v bs pb W)
structure EncI (w : World) (l : Lt) (lb g lo : Nat) (is : List Nat) (ps : List Pm) (pv : Value) (hd : List Int) (f : Nat → List Int) (j : Nat) (v : Value) (W : World) : Prop where
 out : OutAt W g v ⟨hd ++ (is.take j).flatMap f, 16384, 0⟩
 box : Blk W lb 37 l.cells
 pm : ∀ (i k : Nat) (p : Pm), is[i]? = some k → ps[i]? = some p → PartM W k p
 row : W.ownsRow lo 123 3 pv ps.length (ps.flatMap Pm.row)
 bel : Below w.heap.size w W
theorem EncI.below {w W W' : World} {l : Lt} {lb g lo : Nat} {is : List Nat} {ps : List Pm} {pv v : Value} {hd : List Int} {f : Nat → List Int} {j : Nat} (h : EncI w l lb g lo is ps pv hd f j v W) (hb : Below W.heap.size W W') : EncI w l lb g lo is ps pv hd f j v W' :=
 ⟨h.out.below hb, h.box.below hb h.box.lt, fun i k p h1 h2 => PartM.below hb _ (h.pm i k p h1 h2), own_block_same h.row (fun k hk => hb.block k (h.row.lt k hk).2), h.bel.trans (hb.mono h.bel.size)⟩
theorem EncI.step {w W W' : World} {l : Lt} {lb g lo k : Nat} {is : List Nat} {ps : List Pm} {pv v v' : Value} {hd : List Int} {f : Nat → List Int} {j : Nat} (h : EncI w l lb g lo is ps pv hd f j v W) (hk : is[j]? = some k) (hg : w.heap.size ≤ g)
  (h1 : OutAt W' g v' ⟨(hd ++ (is.take j).flatMap f) ++ f k, 16384, 0⟩) (h2 : OutStep W W' g v v') : EncI w l lb g lo is ps pv hd f (j + 1) v' W' :=
 ⟨by rw [List.take_add_one, hk]; simpa [List.flatMap_append, List.append_assoc] using h1, h2.typ h.out h.box (by decide) (by decide), fun i k p e1 e2 => PartM.put h.out h2 _ (h.pm i k p e1 e2), h2.row h.out h.row (by decide) (by decide), h.bel.trans (h2.bel h.out hg)⟩
theorem flat_take_le (f : Nat → List Int) (is : List Nat) (j : Nat) : ((is.take j).flatMap f).length ≤ (is.flatMap f).length := by
 have h : is.flatMap f = (is.take j).flatMap f ++ (is.drop j).flatMap f := by rw [← List.flatMap_append, List.take_append_drop]
 rw [h, List.length_append]; omega
theorem flat_take_step (f : Nat → List Int) (is : List Nat) (j k : Nat) (hk : is[j]? = some k) : ((is.take j).flatMap f).length + (f k).length ≤ (is.flatMap f).length := by
 have h := flat_take_le f is (j + 1)
 rw [List.take_add_one, hk] at h
 simpa [List.flatMap_append] using h
def natB (l : List Int) : List Nat := l.map Int.toNat
theorem natB_len (l : List Int) : (natB l).length = l.length := by unfold natB; simp
def encB (k : Nat) (body : List Int) : List Nat := sealB (putB k (natB body))
theorem enc_putS (k : Nat) (body : List Int) (hk : 1 ≤ k) (hl : body.length ≤ 16384) : putE k (natB body) = 0 ∧ putS k (natB body) = encB k body := by
 have e : putE k (natB body) = 0 := by unfold putE; rw [if_neg (by omega), if_neg (by rw [natB_len]; omega)]
 exact ⟨e, by unfold putS encB; rw [if_pos e]⟩
def hdrB (l : Lt) : List Int := big l.fr.toNat 2 ++ big l.tw.toNat 2
theorem hdr_len (l : Lt) : (hdrB l).length = 4 := by simp [hdrB, big_len]
def bodyB (l : Lt) (is : List Nat) (f : Nat → List Int) : List Int := hdrB l ++ is.flatMap f
theorem encode_of (l : Lt) (k : Nat) (hk1 : 1 ≤ k) (hk : k ≤ 20) (hkd : l.kd = k) (hfr : 0 ≤ l.fr ∧ l.fr < 65536) (htw : 0 ≤ l.tw ∧ l.tw < 65536) (Good : World → Prop) (f : Nat → List Int) (w : World) (hKW : ∀ W, Below w.heap.size w W → KindsAt W) (hG : ∀ W, Below w.heap.size w W → Good W)
  (c gt : Nat) (d : Bool) (cx cy : Int) (hcd : Cd w c gt d cx cy)
  (hchk : ∀ W, Below w.heap.size w W → Calls Tryz.prog 49 #[l.agg] W fun e W' => e = .returned (.int .i64 0) ∧ Below W.heap.size W W')
  (hput : ∀ i ∈ partsI k, PutC w.heap.size Good l.agg i (f i)) (hlen : 4 + ((partsI k).flatMap f).length ≤ 16384) (hby : bytesB ((partsI k).flatMap f)) (hn : (partsI k).length ≤ 6) :
  Calls Tryz.prog 12 #[.pointer (some ⟨c, 0, none⟩), l.agg] w fun e w' => ∃ v, e = .returned (.tuple #[v, .int .i64 0]) ∧ w'.ownsRow w.heap.size 5 1 v (encB k (bodyB l (partsI k) f)).length ((bI (encB k (bodyB l (partsI k) f))).map (Value.int .u8)) ∧ (∃ d', Cd w' c gt d' cx cy) ∧ Chg w w' (fun q => q = gt) := by
 obtain ⟨W0, hW0⟩ : ∃ W0, W0 = w.alloc (.cells #[.int .i64 l.kd, .int .i64 l.fr, .int .i64 l.tw, .int .i64 l.ch, .int .u64 l.ep, .int .u64 l.bl, .int .u64 l.nu, .int .u64 l.sq, .int .u64 l.dz, .int .u64 l.vr, .int .i64 l.sl, .int .u32 l.ky, .int .i64 l.cd, .int .i64 l.qk, .int .i64 l.qc, .int .u64 l.qe, .int .i64 l.qn, .int .i64 l.fc, .int .u64 l.fe, .slice l.fA l.fn l.fp, .bool l.ff, .int .i64 l.fj, .slice l.vA l.vn l.vp, .slice l.uA l.un l.up, .slice l.dA l.dn l.dp] 37) := ⟨_, rfl⟩
 have hb0 : Below w.heap.size w W0 := by rw [hW0]; exact (Below.refl _ _).alloc (Nat.le_refl _) _
 have hbk : Blk W0 w.heap.size 37 l.cells := by rw [hW0]; exact Blk.new _ _ _
 have CK := Lib.hid (hchk W0 hb0)
 have HPUT := Lib.hid hput
 have HG := Lib.hid hG
 have HKW := Lib.hid hKW
 have HB := Lib.hid hb0
 have BK := Lib.hid hbk
 have HW := Lib.hid hW0
 have HCD := Lib.hid hcd
 have HBY := Lib.hid hby
 have HN := Lib.hid hn
 have HLEN := Lib.hid hlen
 have HFR := Lib.hid hfr
 have HTW := Lib.hid htw
 have wf1 : IntKind.u64.wrap l.fr = l.fr := u64_keep (by omega)
 have wt1 : IntKind.u64.wrap l.tw = l.tw := u64_keep (by omega)
 have wk1 : IntKind.u8.wrap (k : Int) = k := by rw [IntKind.wrap_u8']; omega
 have HKD := Lib.hid hkd
 have hll := hbk.lt
 have ES := Lib.hid (enc_putS k (bodyB l (partsI k) f) hk1 (by unfold bodyB; rw [List.length_append, hdr_len]; omega))
 obtain ⟨is, his⟩ : ∃ is, is = partsI k := ⟨_, rfl⟩
 rw [← his] at HPUT HBY HN HLEN ES ⊢
 have HIS := Lib.hid his
 clear hchk hput hG hKW hb0 hbk hW0 hcd hby hn hlen hfr htw hkd his
 show Calls Tryz.prog 12 #[.pointer (some ⟨c, 0, none⟩), .agg #[.int .i64 l.kd, .int .i64 l.fr, .int .i64 l.tw, .int .i64 l.ch, .int .u64 l.ep, .int .u64 l.bl, .int .u64 l.nu, .int .u64 l.sq, .int .u64 l.dz, .int .u64 l.vr, .int .i64 l.sl, .int .u32 l.ky, .int .i64 l.cd, .int .i64 l.qk, .int .i64 l.qc, .int .u64 l.qe, .int .i64 l.qn, .int .i64 l.fc, .int .u64 l.fe, .slice l.fA l.fn l.fp, .bool l.ff, .int .i64 l.fj, .slice l.vA l.vn l.vp, .slice l.uA l.un l.up, .slice l.dA l.dn l.dp]] w _
 go_enter Tryz.func12, Tryz.ntmps12
 go_upto_region 3 with (fail)
 rw [← HW.out]
 iterate 1 go_step
 refine wpList_load_row rfl 37 (.tmp 3) rfl w.heap.size rfl 37 l.cells (0, 0) _ BK.out Tryz.underlying37 rfl ltInfo ?_
 go_wp2_with (fail)
 refine CK.out.mono ?_
 rintro e w1 ⟨rfl, h1⟩
 have HB1 := Lib.hid (HB.out.trans (h1.mono HB.out.size))
 have BK1 := Lib.hid (BK.out.below h1 hll)
 clear h1 CK
 go_wp2_with (fail)
 refine (new_any 16384 (by omega) w1).mono ?_
 rintro e w2 ⟨rfl, h1, h2⟩
 have O2 : Hid (OutAt w2 w1.heap.size (.slice none 0 0) ⟨[], 16384, 0⟩) := Lib.hid h1
 have HB2 := Lib.hid (HB1.out.trans (h2.mono HB1.out.size))
 have BK2 := Lib.hid (BK1.out.below h2 BK1.out.lt)
 have x1 := (BK2.out.cell 1).trans (show _ = some (.int .i64 l.fr) from rfl)
 have hl2 := BK2.out.lt
 have hg : w.heap.size ≤ w1.heap.size := HB1.out.size
 clear h1 h2 HB BK HB1 BK1 HW hll
 generalize w1.heap.size = g at *
 go_wp2_with (fail)
 refine (putNum_ok g (.slice none 0 0) [] 16384 l.fr l.fr.toNat 2 (by have := HFR.out; omega) w2 (by omega) (by omega) (by have := HFR.out; omega) O2.out (by simp) (by simp)).mono ?_
 rintro e w3 ⟨rfl, v3, o3, s3⟩
 have BK3 := Lib.hid (s3.typ O2.out BK2.out (by decide) (by decide))
 have HB3 := Lib.hid (HB2.out.trans ((s3.bel O2.out hg)))
 have O3 := Lib.hid o3
 have x2 := (BK3.out.cell 2).trans (show _ = some (.int .i64 l.tw) from rfl)
 have hl3 := BK3.out.lt
 clear o3 s3 x1 hl2 HB2 BK2 O2
 go_wp2_with (fail)
 refine (putNum_ok g v3 ([] ++ big l.fr.toNat 2) 16384 l.tw l.tw.toNat 2 (by have := HTW.out; omega) w3 (by omega) (by omega) (by have := HTW.out; omega) O3.out (by simp [big_len]) (by simp [big_len])).mono ?_
 rintro e w4 ⟨rfl, v4, o4, s4⟩
 have BK4 := Lib.hid (s4.typ O3.out BK3.out (by decide) (by decide))
 have HB4 := Lib.hid (HB3.out.trans ((s4.bel O3.out hg)))
 have O4 : Hid (OutAt w4 g v4 ⟨hdrB l, 16384, 0⟩) := Lib.hid (by simpa [hdrB] using o4)
 have x0 := (BK4.out.cell 0).trans (show _ = some (.int .i64 l.kd) from rfl)
 rw [HKD.out] at x0
 have hl4 := BK4.out.lt
 have CP := Lib.hid (partsAll_any k (by omega) w4 (HKW.out w4 HB4.out))
 clear o4 s4 x2 hl3 HB3 BK3 O3
 go_wp2_with (fail)
 refine CP.out.mono ?_
 rintro e w5 ⟨pv, rfl, hp⟩
 obtain ⟨ps, hpl, hpm, hown⟩ := hp.ex
 rw [← HIS.out] at hpl hpm
 obtain ⟨A, cp, rfl, hrd, _, _⟩ := own_slice hown
 have E0 : Hid (EncI w l w.heap.size g w4.heap.size is ps (.slice A ps.length cp) (hdrB l) f 0 v4 w5) := Lib.hid ⟨by simpa using O4.out.below hp.bel, BK4.out.below hp.bel BK4.out.lt, hpm, hown, HB4.out.trans (hp.bel.mono HB4.out.size)⟩
 have HPL := Lib.hid hpl
 have hn6 : ps.length ≤ 6 := by have := HN.out; omega
 clear hp hpl hpm hown hrd x0 hl4 BK4 O4 CP
 go_wp2_with (fail)
 go_loopw [34] (fun iv wr => ∃ (j : Nat) (v : Value), j ≤ ps.length ∧ iv = .int .i64 j ∧ Hid (EncI w l w.heap.size g w4.heap.size is ps (.slice A ps.length cp) (hdrB l) f j v wr)) (fun iv _ => ps.length - (intOf iv).toNat)
 case atStart => exact ⟨0, v4, Nat.zero_le _, rfl, E0⟩
 case round =>
  clear E0
  obtain ⟨j, v, hj, rfl, HE⟩ := hrel
  by_cases hlt : j < ps.length
  ·have hltZ : (j : Int) < ps.length := by omega
   have hjl : j < is.length := by have := HPL.out; omega
   obtain ⟨kk, hkk⟩ : ∃ kk, is[j]? = some kk := ⟨_, List.getElem?_eq_getElem hjl⟩
   obtain ⟨b, o, p, e1, hb, hp, hc⟩ := reads_at Pm.row (fun _ => rfl) (by omega) (own_reads HE.out.row) hlt
   subst e1
   obtain ⟨fid, hfa, hent, hput⟩ := HPUT.out kk (List.mem_of_getElem? hkk) p wr (HE.out.pm j kk p hkk hp)
   obtain ⟨pf, pa, pb, px, py⟩ := p
   simp only at hfa
   subst hfa
   have q0 := hc 0 _ rfl
   have q1 := hc 1 _ rfl
   have q2 := hc 2 _ rfl
   simp only [Nat.add_zero] at q0 q1 q2
   have HA := Lib.hid (HE.out.below ((Below.refl _ _).alloc (Nat.le_refl _) (.cells #[.func pf #[] #[], .func (.func fid) #[] px, .func pb #[] py] 123)))
   have hsum := flat_take_step f is j kk hkk
   have CF := Lib.hid (hput g v _ _ (HA.out.pm j kk _ hkk hp) (HG.out _ HA.out.bel) hg HA.out.out (by rw [List.length_append, hdr_len]; have := HLEN.out; omega))
   have HKK := Lib.hid hkk
   clear hc hp hput hkk hsum hjl
   go_upto_region 12 with (fail)
   iterate 10 go_step
   refine wpList_load_row rfl 37 (.tmp 3) rfl w.heap.size rfl 37 l.cells (0, 0) _ HA.out.box Tryz.underlying37 rfl ltInfo ?_
   go_wp2_with (fail)
   refine CF.out.mono ?_
   rintro e w6 ⟨rfl, v', h1, h2⟩
   have HE6 := Lib.hid (HA.out.step HKK.out hg h1 h2)
   clear h1 h2 q0 q1 q2 HA CF
   go_wp2_with (fail)
   go_roundw
   case rel => exact ⟨j + 1, v', hlt, by go_num, HE6⟩
   case measure => simp [intOf]; omega
  ·have hje : j = ps.length := by omega
   have hltZ : ¬ (j : Int) < ps.length := by omega
   have htk : is.take j = is := List.take_of_length_le (by have := HPL.out; omega)
   have ho := HE.out.out
   rw [htk] at ho
   have hbl : (hdrB l ++ is.flatMap f).length ≤ 16384 := by rw [List.length_append, hdr_len]; exact HLEN.out
   have D := done_any g v ⟨hdrB l ++ is.flatMap f, 16384, 0⟩ wr ho (Nat.le_trans hbl (by omega))
   simp only [if_true] at D
   have DD := Lib.hid D
   have HBL := Lib.hid hbl
   have HJ := Lib.hid hje
   have BB : Hid (bytesB (hdrB l ++ is.flatMap f)) := Lib.hid (bytesB_app (bytesB_app (big_bytes _ _) (big_bytes _ _)) HBY.out)
   have BD : Hid (bodyB l is f = hdrB l ++ is.flatMap f) := Lib.hid rfl
   rw [BD.out] at ES
   clear hje htk ho hbl D
   generalize hdrB l ++ is.flatMap f = body at *
   go_wp2_with (fail)
   refine DD.out.mono ?_
   rintro e w6 ⟨u, rfl, hu, hb6⟩
   obtain ⟨A6, c6, rfl, hr6, hf6, hc6, hm6⟩ := own_far (g := gt) hu (Nat.lt_of_lt_of_le HCD.out.2.lt HE.out.bel.size)
   have HB6 := Lib.hid (HE.out.bel.trans (hb6.mono HE.out.bel.size))
   have BK6 := Lib.hid (HE.out.box.below hb6 HE.out.box.lt)
   have P := cdPut_any c gt d cx cy k A6 body.length c6 w6.heap.size (natB body) w6 (HCD.out.below HB6.out HCD.out.1.lt HCD.out.2.lt) (by rw [natB, bI_toNat _ BB.out]; exact hr6) (toNat_bs _ BB.out) (Nat.le_refl _) hf6 (Nat.le_trans HBL.out (by omega)) (by omega)
   rw [ES.out.1, ES.out.2] at P
   have PP := Lib.hid P
   have x0 := (BK6.out.cell 0).trans (show _ = some (.int .i64 l.kd) from rfl)
   rw [HKD.out] at x0
   have hl6 := BK6.out.lt
   clear hu hr6 hf6 hb6 P DD
   go_wp2_with (fail)
   refine PP.out.mono ?_
   rintro e w7 ⟨v7, rfl, h1, ⟨d', h2⟩, h3⟩
   have R1 := Lib.hid (Go.Joins.ownsRow_le h1 HB6.out.size)
   have R2 := Lib.hid h2
   have R3 := Lib.hid ((Chg.of_below HB6.out (fun q => q = gt)).trans h3 (fun _ _ h => h))
   clear h1 h2 h3 PP x0
   go_wp2_with (fail)
   go_ret2
   rw [BD.out]
   exact ⟨v7, rfl, R1.out, ⟨d', R2.out⟩, R3.out⟩
end Go.Proofs.YtmpedblelnpjdaaGreatDoor
/- letter.Decode, given what its calls tell. -/
namespace Go.Proofs.YtmpedblelnpjdaaGreatDoor
open Go.RowKit
set_option linter.unusedSimpArgs false
set_option linter.unusedVariables false
set_option maxHeartbeats 8000000
set_option maxRecDepth 100000
theorem known_yes (k : Int) (w : World) (h0 : 1 ≤ k) (h1 : k ≤ 20) : Calls Tryz.prog 44 #[.int .i64 k] w fun e w' => e = .returned (.bool true) ∧ w = w' := by
 go_enter Tryz.func44, Tryz.ntmps44
 go_wp2
 go_ret
 exact ⟨rfl, rfl⟩
theorem known_no (k : Int) (w : World) (h : k < 1 ∨ 20 < k) : Calls Tryz.prog 44 #[.int .i64 k] w fun e w' => e = .returned (.bool false) ∧ w = w' := by
 rcases h with h | h
 ·have h2 : ¬ 1 ≤ k := by omega
  go_enter Tryz.func44, Tryz.ntmps44
  go_wp2
  go_ret
  exact ⟨rfl, rfl⟩
 ·have h1 : 1 ≤ k := by omega
  have h2 : ¬ k ≤ 20 := by omega
  clear h
  go_enter Tryz.func44, Tryz.ntmps44
  go_wp2
  go_ret
  exact ⟨rfl, rfl⟩
structure LOwn (W : World) (base : Nat) (x : LV) : Prop where
 nd : W.ownsRow base 3 1 (.slice x.l.fA x.l.fn x.l.fp) x.l.fn (x.ns.map (Value.int .i64))
 vt : W.ownsRow base 239 6 (.slice x.l.vA x.l.vn x.l.vp) x.l.vn (x.vs.flatMap Vt.row)
 up : W.ownsRow base 145 7 (.slice x.l.uA x.l.un x.l.up) x.l.un (x.us.flatMap Up.row)
 ub : ∀ u ∈ x.us, W.ownsRow base 5 1 (.slice u.A u.n u.c) u.n (u.bs.map (Value.int .u8)) ∧ u.wf
 da : W.ownsRow base 5 1 (.slice x.l.dA x.l.dn x.l.dp) x.l.dn (x.ds.map (Value.int .u8))
 by_ : bytesB x.ds
 wf : LWf x.l
 vw : ∀ v ∈ x.vs, v.wf
 nw : ∀ z ∈ x.ns, -9223372036854775808 ≤ z ∧ z ≤ 9223372036854775807
theorem own_caps {w : World} {base : Nat} {e : TypeId} {size n c : Nat} {A : Option Addr} {xs : List Value} (h : w.ownsRow base e size (.slice A n c) n xs) : n ≤ c ∧ c ≤ maxLen := by
 obtain ⟨A', c', e1, _, h1, h2⟩ := own_slice h
 injection e1 with _ _ e3
 subst e3
 exact ⟨h1, h2⟩
theorem LOwn.lin {W : World} {base : Nat} {x : LV} (h : LOwn W base x) : LIn W W.heap.size x :=
 ⟨own_reads h.nd, own_reads h.vt, ⟨own_reads h.up, fun u hu => ⟨own_reads (h.ub u hu).1, (own_caps (h.ub u hu).1).1, (own_caps (h.ub u hu).1).2, (h.ub u hu).2⟩⟩, own_reads h.da, h.by_, h.wf, h.vw, h.nw, own_caps h.nd, own_caps h.vt, own_caps h.up, own_caps h.da⟩
theorem LOwn.below {W W' : World} {base : Nat} {x : LV} (h : LOwn W base x) (hb : Below W.heap.size W W') : LOwn W' base x := by
 have o : ∀ {e : TypeId} {sz n : Nat} {v : Value} {xs : List Value}, W.ownsRow base e sz v n xs → W'.ownsRow base e sz v n xs := fun ho => own_block_same ho (fun k hk => hb.block k (ho.lt k hk).2)
 exact ⟨o h.nd, o h.vt, o h.up, fun u hu => ⟨o (h.ub u hu).1, (h.ub u hu).2⟩, o h.da, h.by_, h.wf, h.vw, h.nw⟩
theorem LOwn.chg {W W' : World} {S : Nat → Prop} {base : Nat} {x : LV} (h : LOwn W base x) (hc : Chg W W' S) (hS : ∀ k, S k → k < base) : LOwn W' base x := by
 have o : ∀ {e : TypeId} {sz n : Nat} {v : Value} {xs : List Value}, W.ownsRow base e sz v n xs → W'.ownsRow base e sz v n xs := fun ho => hc.own ho (fun k hk hs => by have := (ho.lt k hk).1; have := hS k hs; omega)
 exact ⟨o h.nd, o h.vt, o h.up, fun u hu => ⟨o (h.ub u hu).1, (h.ub u hu).2⟩, o h.da, h.by_, h.wf, h.vw, h.nw⟩
theorem LOwn.base {W : World} {base base' : Nat} {x : LV} (h : LOwn W base x) (hb : base' ≤ base) : LOwn W base' x := by
 have o : ∀ {e : TypeId} {sz n : Nat} {v : Value} {xs : List Value}, W.ownsRow base e sz v n xs → W.ownsRow base' e sz v n xs := fun ho => Go.Joins.ownsRow_le ho hb
 exact ⟨o h.nd, o h.vt, o h.up, fun u hu => ⟨o (h.ub u hu).1, (h.ub u hu).2⟩, o h.da, h.by_, h.wf, h.vw, h.nw⟩
structure LAt (W : World) (gl : Nat) (x : LV) : Prop where
 blk : Blk W gl 37 x.l.cells
 own : LOwn W (gl + 1) x
 nil : (x.vs = [] → x.l.vA = none) ∧ (x.us = [] → x.l.uA = none)
theorem LAt.below {W W' : World} {gl : Nat} {x : LV} (h : LAt W gl x) (hb : Below W.heap.size W W') : LAt W' gl x := ⟨h.blk.below hb h.blk.lt, h.own.below hb, h.nil⟩
def GetC (st : Nat → FI → LVal → FI × LVal) (i : Nat) : Prop :=
 ∀ (p : Pm) (W0 : World), PartM W0 i p → ∃ fid, p.b = .func fid ∧ (∀ (args : Array Value) (w : World), (callFunc fid args).run Tryz.prog w = .ok (.enter fid args) w) ∧
  ∀ (gi gl B : Nat) (s : FI) (x : LV) (W : World), PartM W i p → InAt W gi B s → B ≤ gl → s.l.length ≤ 1000000 → LAt W gl x → ((i = 12 → x.vs = []) ∧ (i = 13 → x.us = [])) →
   Calls Tryz.prog fid (#[.pointer (some ⟨gi, 0, none⟩), .pointer (some ⟨gl, 0, none⟩)] ++ p.y) W fun e W' => e = .returned (.tuple #[]) ∧ ∃ x' : LV, InAt W' gi B (st i s x.val).1 ∧ LAt W' gl x' ∧ x'.val = (st i s x.val).2 ∧ Chg W W' (fun k => k = gi ∨ k = gl)
def stF (st : Nat → FI → LVal → FI × LVal) (is : List Nat) (s : FI) (v : LVal) : FI × LVal := is.foldl (fun q i => st i q.1 q.2) (s, v)
theorem stF_step (st : Nat → FI → LVal → FI × LVal) (is : List Nat) (s : FI) (v : LVal) (j k : Nat) (hk : is[j]? = some k) : stF st (is.take (j + 1)) s v = st k (stF st (is.take j) s v).1 (stF st (is.take j) s v).2 := by
 unfold stF
 rw [List.take_add_one, hk, List.foldl_append]; rfl
def LVal.zero : LVal := ⟨0, 0, 0, 0, 0, 0, 0, 0, 0, 0, 0, 0, 0, 0, 0, 0, 0, 0, 0, false, 0, [], [], [], []⟩
def LV.zero : LV := ⟨Lt.zero, [], [], [], []⟩
theorem LOwn.zero (W : World) (base : Nat) : LOwn W base LV.zero :=
 ⟨World.ownsRow_nil _ _ _ _, World.ownsRow_nil _ _ _ _, World.ownsRow_nil _ _ _ _, fun u hu => (by cases hu), World.ownsRow_nil _ _ _ _, bytesB_nil, by constructor <;> simp [LV.zero, Lt.zero], fun v hv => (by cases hv), fun v hv => (by cases hv)⟩
structure LVal.near (v : LVal) : Prop where
 us : v.us.length ≤ 1000000 ∧ ∀ u ∈ v.us, u.2.2.2.2.2.2.length ≤ 1000000
 vl : v.vs.length ≤ 1000000
 dl : v.ds.length ≤ 1000000
 nl : v.ns.length ≤ 1000000
theorem z_hdr (w : World) : (Instr.build 37 #[]).run Tryz.prog w = .ok (.agg Lt.zero.cells) w := by kernel_rfl
theorem l_hdr (a b c : Int) (w : World) : (Instr.build 37 #[(0, .int .i64 a), (1, .int .i64 b), (2, .int .i64 c)]).run Tryz.prog w = .ok (.agg (Lt.cells { Lt.zero with kd := a, fr := b, tw := c })) w := by kernel_rfl
def dec1 (b : List Nat) : FI × Nat := (⟨bI (getB b), 0⟩ : FI).upto 2 18446744073709551615
def dec2 (b : List Nat) : FI × Nat := (dec1 b).1.upto 2 18446744073709551615
def decV (b : List Nat) : LVal := { LVal.zero with kd := (getK b : Int), fr := ((dec1 b).2 : Int), tw := ((dec2 b).2 : Int) }
def decS (st : Nat → FI → LVal → FI × LVal) (b : List Nat) : FI × LVal := stF st (partsI (getK b)) (dec2 b).1 (decV b)
def decE (chk : LVal → Int) (st : Nat → FI → LVal → FI × LVal) (b : List Nat) : Int :=
 if getE b ≠ 0 then getE b else if ¬ (1 ≤ getK b ∧ getK b ≤ 20) then 1 else
  if (decS st b).1.done ≠ 0 ∨ chk (decS st b).2 ≠ 0 then 4 else 0
def DecQ (de : Int) (dv : LVal) (c g : Nat) (ax ay : Int) (w : World) (e : Ending) (w' : World) : Prop :=
 ∃ x : LV, e = .returned (.tuple #[x.l.agg, .int .i64 de]) ∧ x.val = (if de = 0 then dv else LVal.zero) ∧ LOwn w' w.heap.size x ∧ (∃ d', Cd w' c g d' ax ay) ∧ Chg w w' (fun k => k = g ∨ k = c)
theorem results_cell_row_tmp {P : Program} {fn : Func} {p u : Tmp} {ty : TypeId} (h : fn.results = #[.cell p ty, .tmp u]) (tmps : Array Value) (w : World) (g : Nat) (t : TypeId) (cs : Array Value) (fr : Nat × Nat) (d : TypeDesc) (q : Value)
  (hp : tmps.getD p undef = .pointer (some ⟨g, 0, none⟩)) (hg : w.heap[g]? = some (.cells cs t fr)) (hq : tmps.getD u undef = q)
  (hu : P.underlying ty = some d) (hd : (match d with | .struct _ | .array _ _ => true | _ => false) = true) (hi : (P.info? ty).map (·.size) = some cs.size) :
  (results fn tmps).run P w = .ok (.tuple #[.agg cs, q]) w := by
 have hp' : tmps[p]?.getD undef = .pointer (some ⟨g, 0, none⟩) := by simpa using hp
 have hq' : tmps[u]?.getD undef = q := by simpa using hq
 simp [results, h, hp', hq', asAddr, run_loadVar_row w g t ty cs fr d hg hu hd hi]
theorem step_store_row {P : Program} {ops : Array Oper} {o : Oper} {a : Act} {w : World} {K : Act → World → Prop} {Q : Exit → Act → World → Prop} {E : Prop} (hgd : o.guard = none) (ty : TypeId) (x y : Operand) (ho : o.op = .store ty x y)
  (g : Nat) (cells : Array Value) (hx : a.eval x = .pointer (some ⟨g, 0, none⟩)) (hy : a.eval y = .agg cells)
  (t : TypeId) (old : Array Value) (hg : w.heap[g]? = some (.cells old t (0, 0))) (hi : (P.info? ty).map (·.size) = some cells.size)
  (hold : old.size = cells.size) (h1 : cells.all (·.oneCell') = true)
  (h : K (a.put o.dst undef) (w.setRow g cells)) : if Region.wanted o (yielded ops a.tmps) = true then Oper.wp P o a w K Q else E := by
 have hw : Region.wanted o (yielded ops a.tmps) = true := by simp [Region.wanted, hgd]
 rw [if_pos hw]
 exact wp_store_row ty x y ho g cells hx hy t old hg hi hold h1 h
structure DecM (W4 : World) (gi B4 : Nat) (s2 : FI) (l : Lt) (gl : Nat) (W : World) : Prop where
 inn : InAt W gi B4 s2
 blk : Blk W gl 37 l.cells
 le : B4 ≤ gl
 chg : Chg W4 W (isG gi)
theorem decM_row {W4 X : World} {gi B4 gl : Nat} {s2 : FI} {l : Lt} {old : Array Value} (hi : InAt X gi B4 s2) (hb : Blk X gl 37 old) (hl : B4 ≤ gl) (h4 : W4.heap.size ≤ gl) (hc : Chg W4 X (isG gi)) : DecM W4 gi B4 s2 l gl (X.setRow gl l.cells) := by
 have h1 := below_setRow (Below.refl B4 X) hl l.cells
 have h2 := below_setRow (Below.refl W4.heap.size X) h4 l.cells
 exact ⟨hi.below h1, setRow_heap _ _ _ _ _ _ hb, hl, ⟨h2.os.trans hc.os, h2.tape.trans hc.tape, h2.output.trans hc.output, Nat.le_trans hc.size h2.size, fun k hk hn => (h2.block k hk).trans (hc.block k hk hn)⟩⟩
theorem lt_all (l : Lt) : l.cells.all (·.oneCell') = true := by simp [Lt.cells, Value.oneCell']
structure DecI (st : Nat → FI → LVal → FI × LVal) (s2 : FI) (v0 : LVal) (w : World) (cd : World → Prop) (g c rb gi B gl lo : Nat) (is : List Nat) (ps : List Pm) (pv : Value) (j : Nat) (x : LV) (W : World) : Prop where
 inn : InAt W gi B (stF st (is.take j) s2 v0).1
 lat : LAt W gl x
 val : x.val = (stF st (is.take j) s2 v0).2
 rbk : Blk W rb 37 Lt.zero.cells
 pm : ∀ (i k : Nat) (p : Pm), is[i]? = some k → ps[i]? = some p → PartM W k p
 row : W.ownsRow lo 123 3 pv ps.length (ps.flatMap Pm.row)
 chg : Chg w W (fun k => k = g ∨ k = c)
 cod : cd W
theorem DecI.below {st : Nat → FI → LVal → FI × LVal} {s2 : FI} {v0 : LVal} {w W W' : World} {cd : World → Prop} {g c rb gi B gl lo j : Nat} {is : List Nat} {ps : List Pm} {pv : Value} {x : LV} (h : DecI st s2 v0 w cd g c rb gi B gl lo is ps pv j x W) (hcd : ∀ W W', Below w.heap.size W W' → cd W → cd W') (hb : Below W.heap.size W W') : DecI st s2 v0 w cd g c rb gi B gl lo is ps pv j x W' :=
 ⟨h.inn.below (hb.mono h.inn.le), h.lat.below hb, h.val, h.rbk.below hb h.rbk.lt, fun i k p h1 h2 => PartM.below hb _ (h.pm i k p h1 h2), own_block_same h.row (fun k hk => hb.block k (h.row.lt k hk).2), h.chg.trans (Chg.of_below hb _) (fun _ _ e => e), hcd _ _ (hb.mono h.chg.size) h.cod⟩
theorem DecI.step {st : Nat → FI → LVal → FI × LVal} {s2 : FI} {v0 : LVal} {w W W' : World} {cd : World → Prop} {g c rb gi B gl lo j k : Nat} {is : List Nat} {ps : List Pm} {pv : Value} {x x' : LV} (h : DecI st s2 v0 w cd g c rb gi B gl lo is ps pv j x W) (hcd : ∀ W W', Below w.heap.size W W' → cd W → cd W') (hk : is[j]? = some k)
  (hrb : rb ≠ gi ∧ rb ≠ gl) (hw : w.heap.size ≤ gi ∧ w.heap.size ≤ gl)
  (h1 : InAt W' gi B (st k (stF st (is.take j) s2 v0).1 x.val).1) (h2 : LAt W' gl x') (h3 : x'.val = (st k (stF st (is.take j) s2 v0).1 x.val).2) (h4 : Chg W W' (fun k => k = gi ∨ k = gl)) : DecI st s2 v0 w cd g c rb gi B gl lo is ps pv (j + 1) x' W' := by
 obtain ⟨A0, c0, hbi, _⟩ := h.inn.mem
 refine ⟨?_, h2, ?_, h4.blk h.rbk (fun e => by rcases e with e | e <;> omega), fun i k p e1 e2 => PartM.chg hbi h.lat.blk h4 _ (h.pm i k p e1 e2), ?_, h.chg.trans h4 (fun i hi e => by rcases e with e | e <;> omega), hcd _ _ (h4.below h.chg.size (fun k hk e => by rcases e with e | e <;> omega)) h.cod⟩
 ·rw [stF_step _ _ _ _ _ _ hk, ← h.val]; exact h1
 ·rw [stF_step _ _ _ _ _ _ hk, ← h.val]; exact h3
 ·refine own_block_same h.row (fun q hq => ?_)
  rcases h.row.2 with hn | ⟨k', cap, cur, hv, _, hh, _⟩
  ·rw [hn.1] at hq; cases hq
  ·have hkk : q = k' := by rw [hv] at hq; injection hq with hq; exact hq.symm
   subst hkk
   refine h4.block q (Array.getElem?_eq_some_iff.1 hh).1 (fun e => ?_)
   rcases e with e | e
   ·subst e; exact Blk.ne_ (show Blk W q 123 _ from hh) hbi (by decide) rfl
   ·subst e; exact Blk.ne_ (show Blk W q 123 _ from hh) h.lat.blk (by decide) rfl
theorem wpList_load_rowG {P : Program} {ops : Array Oper} {rest : List Oper} {o : Oper} {a : Act} {w : World} {Q : Exit → Act → World → Prop} (hw : Region.wanted o (yielded ops a.tmps) = true) (ty : TypeId) (x : Operand) (ho : o.op = .load ty x)
  (g : Nat) (hx : a.eval x = .pointer (some ⟨g, 0, none⟩)) (t : TypeId) (cs : Array Value) (fr : Nat × Nat) (d : TypeDesc) (hg : w.heap[g]? = some (.cells cs t fr))
  (hu : P.underlying ty = some d) (hd : (match d with | .struct _ | .array _ _ => true | _ => false) = true) (hi : (P.info? ty).map (·.size) = some cs.size)
  (h : wpList P ops Q rest (a.put o.dst (.agg cs)) w) : wpList P ops Q (o :: rest) a w :=
 BigFrame.wpList_want hw fun _ hK => wp_load_row ty x ho g hx t cs fr d hg hu hd hi (hK _ _ h)
theorem LOwn.hdr (W : World) (base : Nat) (a b c : Int) (ha : 0 ≤ a ∧ a ≤ 65536) (hb : 0 ≤ b ∧ b ≤ 65536) (hc : 0 ≤ c ∧ c ≤ 65536) : LOwn W base ⟨{ Lt.zero with kd := a, fr := b, tw := c }, [], [], [], []⟩ :=
 ⟨World.ownsRow_nil _ _ _ _, World.ownsRow_nil _ _ _ _, World.ownsRow_nil _ _ _ _, fun u hu => (by cases hu), World.ownsRow_nil _ _ _ _, bytesB_nil, by constructor <;> simp only [Lt.zero] <;> omega, fun v hv => (by cases hv), fun v hv => (by cases hv)⟩
theorem stF_short (st : Nat → FI → LVal → FI × LVal) (hst : ∀ i s v, (st i s v).1.l.length ≤ s.l.length) : ∀ (is : List Nat) (s : FI) (v : LVal), (stF st is s v).1.l.length ≤ s.l.length
 | [], _, _ => Nat.le_refl _
 | i :: is, s, v => Nat.le_trans (stF_short st hst is (st i s v).1 (st i s v).2) (hst i s v)
theorem getB_facts (b : List Nat) (hb : isBs b) : getK b < 256 ∧ bytesB (bI (getB b)) ∧ (getB b).length ≤ b.length := by
 have h1 : isBs (getB b) ∧ (getB b).length ≤ b.length := by
  unfold getB
  split
  ·unfold cutB
   split
   ·exact ⟨fun z hz => hb z (List.mem_of_mem_drop (List.mem_of_mem_take hz)), by rw [List.length_take, List.length_drop]; omega⟩
   ·exact ⟨fun z hz => (by cases hz), by simp⟩
  ·exact ⟨fun z hz => (by cases hz), by simp⟩
 refine ⟨?_, ?_, h1.2⟩
 ·unfold getK
  split
  ·unfold cutK
   split
   ·rw [List.getD_eq_getElem?_getD]
    cases h : b[0]? with
    | none => simp
    | some z => simpa using hb z (List.mem_of_getElem? h)
   ·omega
  ·omega
 ·intro z hz
  unfold bI at hz
  obtain ⟨y, hy, rfl⟩ := List.mem_map.1 hz
  have := h1.1 y hy
  omega
theorem decode_of (chk : LVal → Int) (st : Nat → FI → LVal → FI × LVal) (c g : Nat) (d : Bool) (cx cy : Int) (A : Option Addr) (n cp B : Nat) (b : List Nat) (w : World) (hcd : Cd w c g d cx cy) (hr : Reads w B 1 A n ((bI b).map (Value.int .u8))) (hb : isBs b) (hB : B ≤ w.heap.size)
  (hA : ∀ ad, 0 < n → A = some ad → ad.block ≠ g) (hn : n ≤ 1000000) (hnc : n ≤ cp) (hc : cp ≤ 9223372036854775807) (hx : 0 ≤ cx ∧ cx ≤ 1000000) (hy : 0 ≤ cy ∧ cy ≤ 1000000)
  (hKW : ∀ W, Chg w W (fun k => k = g ∨ k = c) → KindsAt W)
  (hchk : ∀ (x : LV) (W : World), KindsAt W → LIn W W.heap.size x → x.val = (decS st b).2 → Calls Tryz.prog 49 #[x.l.agg] W fun e W' => e = .returned (.int .i64 (chk x.val)) ∧ Below W.heap.size W W')
  (hst : ∀ i s v, (st i s v).1.l.length ≤ s.l.length) (hgr : ∀ (j k : Nat) (s : FI) (v : LVal), (partsI (getK b))[j]? = some k → v.vs = [] → v.us = [] → (k = 12 → (stF st ((partsI (getK b)).take j) s v).2.vs = []) ∧ (k = 13 → (stF st ((partsI (getK b)).take j) s v).2.us = [])) (hget : ∀ i ∈ partsI (getK b), GetC st i) (hlen : (partsI (getK b)).length ≤ 6) :
  Calls Tryz.prog 9 #[.pointer (some ⟨c, 0, none⟩), .slice A n cp] w (DecQ (decE chk st b) (decS st b).2 c g (cntX cx (getE b)) (cntY cy (getE b)) w) := by
 obtain ⟨W1, hW1⟩ : ∃ W1, W1 = w.alloc (.cells Lt.zero.cells 37) := ⟨_, rfl⟩
 have hb1 : Below w.heap.size w W1 := by rw [hW1]; exact (Below.refl _ _).alloc (Nat.le_refl _) _
 have hrb : Blk W1 w.heap.size 37 Lt.zero.cells := by rw [hW1]; exact Blk.new _ _ _
 have CG := Lib.hid (cdGet_any c g d cx cy A n cp B b W1 (hcd.below hb1 hcd.1.lt hcd.2.lt) (hr.below (hb1.mono hB)) hb (Nat.le_trans hB hb1.size) hA (by omega) hnc hc hx hy)
 have HW1 := Lib.hid hW1
 have HB1 := Lib.hid hb1
 have HRB := Lib.hid hrb
 have HCD := Lib.hid hcd
 have HKW := Lib.hid hKW
 have HCHK := Lib.hid hchk
 have HST := Lib.hid hst
 have HGET := Lib.hid hget
 have HGR := Lib.hid hgr
 have HLEN := Lib.hid hlen
 have hcl := hcd.1.lt
 have hgl := hcd.2.lt
 have HDE : Hid (decE chk st b = if getE b ≠ 0 then (getE b : Int) else if ¬ (1 ≤ getK b ∧ getK b ≤ 20) then 1 else if (decS st b).1.done ≠ 0 ∨ chk (decS st b).2 ≠ 0 then 4 else 0) := Lib.hid rfl
 have HKB : Hid (getK b < 256 ∧ bytesB (bI (getB b)) ∧ (getB b).length ≤ 1000000) := Lib.hid (by
  have h3 := getB_facts b hb
  have h4 : b.length = n := by have h5 := hr.1; simpa [bI] using h5
  exact ⟨h3.1, h3.2.1, by omega⟩)
 have hl1 := hrb.lt
 generalize decE chk st b = de at *
 clear hW1 hb1 hrb hcd hr hb hA hKW hchk hst hgr hget hlen
 have hz := z_hdr
 go_enter Tryz.func9, Tryz.ntmps9
 go_upto_region 1 with (fail)
 have e0 := HW1.out
 simp only [Lt.cells, Lt.zero] at e0
 rw [← e0]
 clear e0
 go_wp2_with (fail)
 refine CG.out.mono ?_
 rintro e w2 ⟨v, rfl, hown, ⟨d', hcd2⟩, hch⟩
 obtain ⟨A2, c2, rfl, hrd, hc2, hm2⟩ := own_slice hown
 have hne1 : ¬ (w.heap.size = g ∨ w.heap.size = c) := by omega
 have HCH2 := Lib.hid ((Chg.of_below HB1.out (fun k => k = g ∨ k = c)).trans hch (fun _ _ h => h))
 have HRB2 := Lib.hid (hch.blk HRB.out hne1)
 have HCD2 := Lib.hid hcd2
 have HRD2 := Lib.hid hrd
 have HDS : Hid (decS st b = stF st (partsI (getK b)) (dec2 b).1 (decV b)) := Lib.hid rfl
 have HDV : Hid (decV b = { LVal.zero with kd := (getK b : Int), fr := ((dec1 b).2 : Int), tw := ((dec2 b).2 : Int) }) := Lib.hid rfl
 have HD1 : Hid (dec1 b = (⟨bI (getB b), 0⟩ : FI).upto 2 18446744073709551615) := Lib.hid rfl
 have HD2 : Hid (dec2 b = (dec1 b).1.upto 2 18446744073709551615) := Lib.hid rfl
 clear hown hcd2 hch hrd CG HB1 HRB HCD hne1
 generalize decS st b = ds at *
 generalize decV b = v0 at *
 have HV0 : Hid (v0.vs = [] ∧ v0.us = []) := Lib.hid (by rw [HDV.out]; exact ⟨rfl, rfl⟩)
 generalize dec2 b = r2 at *
 generalize dec1 b = r1 at *
 generalize getB b = body at *
 generalize getE b = eb at *
 generalize getK b = kb at *
 obtain ⟨W3, hW3⟩ : ∃ W3, W3 = w2.alloc (.cells #[.int .u8 kb, .slice A2 body.length c2] 111) := ⟨_, rfl⟩
 have h23 : Below w2.heap.size w2 W3 := by rw [hW3]; exact (Below.refl _ _).alloc (Nat.le_refl _) _
 have FX : Hid (Blk W3 w2.heap.size 111 #[.int .u8 kb, .slice A2 body.length c2]) := Lib.hid (by rw [hW3]; exact Blk.new _ _ _)
 have HCH3 := Lib.hid (HCH2.out.trans (Chg.of_below h23 _) (fun _ _ h => h))
 have HRB3 := Lib.hid (HRB2.out.below h23 HRB2.out.lt)
 have hc2s := HCH2.out.size
 have HCD3 := Lib.hid (HCD2.out.below h23 (by omega) (by omega))
 have HRD3 := Lib.hid (HRD2.out.below h23)
 have HW3 := Lib.hid hW3
 have l3 := FX.out.lt
 have lr3 := HRB3.out.lt
 have kbz : IntKind.i64.wrap (kb : Int) = kb := by have := HKB.out.1; rw [IntKind.wrap_i64]; omega
 clear hW3 h23 HCH2 HRB2 HCD2 HRD2
 by_cases he : eb = 0
 rotate_left
 ·have he1 : ((eb : Int) != 0) = true := by simp; omega
  have HD : Hid (de = eb) := Lib.hid (by rw [HDE.out, if_pos he])
  have hez : (eb : Int) ≠ 0 := by omega
  clear HDE he
  go_upto_region 3 with (fail)
  rw [← HW3.out]
  iterate 7 go_step
  refine wpList_store_row rfl 37 (.tmp 4) (.tmp 20) rfl w.heap.size Lt.zero.cells rfl rfl 37 Lt.zero.cells HRB3.out ltInfo rfl (lt_all _) ?_
  go_wp2_with (fail)
  refine bodyPost_ret_by (v := .tuple #[.agg Lt.zero.cells, .int .i64 eb]) (results_cell_row_tmp Tryz.results9 _ _ w.heap.size 37 Lt.zero.cells (0, 0) _ _ rfl (setRow_heap _ _ _ _ _ _ HRB3.out) rfl Tryz.underlying37 rfl ltInfo) rfl ?_
  exact rp47
 have he1 : ((eb : Int) != 0) = false := by simp; omega
 have HDE2 : Hid (de = if ¬ (1 ≤ kb ∧ kb ≤ 20) then 1 else if ds.1.done ≠ 0 ∨ chk ds.2 ≠ 0 then 4 else 0) := Lib.hid (by rw [HDE.out, if_neg (by omega)])
 clear HDE
 have f0 : W3.cell? ⟨w2.heap.size, 0, none⟩ = some (.int .u8 kb) := FX.out.cell 0
 by_cases hk : 1 ≤ kb ∧ kb ≤ 20
 rotate_left
 ·have HD : Hid (de = 1) := Lib.hid (by rw [HDE2.out, if_pos hk])
  have KN := Lib.hid (known_no (kb : Int) W3 (by omega))
  clear HDE2 hk
  go_upto_region 4 with (fail)
  rw [← HW3.out]
  go_wp2_with (fail)
  refine KN.out.mono ?_
  rintro e w4 ⟨rfl, rfl⟩
  go_upto_region 5 with (fail)
  iterate 4 go_step
  refine wpList_store_row rfl 37 (.tmp 4) (.tmp 27) rfl w.heap.size Lt.zero.cells rfl rfl 37 Lt.zero.cells HRB3.out ltInfo rfl (lt_all _) ?_
  go_wp2_with (fail)
  refine bodyPost_ret_by (v := .tuple #[.agg Lt.zero.cells, .int .i64 1]) (results_cell_row_tmp Tryz.results9 _ _ w.heap.size 37 Lt.zero.cells (0, 0) _ _ rfl (setRow_heap _ _ _ _ _ _ HRB3.out) rfl Tryz.underlying37 rfl ltInfo) rfl ?_
  exact rp47
 have HDE3 : Hid (de = if ds.1.done ≠ 0 ∨ chk ds.2 ≠ 0 then 4 else 0) := Lib.hid (by rw [HDE2.out, if_neg (fun h => h hk)])
 clear HDE2
 have KN := Lib.hid (known_yes (kb : Int) W3 (by omega) (by omega))
 have f1 : W3.cell? ⟨w2.heap.size, 1, none⟩ = some (.slice A2 body.length c2) := FX.out.cell 1
 have OF := Lib.hid (of_any A2 body.length c2 w2.heap.size (bI body) W3 (Nat.le_of_lt l3) HRD3.out HKB.out.2.1 (Nat.le_trans HKB.out.2.2 (by omega)))
 go_upto_region 4 with (fail)
 rw [← HW3.out]
 go_wp2_with (fail)
 refine KN.out.mono ?_
 rintro e w4 ⟨rfl, rfl⟩
 go_wp2_with (fail)
 refine OF.out.mono ?_
 rintro e w4 ⟨gi, rfl, hgi, hin, h34⟩
 have FX4 := Lib.hid (FX.out.below h34 l3)
 have HCH4 := Lib.hid (HCH3.out.trans (Chg.of_below h34 _) (fun _ _ h => h))
 have HRB4 := Lib.hid (HRB3.out.below h34 lr3)
 have HIN4 := Lib.hid hin
 have hs4 := h34.size
 have hgi4 := hin.lt
 have HCD4 := Lib.hid (HCD3.out.below h34 (by have := HCH3.out.size; omega) (by have := HCH3.out.size; omega))
 have hgiw : w.heap.size < gi := by omega
 have hfi : w2.heap.size ≠ gi := by omega
 have hc3s := HCH3.out.size
 clear hin h34 f0 f1 KN OF FX HCH3 HRB3 HCD3 HRD3 HW3
 generalize w2.heap.size = fB at *
 obtain ⟨s1, n1⟩ := r1
 obtain ⟨s2, n2⟩ := r2
 have HG1 : Hid (∀ X, InAt X gi w4.heap.size ⟨bI body, 0⟩ → Calls Tryz.prog 46 #[.pointer (some ⟨gi, 0, none⟩), .int .i64 2] X fun e X' => e = .returned (.int .u64 n1) ∧ InAt X' gi w4.heap.size s1 ∧ Chg X X' (isG gi)) := Lib.hid (fun X hX => by
  have h5 := get_any gi ⟨bI body, 0⟩ 2 w4.heap.size X hX
  rw [← HD1.out] at h5
  exact h5)
 have HG2 : Hid (∀ X, InAt X gi w4.heap.size s1 → Calls Tryz.prog 46 #[.pointer (some ⟨gi, 0, none⟩), .int .i64 2] X fun e X' => e = .returned (.int .u64 n2) ∧ InAt X' gi w4.heap.size s2 ∧ Chg X X' (isG gi)) := Lib.hid (fun X hX => by
  have h5 := get_any gi s1 2 w4.heap.size X hX
  rw [← HD2.out] at h5
  exact h5)
 have HNB : Hid (n1 < 65536 ∧ n2 < 65536 ∧ s2.l.length ≤ 1000000 ∧ bytesB s2.l) := Lib.hid (by
  have b1 : bytesB (⟨bI body, 0⟩ : FI).l := HKB.out.2.1
  have e1 := FI.upto_lt ⟨bI body, 0⟩ 2 18446744073709551615 b1
  have e2 := FI.upto_bytes ⟨bI body, 0⟩ 2 18446744073709551615 b1
  have e5 := FI.upto_short ⟨bI body, 0⟩ 2 18446744073709551615
  have b3 : (bI body).length = body.length := by unfold bI; simp
  have d1 : (⟨bI body, 0⟩ : FI).upto ((2 : Nat) : Int) 18446744073709551615 = (s1, n1) := HD1.out.symm
  have d1' : (⟨bI body, 0⟩ : FI).upto 2 18446744073709551615 = (s1, n1) := HD1.out.symm
  rw [d1] at e1
  rw [d1'] at e2 e5
  have e3 := FI.upto_lt s1 2 18446744073709551615 e2
  have e4 := FI.upto_bytes s1 2 18446744073709551615 e2
  have e6 := FI.upto_short s1 2 18446744073709551615
  have d2 : s1.upto ((2 : Nat) : Int) 18446744073709551615 = (s2, n2) := HD2.out.symm
  have d2' : s1.upto 2 18446744073709551615 = (s2, n2) := HD2.out.symm
  rw [d2] at e3
  rw [d2'] at e4 e6
  have := HKB.out.2.2
  simp only at e5 e6
  exact ⟨by simpa using e1, by simpa using e3, by omega, e4⟩)
 have wz1 : IntKind.i64.wrap (n1 : Int) = n1 := by have := HNB.out.1; rw [IntKind.wrap_i64]; omega
 have wz2 : IntKind.i64.wrap (n2 : Int) = n2 := by have := HNB.out.2.1; rw [IntKind.wrap_i64]; omega
 have hl := l_hdr kb n1 n2
 have fne : ¬ isG gi fB := by unfold isG; omega
 go_upto_region 7 with (fail)
 go_cut [9] (fun v9 wx => ∃ gl : Nat, v9 = .pointer (some ⟨gl, 0, none⟩) ∧ Hid (DecM w4 gi w4.heap.size s2 { Lt.zero with kd := (kb : Int), fr := (n1 : Int), tw := (n2 : Int) } gl wx))
 case first =>
  have x0 : w4.cell? ⟨fB, 0, none⟩ = some (.int .u8 kb) := FX4.out.cell 0
  have II := Lib.hid (HIN4.out.drew)
  have CT : Hid (Chg w4 w4.drew (isG gi)) := Lib.hid ((Chg.refl _ _).drewN 1)
  have FX := Lib.hid FX4.out.drew
  refine wp_region_held_drew (S := fun w' => w'.cell? ⟨fB, 0, none⟩ = some (.int .u8 kb)) (by kernel_rfl) x0 (fun hHeld => ?_)
  refine tkV 0 rfl ?_
  try simp only [Act.put, pS]
  refine tkV 1 rfl ?_
  try simp only [Act.put, pS]
  refine tkV 2 rfl ?_
  try simp only [Act.put, pS]
  refine tkV 3 rfl ?_
  try simp only [Act.put, pS]
  refine tkV 6 rfl ?_
  try simp only [Act.put, pS]
  refine wpAnyH_ready (rs := [4, 10]) (by kernel_rfl) (by simp) ?_
  refine (AllReadyH.cons (o := _) rfl (fun K hK => ?_) (AllReadyH.cons (o := _) rfl (fun K hK => ?_) AllReadyH.nil))
  ·go_simp
   refine (HG1.out _ II.out).mono ?_
   rintro e y1 ⟨rfl, i1, q1⟩
   (try go_simp)
   replace II := Lib.hid i1
   replace CT := Lib.hid (CT.out.trans q1 (fun _ _ h => h))
   replace FX := Lib.hid (q1.blk FX.out fne)
   have x0 : y1.cell? ⟨fB, 0, none⟩ = some (.int .u8 kb) := FX.out.cell 0
   clear i1 q1
   refine hK.out _ _ ?_ (fun hHeld => ?_)
   ·go_keep
   clear hK K
   try simp only [Act.put, pS]
   refine tkV 5 rfl ?_
   try simp only [Act.put, pS]
   refine wpAnyH_ready (rs := [7, 10]) (by kernel_rfl) (by simp) ?_
   refine (AllReadyH.cons (o := _) rfl (fun K hK => ?_) (AllReadyH.cons (o := _) rfl (fun K hK => ?_) AllReadyH.nil))
   ·go_simp
    refine (HG2.out _ II.out).mono ?_
    rintro e y2 ⟨rfl, i1, q1⟩
    (try go_simp)
    replace II := Lib.hid i1
    replace CT := Lib.hid (CT.out.trans q1 (fun _ _ h => h))
    replace FX := Lib.hid (q1.blk FX.out fne)
    have x0 : y2.cell? ⟨fB, 0, none⟩ = some (.int .u8 kb) := FX.out.cell 0
    clear i1 q1
    refine hK.out _ _ ?_ (fun hHeld => ?_)
    ·go_keep
    clear hK K
    try simp only [Act.put, pS]
    refine tkV 8 rfl ?_
    try simp only [Act.put, pS]
    refine tkV 9 rfl ?_
    try simp only [Act.put, pS]
    refine wpAnyH_ready (rs := [10]) (by kernel_rfl) (by simp) ?_
    refine (AllReadyH.cons (o := _) rfl (fun K hK => ?_) AllReadyH.nil)
    go_simp
    have lN := CT.out.size
    replace II := Lib.hid (II.out.below ((Below.refl _ _).alloc II.out.le (.cells ZL 37)))
    replace CT := Lib.hid (CT.out.trans (Chg.of_below ((Below.refl _ _).alloc (Nat.le_refl _) (.cells ZL 37)) _) (fun _ _ h => h))
    have GB := Lib.hid (Blk.new y2 37 ZL)
    have gne : ¬ isG gi y2.heap.size := by unfold isG; omega
    replace FX := Lib.hid (FX.out.alloc (.cells ZL 37))
    have x0 : (y2.alloc (.cells ZL 37)).cell? ⟨fB, 0, none⟩ = some (.int .u8 kb) := FX.out.cell 0
    refine hK.out _ _ ?_ (fun hHeld => ?_)
    ·go_keep
    clear hK K
    try simp only [Act.put, pS]
    refine wpAnyH_ready (rs := [11]) (by kernel_rfl) (by simp) ?_
    refine (AllReadyH.cons (o := _) rfl (fun K hK => ?_) AllReadyH.nil)
    have hrow := decM_row (l := { Lt.zero with kd := (kb : Int), fr := (n1 : Int), tw := (n2 : Int) }) II.out GB.out lN lN CT.out
    have lF : fB < w4.heap.size := by omega
    have x0 : (World.setRow (y2.alloc (.cells ZL 37)) y2.heap.size (Lt.cells { Lt.zero with kd := (kb : Int), fr := (n1 : Int), tw := (n2 : Int) })).cell? ⟨fB, 0, none⟩ = some (.int .u8 kb) := (FX.out.below (below_setRow (Below.refl w4.heap.size _) lN _) lF).cell 0
    refine step_store_row rfl 37 (.tmp 9) (.tmp 40) rfl y2.heap.size (Lt.cells { Lt.zero with kd := (kb : Int), fr := (n1 : Int), tw := (n2 : Int) }) rfl rfl 37 ZL GB.out ltInfo rfl (lt_all _) ?_
    refine hK.out _ _ ?_ (fun hHeld => ?_)
    ·go_keep
    clear hK K
    try simp only [Act.put, pS]
    refine wpAnyH_done (by kernel_rfl) ?_ _
    have HROW := Lib.hid hrow
    clear hrow
    go_wp2_with (fail)
    go_meet
    case rel => exact ⟨y2.heap.size, rfl, HROW⟩
   ·go_simp
    have lN := CT.out.size
    replace II := Lib.hid (II.out.below ((Below.refl _ _).alloc II.out.le (.cells ZL 37)))
    replace CT := Lib.hid (CT.out.trans (Chg.of_below ((Below.refl _ _).alloc (Nat.le_refl _) (.cells ZL 37)) _) (fun _ _ h => h))
    have GB := Lib.hid (Blk.new y1 37 ZL)
    have gne : ¬ isG gi y1.heap.size := by unfold isG; omega
    replace FX := Lib.hid (FX.out.alloc (.cells ZL 37))
    have x0 : (y1.alloc (.cells ZL 37)).cell? ⟨fB, 0, none⟩ = some (.int .u8 kb) := FX.out.cell 0
    refine hK.out _ _ ?_ (fun hHeld => ?_)
    ·go_keep
    clear hK K
    try simp only [Act.put, pS]
    refine wpAnyH_ready (rs := [7]) (by kernel_rfl) (by simp) ?_
    refine (AllReadyH.cons (o := _) rfl (fun K hK => ?_) AllReadyH.nil)
    go_simp
    refine (HG2.out _ II.out).mono ?_
    rintro e y2 ⟨rfl, i1, q1⟩
    (try go_simp)
    replace II := Lib.hid i1
    replace CT := Lib.hid (CT.out.trans q1 (fun _ _ h => h))
    replace FX := Lib.hid (q1.blk FX.out fne)
    have x0 : y2.cell? ⟨fB, 0, none⟩ = some (.int .u8 kb) := FX.out.cell 0
    replace GB := Lib.hid (q1.blk GB.out gne)
    clear i1 q1
    refine hK.out _ _ ?_ (fun hHeld => ?_)
    ·go_keep
    clear hK K
    try simp only [Act.put, pS]
    refine tkV 8 rfl ?_
    try simp only [Act.put, pS]
    refine tkV 9 rfl ?_
    try simp only [Act.put, pS]
    refine wpAnyH_ready (rs := [11]) (by kernel_rfl) (by simp) ?_
    refine (AllReadyH.cons (o := _) rfl (fun K hK => ?_) AllReadyH.nil)
    have hrow := decM_row (l := { Lt.zero with kd := (kb : Int), fr := (n1 : Int), tw := (n2 : Int) }) II.out GB.out lN lN CT.out
    have lF : fB < w4.heap.size := by omega
    have x0 : (World.setRow y2 y1.heap.size (Lt.cells { Lt.zero with kd := (kb : Int), fr := (n1 : Int), tw := (n2 : Int) })).cell? ⟨fB, 0, none⟩ = some (.int .u8 kb) := (FX.out.below (below_setRow (Below.refl w4.heap.size _) lN _) lF).cell 0
    refine step_store_row rfl 37 (.tmp 9) (.tmp 40) rfl y1.heap.size (Lt.cells { Lt.zero with kd := (kb : Int), fr := (n1 : Int), tw := (n2 : Int) }) rfl rfl 37 ZL GB.out ltInfo rfl (lt_all _) ?_
    refine hK.out _ _ ?_ (fun hHeld => ?_)
    ·go_keep
    clear hK K
    try simp only [Act.put, pS]
    refine wpAnyH_done (by kernel_rfl) ?_ _
    have HROW := Lib.hid hrow
    clear hrow
    go_wp2_with (fail)
    go_meet
    case rel => exact ⟨y1.heap.size, rfl, HROW⟩
  ·go_simp
   have lN := CT.out.size
   replace II := Lib.hid (II.out.below ((Below.refl _ _).alloc II.out.le (.cells ZL 37)))
   replace CT := Lib.hid (CT.out.trans (Chg.of_below ((Below.refl _ _).alloc (Nat.le_refl _) (.cells ZL 37)) _) (fun _ _ h => h))
   have GB := Lib.hid (Blk.new w4.drew 37 ZL)
   have gne : ¬ isG gi w4.drew.heap.size := by unfold isG; omega
   replace FX := Lib.hid (FX.out.alloc (.cells ZL 37))
   have x0 : (w4.drew.alloc (.cells ZL 37)).cell? ⟨fB, 0, none⟩ = some (.int .u8 kb) := FX.out.cell 0
   refine hK.out _ _ ?_ (fun hHeld => ?_)
   ·go_keep
   clear hK K
   try simp only [Act.put, pS]
   refine wpAnyH_ready (rs := [4]) (by kernel_rfl) (by simp) ?_
   refine (AllReadyH.cons (o := _) rfl (fun K hK => ?_) AllReadyH.nil)
   go_simp
   refine (HG1.out _ II.out).mono ?_
   rintro e y1 ⟨rfl, i1, q1⟩
   (try go_simp)
   replace II := Lib.hid i1
   replace CT := Lib.hid (CT.out.trans q1 (fun _ _ h => h))
   replace FX := Lib.hid (q1.blk FX.out fne)
   have x0 : y1.cell? ⟨fB, 0, none⟩ = some (.int .u8 kb) := FX.out.cell 0
   replace GB := Lib.hid (q1.blk GB.out gne)
   clear i1 q1
   refine hK.out _ _ ?_ (fun hHeld => ?_)
   ·go_keep
   clear hK K
   try simp only [Act.put, pS]
   refine tkV 5 rfl ?_
   try simp only [Act.put, pS]
   refine wpAnyH_ready (rs := [7]) (by kernel_rfl) (by simp) ?_
   refine (AllReadyH.cons (o := _) rfl (fun K hK => ?_) AllReadyH.nil)
   go_simp
   refine (HG2.out _ II.out).mono ?_
   rintro e y2 ⟨rfl, i1, q1⟩
   (try go_simp)
   replace II := Lib.hid i1
   replace CT := Lib.hid (CT.out.trans q1 (fun _ _ h => h))
   replace FX := Lib.hid (q1.blk FX.out fne)
   have x0 : y2.cell? ⟨fB, 0, none⟩ = some (.int .u8 kb) := FX.out.cell 0
   replace GB := Lib.hid (q1.blk GB.out gne)
   clear i1 q1
   refine hK.out _ _ ?_ (fun hHeld => ?_)
   ·go_keep
   clear hK K
   try simp only [Act.put, pS]
   refine tkV 8 rfl ?_
   try simp only [Act.put, pS]
   refine tkV 9 rfl ?_
   try simp only [Act.put, pS]
   refine wpAnyH_ready (rs := [11]) (by kernel_rfl) (by simp) ?_
   refine (AllReadyH.cons (o := _) rfl (fun K hK => ?_) AllReadyH.nil)
   have hrow := decM_row (l := { Lt.zero with kd := (kb : Int), fr := (n1 : Int), tw := (n2 : Int) }) II.out GB.out lN lN CT.out
   have lF : fB < w4.heap.size := by omega
   have x0 : (World.setRow y2 w4.heap.size (Lt.cells { Lt.zero with kd := (kb : Int), fr := (n1 : Int), tw := (n2 : Int) })).cell? ⟨fB, 0, none⟩ = some (.int .u8 kb) := (FX.out.below (below_setRow (Below.refl w4.heap.size _) lN _) lF).cell 0
   refine step_store_row rfl 37 (.tmp 9) (.tmp 40) rfl w4.heap.size (Lt.cells { Lt.zero with kd := (kb : Int), fr := (n1 : Int), tw := (n2 : Int) }) rfl rfl 37 ZL GB.out ltInfo rfl (lt_all _) ?_
   refine hK.out _ _ ?_ (fun hHeld => ?_)
   ·go_keep
   clear hK K
   try simp only [Act.put, pS]
   refine wpAnyH_done (by kernel_rfl) ?_ _
   have HROW := Lib.hid hrow
   clear hrow
   go_wp2_with (fail)
   go_meet
   case rel => exact ⟨w4.heap.size, rfl, HROW⟩
 case rest =>
  obtain ⟨gl, rfl, HM⟩ := hcut
  have hgl4 := HM.out.le
  have HCH7 := Lib.hid (HCH4.out.trans HM.out.chg (fun k hk e => by simp only [isG] at e; omega))
  have HRB7 := Lib.hid (HM.out.chg.blk HRB4.out (by unfold isG; omega))
  have HCD7 := Lib.hid (HCD4.out.below (B := w.heap.size) (HM.out.chg.below (by omega) (fun k hk e => by simp only [isG] at e; omega)) hcl hgl)
  have x0 := (HM.out.blk.cell 0).trans (show _ = some (.int .i64 kb) from rfl)
  have ll := HM.out.blk.lt
  have CP := Lib.hid (partsAll_any kb (by omega) wc (HKW.out wc HCH7.out))
  have HCDB : Hid (∀ W W', Below w.heap.size W W' → Cd W c g d' (cntX cx eb) (cntY cy eb) → Cd W' c g d' (cntX cx eb) (cntY cy eb)) := Lib.hid (fun W W' h1 h2 => h2.below h1 hcl hgl)
  clear HG1 HG2 hl fne FX4 HIN4 HCH4 HRB4 HCD4 HD1 HD2
  generalize partsI kb = is at *
  go_wp2_with (fail)
  refine CP.out.mono ?_
  rintro e w8 ⟨pv, rfl, hp⟩
  obtain ⟨ps, hpl, hpm, hown⟩ := hp.ex
  obtain ⟨Ap, cp2, rfl, hrd, _, _⟩ := own_slice hown
  have E0 : Hid (DecI st s2 v0 w (fun W => Cd W c g d' (cntX cx eb) (cntY cy eb)) g c w.heap.size gi w4.heap.size gl wc.heap.size is ps (.slice Ap ps.length cp2) 0 ⟨{ Lt.zero with kd := (kb : Int), fr := (n1 : Int), tw := (n2 : Int) }, [], [], [], []⟩ w8) := Lib.hid
   ⟨HM.out.inn.below (hp.bel.mono HM.out.inn.le), ⟨HM.out.blk.below hp.bel HM.out.blk.lt, LOwn.hdr _ _ _ _ _ (by have := HKB.out.1; omega) (by have := HNB.out.1; omega) (by have := HNB.out.2.1; omega), ⟨fun _ => rfl, fun _ => rfl⟩⟩, by rw [HDV.out]; rfl, HRB7.out.below hp.bel HRB7.out.lt, hpm, hown, HCH7.out.trans (Chg.of_below hp.bel _) (fun _ _ e => e), HCDB.out _ _ (hp.bel.mono HCH7.out.size) HCD7.out⟩
  have HPL := Lib.hid hpl
  have hn6 : ps.length ≤ 6 := by have := HLEN.out; omega
  clear hp hpl hpm hown hrd x0 CP HM HCH7 HRB7 HCD7
  go_wp2_with (fail)
  go_loopw [45] (fun iv wr => ∃ (j : Nat) (x : LV), j ≤ ps.length ∧ iv = .int .i64 j ∧ Hid (DecI st s2 v0 w (fun W => Cd W c g d' (cntX cx eb) (cntY cy eb)) g c w.heap.size gi w4.heap.size gl wc.heap.size is ps (.slice Ap ps.length cp2) j x wr)) (fun iv _ => ps.length - (intOf iv).toNat)
  case atStart => exact ⟨0, _, Nat.zero_le _, rfl, E0⟩
  case round =>
   clear E0
   obtain ⟨j, x, hj, rfl, HE⟩ := hrel
   by_cases hlt : j < ps.length
   ·have hltZ : (j : Int) < ps.length := by omega
    have hjl : j < is.length := by have := HPL.out; omega
    obtain ⟨kk, hkk⟩ : ∃ kk, is[j]? = some kk := ⟨_, List.getElem?_eq_getElem hjl⟩
    obtain ⟨b0, o, p, e1, hb0, hp, hc0⟩ := reads_at Pm.row (fun _ => rfl) (by omega) (own_reads HE.out.row) hlt
    subst e1
    obtain ⟨fid, hfa, hent, hget⟩ := HGET.out kk (List.mem_of_getElem? hkk) p wr (HE.out.pm j kk p hkk hp)
    obtain ⟨pf, pa, pb, px, py⟩ := p
    simp only at hfa
    subst hfa
    have q0 := hc0 0 _ rfl
    have q1 := hc0 1 _ rfl
    have q2 := hc0 2 _ rfl
    simp only [Nat.add_zero] at q0 q1 q2
    have HA := Lib.hid (HE.out.below HCDB.out ((Below.refl _ _).alloc (Nat.le_refl _) (.cells #[.func pf #[] #[], .func pa #[] px, .func (.func fid) #[] py] 123)))
    have hsl : (stF st (is.take j) s2 v0).1.l.length ≤ 1000000 := Nat.le_trans (stF_short st HST.out _ _ _) HNB.out.2.2.1
    have hsm : (kk = 12 → x.vs = []) ∧ (kk = 13 → x.us = []) := by
     have q := HGR.out j kk s2 v0 hkk HV0.out.1 HV0.out.2
     rw [← HE.out.val] at q
     exact ⟨q.1, fun e => List.map_eq_nil_iff.1 (q.2 e)⟩
    have CF := Lib.hid (hget gi gl w4.heap.size _ x _ (HA.out.pm j kk _ hkk hp) HA.out.inn hgl4 hsl HA.out.lat hsm)
    have HKK := Lib.hid hkk
    have HSTEP := Lib.hid (fun W' x' h1 h2 h3 h4 => HA.out.step (W' := W') (x' := x') HCDB.out hkk (by omega) (by omega) h1 h2 h3 h4)
    clear hc0 hp hget hkk hsl hjl hsm
    go_wp2_with (fail)
    refine CF.out.mono ?_
    rintro e w9 ⟨rfl, x', i1, i2, i3, i4⟩
    have HE9 := Lib.hid (HSTEP.out w9 x' i1 i2 i3 i4)
    clear i1 i2 i3 i4 q0 q1 q2 HA CF HSTEP
    go_wp2_with (fail)
    go_roundw
    case rel => exact ⟨j + 1, x', hlt, by go_num, HE9⟩
    case measure => simp [intOf]; omega
   ·have hje : j = ps.length := by omega
    have hltZ : ¬ (j : Int) < ps.length := by omega
    have htk : is.take j = is := List.take_of_length_le (by have := HPL.out; omega)
    have hinn := HE.out.inn
    have hval := HE.out.val
    rw [htk, show stF st is s2 v0 = ds from HDS.out.symm] at hinn hval
    have HIN := Lib.hid hinn
    have HVAL := Lib.hid hval
    have HJ := Lib.hid hje
    have DN := Lib.hid (doneIn_any gi ds.1 w4.heap.size wr hinn)
    have HRBK := Lib.hid HE.out.rbk
    have HLAT := Lib.hid HE.out.lat
    have HCH := Lib.hid HE.out.chg
    have HCOD := Lib.hid HE.out.cod
    have hlr := HE.out.rbk.lt
    clear hje htk hinn hval HE HDS HGET
    generalize hdd : ds.1.done = dn at *
    by_cases hd0 : dn = 0
    rotate_left
    ·have hdb : (dn != 0) = true := by simpa using hd0
     have HD : Hid (de = 4) := Lib.hid (by rw [HDE3.out, if_pos (.inl hd0)])
     clear hd0 HDE3 hdd
     go_wp2_with (fail)
     refine DN.out.mono ?_
     rintro e w10 ⟨rfl, rfl⟩
     go_upto_region 14 with (fail)
     iterate 4 go_step
     refine wpList_store_row rfl 37 (.tmp 4) (.tmp 62) rfl w.heap.size Lt.zero.cells rfl rfl 37 Lt.zero.cells HRBK.out ltInfo rfl (lt_all _) ?_
     go_wp2_with (fail)
     refine bodyPost_ret_by (v := .tuple #[.agg Lt.zero.cells, .int .i64 4]) (results_cell_row_tmp Tryz.results9 _ _ w.heap.size 37 Lt.zero.cells (0, 0) _ _ rfl (setRow_heap _ _ _ _ _ _ HRBK.out) rfl Tryz.underlying37 rfl ltInfo) rfl ?_
     have hbs := below_setRow (Below.refl w.heap.size wr) (Nat.le_refl _) Lt.zero.cells
     refine ⟨LV.zero, by rw [HD.out]; rfl, ?_, LOwn.zero _ _, ⟨d', HCDB.out _ _ hbs HCOD.out⟩, ⟨hbs.os.trans HCH.out.os, hbs.tape.trans HCH.out.tape, hbs.output.trans HCH.out.output, Nat.le_trans HCH.out.size hbs.size, fun k hk hn => (hbs.block k hk).trans (HCH.out.block k hk hn)⟩⟩
     rw [if_neg (by rw [HD.out]; omega)]; rfl
    ·subst hd0
     have hdb : ((0 : Int) != 0) = false := rfl
     have CC := Lib.hid (HCHK.out x wr (HKW.out wr HCH.out) HLAT.out.own.lin HVAL.out)
     rw [HVAL.out] at CC
     have HDE4 : Hid (de = if chk ds.2 ≠ 0 then 4 else 0) := Lib.hid (by rw [HDE3.out]; simp [hdd])
     clear HDE3 hdd
     generalize chk ds.2 = ck at *
     go_wp2_with (fail)
     refine DN.out.mono ?_
     rintro e w10 ⟨rfl, rfl⟩
     dsimp only
     rename_i hK
     refine hK _ _ ?_
     clear hK
     iterate 6 go_step
     refine wpList_load_rowG (by rfl) 37 (.tmp 9) rfl gl rfl 37 x.l.cells (0, 0) _ HLAT.out.blk Tryz.underlying37 rfl ltInfo ?_
     go_wp2_with (fail)
     refine CC.out.mono ?_
     rintro e w10 ⟨rfl, h10⟩
     have hlw : w.heap.size < gl := by omega
     have HRB10 := Lib.hid (HRBK.out.below h10 hlr)
     have HLA10 := Lib.hid (HLAT.out.below h10)
     have HCH10 := Lib.hid (HCH.out.trans (Chg.of_below h10 _) (fun _ _ e => e))
     have HCO10 := Lib.hid (HCDB.out _ _ (h10.mono HCH.out.size) HCOD.out)
     have hlr10 := HRB10.out.lt
     clear h10 CC HRBK HLAT HCH HCOD
     by_cases hck : ck = 0
     ·subst hck
      have HD : Hid (de = 0) := Lib.hid (by rw [HDE4.out]; simp)
      clear HDE4
      go_upto_region 15 with (fail)
      iterate 1 go_step
      refine wpList_load_row rfl 37 (.tmp 9) rfl gl rfl 37 x.l.cells (0, 0) _ HLA10.out.blk Tryz.underlying37 rfl ltInfo ?_
      refine wpList_store_row rfl 37 (.tmp 4) (.tmp 63) rfl w.heap.size x.l.cells rfl rfl 37 Lt.zero.cells HRB10.out ltInfo rfl (lt_all _) ?_
      go_wp2_with (fail)
      refine bodyPost_ret_by (v := .tuple #[.agg x.l.cells, .int .i64 0]) (results_cell_row_tmp Tryz.results9 _ _ w.heap.size 37 x.l.cells (0, 0) _ _ rfl (setRow_heap _ _ _ _ _ _ HRB10.out) rfl Tryz.underlying37 rfl ltInfo) rfl ?_
      have hbs := below_setRow (Below.refl w.heap.size w10) (Nat.le_refl _) x.l.cells
      have hbs1 : Chg w10 (w10.setRow w.heap.size x.l.cells) (fun k => k = w.heap.size) := ⟨rfl, rfl, rfl, by simp [World.setRow], fun k hk hn => setRow_other _ _ _ _ hn⟩
      refine ⟨x, by rw [HD.out]; rfl, ?_, (HLA10.out.own.chg hbs1 (fun k hk => by omega)).base (by omega), ⟨d', HCDB.out _ _ hbs HCO10.out⟩, ⟨hbs.os.trans HCH10.out.os, hbs.tape.trans HCH10.out.tape, hbs.output.trans HCH10.out.output, Nat.le_trans HCH10.out.size hbs.size, fun k hk hn => (hbs.block k hk).trans (HCH10.out.block k hk hn)⟩⟩
      rw [if_pos HD.out]; exact HVAL.out
     ·have hcb : (ck != 0) = true := by simpa using hck
      have HD : Hid (de = 4) := Lib.hid (by rw [HDE4.out, if_pos hck])
      clear hck HDE4
      go_upto_region 14 with (fail)
      iterate 4 go_step
      refine wpList_store_row rfl 37 (.tmp 4) (.tmp 62) rfl w.heap.size Lt.zero.cells rfl rfl 37 Lt.zero.cells HRB10.out ltInfo rfl (lt_all _) ?_
      go_wp2_with (fail)
      refine bodyPost_ret_by (v := .tuple #[.agg Lt.zero.cells, .int .i64 4]) (results_cell_row_tmp Tryz.results9 _ _ w.heap.size 37 Lt.zero.cells (0, 0) _ _ rfl (setRow_heap _ _ _ _ _ _ HRB10.out) rfl Tryz.underlying37 rfl ltInfo) rfl ?_
      have hbs := below_setRow (Below.refl w.heap.size w10) (Nat.le_refl _) Lt.zero.cells
      refine ⟨LV.zero, by rw [HD.out]; rfl, ?_, LOwn.zero _ _, ⟨d', HCDB.out _ _ hbs HCO10.out⟩, ⟨hbs.os.trans HCH10.out.os, hbs.tape.trans HCH10.out.tape, hbs.output.trans HCH10.out.output, Nat.le_trans HCH10.out.size hbs.size, fun k hk hn => (hbs.block k hk).trans (HCH10.out.block k hk hn)⟩⟩
      rw [if_neg (by rw [HD.out]; omega)]; rfl
end Go.Proofs.YtmpedblelnpjdaaGreatDoor
