/- NetComes: the law. -/
import Derived.Test.YtnnegldaekmgbaaGreatDoorZNcA
import Derived.Test.YtnnegldaekmgbaaGreatDoorZNtX
namespace Go.Proofs.YtnnegldaekmgbaaGreatDoor
open Go.RowKit
set_option linter.unusedSimpArgs false
set_option linter.unusedVariables false
set_option maxHeartbeats 8000000
set_option maxRecDepth 100000

structure ComesI (w : World) (xs : List LV) (lo g cd gt bg bd : Nat) (j : Nat) (v : Value) (s : NBg) (n : Nv) (m : Int) (t : Nat) (wr : World) : Prop where
  net : NetAt wr lo g cd gt bg bd v s n m
  inv : NcI xs n t
  bel : Below w.heap.size w wr
  tj : t ≤ 10 + j
  mj : m ≤ 3 * j
theorem near_same {w w' : World} {B B' : Nat} {x y : LV} (hx : LIn w B x) (hy : LIn w' B' y) (hn : y.near) (e : x.val = y.val) : x.near := by
  refine near_of hx ?_
  rw [e]
  refine ⟨⟨?_, ?_⟩, ?_, ?_, ?_⟩
  · show (y.us.map Up.val).length ≤ _
    rw [List.length_map, hy.ul]; exact hn.ul
  · intro u hu
    obtain ⟨z, hz, rfl⟩ := List.mem_map.1 hu
    have h1 := hn.us z hz
    have h2 := (hy.up.mem z hz).len
    show z.bs.length ≤ _
    omega
  · show y.vs.length ≤ _
    rw [hy.vl]; exact hn.vl
  · show y.ds.length ≤ _
    rw [hy.dl]; exact hn.dl
  · show y.ns.length ≤ _
    rw [hy.nl]; exact hn.nl
theorem NetAt.lt {W : World} {lo g cd gt bg bd : Nat} {v : Value} {s : NBg} {n : Nv} {m : Int} (h : NetAt W lo g cd gt bg bd v s n m) {k : Nat} (hk : NetS cd gt bg bd v k) : k < W.heap.size := by
  obtain ⟨d, x, y, hcd, hx, hy⟩ := h.cod
  obtain ⟨cs2, htb⟩ := tb_blk hcd.2
  rcases hk with rfl | rfl | rfl | rfl | e
  · exact hcd.1.lt
  · exact htb.lt
  · exact h.bag.1.lt
  · exact h.brd.lt
  · exact (h.bag.2.lt k e).2
theorem ComesI.below {w wr W : World} {xs : List LV} {lo g cd gt bg bd j : Nat} {v : Value} {s : NBg} {n : Nv} {m : Int} {t : Nat} (h : ComesI w xs lo g cd gt bg bd j v s n m t wr) (hb : Below wr.heap.size wr W) : ComesI w xs lo g cd gt bg bd j v s n m t W :=
  ⟨h.net.below hb, h.inv, h.bel.trans (hb.mono h.bel.size), h.tj, h.mj⟩
theorem netComes_law (A : Option Addr) (nn c : Nat) (xs : List LV) (A2 : Option Addr) (n2 c2 : Nat) (ats : List Nat) (pat : Nat) (hpat : pat < 4294967296) (w : World) (hK : KindsAt w)
    (h : LsI0 w w.heap.size A nn xs) (h2 : Reads w w.heap.size 1 A2 n2 ((bI ats).map (Value.int .u8))) (has : isBs ats) :
    Calls Tryz.prog 6 #[.slice A nn c, .slice A2 n2 c2, .int .u32 (pat : Int)] w fun e w' => e = .returned (.bool true) ∧ Below w.heap.size w w' := by
  have hz : ∀ (A : Option Addr) (nn c : Nat) (w : World), (Instr.build 83 #[(1, .slice A nn c)]).run Tryz.prog w = .ok (.agg #[.int .i64 0, .slice A nn c, .int .i64 0, .int .i64 0, .int .u32 0, .int .i64 0]) w := fun A nn c w => by kernel_rfl
  have FR : Calls Tryz.prog 30 #[.agg #[.int .i64 0, .slice A nn c, .int .i64 0, .int .i64 0, .int .u32 0, .int .i64 0]] w (FarNP nn xs w) := far34_any ⟨0, A, nn, c, 0, 0, 0, 0⟩ xs w.heap.size w h (Nat.le_refl _)
  have FR := Lib.hid FR
  have HK := Lib.hid hK
  have HX := Lib.hid h
  have HA := Lib.hid h2
  have HAL := Lib.hid (reads_len h2)
  have HAS := Lib.hid has
  have HP := Lib.hid hpat
  clear hK h h2 has hpat
  go_enter Tryz.func6, Tryz.ntmps6
  go_wp2_with (fail)
  refine FR.out.mono ?_
  rintro e w1 ⟨b, rfl, hnear, hb1⟩
  have B1 := Lib.hid hb1
  have HK1 := Lib.hid (HK.out.below hb1)
  have HN := Lib.hid hnear
  clear FR hb1 hnear hz
  cases b
  rotate_left
  · go_wp2_with (fail)
    refine (awake34_any _ HK1.out).mono ?_
    rintro e w3 ⟨rfl, hb3⟩
    have HB3 := Lib.hid (B1.out.trans (hb3.mono B1.out.size))
    clear hb3
    go_wp2_with (fail)
    go_ret
    exact ⟨rfl, HB3.out⟩
  have HM := Lib.hid (HN.out rfl)
  clear HN
  by_cases h40 : 40 < n2
  · have hd4 : decide (40 < n2) = true := decide_eq_true h40
    go_wp2_with (fail)
    refine (awake34_any _ HK1.out).mono ?_
    rintro e w3 ⟨rfl, hb3⟩
    have HB3 := Lib.hid (B1.out.trans (hb3.mono B1.out.size))
    clear hb3
    go_wp2_with (fail)
    go_ret
    exact ⟨rfl, HB3.out⟩
  have NW := Lib.hid (netNew_any 100 w1)
  go_wp2_with (fail)
  refine NW.out.mono ?_
  rintro e w2 ⟨g, cd, gt, bg, bd, rfl, hn, hb⟩
  have N2 := Lib.hid hn
  have B2 := Lib.hid (B1.out.trans (hb.mono B1.out.size))
  have K2 := Lib.hid (HK.out.below B2.out)
  have hlo := HK1.out.lt
  have hs1 := B1.out.size
  have hs2 := hb.size
  have LX := Lib.hid (LsIn.mk HX.out.rd (fun x hx => ⟨HX.out.mem x hx, HM.out.2 x hx⟩))
  have SD := Lib.hid (netSend_any (M := 0) (c := c) A xs w2 hn hlo K2.out (fun W' v' hs => LX.out.below (B2.out.trans ((hs.bel hn).mono hs1))) (show w.heap.size ≤ w2.heap.size by omega) ⟨by decide, by decide, by decide, by decide, by decide, by decide⟩ (by decide) (by have := HM.out.1; omega) HX.out.len)
  clear hn hb NW
  go_wp2_with (fail)
  refine SD.out.mono ?_
  rintro e w3 ⟨v3, s3, rfl, hI⟩
  have HI : Hid (ComesI w xs w1.heap.size g cd gt bg bd 0 v3 s3 (sendQ (Nv.new 100) xs xs.length).1 0 xs.length w3) := Lib.hid ⟨hI.net, NcI.sends xs xs.length (Nat.le_refl _) (by have := HM.out.1; have := HX.out.len; omega), B2.out.trans ((hI.st.bel N2.out).mono hs1), by have := HM.out.1; have := HX.out.len; omega, by decide⟩
  clear hI SD
  generalize (sendQ (Nv.new 100) xs xs.length).2 = q0 at *
  generalize (sendQ (Nv.new 100) xs xs.length).1 = n3 at *
  go_wp2_with (fail)
  go_loopw [8] (fun iv wr => ∃ (j : Nat) (v : Value) (s : NBg) (n : Nv) (m : Int) (t : Nat), j ≤ n2 ∧ iv = .int .i64 j ∧ Hid (ComesI w xs w1.heap.size g cd gt bg bd j v s n m t wr)) (fun iv _ => n2 - (intOf iv).toNat)
  case atStart => exact ⟨0, v3, s3, n3, 0, xs.length, Nat.zero_le _, rfl, HI⟩
  case round =>
    obtain ⟨j, v, s, n, m, t, hj, rfl, HE⟩ := hrel
    clear HI N2 K2 FR
    have HKr := Lib.hid (HK.out.below HE.out.bel)
    have LN := Lib.hid (netLen_any wr HE.out.net)
    have hwr := HE.out.bel.size
    have hwr2 : w1.heap.size ≤ wr.heap.size := by have := HE.out.net.low.1; have := HE.out.net.box.lt; omega
    by_cases hlt : j < n2
    · have hltZ : (j : Int) < n2 := by omega
      obtain ⟨q, hq⟩ : ∃ q : Nat, q = n.l.length := ⟨_, rfl⟩
      rw [← hq] at LN
      have HQ := Lib.hid hq
      clear hq
      by_cases hpos : 0 < q
      · have hd0 : decide (0 < q) = true := decide_eq_true hpos
        obtain ⟨ad, a, rfl, hadlt, ha, hca⟩ := reads_nat HA.out hlt
        have ha8 : a < 256 := isBs_get HAS.out ha
        have hcr : wr.cell? (ad.add j) = some (.int .u8 (a : Int)) := (HE.out.bel.cell (p := ad.add j) (by rw [block_of_add]; exact hadlt)).trans hca
        have LN8 := Lib.hid (netLen_any wr.drew (HE.out.net.below ((Below.refl _ _).drew)))
        rw [← HQ.out] at LN8
        obtain ⟨a4, ha4⟩ : ∃ a4, a4 = a / 4 := ⟨_, rfl⟩
        obtain ⟨k, hk⟩ : ∃ k, k = a4 % q := ⟨_, rfl⟩
        have hkq : k < q := by rw [hk]; exact Nat.mod_lt _ hpos
        have e1 : IntKind.u8.wrap ((a : Int) / 4) = (a4 : Int) := by rw [ha4, IntKind.wrap_u8]; omega
        have e2 : IntKind.i64.wrap (a4 : Int) = (a4 : Int) := by rw [IntKind.wrap_i64]; omega
        have e3 : (a4 : Int).tmod (q : Int) = (k : Int) := by rw [hk]; rfl
        have hq0 : (q = 0) = False := by simp; omega
        have HBD : Hid (Below w.heap.size w wr.drew) := Lib.hid (HE.out.bel.drew)
        have HND := Lib.hid (HE.out.net.below ((Below.refl wr.heap.size wr).drew))
        have HKD := Lib.hid (HKr.out.below ((Below.refl wr.heap.size wr).drew))
        have hcd : wr.drew.cell? (ad.add j) = some (.int .u8 (a : Int)) := hcr
        obtain ⟨f, hf⟩ : ∃ f, n.l[k]? = some f := ⟨_, List.getElem?_eq_getElem (by have := HQ.out; omega)⟩
        obtain ⟨p, hp⟩ : ∃ p, s.l[k]? = some p := ⟨_, List.getElem?_eq_getElem (by have := HQ.out; have := HE.out.net.len; omega)⟩
        obtain ⟨y, hy, hy0, hfy, hd0', hdv, hfl⟩ := HE.out.inv.at_ hf w w.heap.size (fun x hx => (HX.out.mem x hx))
        have PK := Lib.hid (netPeek_yes wr.drew HND.out hlo HKD.out (by have := HE.out.mj; omega) hp hf (by omega))
        have HY := Lib.hid hy
        have HY0 := Lib.hid hy0
        have HFY := Lib.hid hfy
        have HD0 := Lib.hid hd0'
        have HDV := Lib.hid hdv
        have HFL := Lib.hid hfl
        have HF := Lib.hid hf
        have HSP := Lib.hid hp
        have HA4 := Lib.hid ha4
        have HKQ := Lib.hid hk
        have HCA := Lib.hid hca
        clear ha hca hk ha4 hy hy0 hfy hd0' hdv hfl hf hp
        go_wp2_with (fail)
        refine LN.out.mono ?_
        rintro e w9 ⟨rfl, rfl⟩
        clear LN
        go_upto_region 8 with (fail)
        refine wp_region_held_drew (S := fun wq => wq.cell? (ad.add j) = some (.int .u8 (a : Int))) (by kernel_rfl) hcr (fun hHeld => ?_)
        refine wpAnyH_take (i := 0) (oi := _) (v := ?_) rfl (by kernel_rfl) (by kernel_rfl) (by kernel_rfl) (fun _ _ _ h => h) (Or.inl ⟨by rfl, ?_⟩) (by assumption) ?_
        rotate_left 1
        · (intro wq hSw; (try dsimp only at hSw); go_simp; (try with_reducible rfl))
        try simp only [Act.put, List.setIfInBounds_toArray, List.set_cons_zero, List.set_cons_succ, List.getElem_toArray, List.getElem_cons_zero, List.getElem_cons_succ]
        refine wpAnyH_take (i := 1) (oi := _) (v := ?_) rfl (by kernel_rfl) (by kernel_rfl) (by kernel_rfl) (fun _ _ _ h => h) (Or.inl ⟨by rfl, ?_⟩) (by assumption) ?_
        rotate_left 1
        · (intro wq hSw; (try dsimp only at hSw); go_simp; (try with_reducible rfl))
        try simp only [Act.put, List.setIfInBounds_toArray, List.set_cons_zero, List.set_cons_succ, List.getElem_toArray, List.getElem_cons_zero, List.getElem_cons_succ]
        refine wpAnyH_take (i := 2) (oi := _) (v := ?_) rfl (by kernel_rfl) (by kernel_rfl) (by kernel_rfl) (fun _ _ _ h => h) (Or.inl ⟨by rfl, ?_⟩) (by assumption) ?_
        rotate_left 1
        · (intro wq hSw; (try dsimp only at hSw); go_simp; (try with_reducible rfl))
        try simp only [Act.put, List.setIfInBounds_toArray, List.set_cons_zero, List.set_cons_succ, List.getElem_toArray, List.getElem_cons_zero, List.getElem_cons_succ]
        refine wpAnyH_take (i := 3) (oi := _) (v := ?_) rfl (by kernel_rfl) (by kernel_rfl) (by kernel_rfl) (fun _ _ _ h => h) (Or.inl ⟨by rfl, ?_⟩) (by assumption) ?_
        rotate_left 1
        · (intro wq hSw; (try dsimp only at hSw); go_simp; (try with_reducible rfl))
        try simp only [Act.put, List.setIfInBounds_toArray, List.set_cons_zero, List.set_cons_succ, List.getElem_toArray, List.getElem_cons_zero, List.getElem_cons_succ]
        refine wpAnyH_take (i := 4) (oi := _) (v := ?_) rfl (by kernel_rfl) (by kernel_rfl) (by kernel_rfl) (fun _ _ _ h => h) (Or.inl ⟨by rfl, ?_⟩) (by assumption) ?_
        rotate_left 1
        · (intro wq hSw; (try dsimp only at hSw); go_simp; (try with_reducible rfl))
        try simp only [Act.put, List.setIfInBounds_toArray, List.set_cons_zero, List.set_cons_succ, List.getElem_toArray, List.getElem_cons_zero, List.getElem_cons_succ]
        refine wpAnyH_take (i := 5) (oi := _) (v := ?_) rfl (by kernel_rfl) (by kernel_rfl) (by kernel_rfl) (fun _ _ _ h => h) (Or.inl ⟨by rfl, ?_⟩) (by assumption) ?_
        rotate_left 1
        · (intro wq hSw; (try dsimp only at hSw); go_simp; (try with_reducible rfl))
        try simp only [Act.put, List.setIfInBounds_toArray, List.set_cons_zero, List.set_cons_succ, List.getElem_toArray, List.getElem_cons_zero, List.getElem_cons_succ]
        refine wpAnyH_take (i := 6) (oi := _) (v := ?_) rfl (by kernel_rfl) (by kernel_rfl) (by kernel_rfl) (fun _ _ _ h => h) (Or.inl ⟨by rfl, ?_⟩) (by assumption) ?_
        rotate_left 1
        · (intro wq hSw; (try dsimp only at hSw); go_simp; (try with_reducible rfl))
        try simp only [Act.put, List.setIfInBounds_toArray, List.set_cons_zero, List.set_cons_succ, List.getElem_toArray, List.getElem_cons_zero, List.getElem_cons_succ]
        refine wpAnyH_ready (rs := [7]) (by kernel_rfl) (by simp) ?_
        refine AllReadyH.cons (o := _) rfl (fun K hK => ?_) AllReadyH.nil
        go_simp
        refine LN8.out.mono ?_; rintro e w9 ⟨rfl, rfl⟩
        (try go_simp)
        refine hK.out _ _ ?_ (fun hHeld => ?_)
        · go_keep
        clear hK K
        try simp only [Act.put, List.setIfInBounds_toArray, List.set_cons_zero, List.set_cons_succ, List.getElem_toArray, List.getElem_cons_zero, List.getElem_cons_succ]
        refine wpAnyH_take (i := 8) (oi := _) (v := ?_) rfl (by kernel_rfl) (by kernel_rfl) (by kernel_rfl) (fun _ _ _ h => h) (Or.inl ⟨by rfl, ?_⟩) (by assumption) ?_
        rotate_left 1
        · (intro wq hSw; (try dsimp only at hSw); go_simp; (try with_reducible rfl))
        try simp only [Act.put, List.setIfInBounds_toArray, List.set_cons_zero, List.set_cons_succ, List.getElem_toArray, List.getElem_cons_zero, List.getElem_cons_succ]
        refine wpAnyH_take (i := 9) (oi := _) (v := ?_) rfl (by kernel_rfl) (by kernel_rfl) (by kernel_rfl) (fun _ _ _ h => h) (Or.inl ⟨by rfl, ?_⟩) (by assumption) ?_
        rotate_left 1
        · (intro wq hSw; (try dsimp only at hSw); go_simp; (try with_reducible rfl))
        try simp only [Act.put, List.setIfInBounds_toArray, List.set_cons_zero, List.set_cons_succ, List.getElem_toArray, List.getElem_cons_zero, List.getElem_cons_succ]
        refine wpAnyH_done (by kernel_rfl) ?_ _
        clear hHeld e1 e2 e3 hcr LN8
        generalize hWd : wr.drew = W3 at *
        have HWD := Lib.hid hWd
        clear hWd
        go_wp2_with (fail)
        refine PK.out.mono ?_
        rintro e w4 ⟨x, rfl, hxv, hxo, hn4, hc4⟩
        rw [if_pos HD0.out, HDV.out] at hxv
        rw [decide_eq_true HD0.out]
        have hs4 : NStep W3 w4 cd gt bg bd v v := NStep.codec hc4 bg bd v
        have hb34 : Below w.heap.size W3 w4 := (hs4.bel HND.out).mono hs1
        obtain ⟨W5, hW5⟩ : ∃ W5, W5 = w4.alloc (.cells x.l.cells 48) := ⟨_, rfl⟩
        have hb45 : Below w4.heap.size w4 W5 := by rw [hW5]; exact (Below.refl _ _).alloc (Nat.le_refl _) _
        have hX5 : Blk W5 w4.heap.size 48 x.l.cells := by rw [hW5]; exact Blk.new _ _ _
        have hwx := hb34.size
        have hw3 := HBD.out.size
        have hb35 : Below w.heap.size W3 W5 := hb34.trans (hb45.mono (by omega))
        have hc5 : W5.cell? (ad.add j) = some (.int .u8 (a : Int)) := (hb35.cell (p := ad.add j) (by rw [block_of_add]; exact hadlt)).trans hcd
        have HX5 := Lib.hid hX5
        have HO5 := Lib.hid (hxo.below hb45)
        have HXV := Lib.hid hxv
        have HN5 := Lib.hid (hn4.below hb45)
        have HB5 := Lib.hid (HBD.out.trans hb35)
        have HLS : Hid (∀ i, NetS cd gt bg bd v i → i < W3.heap.size) := Lib.hid (fun i hi => HND.out.lt hi)
        have hx4 : W3.heap.size ≤ w4.heap.size := hs4.chg.size
        have HW5 := Lib.hid hW5
        clear hW5 hX5 hb45 hb34 hb35 hxo hxv hn4 hc4 hs4 hcd PK hHeld
        dsimp only
        rename_i hK9
        refine hK9 _ _ ?_
        clear hK9
        iterate 12 go_step
        refine wpList_store_fresh rfl 48 (.tmp 10) (.tmp 54) rfl x.l.cells 48 Lt.zero.cells rfl rfl ltInfo rfl (lt_all _) ?_
        rw [← HW5.out]
        clear HW5
        generalize w4.heap.size = gx at *
        go_upto_region 10 with (fail)
        obtain ⟨r, hr⟩ : ∃ r, r = a % 4 := ⟨_, rfl⟩
        have hr4 : r < 4 := by omega
        have e4 : IntKind.u8.wrap ((a : Int) % 4) = (r : Int) := by rw [hr, IntKind.wrap_u8]; omega
        have e5 : ((a : Int) % 4) = (r : Int) := by rw [hr]; omega
        have HR := Lib.hid hr
        clear hr
        go_cut [60] (fun v60 wx => v60 = .int .u8 (r : Int) ∧ W5 = wx)
        case first =>
          go_wp2_with (fail)
          go_meet
          case rel => exact ⟨by rw [e5], rfl⟩
        obtain ⟨rfl, rfl⟩ := hcut
        clear e4 e5
        rename_i hK
        refine hK _ _ ?_
        clear hK
        rename_i hK23 Kz
        have HK5 := Lib.hid (HK.out.below HB5.out)
        have ht := HE.out.tj
        have hm5 := HE.out.mj
        have HOK := Lib.hid (HE.out.inv.ok)
        have HSM := Lib.hid (HE.out.inv.ok.small (by omega))
        have hcd5 : k < n.l.length := by have := HQ.out; omega
        go_cut [88] (fun v88 wx => ∃ (v' : Value) (s' : NBg) (n' : Nv) (m' : Int) (t' : Nat), Hid (ComesI w xs w1.heap.size g cd gt bg bd (j + 1) v' s' n' m' t' wx))
        case first =>
          rcases (show r = 0 ∨ r = 1 ∨ r = 2 ∨ r = 3 by omega) with rfl | rfl | rfl | rfl
          · have TW := Lib.hid (netTwice_yes W5 HN5.out HOK.out (by omega) (by have := HE.out.inv.most; have := HOK.out.len; omega) HSP.out HF.out)
            go_wp2_with (fail)
            refine TW.out.mono ?_
            rintro e w6 ⟨rfl, v6, s6, hn6, hs6⟩
            have HI6 : Hid (ComesI w xs w1.heap.size g cd gt bg bd (j + 1) v6 s6 _ (m + 1) (t + 1) w6) := Lib.hid ⟨hn6, HE.out.inv.twice HF.out, HB5.out.trans ((hs6.bel HN5.out).mono hs1), by omega, by omega⟩
            clear hn6 hs6 TW
            go_wp2_with (fail)
            go_meet
            case rel => exact ⟨v6, s6, _, m + 1, t + 1, HI6⟩
          · have LS := Lib.hid (netLose_yes W5 HN5.out HSM.out HSP.out HF.out)
            go_wp2_with (fail)
            refine LS.out.mono ?_
            rintro e w6 ⟨rfl, v6, hn6, hs6⟩
            have HI6 : Hid (ComesI w xs w1.heap.size g cd gt bg bd (j + 1) v6 _ _ (m + 1) (t + 1) w6) := Lib.hid ⟨hn6, HE.out.inv.gone hcd5 (.inr (.inl rfl)), HB5.out.trans ((hs6.bel HN5.out).mono hs1), by omega, by omega⟩
            clear hn6 hs6 LS
            go_wp2_with (fail)
            go_meet
            case rel => exact ⟨v6, _, _, m + 1, t + 1, HI6⟩
          · have SP := Lib.hid (netSpoil_yes (a : Int) pat W5 HN5.out hlo HK5.out (by omega) HSP.out HF.out (by have := HFL.out; omega) HD0.out HP.out (by omega) (by omega))
            go_wp2_with (fail)
            refine SP.out.mono ?_
            rintro e w6 ⟨rfl, x6, hn6, hs6⟩
            have HF6 : Hid (({ n with l := n.l.set k (f.1, turnV (a : Int) pat f.2) } : Nv).l[k]? = some (f.1, turnV (a : Int) pat f.2)) := Lib.hid (List.getElem?_set_self hcd5)
            obtain ⟨p6, hp6⟩ : ∃ p6, (s.set k x6).l[k]? = some p6 := ⟨_, List.getElem?_eq_getElem (by have := hn6.len; simp only [List.length_set] at this; omega)⟩
            have HK6 := Lib.hid (kinds_low HN5.out hlo HK5.out hs6)
            have CM := Lib.hid (netCome_yes w6 hn6 hlo HK6.out (by omega) HSM.out hp6 HF6.out (by rw [turnV_len]; have := HFL.out; omega))
            have HB6 : Hid (Below w.heap.size w w6) := Lib.hid (HB5.out.trans ((hs6.bel HN5.out).mono hs1))
            have HN6 := Lib.hid hn6
            clear hn6 hs6 hp6 SP
            go_wp2_with (fail)
            refine CM.out.mono ?_
            rintro e w7 ⟨x7, v7, rfl, hz1, hz2, hn7, hs7⟩
            simp only [came_set] at hn7
            have HI7 : Hid (ComesI w xs w1.heap.size g cd gt bg bd (j + 1) v7 _ _ (m + 1 + 1 + 1) (t + 1) w7) := Lib.hid ⟨hn7, HE.out.inv.come hcd5 _, HB6.out.trans ((hs7.bel HN6.out).mono hs1), by omega, by omega⟩
            clear hn7 hs7 CM hz1 hz2
            obtain ⟨W8, hW8⟩ : ∃ W8, W8 = w7.alloc (.cells x7.l.cells 48) := ⟨_, rfl⟩
            have hb8 : Below w7.heap.size w7 W8 := by rw [hW8]; exact (Below.refl _ _).alloc (Nat.le_refl _) _
            have HI8 := Lib.hid (HI7.out.below hb8)
            have hc8 : W8.cell? (ad.add j) = some (.int .u8 (a : Int)) := (HI8.out.bel.cell (p := ad.add j) (by rw [block_of_add]; exact hadlt)).trans HCA.out
            have HSPO := Lib.hid (fun h80 hp0 => spoiled y w w.heap.size (HX.out.mem y HY.out) HY0.out a pat h80 hp0)
            have HW8 := Lib.hid hW8
            clear hW8 hb8
            dsimp only
            rename_i hK9
            refine hK9 _ _ ?_
            clear hK9
            iterate 12 go_step
            refine wpList_store_fresh rfl 48 (.tmp 12) (.tmp 113) rfl x7.l.cells 48 Lt.zero.cells rfl rfl ltInfo rfl (lt_all _) ?_
            rw [← HW8.out]
            by_cases hb : dE (turnV (a : Int) pat f.2) = 0
            · rw [decide_eq_true hb]
              by_cases hp0 : pat % 256 = 0
              · have hp1 : ((pat : Int) % 256) = 0 := by omega
                go_wp2_with (fail)
                go_meet
                case rel => exact ⟨_, _, _, _, _, HI8⟩
              · have h80 : ¬ a < 80 := fun h => HSPO.out h hp0 (by rw [← HFY.out]; exact hb)
                have hp1 : ((pat : Int) % 256 != 0) = true := by simp; omega
                have h81 : decide (a < 80) = false := decide_eq_false h80
                go_wp2_with (fail)
                go_meet
                case rel => exact ⟨_, _, _, _, _, HI8⟩
            · rw [decide_eq_false hb]
              go_wp2_with (fail)
              go_meet
              case rel => exact ⟨_, _, _, _, _, HI8⟩
          · have CM := Lib.hid (netCome_yes W5 HN5.out hlo HK5.out (by omega) HSM.out HSP.out HF.out (by have := HFL.out; omega))
            go_wp2_with (fail)
            refine CM.out.mono ?_
            rintro e w6 ⟨z, v6, rfl, hzv, hzo, hn6, hs6⟩
            rw [if_pos HD0.out, HDV.out] at hzv
            rw [decide_eq_true HD0.out]
            have HI6 : Hid (ComesI w xs w1.heap.size g cd gt bg bd (j + 1) v6 _ _ (m + 1 + 1) (t + 1) w6) := Lib.hid ⟨hn6, HE.out.inv.come hcd5 _, HB5.out.trans ((hs6.bel HN5.out).mono hs1), by omega, by omega⟩
            have ho6 : LOwn w6 W3.heap.size x := HO5.out.chg hs6.chg (fun i hi => HLS.out i hi)
            have hx6 : Blk w6 gx 48 x.l.cells := hs6.chg.blk HX5.out (HN5.out.out HX5.out (by decide) (by decide) (by decide) (by decide) (by decide))
            obtain ⟨W7, hW7⟩ : ∃ W7, W7 = w6.alloc (.cells z.l.cells 48) := ⟨_, rfl⟩
            have hb7 : Below w6.heap.size w6 W7 := by rw [hW7]; exact (Below.refl _ _).alloc (Nat.le_refl _) _
            have hz7 : Blk W7 w6.heap.size 48 z.l.cells := by rw [hW7]; exact Blk.new _ _ _
            have HI7 := Lib.hid (HI6.out.below hb7)
            have hx7 := hx6.below hb7 hx6.lt
            have hx8 := (ho6.below hb7).lin
            have hz8 := (hzo.below hb7).lin
            have hny := HM.out.2 y HY.out
            have SM0 := refSameG_any x z W7.heap.size W7.heap.size W7 hx8 hz8 (Nat.le_refl _) (Nat.le_refl _) (near_same hx8 (HX.out.mem y HY.out) hny HXV.out)
            rw [show sameB x z = true by unfold sameB; rw [HXV.out, hzv]; simp] at SM0
            have SM := Lib.hid SM0
            clear SM0
            have HX7 := Lib.hid hx7
            have HZ7 := Lib.hid hz7
            have HZL := Lib.hid hz8
            have HZV := Lib.hid hzv
            have HW7 := Lib.hid hW7
            clear hW7 hb7 hx7 hz7 hx8 hz8 hny ho6 hx6 hzo hn6 hs6 CM hzv
            dsimp only
            rename_i hK9
            refine hK9 _ _ ?_
            clear hK9
            iterate 12 go_step
            refine wpList_store_fresh rfl 48 (.tmp 14) (.tmp 65) rfl z.l.cells 48 Lt.zero.cells rfl rfl ltInfo rfl (lt_all _) ?_
            rw [← HW7.out]
            clear HW7
            generalize w6.heap.size = gz at *
            go_upto_region 12 with (fail)
            iterate 17 go_step
            refine wpList_load_rowG (by rfl) 48 (.tmp 10) rfl gx rfl 48 x.l.cells (0, 0) _ HX7.out Tryz.underlying48 rfl ltInfo ?_
            refine wpList_load_rowG (by rfl) 48 (.tmp 14) rfl gz rfl 48 z.l.cells (0, 0) _ HZ7.out Tryz.underlying48 rfl ltInfo ?_
            go_wp2_with (fail)
            refine SM.out.mono ?_
            rintro e w8 ⟨rfl, hb8⟩
            have HI8 := Lib.hid (HI7.out.below hb8)
            have HZ8 := Lib.hid (HZ7.out.below hb8 HZ7.out.lt)
            have AM := Lib.hid (among_any A nn c w.heap.size w8.heap.size (by have := HM.out.1; omega) xs z w8 (LX.out.below HI8.out.bel) HI8.out.bel.size ((HZL.out.below hb8).more hb8.size) (Nat.le_refl _))
            clear hb8 SM HX7 HZ7
            dsimp only
            rename_i hK9
            refine hK9 _ _ ?_
            clear hK9
            iterate 16 go_step
            refine wpList_load_rowG (by rfl) 48 (.tmp 14) rfl gz rfl 48 z.l.cells (0, 0) _ HZ8.out Tryz.underlying48 rfl ltInfo ?_
            go_wp2_with (fail)
            refine AM.out.mono ?_
            rintro e w9 ⟨b, rfl, hb, hb9⟩
            have HBT : Hid (b = true) := Lib.hid (hb.2 ⟨y, HY.out, HZV.out.symm⟩)
            have HI9 := Lib.hid (HI8.out.below hb9)
            have hbt := HBT.out
            subst hbt
            clear hb hb9 AM
            go_wp2_with (fail)
            go_meet
            case rel => exact ⟨_, _, _, _, _, HI9⟩
        case rest =>
          obtain ⟨v', s', n', m', t', HI⟩ := hcut
          obtain ⟨za, hza⟩ : ∃ za, za = n'.b.a := ⟨_, rfl⟩
          obtain ⟨zb, hzb⟩ : ∃ zb, zb = n'.b.b := ⟨_, rfl⟩
          obtain ⟨zc, hzc⟩ : ∃ zc, zc = n'.b.c := ⟨_, rfl⟩
          obtain ⟨zd, hzd⟩ : ∃ zd, zd = n'.b.d := ⟨_, rfl⟩
          obtain ⟨zq, hzq⟩ : ∃ zq, zq = n'.l.length := ⟨_, rfl⟩
          have CN0 := netCounts_any wc HI.out.net
          have hbal := HI.out.inv.bal
          have hob := HI.out.inv.ok.b
          have hoc := HI.out.inv.ok.c
          have hod := HI.out.inv.ok.d
          have hol := HI.out.inv.ok.len
          have htj := HI.out.tj
          rw [← hza, ← hzb, ← hzc, ← hzd] at CN0
          rw [← hza, ← hzb, ← hzc, ← hzd, ← hzq] at hbal
          rw [← hzb] at hob
          rw [← hzc] at hoc
          rw [← hzd] at hod
          rw [← hzq] at hol
          have w1' : IntKind.i64.wrap (zb + zc) = zb + zc := by rw [IntKind.wrap_i64]; omega
          have w2' : IntKind.i64.wrap (zb + zc + zd) = zb + zc + zd := by rw [IntKind.wrap_i64]; omega
          have w3' : IntKind.i64.wrap (zb + zc + zd + (zq : Int)) = za := by rw [IntKind.wrap_i64]; omega
          have CN := Lib.hid CN0
          clear CN0
          have HZQ := Lib.hid hzq
          clear hza hzb hzc hzd hzq hbal hob hoc hod hol htj
          refine hK23 _ _ ?_
          clear hK23
          go_wp2_with (fail)
          refine CN.out.mono ?_
          rintro e wd ⟨rfl, hbd⟩
          have HI2 := Lib.hid (HI.out.below hbd)
          clear hbd CN
          obtain ⟨W9, hW9⟩ : ∃ W9, W9 = wd.alloc (.cells #[.int .i64 za, .int .i64 zb, .int .i64 zc, .int .i64 zd] 93) := ⟨_, rfl⟩
          have hb9 : Below wd.heap.size wd W9 := by rw [hW9]; exact (Below.refl _ _).alloc (Nat.le_refl _) _
          have hC9 : Blk W9 wd.heap.size 93 #[.int .i64 za, .int .i64 zb, .int .i64 zc, .int .i64 zd] := by rw [hW9]; exact Blk.new _ _ _
          have HI9 := Lib.hid (HI2.out.below hb9)
          have c0 : W9.cell? ⟨wd.heap.size, 0, none⟩ = some (.int .i64 za) := hC9.cell 0
          have c1 : W9.cell? ⟨wd.heap.size, 1, none⟩ = some (.int .i64 zb) := hC9.cell 1
          have c2 : W9.cell? ⟨wd.heap.size, 2, none⟩ = some (.int .i64 zc) := hC9.cell 2
          have c3 : W9.cell? ⟨wd.heap.size, 3, none⟩ = some (.int .i64 zd) := hC9.cell 3
          have LN9 := Lib.hid (netLen_any W9.drew (HI9.out.net.below ((Below.refl _ _).drew)))
          rw [← HZQ.out] at LN9
          have HI9d := Lib.hid (HI9.out.below ((Below.refl _ _).drew))
          have HW9 := Lib.hid hW9
          clear hW9 hb9 hC9
          go_upto_region 24 with (fail)
          rw [← HW9.out]
          clear HW9
          generalize wd.heap.size = gc at *
          refine wp_region_held_drew (S := fun wq => wq.cell? ⟨gc, 0, none⟩ = some (.int .i64 za) ∧ wq.cell? ⟨gc, 1, none⟩ = some (.int .i64 zb) ∧ wq.cell? ⟨gc, 2, none⟩ = some (.int .i64 zc) ∧ wq.cell? ⟨gc, 3, none⟩ = some (.int .i64 zd)) (by kernel_rfl) ⟨c0, c1, c2, c3⟩ (fun hHeld => ?_)
          refine wpAnyH_take (i := 0) (oi := _) (v := ?_) rfl (by kernel_rfl) (by kernel_rfl) (by kernel_rfl) (fun _ _ _ h => h) (Or.inl ⟨by rfl, ?_⟩) (by assumption) ?_
          rotate_left 1
          · (intro wq hSw; (try dsimp only at hSw); go_simp; (try with_reducible rfl))
          try simp only [Act.put, List.setIfInBounds_toArray, List.set_cons_zero, List.set_cons_succ, List.getElem_toArray, List.getElem_cons_zero, List.getElem_cons_succ]
          refine wpAnyH_take (i := 1) (oi := _) (v := ?_) rfl (by kernel_rfl) (by kernel_rfl) (by kernel_rfl) (fun _ _ _ h => h) (Or.inl ⟨by rfl, ?_⟩) (by assumption) ?_
          rotate_left 1
          · (intro wq hSw; (try dsimp only at hSw); go_simp; (try with_reducible rfl))
          try simp only [Act.put, List.setIfInBounds_toArray, List.set_cons_zero, List.set_cons_succ, List.getElem_toArray, List.getElem_cons_zero, List.getElem_cons_succ]
          refine wpAnyH_take (i := 2) (oi := _) (v := ?_) rfl (by kernel_rfl) (by kernel_rfl) (by kernel_rfl) (fun _ _ _ h => h) (Or.inl ⟨by rfl, ?_⟩) (by assumption) ?_
          rotate_left 1
          · (intro wq hSw; (try dsimp only at hSw); go_simp; (try with_reducible rfl))
          try simp only [Act.put, List.setIfInBounds_toArray, List.set_cons_zero, List.set_cons_succ, List.getElem_toArray, List.getElem_cons_zero, List.getElem_cons_succ]
          refine wpAnyH_take (i := 3) (oi := _) (v := ?_) rfl (by kernel_rfl) (by kernel_rfl) (by kernel_rfl) (fun _ _ _ h => h) (Or.inl ⟨by rfl, ?_⟩) (by assumption) ?_
          rotate_left 1
          · (intro wq hSw; (try dsimp only at hSw); go_simp; (try with_reducible rfl))
          try simp only [Act.put, List.setIfInBounds_toArray, List.set_cons_zero, List.set_cons_succ, List.getElem_toArray, List.getElem_cons_zero, List.getElem_cons_succ]
          refine wpAnyH_take (i := 4) (oi := _) (v := ?_) rfl (by kernel_rfl) (by kernel_rfl) (by kernel_rfl) (fun _ _ _ h => h) (Or.inl ⟨by rfl, ?_⟩) (by assumption) ?_
          rotate_left 1
          · (intro wq hSw; (try dsimp only at hSw); go_simp; (try with_reducible rfl))
          try simp only [Act.put, List.setIfInBounds_toArray, List.set_cons_zero, List.set_cons_succ, List.getElem_toArray, List.getElem_cons_zero, List.getElem_cons_succ]
          refine wpAnyH_take (i := 5) (oi := _) (v := ?_) rfl (by kernel_rfl) (by kernel_rfl) (by kernel_rfl) (fun _ _ _ h => h) (Or.inl ⟨by rfl, ?_⟩) (by assumption) ?_
          rotate_left 1
          · (intro wq hSw; (try dsimp only at hSw); go_simp; (try with_reducible rfl))
          try simp only [Act.put, List.setIfInBounds_toArray, List.set_cons_zero, List.set_cons_succ, List.getElem_toArray, List.getElem_cons_zero, List.getElem_cons_succ]
          refine wpAnyH_take (i := 6) (oi := _) (v := ?_) rfl (by kernel_rfl) (by kernel_rfl) (by kernel_rfl) (fun _ _ _ h => h) (Or.inl ⟨by rfl, ?_⟩) (by assumption) ?_
          rotate_left 1
          · (intro wq hSw; (try dsimp only at hSw); go_simp; (try with_reducible rfl))
          try simp only [Act.put, List.setIfInBounds_toArray, List.set_cons_zero, List.set_cons_succ, List.getElem_toArray, List.getElem_cons_zero, List.getElem_cons_succ]
          refine wpAnyH_take (i := 7) (oi := _) (v := ?_) rfl (by kernel_rfl) (by kernel_rfl) (by kernel_rfl) (fun _ _ _ h => h) (Or.inl ⟨by rfl, ?_⟩) (by assumption) ?_
          rotate_left 1
          · (intro wq hSw; (try dsimp only at hSw); go_simp; (try with_reducible rfl))
          try simp only [Act.put, List.setIfInBounds_toArray, List.set_cons_zero, List.set_cons_succ, List.getElem_toArray, List.getElem_cons_zero, List.getElem_cons_succ]
          refine wpAnyH_take (i := 8) (oi := _) (v := ?_) rfl (by kernel_rfl) (by kernel_rfl) (by kernel_rfl) (fun _ _ _ h => h) (Or.inl ⟨by rfl, ?_⟩) (by assumption) ?_
          rotate_left 1
          · (intro wq hSw; (try dsimp only at hSw); go_simp; (try with_reducible rfl))
          try simp only [Act.put, List.setIfInBounds_toArray, List.set_cons_zero, List.set_cons_succ, List.getElem_toArray, List.getElem_cons_zero, List.getElem_cons_succ]
          refine wpAnyH_take (i := 9) (oi := _) (v := ?_) rfl (by kernel_rfl) (by kernel_rfl) (by kernel_rfl) (fun _ _ _ h => h) (Or.inl ⟨by rfl, ?_⟩) (by assumption) ?_
          rotate_left 1
          · (intro wq hSw; (try dsimp only at hSw); go_simp; (try with_reducible rfl))
          try simp only [Act.put, List.setIfInBounds_toArray, List.set_cons_zero, List.set_cons_succ, List.getElem_toArray, List.getElem_cons_zero, List.getElem_cons_succ]
          refine wpAnyH_take (i := 10) (oi := _) (v := ?_) rfl (by kernel_rfl) (by kernel_rfl) (by kernel_rfl) (fun _ _ _ h => h) (Or.inl ⟨by rfl, ?_⟩) (by assumption) ?_
          rotate_left 1
          · (intro wq hSw; (try dsimp only at hSw); go_simp; (try with_reducible rfl))
          try simp only [Act.put, List.setIfInBounds_toArray, List.set_cons_zero, List.set_cons_succ, List.getElem_toArray, List.getElem_cons_zero, List.getElem_cons_succ]
          refine wpAnyH_ready (rs := [11]) (by kernel_rfl) (by simp) ?_
          refine AllReadyH.cons (o := _) rfl (fun K hK => ?_) AllReadyH.nil
          go_simp
          refine LN9.out.mono ?_; rintro e w9 ⟨rfl, rfl⟩
          (try go_simp)
          refine hK.out _ _ ?_ (fun hHeld => ?_)
          · go_keep
          clear hK K
          try simp only [Act.put, List.setIfInBounds_toArray, List.set_cons_zero, List.set_cons_succ, List.getElem_toArray, List.getElem_cons_zero, List.getElem_cons_succ]
          refine wpAnyH_take (i := 12) (oi := _) (v := ?_) rfl (by kernel_rfl) (by kernel_rfl) (by kernel_rfl) (fun _ _ _ h => h) (Or.inl ⟨by rfl, ?_⟩) (by assumption) ?_
          rotate_left 1
          · (intro wq hSw; (try dsimp only at hSw); go_simp; (try with_reducible rfl))
          try simp only [Act.put, List.setIfInBounds_toArray, List.set_cons_zero, List.set_cons_succ, List.getElem_toArray, List.getElem_cons_zero, List.getElem_cons_succ]
          refine wpAnyH_take (i := 13) (oi := _) (v := ?_) rfl (by kernel_rfl) (by kernel_rfl) (by kernel_rfl) (fun _ _ _ h => h) (Or.inl ⟨by rfl, ?_⟩) (by assumption) ?_
          rotate_left 1
          · (intro wq hSw; (try dsimp only at hSw); go_simp; (try with_reducible rfl))
          try simp only [Act.put, List.setIfInBounds_toArray, List.set_cons_zero, List.set_cons_succ, List.getElem_toArray, List.getElem_cons_zero, List.getElem_cons_succ]
          refine wpAnyH_done (by kernel_rfl) ?_ _
          go_wp2_with (fail)
          exact ⟨⟨j + 1, v', s', n', m', t', hlt, by simp, HI9d⟩, by simp [intOf]; omega⟩
      · have hd0 : decide (0 < q) = false := decide_eq_false hpos
        go_wp2_with (fail)
        refine LN.out.mono ?_
        rintro e w9 ⟨rfl, rfl⟩
        clear LN
        go_wp2_with (fail)
        refine (awake34_any _ HKr.out).mono ?_
        rintro e w3 ⟨rfl, hb3⟩
        have HB3 := Lib.hid (HE.out.bel.trans (hb3.mono HE.out.bel.size))
        clear hb3
        go_wp2_with (fail)
        go_ret
        exact ⟨rfl, HB3.out⟩
    · obtain rfl : j = n2 := by omega
      go_wp2_with (fail)
      refine (awake34_any _ HKr.out).mono ?_
      rintro e w3 ⟨rfl, hb3⟩
      have HB3 := Lib.hid (HE.out.bel.trans (hb3.mono HE.out.bel.size))
      clear hb3
      go_wp2_with (fail)
      go_ret
      exact ⟨rfl, HB3.out⟩
end Go.Proofs.YtnnegldaekmgbaaGreatDoor
