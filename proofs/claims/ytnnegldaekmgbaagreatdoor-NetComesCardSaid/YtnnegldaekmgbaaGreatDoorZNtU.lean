/- Send. -/
import Derived.Test.YtnnegldaekmgbaaGreatDoorZNtT
import Derived.Test.YtnnegldaekmgbaaGreatDoorZGT


namespace Go.Proofs.YtnnegldaekmgbaaGreatDoor
open Go.RowKit
set_option linter.unusedSimpArgs false
set_option linter.unusedVariables false
set_option maxHeartbeats 8000000
set_option maxRecDepth 100000

theorem Nv.ok.mono {n : Nv} {M M' : Int} (h : n.ok M) (hM : M ≤ M') : n.ok M' := by
  obtain ⟨a0, a1, a2, a3, a4, a5⟩ := h
  exact ⟨by omega, by omega, by omega, by omega, by omega, by omega⟩
theorem kinds_low {W W' : World} {lo g cd gt bg bd : Nat} {v v' : Value} {s : NBg} {n : Nv} {m : Int} (h : NetAt W lo g cd gt bg bd v s n m) (hlo : 0 < lo) (hK : KindsAt W) (hs : NStep W W' cd gt bg bd v v') : KindsAt W' :=
  hK.chg hs.chg (fun e => by
    obtain ⟨a1, a2, a3, a4, a5⟩ := h.low
    rcases e with e | e | e | e | e
    · omega
    · omega
    · omega
    · omega
    · have := (h.bag.2.lt 0 e).1; omega)
theorem netSend_any {lo g cd gt bg bd B nn c : Nat} {v : Value} {s : NBg} {n : Nv} {m M : Int} (A : Option Addr) (xs : List LV) (w : World) (h : NetAt w lo g cd gt bg bd v s n m) (hlo : 0 < lo) (hK : KindsAt w) (hx : ∀ (W' : World) (v' : Value), NStep w W' cd gt bg bd v v' → LsIn W' B A nn xs) (hB : B ≤ w.heap.size) (hok : n.ok M) (hM : 0 ≤ M ∧ M ≤ 900000) (hnn : nn ≤ 1000) (hl : xs.length = nn) :
    Calls Tryz.prog 33 #[.pointer (some ⟨g, 0, none⟩), .slice A nn c] w (SendP w lo g cd gt bg bd v n m M xs) := by
  have HX := Lib.hid hx
  have HN := Lib.hid h
  have HK := Lib.hid hK
  have HL := Lib.hid hl
  have hlow := h.low
  have hgl := h.box.lt
  have E0 : Hid (SendI w lo g cd gt bg bd v n m M xs 0 v s w) := Lib.hid ⟨h, NStep.of_below (Below.refl _ _) cd gt bg bd v, by have e : sendQ n xs 0 = (n, 0) := rfl; rw [e]; exact hok.mono (by omega), by have e : sendQ n xs 0 = (n, 0) := rfl; rw [e]; simp only; omega⟩
  clear hx h hK hok hl
  go_enter Tryz.func33, Tryz.ntmps33
  go_wp2_with (fail)
  go_loopw [5, 16] (fun mv iv wr => ∃ (j : Nat) (v1 : Value) (s1 : NBg), j ≤ nn ∧ iv = .int .i64 j ∧ mv = .int .i64 (sendQ n xs j).2 ∧ Hid (SendI w lo g cd gt bg bd v n m M xs j v1 s1 wr)) (fun _ iv _ => nn - (intOf iv).toNat)
  case atStart => exact ⟨0, v, s, Nat.zero_le _, rfl, rfl, E0⟩
  case round =>
    clear E0
    obtain ⟨j, v1, s1, hj, rfl, rfl, HE⟩ := hrel
    by_cases hlt : j < nn
    · have hltZ : (j : Int) < nn := by omega
      obtain ⟨b, o, x, e1, hb, hxj, hxin, hnear, hrg⟩ := (HX.out wr v1 HE.out.st).at_ (k := j) hlt
      have hxin2 := hxin
      have hk1 := kinds_low HN.out hlo HK.out HE.out.st
      have hwr := HE.out.st.chg.size
      obtain ⟨W2, hW2⟩ : ∃ W2, W2 = wr.alloc (.cells x.l.cells 48) := ⟨_, rfl⟩
      have hb2 : Below wr.heap.size wr W2 := by rw [hW2]; exact (Below.refl _ _).alloc (Nat.le_refl _) _
      have hX : Blk W2 wr.heap.size 48 x.l.cells := by rw [hW2]; exact Blk.new _ _ _
      have N2 := Lib.hid (HE.out.net.below hb2)
      have S2 := Lib.hid (HE.out.st.trans (NStep.of_below hb2 cd gt bg bd v1))
      have N3 := Lib.hid (N2.out.below ((Below.refl W2.heap.size W2).drew))
      have S3 := Lib.hid (S2.out.trans (NStep.of_below ((Below.refl W2.heap.size W2).drew) cd gt bg bd v1))
      have HOK := Lib.hid (And.intro HE.out.ok HE.out.many)
      have HSQ := Lib.hid (sendQ_step n xs j x hxj)
      have HXI := Lib.hid (hxin.below (((hb2.mono (by omega)).trans (((Below.refl W2.heap.size W2).drew).mono (by have := hb2.size; omega)))))
      have hK3 : KindsAt W2.drew := (hk1.below hb2).below ((Below.refl _ _).drew)
      have HK3 := Lib.hid hK3
      have HNR := Lib.hid hnear
      have c0 : W2.cell? ⟨g, 0, none⟩ = some (.pointer (some ⟨cd, 0, none⟩)) := N2.out.box.cell 0
      have c1 : W2.cell? ⟨g, 1, none⟩ = some (.pointer (some ⟨bg, 0, none⟩)) := N2.out.box.cell 1
      have lg := N2.out.box.lt
      have lx := hX.lt
      have hs2 := hb2.size
      obtain ⟨L, hL⟩ : ∃ L : Value, L = x.l.agg := ⟨_, rfl⟩
      have HLA := Lib.hid hL
      have hLD : ∀ wq, Blk wq wr.heap.size 48 x.l.cells → (loadVar 48 ⟨wr.heap.size, 0, none⟩).run Tryz.prog wq = .ok L wq := fun wq h => by rw [HLA.out]; exact load_lt x.l _ wq h
      have hMj : M + (j : Int) ≤ 1000000 := by omega
      have HW2 := Lib.hid hW2
      have hB2 := hX
      clear hW2 hb2 hX hL hxj hxin hxin2 hk1 hK3 hnear
      rw [e1]
      by_cases hc : chkX x = 0
      · obtain ⟨dd, cx, cy, hcd, hcx, hcy⟩ := N3.out.cod
        have HCXY := Lib.hid (And.intro hcx hcy)
        have EN := Lib.hid (encode_any x W2.drew (fun W hW => HK3.out.below hW) (HXI.out.more (Nat.le_trans hB (show w.heap.size ≤ W2.heap.size by omega))) HNR.out hc cd gt dd cx cy hcd (room_ok x _ _ HXI.out hc))
        rw [← HLA.out] at EN
        have HBS := Lib.hid (encX_bs x _ _ HXI.out hc)
        have HEX : Hid (encB x.l.kd.toNat (bodyB x.l (partsI x.l.kd.toNat) (partB x)) = encX x) := Lib.hid rfl
        rw [HEX.out] at EN
        have HC := Lib.hid hc
        have ngt : wr.heap.size ≠ gt := fun e => N2.out.out hB2 (by decide) (by decide) (by decide) (by decide) (by decide) (.inr (.inl e))
        clear hc hcd hcx hcy HEX
        generalize hfx : encX x = f at *
        have HFX := Lib.hid hfx
        clear hfx
        go_upto_region 6 with (fail)
        iterate 4 go_step
        refine wpList_load_mid rfl 48 (.tmp 18) rfl b (o + j * 25) rfl (Lt.row x) _ hrg Tryz.underlying48 rfl ltInfo ?_
        rw [show (Lt.row x).toArray = x.l.cells from rfl]
        iterate 3 go_step
        refine wpList_store_fresh rfl 48 (.tmp 7) (.tmp 19) rfl x.l.cells 48 Lt.zero.cells rfl rfl ltInfo rfl (lt_all _) ?_
        rw [← HW2.out]
        go_upto_region 7 with (fail)
        refine wp_region_held_drew (S := fun w' => w'.cell? ⟨g, 0, none⟩ = some (.pointer (some ⟨cd, 0, none⟩)) ∧ Blk w' wr.heap.size 48 x.l.cells) (by kernel_rfl) ⟨c0, hB2⟩ (fun hHeld => ?_)
        refine wpAnyH_take (i := 0) (oi := _) (v := ?_) rfl (by kernel_rfl) (by kernel_rfl) (by kernel_rfl) (fun _ _ _ h => h) (Or.inl ⟨by rfl, ?_⟩) (by assumption) ?_
        rotate_left 1
        · (intro wq hSw; (try dsimp only at hSw); go_simp; (try with_reducible rfl))
        try simp only [Act.put, List.setIfInBounds_toArray, List.set_cons_zero, List.set_cons_succ, List.getElem_toArray, List.getElem_cons_zero, List.getElem_cons_succ]
        refine wpAnyH_take (i := 1) (oi := _) (v := ?_) rfl (by kernel_rfl) (by kernel_rfl) (by kernel_rfl) (fun _ _ _ h => h) (Or.inl ⟨by rfl, ?_⟩) (by assumption) ?_
        rotate_left 1
        · (intro wq hSw; (try dsimp only at hSw); go_simp; (try with_reducible rfl))
        try simp only [Act.put, List.setIfInBounds_toArray, List.set_cons_zero, List.set_cons_succ, List.getElem_toArray, List.getElem_cons_zero, List.getElem_cons_succ]
        refine wpAnyH_take (i := 2) (oi := _) (v := ?_) rfl (by kernel_rfl) (by kernel_rfl) (by kernel_rfl) (fun _ _ _ h => h) (Or.inl ⟨by rfl, ?_⟩) (by assumption) ?_
        rotate_left 1
        · (intro wq hSw; (try dsimp only at hSw); go_simp; (try with_reducible rfl))
        try simp only [Act.put, List.setIfInBounds_toArray, List.set_cons_zero, List.set_cons_succ, List.getElem_toArray, List.getElem_cons_zero, List.getElem_cons_succ]
        refine wpAnyH_take (i := 3) (oi := _) (v := ?_) rfl (by kernel_rfl) (by kernel_rfl) (by kernel_rfl) (fun _ _ _ h => h) (Or.inl ⟨by rfl, ?_⟩) (by assumption) ?_
        rotate_left 1
        · (intro wq hSw; (try dsimp only at hSw); go_simp; (try with_reducible rfl))
        try simp only [Act.put, List.setIfInBounds_toArray, List.set_cons_zero, List.set_cons_succ, List.getElem_toArray, List.getElem_cons_zero, List.getElem_cons_succ]
        refine wpAnyH_take (i := 4) (oi := _) (v := L) rfl (by kernel_rfl) (by kernel_rfl) (by kernel_rfl) (fun _ _ _ h => h) (Or.inl ⟨by rfl, ?_⟩) (by assumption) ?_
        · exact fun wq hSw => exec_load_row rfl _ rfl (hLD wq hSw.2)
        try simp only [Act.put, List.setIfInBounds_toArray, List.set_cons_zero, List.set_cons_succ, List.getElem_toArray, List.getElem_cons_zero, List.getElem_cons_succ]
        refine wpAnyH_ready (rs := [5]) (by kernel_rfl) (by simp) ?_
        refine AllReadyH.cons (o := _) rfl (fun K hK => ?_) AllReadyH.nil
        go_simp
        refine EN.out.mono ?_; rintro e w9 ⟨tv, rfl, ho, ⟨d9, hcd9⟩, hch⟩; obtain ⟨A9, c9, rfl, _, _, _⟩ := own_slice ho; have N9 := Lib.hid (N3.out.move (m' := m) (hch.sub (fun _ e => Or.inl e)) ⟨d9, cx, cy, hcd9, HCXY.out.1, HCXY.out.2⟩); replace c0 : w9.cell? ⟨g, 0, none⟩ = some (.pointer (some ⟨cd, 0, none⟩)) := N9.out.box.cell 0; replace hB2 := hch.blk hB2.drew ngt; have S9 := Lib.hid (S3.out.trans (NStep.codec (hch.sub (fun _ e => Or.inl e)) bg bd v1)); have O9 := Lib.hid (own_base ho (show lo ≤ W2.drew.heap.size by show lo ≤ W2.heap.size; omega)); clear ho hcd9 hch
        (try go_simp)
        refine hK.out _ _ ?_ (fun hHeld => ?_)
        · go_keep
        clear hK K
        try simp only [Act.put, List.setIfInBounds_toArray, List.set_cons_zero, List.set_cons_succ, List.getElem_toArray, List.getElem_cons_zero, List.getElem_cons_succ]
        refine wpAnyH_take (i := 6) (oi := _) (v := ?_) rfl (by kernel_rfl) (by kernel_rfl) (by kernel_rfl) (fun _ _ _ h => h) (Or.inl ⟨by rfl, ?_⟩) (by assumption) ?_
        rotate_left 1
        · (intro wq hSw; (try dsimp only at hSw); go_simp; (try with_reducible rfl))
        try simp only [Act.put, List.setIfInBounds_toArray, List.set_cons_zero, List.set_cons_succ, List.getElem_toArray, List.getElem_cons_zero, List.getElem_cons_succ]
        refine wpAnyH_take (i := 7) (oi := _) (v := ?_) rfl (by kernel_rfl) (by kernel_rfl) (by kernel_rfl) (fun _ _ _ h => h) (Or.inl ⟨by rfl, ?_⟩) (by assumption) ?_
        rotate_left 1
        · (intro wq hSw; (try dsimp only at hSw); go_simp; (try with_reducible rfl))
        try simp only [Act.put, List.setIfInBounds_toArray, List.set_cons_zero, List.set_cons_succ, List.getElem_toArray, List.getElem_cons_zero, List.getElem_cons_succ]
        refine wpAnyH_take (i := 8) (oi := _) (v := ?_) rfl (by kernel_rfl) (by kernel_rfl) (by kernel_rfl) (fun _ _ _ h => h) (Or.inl ⟨by rfl, ?_⟩) (by assumption) ?_
        rotate_left 1
        · (intro wq hSw; (try dsimp only at hSw); go_simp; (try with_reducible rfl))
        try simp only [Act.put, List.setIfInBounds_toArray, List.set_cons_zero, List.set_cons_succ, List.getElem_toArray, List.getElem_cons_zero, List.getElem_cons_succ]
        refine wpAnyH_take (i := 9) (oi := _) (v := ?_) rfl (by kernel_rfl) (by kernel_rfl) (by kernel_rfl) (fun _ _ _ h => h) (Or.inl ⟨by rfl, ?_⟩) (by assumption) ?_
        rotate_left 1
        · (intro wq hSw; (try dsimp only at hSw); go_simp; (try with_reducible rfl))
        try simp only [Act.put, List.setIfInBounds_toArray, List.set_cons_zero, List.set_cons_succ, List.getElem_toArray, List.getElem_cons_zero, List.getElem_cons_succ]
        refine wpAnyH_take (i := 10) (oi := _) (v := ?_) rfl (by kernel_rfl) (by kernel_rfl) (by kernel_rfl) (fun _ _ _ h => h) (Or.inl ⟨by rfl, ?_⟩) (by assumption) ?_
        rotate_left 1
        · (intro wq hSw; (try dsimp only at hSw); go_simp; (try with_reducible rfl))
        try simp only [Act.put, List.setIfInBounds_toArray, List.set_cons_zero, List.set_cons_succ, List.getElem_toArray, List.getElem_cons_zero, List.getElem_cons_succ]
        refine wpAnyH_done (by kernel_rfl) ?_ _
        clear hHeld c0 hB2 hLD EN
        have hq1 := HOK.out.1.last
        have hq2 := HOK.out.1.len
        have hs1 := N9.out.len
        have hs2' := N9.out.last
        have PUT := Lib.hid (nb_put_any bg v1 s1 ⟨A9, f.length, c9⟩ w9 N9.out.bag (by omega) (by omega) (by omega))
        have c1 : w9.cell? ⟨g, 1, none⟩ = some (.pointer (some ⟨bg, 0, none⟩)) := N9.out.box.cell 1
        have lg9 := N9.out.box.lt
        have hsm := HOK.out.1.small hMj
        have HSM := Lib.hid hsm
        have hmw : IntKind.i64.wrap ((sendQ n xs j).2 + 1) = (sendQ n xs j).2 + 1 := by have := HOK.out.2; rw [IntKind.wrap_i64]; omega
        clear hq1 hq2 hs1 hs2' hsm
        by_cases hf : (sendQ n xs j).1.most ≤ (sendQ n xs j).1.l.length
        · obtain ⟨hp1, hp2⟩ := N9.out.full hf ⟨A9, f.length, c9⟩
          rw [hp1, hp2] at PUT
          have HSD : Hid (send1 (sendQ n xs j) x = ({ (sendQ n xs j).1 with b := (sendQ n xs j).1.b.add 2 1 }, (sendQ n xs j).2)) := Lib.hid (by unfold send1; rw [if_neg (by simpa using HC.out), if_pos hf])
          clear hf hp1 hp2
          go_wp2_with (fail)
          refine PUT.out.mono ?_
          rintro e wa ⟨rfl, v2, ha, hs⟩
          have N10 := Lib.hid (N9.out.bagged hs ha rfl N9.out.most N9.out.last N9.out.no N9.out.byt)
          have S10 := Lib.hid (S9.out.trans (NStep.bag hs cd gt bd))
          have AD := Lib.hid (netAdd_any 2 (by decide) wa N10.out HSM.out)
          have c2 : wa.cell? ⟨g, 2, none⟩ = some (.pointer (some ⟨bd, 0, none⟩)) := N10.out.box.cell 2
          clear ha hs c1 PUT
          go_wp2_with (fail)
          refine AD.out.mono ?_
          rintro e wb ⟨rfl, hn, hs⟩
          have N11 := Lib.hid hn
          have S11 := Lib.hid (S10.out.trans hs)
          clear hn hs c2 AD
          have OK2 := Lib.hid (send1_ok (sendQ n xs j) x _ HOK.out.1 HOK.out.2)
          go_wp2_with (fail)
          go_roundw
          case rel => exact ⟨j + 1, v2, s1, hlt, by go_num, by rw [HSQ.out, HSD.out], Lib.hid ⟨by rw [HSQ.out, HSD.out]; exact N11.out, S11.out, by rw [HSQ.out]; exact OK2.out.1.mono (by omega), by rw [HSQ.out]; have := OK2.out.2; omega⟩⟩
          case measure => simp [intOf]; omega
        · obtain ⟨hp1, hp2⟩ := N9.out.room hf ⟨A9, f.length, c9⟩
          rw [hp2] at PUT
          have HF := Lib.hid hf
          have HSD : Hid (send1 (sendQ n xs j) x = ({ (sendQ n xs j).1 with last := (sendQ n xs j).1.last + 1, l := (sendQ n xs j).1.l ++ [((sendQ n xs j).1.last + 1, f)], b := (sendQ n xs j).1.b.add 0 1 }, (sendQ n xs j).2 + 1)) := Lib.hid (by unfold send1; rw [if_neg (by simpa using HC.out), if_neg hf, HFX.out])
          clear hf hp1 hp2
          go_wp2_with (fail)
          refine PUT.out.mono ?_
          rintro e wa ⟨rfl, v2, ha, hs⟩
          have N10 := Lib.hid (N9.out.put (by have := HF.out; omega) O9.out HBS.out hs ha)
          have S10 := Lib.hid (S9.out.trans (NStep.bag hs cd gt bd))
          have AD := Lib.hid (netAdd_any 0 (by decide) wa N10.out HSM.out)
          have c2 : wa.cell? ⟨g, 2, none⟩ = some (.pointer (some ⟨bd, 0, none⟩)) := N10.out.box.cell 2
          clear ha hs c1 PUT
          go_wp2_with (fail)
          refine AD.out.mono ?_
          rintro e wb ⟨rfl, hn, hs⟩
          have N11 := Lib.hid hn
          have S11 := Lib.hid (S10.out.trans hs)
          clear hn hs c2 AD
          have OK2 := Lib.hid (send1_ok (sendQ n xs j) x _ HOK.out.1 HOK.out.2)
          go_wp2_with (fail)
          go_roundw
          case rel => exact ⟨j + 1, v2, _, hlt, by go_num, by rw [HSQ.out, HSD.out], Lib.hid ⟨by rw [HSQ.out, HSD.out]; exact N11.out, S11.out, by rw [HSQ.out]; exact OK2.out.1.mono (by omega), by rw [HSQ.out]; have := OK2.out.2; omega⟩⟩
          case measure => simp [intOf]; omega
      · have HNX : Hid (send1 (sendQ n xs j) x = sendQ n xs j) := Lib.hid (by unfold send1; rw [if_pos hc])
        have EN := Lib.hid (encodeF_any x W2.heap.size W2.drew (fun W hW => HK3.out.below hW) (HXI.out.more (Nat.le_trans hB (by omega))) (Nat.le_refl _) HNR.out hc cd)
        rw [← HLA.out] at EN
        have hcb : (chkX x != 0) = true := by simpa using hc
        clear hc
        generalize chkX x = ck at *
        go_upto_region 6 with (fail)
        iterate 4 go_step
        refine wpList_load_mid rfl 48 (.tmp 18) rfl b (o + j * 25) rfl (Lt.row x) _ hrg Tryz.underlying48 rfl ltInfo ?_
        rw [show (Lt.row x).toArray = x.l.cells from rfl]
        iterate 3 go_step
        refine wpList_store_fresh rfl 48 (.tmp 7) (.tmp 19) rfl x.l.cells 48 Lt.zero.cells rfl rfl ltInfo rfl (lt_all _) ?_
        rw [← HW2.out]
        go_upto_region 7 with (fail)
        refine wp_region_held_drew (S := fun w' => w'.cell? ⟨g, 0, none⟩ = some (.pointer (some ⟨cd, 0, none⟩)) ∧ Blk w' wr.heap.size 48 x.l.cells) (by kernel_rfl) ⟨c0, hB2⟩ (fun hHeld => ?_)
        refine wpAnyH_take (i := 0) (oi := _) (v := ?_) rfl (by kernel_rfl) (by kernel_rfl) (by kernel_rfl) (fun _ _ _ h => h) (Or.inl ⟨by rfl, ?_⟩) (by assumption) ?_
        rotate_left 1
        · (intro wq hSw; (try dsimp only at hSw); go_simp; (try with_reducible rfl))
        try simp only [Act.put, List.setIfInBounds_toArray, List.set_cons_zero, List.set_cons_succ, List.getElem_toArray, List.getElem_cons_zero, List.getElem_cons_succ]
        refine wpAnyH_take (i := 1) (oi := _) (v := ?_) rfl (by kernel_rfl) (by kernel_rfl) (by kernel_rfl) (fun _ _ _ h => h) (Or.inl ⟨by rfl, ?_⟩) (by assumption) ?_
        rotate_left 1
        · (intro wq hSw; (try dsimp only at hSw); go_simp; (try with_reducible rfl))
        try simp only [Act.put, List.setIfInBounds_toArray, List.set_cons_zero, List.set_cons_succ, List.getElem_toArray, List.getElem_cons_zero, List.getElem_cons_succ]
        refine wpAnyH_take (i := 2) (oi := _) (v := ?_) rfl (by kernel_rfl) (by kernel_rfl) (by kernel_rfl) (fun _ _ _ h => h) (Or.inl ⟨by rfl, ?_⟩) (by assumption) ?_
        rotate_left 1
        · (intro wq hSw; (try dsimp only at hSw); go_simp; (try with_reducible rfl))
        try simp only [Act.put, List.setIfInBounds_toArray, List.set_cons_zero, List.set_cons_succ, List.getElem_toArray, List.getElem_cons_zero, List.getElem_cons_succ]
        refine wpAnyH_take (i := 3) (oi := _) (v := ?_) rfl (by kernel_rfl) (by kernel_rfl) (by kernel_rfl) (fun _ _ _ h => h) (Or.inl ⟨by rfl, ?_⟩) (by assumption) ?_
        rotate_left 1
        · (intro wq hSw; (try dsimp only at hSw); go_simp; (try with_reducible rfl))
        try simp only [Act.put, List.setIfInBounds_toArray, List.set_cons_zero, List.set_cons_succ, List.getElem_toArray, List.getElem_cons_zero, List.getElem_cons_succ]
        refine wpAnyH_take (i := 4) (oi := _) (v := L) rfl (by kernel_rfl) (by kernel_rfl) (by kernel_rfl) (fun _ _ _ h => h) (Or.inl ⟨by rfl, ?_⟩) (by assumption) ?_
        · exact fun wq hSw => exec_load_row rfl _ rfl (hLD wq hSw.2)
        try simp only [Act.put, List.setIfInBounds_toArray, List.set_cons_zero, List.set_cons_succ, List.getElem_toArray, List.getElem_cons_zero, List.getElem_cons_succ]
        refine wpAnyH_ready (rs := [5]) (by kernel_rfl) (by simp) ?_
        refine AllReadyH.cons (o := _) rfl (fun K hK => ?_) AllReadyH.nil
        go_simp
        refine EN.out.mono ?_; rintro e w9 ⟨rfl, h9⟩; replace c0 := (h9.cell (p := ⟨g, 0, none⟩) lg).trans c0; replace hB2 := hB2.drew.below h9 lx; have H9 := Lib.hid h9; clear h9
        (try go_simp)
        refine hK.out _ _ ?_ (fun hHeld => ?_)
        · go_keep
        clear hK K
        try simp only [Act.put, List.setIfInBounds_toArray, List.set_cons_zero, List.set_cons_succ, List.getElem_toArray, List.getElem_cons_zero, List.getElem_cons_succ]
        refine wpAnyH_take (i := 6) (oi := _) (v := ?_) rfl (by kernel_rfl) (by kernel_rfl) (by kernel_rfl) (fun _ _ _ h => h) (Or.inl ⟨by rfl, ?_⟩) (by assumption) ?_
        rotate_left 1
        · (intro wq hSw; (try dsimp only at hSw); go_simp; (try with_reducible rfl))
        try simp only [Act.put, List.setIfInBounds_toArray, List.set_cons_zero, List.set_cons_succ, List.getElem_toArray, List.getElem_cons_zero, List.getElem_cons_succ]
        refine wpAnyH_take (i := 7) (oi := _) (v := ?_) rfl (by kernel_rfl) (by kernel_rfl) (by kernel_rfl) (fun _ _ _ h => h) (Or.inl ⟨by rfl, ?_⟩) (by assumption) ?_
        rotate_left 1
        · (intro wq hSw; (try dsimp only at hSw); go_simp; (try with_reducible rfl))
        try simp only [Act.put, List.setIfInBounds_toArray, List.set_cons_zero, List.set_cons_succ, List.getElem_toArray, List.getElem_cons_zero, List.getElem_cons_succ]
        refine wpAnyH_take (i := 8) (oi := _) (v := ?_) rfl (by kernel_rfl) (by kernel_rfl) (by kernel_rfl) (fun _ _ _ h => h) (Or.inl ⟨by rfl, ?_⟩) (by assumption) ?_
        rotate_left 1
        · (intro wq hSw; (try dsimp only at hSw); go_simp; (try with_reducible rfl))
        try simp only [Act.put, List.setIfInBounds_toArray, List.set_cons_zero, List.set_cons_succ, List.getElem_toArray, List.getElem_cons_zero, List.getElem_cons_succ]
        refine wpAnyH_take (i := 9) (oi := _) (v := ?_) rfl (by kernel_rfl) (by kernel_rfl) (by kernel_rfl) (fun _ _ _ h => h) (Or.inl ⟨by rfl, ?_⟩) (by assumption) ?_
        rotate_left 1
        · (intro wq hSw; (try dsimp only at hSw); go_simp; (try with_reducible rfl))
        try simp only [Act.put, List.setIfInBounds_toArray, List.set_cons_zero, List.set_cons_succ, List.getElem_toArray, List.getElem_cons_zero, List.getElem_cons_succ]
        refine wpAnyH_take (i := 10) (oi := _) (v := ?_) rfl (by kernel_rfl) (by kernel_rfl) (by kernel_rfl) (fun _ _ _ h => h) (Or.inl ⟨by rfl, ?_⟩) (by assumption) ?_
        rotate_left 1
        · (intro wq hSw; (try dsimp only at hSw); go_simp; (try with_reducible rfl))
        try simp only [Act.put, List.setIfInBounds_toArray, List.set_cons_zero, List.set_cons_succ, List.getElem_toArray, List.getElem_cons_zero, List.getElem_cons_succ]
        refine wpAnyH_done (by kernel_rfl) ?_ _
        clear hHeld
        have N9 := Lib.hid (N3.out.below H9.out)
        have S9 := Lib.hid (S3.out.trans (NStep.of_below H9.out cd gt bg bd v1))
        clear H9 c0 hB2 hLD
        go_wp2_with (fail)
        go_roundw
        case rel => exact ⟨j + 1, v1, s1, hlt, by go_num, by rw [HSQ.out, HNX.out], Lib.hid ⟨by rw [HSQ.out, HNX.out]; exact N9.out, S9.out, by rw [HSQ.out, HNX.out]; exact HOK.out.1.mono (by omega), by rw [HSQ.out, HNX.out]; have := HOK.out.2; omega⟩⟩
        case measure => simp [intOf]; omega
    · obtain rfl : j = nn := by omega
      have HF := Lib.hid HE.out
      clear HE
      go_wp2_with (fail)
      go_ret
      exact ⟨v1, s1, by rw [HL.out]; rfl, by rw [HL.out]; exact HF.out⟩
theorem dE_back (x : LV) (w : World) (B : Nat) (h : LIn w B x) (h0 : chkX x = 0) : dE (encX x) = 0 ∧ dV (encX x) = x.val := by
  have h1 := h0
  unfold chkX at h1
  split at h1
  · omega
  · rename_i hk
    have hr := room_ok x w B h h0
    have hz2 : bytesB (bodyB x.l (partsI x.l.kd.toNat) (partB x)) := bytesB_app (bytesB_app (big_bytes _ _) (big_bytes _ _)) (bytes_flat _ _ (fun i _ => partB_bytes x w B i h))
    have hlen : (bodyB x.l (partsI x.l.kd.toNat) (partB x)).length ≤ 16384 := by unfold bodyB; rw [List.length_append, hdr_len]; omega
    obtain ⟨e1, e2⟩ := enc_putS x.l.kd.toNat (bodyB x.l (partsI x.l.kd.toNat) (partB x)) (by omega) hlen
    obtain ⟨g1, g2, g3⟩ := back_get _ _ e1
    have he : putS x.l.kd.toNat (natB (bodyB x.l (partsI x.l.kd.toNat) (partB x))) = encX x := e2
    rw [he] at g1 g2 g3
    have hd := decode_back x w B h h0 (encX x) rfl g2 (by rw [g3]; exact bI_toNat _ hz2)
    refine ⟨?_, by unfold dV; rw [hd]⟩
    unfold dE decE
    rw [if_neg (by simpa using g1), if_neg (by rw [g2]; omega), hd, if_neg]
    rintro (e | e)
    · exact e rfl
    · exact e (by rw [← chk_val x w B h]; exact h0)
theorem dE_fits (f : List Nat) (h : dE f = 0) : fitsL f = true := by
  refine get_fits f ?_
  unfold dE decE at h
  by_cases hg : getE f = 0
  · exact hg
  · rw [if_pos hg] at h; omega
end Go.Proofs.YtnnegldaekmgbaaGreatDoor
