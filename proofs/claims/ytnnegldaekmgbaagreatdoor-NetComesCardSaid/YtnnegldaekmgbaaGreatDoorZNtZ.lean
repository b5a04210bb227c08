/- Twice; among. -/
import Derived.Test.YtnnegldaekmgbaaGreatDoorZNtU
import Derived.Test.YtnnegldaekmgbaaGreatDoorZNtV


namespace Go.Proofs.YtnnegldaekmgbaaGreatDoor
open Go.RowKit
set_option linter.unusedSimpArgs false
set_option linter.unusedVariables false
set_option maxHeartbeats 8000000
set_option maxRecDepth 100000

theorem netTwice_yes {lo g cd gt bg bd k : Nat} {v : Value} {s : NBg} {n : Nv} {m M : Int} {p : Int × Sv} {q : Int × List Nat} (w : World) (h : NetAt w lo g cd gt bg bd v s n m) (hok : n.ok M) (hM : M ≤ 900000) (hf : ¬ n.most ≤ n.l.length) (hp : s.l[k]? = some p) (hq : n.l[k]? = some q) :
    Calls Tryz.prog 36 #[.pointer (some ⟨g, 0, none⟩), .int .i64 k] w fun e w' => e = .returned (.bool true) ∧ ∃ v' s', NetAt w' lo g cd gt bg bd v' s' { n with last := n.last + 1, l := n.l ++ [(n.last + 1, q.2)], b := n.b.add 0 1 } m ∧ NStep w w' cd gt bg bd v v' := by
  have BG := Lib.hid (netBag_any w h)
  have hlen := h.len
  have hlast := h.last
  have TW := nb_twice_any bg v s k w h.bag (by have := hok.len; omega) (by have := hok.last; omega) (by have := hok.last; omega)
  have hh : s.has k = true := (NBg.has_iff s k).2 ⟨by omega, by have := (List.getElem?_eq_some_iff.1 hp).1; omega⟩
  have e1 : s.twice k = s.put p.2 := by rw [NBg.twice, if_pos hh, Int.toNat_natCast, List.getD_eq_getElem?_getD, hp]; rfl
  have e3 : s.twiceE k = 0 := by rw [NBg.twiceE, if_pos hh]; exact (h.room hf p.2).2
  rw [e1, e3] at TW
  have TW := Lib.hid TW
  have HB := Lib.hid (hok.small (by omega))
  have HN := Lib.hid h
  have HBY := Lib.hid (h.byt k p q hp hq)
  have HF := Lib.hid hf
  clear h hok hp hq hf hlen hlast hh e1 e3
  go_enter Tryz.func36, Tryz.ntmps36
  go_wp2_with (fail)
  refine BG.out.mono ?_
  rintro e w1 ⟨rfl, rfl⟩
  go_wp2_with (fail)
  refine TW.out.mono ?_
  rintro e w2 ⟨rfl, v', ha, hs⟩
  have hn2 := HN.out.put (x := p.2) (by have := HF.out; omega) HBY.out.1 HBY.out.2 hs ha
  have N2 := Lib.hid hn2
  have S2 := Lib.hid (NStep.bag hs cd gt bd)
  have AD := Lib.hid (netAdd_any 0 (by decide) w2 hn2 HB.out)
  have c2 : w2.cell? ⟨g, 2, none⟩ = some (.pointer (some ⟨bd, 0, none⟩)) := hn2.box.cell 2
  clear ha hs hn2 TW BG
  go_wp2_with (fail)
  refine AD.out.mono ?_
  rintro e w3 ⟨rfl, hn, hs⟩
  have N3 := Lib.hid hn
  have S3 := Lib.hid (S2.out.trans hs)
  clear hn hs AD
  go_wp2_with (fail)
  go_ret
  exact ⟨rfl, v', _, N3.out, S3.out⟩
theorem exec_load_at {P : Program} {ρ : Operand → Value} {o : Oper} {ty : TypeId} {x : Operand} (ho : o.op = .load ty x) (g k : Nat) (hx : ρ x = .pointer (some ⟨g, k, none⟩)) {L : Value} {w : World}
    (h : (loadVar ty ⟨g, k, none⟩).run P w = .ok L w) : (execOp ρ o).run P w = .ok (.value L) w := by
  unfold execOp
  simp only [ho, hx, Instr.loadAt, Instr.sureAddr, Sem.run_bind, Sem.run_pure, Result.andThen_ok, h]
def AmongP (xs : List LV) (y : LV) (w : World) (e : Ending) (w' : World) : Prop := ∃ b : Bool, e = .returned (.bool b) ∧ (b = true ↔ ∃ x ∈ xs, x.val = y.val) ∧ Below w.heap.size w w'
theorem among_any (A : Option Addr) (nn c B D : Nat) (hnn : nn < 4611686018427387904) (xs : List LV) (y : LV) (w : World) (h : LsIn w B A nn xs) (hB : B ≤ w.heap.size) (hy : LIn w D y) (hD : D ≤ w.heap.size) : Calls Tryz.prog 41 #[.slice A nn c, y.l.agg] w (AmongP xs y w) := by
  obtain ⟨W1, hW1, hb1, hbk⟩ := box_all y w
  have HX := Lib.hid (h.below (hb1.mono hB))
  have HL : Hid (xs.length = nn) := Lib.hid (flat_len Lt.row Lt.row_len (by omega) h.rd)
  have HB := Lib.hid hb1
  have HW := Lib.hid hW1
  have BK := Lib.hid hbk
  have HY := Lib.hid (hy.below (hb1.mono hD))
  have hs1 := hb1.size
  have hl1 := hbk.lt
  obtain ⟨L, hL⟩ : ∃ L : Value, L = y.l.agg := ⟨_, rfl⟩
  have HLA := Lib.hid hL
  have hLD : ∀ wq, Blk wq w.heap.size 48 y.l.cells → (loadVar 48 ⟨w.heap.size, 0, none⟩).run Tryz.prog wq = .ok L wq := fun wq h => by rw [HLA.out]; exact load_lt y.l _ wq h
  clear hW1 hb1 hbk h hy hL
  obtain ⟨l, ns, vs, us, ds⟩ := y
  simp only at *
  show Calls Tryz.prog 41 #[.slice A nn c, .agg #[.int .i64 l.kd, .int .i64 l.fr, .int .i64 l.tw, .int .i64 l.ch, .int .u64 l.ep, .int .u64 l.bl, .int .u64 l.nu, .int .u64 l.sq, .int .u64 l.dz, .int .u64 l.vr, .int .i64 l.sl, .int .u32 l.ky, .int .i64 l.cd, .int .i64 l.qk, .int .i64 l.qc, .int .u64 l.qe, .int .i64 l.qn, .int .i64 l.fc, .int .u64 l.fe, .slice l.fA l.fn l.fp, .bool l.ff, .int .i64 l.fj, .slice l.vA l.vn l.vp, .slice l.uA l.un l.up, .slice l.dA l.dn l.dp]] w _
  go_enter Tryz.func41, Tryz.ntmps41
  go_upto_region 1 with (fail)
  have e0 := HW.out
  simp only [Lt.cells] at e0
  rw [← e0]
  clear e0
  go_wp2_with (fail)
  go_loopw [5] (fun iv wr => ∃ j : Nat, j ≤ nn ∧ iv = .int .i64 j ∧ Hid (Below W1.heap.size W1 wr ∧ ∀ (i : Nat) (x : LV), i < j → xs[i]? = some x → x.val ≠ (LV.mk l ns vs us ds).val)) (fun iv _ => nn - (intOf iv).toNat)
  case atStart => exact ⟨0, Nat.zero_le _, rfl, Lib.hid ⟨Below.refl _ _, fun i u hi => absurd hi (Nat.not_lt_zero _)⟩⟩
  case round =>
    obtain ⟨j, hj, rfl, HE⟩ := hrel
    by_cases hlt : j < nn
    · have hltZ : (j : Int) < nn := by omega
      have hsz := HE.out.1.size
      obtain ⟨b, off, x, e1, hb, hxj, hxin, hnear, hrg⟩ := (HX.out.below (HE.out.1.mono (by omega))).at_ (k := j) hlt
      have hB2 := BK.out.below HE.out.1 hl1
      have HXJ := Lib.hid hxj
      have SM := refSameG_any x (LV.mk l ns vs us ds) wr.heap.size wr.heap.size wr.drew ((hxin.more (by omega)).below ((Below.refl _ _).drew)) (((HY.out.below (HE.out.1.mono (by omega))).more (by omega)).below ((Below.refl _ _).drew)) (Nat.le_refl _) (Nat.le_refl _) hnear
      have SM : Calls Tryz.prog 40 #[x.l.agg, L] wr.drew fun e w' => e = .returned (.bool (sameB x (LV.mk l ns vs us ds))) ∧ Below wr.drew.heap.size wr.drew w' := by rw [HLA.out]; exact SM
      have SM := Lib.hid SM
      clear hxj hxin hnear
      obtain ⟨X, hX⟩ : ∃ X : Value, X = x.l.agg := ⟨_, rfl⟩
      have hLM : ∀ wq : World, wq.rangeAt b (off + j * 25) (Lt.row x) → (loadVar 48 ⟨b, off + j * 25, none⟩).run Tryz.prog wq = .ok X wq := fun wq h => by rw [hX]; exact run_loadVar_mid wq b (off + j * 25) 48 (Lt.row x) _ h Tryz.underlying48 rfl ltInfo
      rw [← hX] at SM
      clear hX
      rw [e1]
      have hbw : b < wr.heap.size := by omega
      go_upto_region 4 with (fail)
      refine wp_region_held_drew (S := fun wq => Blk wq w.heap.size 48 l.cells ∧ wq.rangeAt b (off + j * 25) (Lt.row x)) (by kernel_rfl) ⟨hB2, hrg⟩ (fun hHeld => ?_)
      refine wpAnyH_take (i := 0) (oi := _) (v := ?_) rfl (by kernel_rfl) (by kernel_rfl) (by kernel_rfl) (fun _ _ _ h => h) (Or.inl ⟨by rfl, ?_⟩) (by assumption) ?_
      rotate_left 1
      · (intro wq hSw; (try dsimp only at hSw); go_simp; (try with_reducible rfl))
      try simp only [Act.put, List.setIfInBounds_toArray, List.set_cons_zero, List.set_cons_succ, List.getElem_toArray, List.getElem_cons_zero, List.getElem_cons_succ]
      refine wpAnyH_take (i := 1) (oi := _) (v := ?_) rfl (by kernel_rfl) (by kernel_rfl) (by kernel_rfl) (fun _ _ _ h => h) (Or.inl ⟨by rfl, ?_⟩) (by assumption) ?_
      rotate_left 1
      · (intro wq hSw; (try dsimp only at hSw); go_simp; (try with_reducible rfl))
      try simp only [Act.put, List.setIfInBounds_toArray, List.set_cons_zero, List.set_cons_succ, List.getElem_toArray, List.getElem_cons_zero, List.getElem_cons_succ]
      refine wpAnyH_take (i := 2) (oi := _) (v := ?_) rfl (by kernel_rfl) (by kernel_rfl) (by kernel_rfl) (fun _ _ _ h => h) (Or.inl ⟨by rfl, ?_⟩) (by assumption) ?_
      rotate_left 1
      · (intro wq hSw; (try dsimp only at hSw); go_simp; (try with_reducible rfl))
      try simp only [Act.put, List.setIfInBounds_toArray, List.set_cons_zero, List.set_cons_succ, List.getElem_toArray, List.getElem_cons_zero, List.getElem_cons_succ]
      refine wpAnyH_take (i := 3) (oi := _) (v := X) rfl (by kernel_rfl) (by kernel_rfl) (by kernel_rfl) (fun _ _ _ h => h) (Or.inl ⟨by rfl, ?_⟩) (by assumption) ?_
      · exact fun wq hSw => exec_load_at rfl _ _ rfl (hLM wq hSw.2)
      try simp only [Act.put, List.setIfInBounds_toArray, List.set_cons_zero, List.set_cons_succ, List.getElem_toArray, List.getElem_cons_zero, List.getElem_cons_succ]
      refine wpAnyH_take (i := 4) (oi := _) (v := L) rfl (by kernel_rfl) (by kernel_rfl) (by kernel_rfl) (fun _ _ _ h => h) (Or.inl ⟨by rfl, ?_⟩) (by assumption) ?_
      · exact fun wq hSw => exec_load_row rfl _ rfl (hLD wq hSw.1)
      try simp only [Act.put, List.setIfInBounds_toArray, List.set_cons_zero, List.set_cons_succ, List.getElem_toArray, List.getElem_cons_zero, List.getElem_cons_succ]
      refine wpAnyH_ready (rs := [5]) (by kernel_rfl) (by simp) ?_
      refine AllReadyH.cons (o := _) rfl (fun K hK => ?_) AllReadyH.nil
      go_simp
      refine SM.out.mono ?_
      rintro e wz ⟨rfl, hbz⟩
      have hbz2 : Below wr.heap.size wr wz := ((Below.refl wr.heap.size wr).drew).trans hbz
      have HBZ := Lib.hid (HE.out.1.trans (hbz2.mono hsz))
      (try go_simp)
      refine hK.out _ _ ?_ (fun hHeld => ?_)
      · exact ⟨hB2.below hbz2 (by omega), fun jj vv hv => (hbz2.cell (p := ⟨b, off + j * 25 + jj, none⟩) hbw).trans (hrg jj vv hv)⟩
      clear hK K
      try simp only [Act.put, List.setIfInBounds_toArray, List.set_cons_zero, List.set_cons_succ, List.getElem_toArray, List.getElem_cons_zero, List.getElem_cons_succ]
      refine wpAnyH_done (by kernel_rfl) ?_ _
      clear hHeld hrg hB2 hLM SM hbz hbz2
      cases hsb : sameB x (LV.mk l ns vs us ds)
      · have HNE : Hid (x.val ≠ (LV.mk l ns vs us ds).val) := Lib.hid (by simpa [sameB] using hsb)
        clear hsb
        go_wp2_with (fail)
        go_roundw
        case rel => exact ⟨j + 1, hlt, by go_num, Lib.hid ⟨HBZ.out, fun i z hi hz => by
          by_cases hij : i < j
          · exact HE.out.2 i z hij hz
          · have hji : i = j := by have hi' : i < j + 1 := hi; omega
            subst hji
            have e : some z = some x := hz.symm.trans HXJ.out
            injection e with e
            subst e
            exact HNE.out⟩⟩
        case measure => simp [intOf]; omega
      · have HEQ : Hid (x.val = (LV.mk l ns vs us ds).val) := Lib.hid (by simpa [sameB] using hsb)
        clear hsb
        go_wp2_with (fail)
        (try go_ret)
        exact ⟨true, rfl, ⟨fun _ => ⟨x, List.mem_of_getElem? HXJ.out, HEQ.out⟩, fun _ => rfl⟩, HB.out.trans (HBZ.out.mono hs1)⟩
    · obtain rfl : j = nn := by omega
      go_wp2_with (fail)
      (try go_ret)
      refine ⟨false, rfl, ⟨fun e => (by cases e), ?_⟩, HB.out.trans (HE.out.1.mono hs1)⟩
      rintro ⟨x, hx, he⟩
      obtain ⟨i, hi⟩ := List.getElem?_of_mem hx
      exact absurd he (HE.out.2 i x (by have := (List.getElem?_eq_some_iff.1 hi).1; have := HL.out; omega) hi)
end Go.Proofs.YtnnegldaekmgbaaGreatDoor
