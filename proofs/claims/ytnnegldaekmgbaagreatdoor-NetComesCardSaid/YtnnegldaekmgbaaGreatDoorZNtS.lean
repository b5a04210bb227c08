/- Spoil; Counts. -/
import Derived.Test.YtnnegldaekmgbaaGreatDoorZNtQ
import Derived.Test.YtnnegldaekmgbaaGreatDoorZGD
namespace Go.Proofs.YtnnegldaekmgbaaGreatDoor
open Go.RowKit
set_option linter.unusedSimpArgs false
set_option linter.unusedVariables false
set_option maxHeartbeats 8000000
set_option maxRecDepth 100000

theorem NetAt.setted {W W' : World} {lo g cd gt bg bd : Nat} {v : Value} {s : NBg} {n : Nv} {m : Int} (h : NetAt W lo g cd gt bg bd v s n m) {k : Nat} {q : Int × List Nat} (hq : n.l[k]? = some q) {x : Sv} {f : List Nat} (ho : W.ownsRow lo 5 1 (.slice x.A x.n x.c) x.n ((bI f).map (Value.int .u8))) (hf : isBs f) (hs : NBStep W W' bg v v) (ha : NBagAt W' bg v (s.set k x)) : NetAt W' lo g cd gt bg bd v (s.set k x) { n with l := n.l.set k (q.1, f) } m := by
  have hl := h.len
  have hk := (List.getElem?_eq_some_iff.1 hq).1
  have hh : s.has k = true := (NBg.has_iff s k).2 ⟨by omega, by omega⟩
  have hv : s.set k x = ⟨s.most, s.last, s.l.set k ((s.l.getD k (0, Sv.nil)).1, x)⟩ := by rw [NBg.set, if_pos hh, Int.toNat_natCast]
  have hfst : (s.l.getD k (0, Sv.nil)).1 = q.1 := by
    have e := congrArg (fun l => l[k]?) h.no
    simp only [List.getElem?_map, hq] at e
    rw [List.getD_eq_getElem?_getD]
    cases hz : s.l[k]? with
    | none => rw [hz] at e; cases e
    | some z => rw [hz] at e; simpa using e
  refine h.bagged hs ha rfl (by rw [hv]; exact h.most) (by rw [hv]; exact h.last) ?_ ?_
  · rw [hv, hfst]
    show (s.l.set k (q.1, x)).map Prod.fst = (n.l.set k (q.1, f)).map Prod.fst
    rw [List.map_set, List.map_set, h.no]
  · intro j p r hp hr
    rw [hv] at hp
    have hp : (s.l.set k ((s.l.getD k (0, Sv.nil)).1, x))[j]? = some p := hp
    have hr : (n.l.set k (q.1, f))[j]? = some r := hr
    by_cases hj : j = k
    · subst hj
      rw [List.getElem?_set_self (by omega)] at hp hr
      injection hp with hp
      injection hr with hr
      subst hp; subst hr
      exact ⟨ho, hf⟩
    · rw [List.getElem?_set_ne (fun e => hj e.symm)] at hp hr
      exact h.byt j p r hp hr
theorem netSpoil_yes {lo g cd gt bg bd k : Nat} {v : Value} {s : NBg} {n : Nv} {m : Int} {p : Int × Sv} {q : Int × List Nat} (bit : Int) (pat : Nat) (w : World) (h : NetAt w lo g cd gt bg bd v s n m) (hlo : 0 < lo) (hK : KindsAt w) (hm : m ≤ 900000) (hp : s.l[k]? = some p) (hq : n.l[k]? = some q) (hl : q.2.length ≤ 1000000) (hd : dE q.2 = 0) (hpat : pat < 4294967296) (hb0 : -9223372036854775808 ≤ bit) (hb1 : bit ≤ 9223372036854775807) :
    Calls Tryz.prog 38 #[.pointer (some ⟨g, 0, none⟩), .int .i64 k, .int .i64 bit, .int .u32 (pat : Int)] w fun e w' => e = .returned (.bool true) ∧ ∃ x : Sv, NetAt w' lo g cd gt bg bd v (s.set k x) { n with l := n.l.set k (q.1, turnV bit pat q.2) } (m + 1) ∧ NStep w w' cd gt bg bd v v := by
  have PK := Lib.hid (netPeek_yes w h hlo hK hm hp hq hl)
  have HD := Lib.hid hd
  have HP := Lib.hid hp
  have HQ := Lib.hid hq
  have HPAT := Lib.hid hpat
  clear h hK hp hq hd hpat
  go_enter Tryz.func38, Tryz.ntmps38
  go_wp2_with (fail)
  refine PK.out.mono ?_
  rintro e w1 ⟨x, rfl, hz1, hz2, hn, hch⟩
  clear hz1 hz2
  have N1 := Lib.hid hn
  have S1 := Lib.hid (NStep.codec hch bg bd v)
  rw [HD.out]
  clear hn hch PK
  dsimp only
  rename_i hK9
  refine hK9 _ _ ?_
  clear hK9
  iterate 12 go_step
  refine wpList_store_fresh rfl 48 (.tmp 9) (.tmp 17) rfl x.l.cells 48 Lt.zero.cells rfl rfl ltInfo rfl (lt_all _) ?_
  obtain ⟨W2, hW2⟩ : ∃ W2, W2 = w1.alloc (.cells x.l.cells 48) := ⟨_, rfl⟩
  rw [← hW2]
  have hb2 : Below w1.heap.size w1 W2 := by rw [hW2]; exact (Below.refl _ _).alloc (Nat.le_refl _) _
  have N2 := Lib.hid (N1.out.below hb2)
  have S2 := Lib.hid (S1.out.trans (NStep.of_below hb2 cd gt bg bd v))
  have BG := Lib.hid (netBag_any W2 N2.out)
  have AT := Lib.hid (netAt_yes W2 N2.out HP.out)
  obtain ⟨ho, hbs⟩ := N2.out.byt k p q HP.out HQ.out
  have hlow := N2.out.low
  have hgl := N2.out.box.lt
  have TN := Lib.hid (crcTurn_any p.2.A p.2.n p.2.c W2.heap.size q.2 bit pat hbs W2 (own_reads ho) (Nat.le_refl _) (by have := (own_reads ho).1; simp [bI] at this; omega) HPAT.out hb0 hb1)
  have HT := Lib.hid (turnV_bs bit pat q.2 hbs)
  clear hW2 hb2 N1 S1 ho hbs
  go_wp2_with (fail)
  refine BG.out.mono ?_
  rintro e w3 ⟨rfl, rfl⟩
  go_wp2_with (fail)
  refine AT.out.mono ?_
  rintro e w3 ⟨rfl, rfl⟩
  go_wp2_with (fail)
  refine BG.out.mono ?_
  rintro e w3 ⟨rfl, rfl⟩
  go_wp2_with (fail)
  refine TN.out.mono ?_
  rintro e w4 ⟨tv, rfl, ho, h4⟩
  obtain ⟨A4, c4, rfl, _, _, _⟩ := own_slice ho
  have N4 := Lib.hid (N2.out.below h4)
  have S4 := Lib.hid (S2.out.trans (NStep.of_below h4 cd gt bg bd v))
  have O4 := Lib.hid (own_base ho (show lo ≤ W2.heap.size by omega))
  have ST := Lib.hid (nb_set_any bg v s k ⟨A4, p.2.n, c4⟩ w4 N4.out.bag)
  have hh : s.has k = true := (NBg.has_iff s k).2 ⟨by omega, by have := (List.getElem?_eq_some_iff.1 HP.out).1; omega⟩
  rw [hh] at ST
  clear ho h4 N2 S2 TN AT BG hh
  go_wp2_with (fail)
  refine ST.out.mono ?_
  rintro e w5 ⟨rfl, ha, hs⟩
  have N5 := Lib.hid (N4.out.setted HQ.out O4.out HT.out hs ha)
  have S5 := Lib.hid (S4.out.trans (NStep.bag hs cd gt bd))
  clear ha hs ST
  go_wp2_with (fail)
  go_ret
  exact ⟨rfl, _, N5.out, S5.out⟩
theorem netCounts_any {lo g cd gt bg bd : Nat} {v : Value} {s : NBg} {n : Nv} {m : Int} (w : World) (h : NetAt w lo g cd gt bg bd v s n m) :
    Calls Tryz.prog 42 #[.pointer (some ⟨g, 0, none⟩)] w fun e w' => e = .returned (.agg #[.int .i64 n.b.a, .int .i64 n.b.b, .int .i64 n.b.c, .int .i64 n.b.d]) ∧ Below w.heap.size w w' := by
  obtain ⟨W1, hW1⟩ : ∃ W1, W1 = w.alloc (.cells #[.int .i64 0, .int .i64 0, .int .i64 0, .int .i64 0] 93) := ⟨_, rfl⟩
  have hb1 : Below w.heap.size w W1 := by rw [hW1]; exact (Below.refl _ _).alloc (Nat.le_refl _) _
  have hrb : Blk W1 w.heap.size 93 #[.int .i64 0, .int .i64 0, .int .i64 0, .int .i64 0] := by rw [hW1]; exact Blk.new _ _ _
  have h1 := h.below hb1
  have hd : BdAt W1.drew bd n.b := Blk.drew h1.brd
  have A0 : Hid (Calls Tryz.prog 88 #[.pointer (some ⟨bd, 0, none⟩), .int .i64 0] W1.drew fun e w' => e = .returned (.int .i64 n.b.a) ∧ W1.drew = w') := Lib.hid (bdAt_any bd n.b 0 (by decide) W1.drew hd)
  have A1 : Hid (Calls Tryz.prog 88 #[.pointer (some ⟨bd, 0, none⟩), .int .i64 1] W1.drew fun e w' => e = .returned (.int .i64 n.b.b) ∧ W1.drew = w') := Lib.hid (bdAt_any bd n.b 1 (by decide) W1.drew hd)
  have A2 : Hid (Calls Tryz.prog 88 #[.pointer (some ⟨bd, 0, none⟩), .int .i64 2] W1.drew fun e w' => e = .returned (.int .i64 n.b.c) ∧ W1.drew = w') := Lib.hid (bdAt_any bd n.b 2 (by decide) W1.drew hd)
  have A3 : Hid (Calls Tryz.prog 88 #[.pointer (some ⟨bd, 0, none⟩), .int .i64 3] W1.drew fun e w' => e = .returned (.int .i64 n.b.d) ∧ W1.drew = w') := Lib.hid (bdAt_any bd n.b 3 (by decide) W1.drew hd)
  have c2 : W1.cell? ⟨g, 2, none⟩ = some (.pointer (some ⟨bd, 0, none⟩)) := h1.box.cell 2
  have lg := h1.box.lt
  obtain ⟨r0, r1, r2, r3⟩ := cells4 hrb
  obtain ⟨f0, f1, f2, f3⟩ := frozen4 hrb
  have lr := hrb.lt
  have HB1 := Lib.hid hb1
  have HRB := Lib.hid hrb
  have HW1 := Lib.hid hW1
  have hg0 := h.box.lt
  have hne : g ≠ w.heap.size := by omega
  have hne' := hne.symm
  clear hW1 hb1 hrb h1 h hd hg0
  go_enter Tryz.func42, Tryz.ntmps42
  go_upto_region 1 with (fail)
  rw [← HW1.out]
  go_wp2_with (fail)
  go_region_held3 (fun w' => w'.cell? ⟨g, 2, none⟩ = some (.pointer (some ⟨bd, 0, none⟩))) (go_keep) (first
    | (go_at_call 88; (first | (with_reducible refine A0.out.mono ?_) | (with_reducible refine A1.out.mono ?_) | (with_reducible refine A2.out.mono ?_) | (with_reducible refine A3.out.mono ?_)); rintro e w6 ⟨rfl, rfl⟩)
    | fail)
  have HC := Lib.hid (set4_chg W1 w.heap.size (.int .i64 n.b.a) (.int .i64 n.b.b) (.int .i64 n.b.c) (.int .i64 n.b.d))
  have HK := Lib.hid (set4_blk HRB.out (.int .i64 n.b.a) (.int .i64 n.b.b) (.int .i64 n.b.c) (.int .i64 n.b.d)).drew
  have HF : Hid (Below w.heap.size w ((((W1.setCell ⟨w.heap.size, 0, none⟩ (.int .i64 n.b.a)).setCell ⟨w.heap.size, 1, none⟩ (.int .i64 n.b.b)).setCell ⟨w.heap.size, 2, none⟩ (.int .i64 n.b.c)).setCell ⟨w.heap.size, 3, none⟩ (.int .i64 n.b.d)).drew) := Lib.hid ((HB1.out.trans (HC.out.below HB1.out.size (fun k hk e => by simp only [isG] at e; omega))).drew)
  clear HC r0 r1 r2 r3 f0 f1 f2 f3 c2
  generalize ((((W1.setCell ⟨w.heap.size, 0, none⟩ (.int .i64 n.b.a)).setCell ⟨w.heap.size, 1, none⟩ (.int .i64 n.b.b)).setCell ⟨w.heap.size, 2, none⟩ (.int .i64 n.b.c)).setCell ⟨w.heap.size, 3, none⟩ (.int .i64 n.b.d)).drew = wz at *
  obtain ⟨k0, k1, k2, k3⟩ := cells4 HK.out
  go_wp2_with (fail)
  refine bodyPost_ret (v := .agg #[.int .i64 n.b.a, .int .i64 n.b.b, .int .i64 n.b.c, .int .i64 n.b.d]) (by simp [results, Tryz.results42, go_sem, k0, k1, k2, k3]) rfl ?_
  exact ⟨rfl, HF.out⟩
end Go.Proofs.YtnnegldaekmgbaaGreatDoor
