/- Come; Twice. -/
import Derived.Test.YtnnegldaekmgbaaGreatDoorZNtQ
namespace Go.Proofs.YtnnegldaekmgbaaGreatDoor
open Go.RowKit
set_option linter.unusedSimpArgs false
set_option linter.unusedVariables false
set_option maxHeartbeats 8000000
set_option maxRecDepth 100000

theorem NetAt.far {W W' : World} {lo g cd gt bg bd b : Nat} {v : Value} {s : NBg} {n : Nv} {m : Int} {cs : Array Value} (h : NetAt W lo g cd gt bg bd v s n m) (hb : Blk W b 48 cs) (hc : Chg W W' (fun k => k = b)) : NetAt W' lo g cd gt bg bd v s n m := by
  obtain ⟨d, x, y, hcd, hx, hy⟩ := h.cod
  obtain ⟨cs2, htb⟩ := tb_blk hcd.2
  exact ⟨hc.blk h.box (fun e => Blk.ne_ h.box hb (by decide) e), ⟨d, x, y, ⟨hc.blk hcd.1 (fun e => Blk.ne_ hcd.1 hb (by decide) e), TabC.chg hcd.2 hc (fun e => Blk.ne_ htb hb (by decide) e)⟩, hx, hy⟩,
    ⟨hc.blk h.bag.1 (fun e => Blk.ne_ h.bag.1 hb (by decide) e), hc.own h.bag.2 (fun j hj e => own_blk_ne h.bag.2 hb (by decide) (by rw [hj, e]))⟩, hc.blk h.brd (fun e => Blk.ne_ h.brd hb (by decide) e), h.most, h.last, h.no,
    fun k p q h1 h2 => ⟨hc.own (h.byt k p q h1 h2).1 (fun j hj e => own_blk_ne (h.byt k p q h1 h2).1 hb (by decide) (by rw [hj, e])), (h.byt k p q h1 h2).2⟩, h.low⟩
def Nv.came (n : Nv) (k : Nat) (e : Int) : Nv := { n with l := n.l.eraseIdx k, b := n.b.add (if e = 0 then 1 else 3) 1 }
def ComeP (lo g cd gt bg bd : Nat) (v : Value) (s : NBg) (n : Nv) (m : Int) (k : Nat) (f : List Nat) (w : World) (e : Ending) (w' : World) : Prop :=
  ∃ (x : LV) (v' : Value), e = .returned (.tuple #[x.l.agg, .bool (decide (dE f = 0))]) ∧ x.val = (if dE f = 0 then dV f else LVal.zero) ∧ LOwn w' w.heap.size x ∧ NetAt w' lo g cd gt bg bd v' (s.take k) (n.came k (dE f)) (m + 1) ∧ NStep w w' cd gt bg bd v v'
theorem netCome_yes {lo g cd gt bg bd k : Nat} {v : Value} {s : NBg} {n : Nv} {m : Int} {p : Int × Sv} {q : Int × List Nat} (w : World) (h : NetAt w lo g cd gt bg bd v s n m) (hlo : 0 < lo) (hK : KindsAt w) (hm : m ≤ 900000) (hbs : n.b.small) (hp : s.l[k]? = some p) (hq : n.l[k]? = some q) (hl : q.2.length ≤ 1000000) :
    Calls Tryz.prog 39 #[.pointer (some ⟨g, 0, none⟩), .int .i64 k] w (ComeP lo g cd gt bg bd v s n m k q.2 w) := by
  obtain ⟨W1, hW1⟩ : ∃ W1, W1 = w.alloc (.cells Lt.zero.cells 48) := ⟨_, rfl⟩
  have hb1 : Below w.heap.size w W1 := by rw [hW1]; exact (Below.refl _ _).alloc (Nat.le_refl _) _
  have hrb : Blk W1 w.heap.size 48 Lt.zero.cells := by rw [hW1]; exact Blk.new _ _ _
  have h1 := h.below hb1
  have BG := Lib.hid (netBag_any W1 h1)
  have TK := Lib.hid (netTake_yes W1 h1 hp hq)
  have HBY := Lib.hid (h.byt k p q hp hq).2
  have H1 := Lib.hid h1
  have HB1 := Lib.hid hb1
  have HRB := Lib.hid hrb
  have HW1 := Lib.hid hW1
  have hl1 := hrb.lt
  have HBS := Lib.hid hbs
  have HLO := Lib.hid (And.intro h.low hlo)
  have HGL := Lib.hid h.box.lt
  have HK := Lib.hid (hK.below hb1)
  have hz := z_hdr
  have HCA : Hid (∀ e, n.came k e = { n with l := n.l.eraseIdx k, b := n.b.add (if e = 0 then 1 else 3) 1 }) := Lib.hid (fun _ => rfl)
  clear hW1 hb1 hrb h1 h hK hbs hq
  obtain ⟨qn, f⟩ := q
  simp only at *
  go_enter Tryz.func39, Tryz.ntmps39
  go_upto_region 1 with (fail)
  have e0 := HW1.out
  simp only [Lt.cells, Lt.zero] at e0
  rw [← e0]
  clear e0
  go_wp2_with (fail)
  refine BG.out.mono ?_
  rintro e w1 ⟨rfl, rfl⟩
  go_wp2_with (fail)
  refine TK.out.mono ?_
  rintro e w2 ⟨rfl, v', hn, hs, ho, hsz⟩
  have RB2 := Lib.hid (hs.chg.blk HRB.out (H1.out.out HRB.out (by decide) (by decide) (by decide) (by decide) (by decide)))
  have hk2 : KindsAt w2 := HK.out.chg hs.chg (fun e => by
    obtain ⟨⟨a1, a2, a3, a4, a5⟩, a6⟩ := HLO.out
    rcases e with e | e | e | e | e
    · omega
    · omega
    · omega
    · omega
    · have := (H1.out.bag.2.lt 0 e).1; omega)
  have DE := Lib.hid (netDecO_any p.2.A p.2.c p.2.n f w2 hn HLO.out.2 hk2 hm ho HBY.out hl)
  have c0 : w2.cell? ⟨g, 0, none⟩ = some (.pointer (some ⟨cd, 0, none⟩)) := hn.box.cell 0
  have N2 := Lib.hid hn
  have S2 := Lib.hid ((NStep.of_below HB1.out cd gt bg bd v).trans hs)
  clear hn hs ho hk2 TK BG
  go_wp2_with (fail)
  refine DE.out.mono ?_
  rintro e w3 ⟨x, rfl, hxv, hxo, hn, hch⟩
  have RB3 := Lib.hid (hch.blk RB2.out (fun e => N2.out.out RB2.out (by decide) (by decide) (by decide) (by decide) (by decide) (by rcases e with e | e; exact .inr (.inl e); exact .inl e)))
  have N3 := Lib.hid hn
  have S3 := Lib.hid (S2.out.trans (NStep.codec hch bg bd v'))
  have XV := Lib.hid hxv
  have XO := Lib.hid hxo
  have hs2 := S2.out.chg.size
  have hs3 := hch.size
  clear hxv hxo hn hch DE RB2 N2 S2 c0
  dsimp only
  rename_i hK9
  refine hK9 _ _ ?_
  clear hK9
  iterate 12 go_step
  refine wpList_store_fresh rfl 48 (.tmp 8) (.tmp 27) rfl x.l.cells 48 Lt.zero.cells rfl rfl ltInfo rfl (lt_all _) ?_
  obtain ⟨W4, hW4⟩ : ∃ W4, W4 = w3.alloc (.cells x.l.cells 48) := ⟨_, rfl⟩
  rw [← hW4]
  have hb4 : Below w3.heap.size w3 W4 := by rw [hW4]; exact (Below.refl _ _).alloc (Nat.le_refl _) _
  have HX : Hid (Blk W4 w3.heap.size 48 x.l.cells) := Lib.hid (by rw [hW4]; exact Blk.new _ _ _)
  have RB4 := Lib.hid (RB3.out.below hb4 RB3.out.lt)
  have N4 := Lib.hid (N3.out.below hb4)
  have S4 := Lib.hid (S3.out.trans (NStep.of_below hb4 cd gt bg bd v'))
  have XO4 := Lib.hid (XO.out.below hb4)
  have hs4 := hb4.size
  have c2 : W4.cell? ⟨g, 2, none⟩ = some (.pointer (some ⟨bd, 0, none⟩)) := N4.out.box.cell 2
  clear hW4 hb4 RB3 N3 S3 XO
  by_cases hd : dE f = 0
  · rw [hd] at XV
    rw [hd]
    have AD := Lib.hid (netAdd_any 1 (by decide) W4 N4.out HBS.out)
    go_upto_region 8 with (fail)
    go_wp2_with (fail)
    refine AD.out.mono ?_
    rintro e w5 ⟨rfl, hn, hs⟩
    have RB5 := Lib.hid (hs.chg.blk RB4.out (N4.out.out RB4.out (by decide) (by decide) (by decide) (by decide) (by decide)))
    have HX5 := Lib.hid (hs.chg.blk HX.out (N4.out.out HX.out (by decide) (by decide) (by decide) (by decide) (by decide)))
    have N5 := Lib.hid hn
    have S5 := Lib.hid (S4.out.trans hs)
    have XO5 : Hid (LOwn w5 w2.heap.size x) := Lib.hid (by
      have o : ∀ {b sz q : Nat} {t : TypeId} {u : Value} {xs : List Value}, t ≠ 210 → t ≠ 215 → t ≠ 218 → t ≠ 223 → t ≠ 232 → W4.ownsRow b t sz u q xs → w5.ownsRow b t sz u q xs := fun a1 a2 a3 a4 a5 hr => hs.chg.own hr (fun j hj => N4.out.outO hr a1 a2 a3 a4 a5 hj)
      have z := XO4.out
      exact ⟨o (by decide) (by decide) (by decide) (by decide) (by decide) z.nd, o (by decide) (by decide) (by decide) (by decide) (by decide) z.vt, o (by decide) (by decide) (by decide) (by decide) (by decide) z.up, fun u hu => ⟨o (by decide) (by decide) (by decide) (by decide) (by decide) (z.ub u hu).1, (z.ub u hu).2⟩, o (by decide) (by decide) (by decide) (by decide) (by decide) z.da, z.by_, z.wf, z.vw, z.nw⟩)
    clear hn hs AD N4 S4 c2 RB4 HX XO4
    go_upto_region 9 with (fail)
    iterate 1 go_step
    refine wpList_load_row rfl 48 (.tmp 8) rfl w3.heap.size rfl 48 x.l.cells (0, 0) _ HX5.out Tryz.underlying48 rfl ltInfo ?_
    refine wpList_store_row rfl 48 (.tmp 4) (.tmp 42) rfl w.heap.size x.l.cells rfl rfl 48 Lt.zero.cells RB5.out ltInfo rfl (lt_all _) ?_
    go_wp2_with (fail)
    refine bodyPost_ret_by (v := .tuple #[.agg x.l.cells, .bool true]) (results_cell_row_tmp Tryz.results39 _ _ w.heap.size 48 x.l.cells (0, 0) _ _ rfl (setRow_heap _ _ _ _ _ _ RB5.out) rfl Tryz.underlying48 rfl ltInfo) rfl ?_
    have hbs1 : Chg w5 (w5.setRow w.heap.size x.l.cells) (fun k => k = w.heap.size) := ⟨rfl, rfl, rfl, by simp [World.setRow], fun k hk hn => setRow_other _ _ _ _ hn⟩
    refine ⟨x, v', by rw [hd]; rfl, by rw [XV.out, hd]; simp, (XO5.out.chg hbs1 (fun k hk => by omega)).base (by omega), ?_, ⟨S5.out.chg.trans hbs1 (fun k hk e => by omega), S5.out.row⟩⟩
    rw [HCA.out, hd, if_pos rfl]
    exact N5.out.far RB5.out hbs1
  · have hdb : (dE f != 0) = true := by simpa using hd
    have AD := Lib.hid (netAdd_any 3 (by decide) W4 N4.out HBS.out)
    have XZ : Hid (x.val = LVal.zero) := Lib.hid (by rw [XV.out, if_neg hd])
    have HD := Lib.hid hd
    clear hd XV
    go_upto_region 6 with (fail)
    go_wp2_with (fail)
    refine AD.out.mono ?_
    rintro e w5 ⟨rfl, hn, hs⟩
    have RB5 := Lib.hid (hs.chg.blk RB4.out (N4.out.out RB4.out (by decide) (by decide) (by decide) (by decide) (by decide)))
    have N5 := Lib.hid hn
    have S5 := Lib.hid (S4.out.trans hs)
    clear hn hs AD N4 S4 c2 RB4 HX XO4
    go_upto_region 7 with (fail)
    iterate 4 go_step
    refine wpList_store_row rfl 48 (.tmp 4) (.tmp 36) rfl w.heap.size Lt.zero.cells rfl rfl 48 Lt.zero.cells RB5.out ltInfo rfl (lt_all _) ?_
    go_wp2_with (fail)
    refine bodyPost_ret_by (v := .tuple #[.agg Lt.zero.cells, .bool false]) (results_cell_row_tmp Tryz.results39 _ _ w.heap.size 48 Lt.zero.cells (0, 0) _ _ rfl (setRow_heap _ _ _ _ _ _ RB5.out) rfl Tryz.underlying48 rfl ltInfo) rfl ?_
    have hbs1 : Chg w5 (w5.setRow w.heap.size Lt.zero.cells) (fun k => k = w.heap.size) := ⟨rfl, rfl, rfl, by simp [World.setRow], fun k hk hn => setRow_other _ _ _ _ hn⟩
    refine ⟨LV.zero, v', ?_, ?_, LOwn.zero _ _, ?_, ⟨S5.out.chg.trans hbs1 (fun k hk e => by omega), S5.out.row⟩⟩
    · have e : decide (dE f = 0) = false := decide_eq_false HD.out
      rw [e]; rfl
    · rw [if_neg HD.out]; rfl
    · rw [HCA.out, if_neg HD.out]
      exact N5.out.far RB5.out hbs1
end Go.Proofs.YtnnegldaekmgbaaGreatDoor
