/- Peek. -/
import Derived.Test.YtnnegldaekmgbaaGreatDoorZNtA
namespace Go.Proofs.YtnnegldaekmgbaaGreatDoor
open Go.RowKit
set_option linter.unusedSimpArgs false
set_option linter.unusedVariables false
set_option maxHeartbeats 8000000
set_option maxRecDepth 100000

noncomputable def dE (f : List Nat) : Int := decE chkV stX f
noncomputable def dV (f : List Nat) : LVal := (decS stX f).2
theorem own_ad {w : World} {base sz n c : Nat} {e : TypeId} {A : Option Addr} {xs : List Value} (h : w.ownsRow base e sz (.slice A n c) n xs) {ad : Addr} (hA : A = some ad) : (Value.slice A n c).ownBlock = some ad.block := by
  rcases h.2 with ⟨h0, _⟩ | ⟨g', cap, cur, hv, _⟩
  · injection h0 with h1
    rw [hA] at h1; cases h1
  · injection hv with h1
    rw [hA] at h1
    injection h1 with h1
    subst hA; subst h1; rfl
theorem KindsAt.chg {W W' : World} {S : Nat → Prop} (h : KindsAt W) (hc : Chg W W' S) (h0 : ¬ S 0) : KindsAt W' :=
  ⟨fun k j hk hj => (hc.cell (p := ⟨0, k * 7 + 1 + j, none⟩) h.lt h0).trans (h.cell k j hk hj)⟩
/-- a frame of the net, and what decoding it tells -/
theorem netDec_any {lo g cd gt bg bd k : Nat} {v : Value} {s : NBg} {n : Nv} {m : Int} {p : Int × Sv} {q : Int × List Nat} (w : World) (h : NetAt w lo g cd gt bg bd v s n m) (hlo : 0 < lo) (hK : KindsAt w) (hm : m ≤ 900000) (hp : s.l[k]? = some p) (hq : n.l[k]? = some q) (hl : q.2.length ≤ 1000000) :
    Calls Tryz.prog 80 #[.pointer (some ⟨cd, 0, none⟩), .slice p.2.A p.2.n p.2.c] w fun e w' => ∃ x : LV, e = .returned (.tuple #[x.l.agg, .int .i64 (dE q.2)]) ∧ x.val = (if dE q.2 = 0 then dV q.2 else LVal.zero) ∧ LOwn w' w.heap.size x ∧ NetAt w' lo g cd gt bg bd v s n (m + 1) ∧ Chg w w' (fun k => k = gt ∨ k = cd) := by
  obtain ⟨d, x, y, hcd, hx, hy⟩ := h.cod
  obtain ⟨ho, hb⟩ := h.byt k p q hp hq
  obtain ⟨l1, l2, l3, l4, l5⟩ := h.low
  have hr := own_reads ho
  obtain ⟨hc1, hc2⟩ := own_caps ho
  have hlen : q.2.length = p.2.n := by have := hr.1; simpa [bI] using this
  obtain ⟨cs2, htb⟩ := tb_blk hcd.2
  refine (decode_any cd gt d x y p.2.A p.2.n p.2.c w.heap.size q.2 w hcd hr hb (Nat.le_refl _) (fun ad _ e e2 => own_blk_ne ho htb (by decide) ((own_ad ho e).trans (by rw [e2]))) (by omega) hc1 (by have := hc2; unfold maxLen at this; omega) (by omega) (by omega) (fun W hc => hK.chg hc (fun e => by omega))).mono ?_
  rintro e w' ⟨z, rfl, hv, hown, ⟨d', hcd'⟩, hch⟩
  refine ⟨z, rfl, hv, hown, h.move hch ⟨d', _, _, hcd', ?_, ?_⟩, hch⟩
  · unfold cntX; split <;> omega
  · unfold cntY; split <;> omega
def PeekP (lo g cd gt bg bd : Nat) (v : Value) (s : NBg) (n : Nv) (m : Int) (f : List Nat) (w : World) (e : Ending) (w' : World) : Prop :=
  ∃ x : LV, e = .returned (.tuple #[x.l.agg, .bool (decide (dE f = 0))]) ∧ x.val = (if dE f = 0 then dV f else LVal.zero) ∧ LOwn w' w.heap.size x ∧ NetAt w' lo g cd gt bg bd v s n (m + 1) ∧ Chg w w' (fun k => k = gt ∨ k = cd)
theorem netAt_yes {lo g cd gt bg bd k : Nat} {v : Value} {s : NBg} {n : Nv} {m : Int} {p : Int × Sv} (w : World) (h : NetAt w lo g cd gt bg bd v s n m) (hp : s.l[k]? = some p) :
    Calls Tryz.prog 79 #[.pointer (some ⟨bg, 0, none⟩), .int .i64 k] w fun e w' => e = .returned (.tuple #[.slice p.2.A p.2.n p.2.c, .bool true]) ∧ w = w' := by
  have := nb_at_any bg v s k w h.bag
  have hh : s.has k = true := (NBg.has_iff s k).2 ⟨by omega, by have := (List.getElem?_eq_some_iff.1 hp).1; omega⟩
  have hv : s.at_ k = (p.2, true) := by rw [NBg.at_, if_pos hh, Int.toNat_natCast, List.getD_eq_getElem?_getD, hp]; rfl
  rw [hv] at this
  exact this
theorem netPeek_yes {lo g cd gt bg bd k : Nat} {v : Value} {s : NBg} {n : Nv} {m : Int} {p : Int × Sv} {q : Int × List Nat} (w : World) (h : NetAt w lo g cd gt bg bd v s n m) (hlo : 0 < lo) (hK : KindsAt w) (hm : m ≤ 900000) (hp : s.l[k]? = some p) (hq : n.l[k]? = some q) (hl : q.2.length ≤ 1000000) :
    Calls Tryz.prog 35 #[.pointer (some ⟨g, 0, none⟩), .int .i64 k] w (PeekP lo g cd gt bg bd v s n m q.2 w) := by
  obtain ⟨W1, hW1⟩ : ∃ W1, W1 = w.alloc (.cells Lt.zero.cells 48) := ⟨_, rfl⟩
  have hb1 : Below w.heap.size w W1 := by rw [hW1]; exact (Below.refl _ _).alloc (Nat.le_refl _) _
  have hrb : Blk W1 w.heap.size 48 Lt.zero.cells := by rw [hW1]; exact Blk.new _ _ _
  have h1 := h.below hb1
  have BG := Lib.hid (netBag_any W1 h1)
  have AT := Lib.hid (netAt_yes W1 h1 hp)
  have DE := Lib.hid (netDec_any W1 h1 hlo (hK.below hb1) hm hp hq hl)
  have c0 : W1.cell? ⟨g, 0, none⟩ = some (.pointer (some ⟨cd, 0, none⟩)) := h1.box.cell 0
  have H1 := Lib.hid h1
  have HB1 := Lib.hid hb1
  have HRB := Lib.hid hrb
  have HW1 := Lib.hid hW1
  have hl1 := hrb.lt
  have hlg := h1.box.lt
  have hlow := h.low
  have hgl := h.box.lt
  have HGT : Hid (gt < w.heap.size ∧ cd < w.heap.size) := Lib.hid (by
    obtain ⟨d, x, y, hcd, _⟩ := h.cod
    exact ⟨hcd.2.lt, hcd.1.lt⟩)
  have HN := Lib.hid h
  clear hW1 hb1 hrb h1 h hK
  generalize q.2 = f at *
  go_enter Tryz.func35, Tryz.ntmps35
  go_upto_region 1 with (fail)
  have e0 := HW1.out
  simp only [Lt.cells, Lt.zero] at e0
  rw [← e0]
  clear e0
  go_wp2_with (fail)
  refine BG.out.mono ?_
  rintro e w1 ⟨rfl, rfl⟩
  go_wp2_with (fail)
  refine AT.out.mono ?_
  rintro e w1 ⟨rfl, rfl⟩
  go_wp2_with (fail)
  refine DE.out.mono ?_
  rintro e w2 ⟨x, rfl, hxv, hxo, hn2, hch⟩
  have gt1 := HGT.out
  have RB2 := Lib.hid (hch.blk HRB.out (fun e => by omega))
  have N2 := Lib.hid hn2
  have XV := Lib.hid hxv
  have XO := Lib.hid hxo
  have CH := Lib.hid hch
  have hs2 := hch.size
  clear hxv hxo hn2 hch DE AT BG
  dsimp only
  rename_i hK9
  refine hK9 _ _ ?_
  clear hK9
  iterate 12 go_step
  refine wpList_store_fresh rfl 48 (.tmp 8) (.tmp 27) rfl x.l.cells 48 Lt.zero.cells rfl rfl ltInfo rfl (lt_all _) ?_
  obtain ⟨W4, hW4⟩ : ∃ W4, W4 = w2.alloc (.cells x.l.cells 48) := ⟨_, rfl⟩
  rw [← hW4]
  have hb4 : Below w2.heap.size w2 W4 := by rw [hW4]; exact (Below.refl _ _).alloc (Nat.le_refl _) _
  have HX : Hid (Blk W4 w2.heap.size 48 x.l.cells) := Lib.hid (by rw [hW4]; exact Blk.new _ _ _)
  have RB4 := Lib.hid (RB2.out.below hb4 RB2.out.lt)
  have HB4 := Lib.hid hb4
  have N4 := Lib.hid (N2.out.below hb4)
  have XO4 := Lib.hid (XO.out.below hb4)
  clear hW4 hb4 RB2 N2 XO
  go_upto_region 5 with (fail)
  iterate 1 go_step
  refine wpList_load_row rfl 48 (.tmp 8) rfl w2.heap.size rfl 48 x.l.cells (0, 0) _ HX.out Tryz.underlying48 rfl ltInfo ?_
  iterate 6 go_step
  refine wpList_store_row rfl 48 (.tmp 4) (.tmp 29) rfl w.heap.size x.l.cells rfl rfl 48 Lt.zero.cells RB4.out ltInfo rfl (lt_all _) ?_
  go_wp2_with (fail)
  refine bodyPost_ret_by (v := .tuple #[.agg x.l.cells, .bool (dE f == 0)]) (results_cell_row_tmp Tryz.results35 _ _ w.heap.size 48 x.l.cells (0, 0) _ _ rfl (setRow_heap _ _ _ _ _ _ RB4.out) rfl Tryz.underlying48 rfl ltInfo) rfl ?_
  have hbs := below_setRow (Below.refl w.heap.size W4) (Nat.le_refl _) x.l.cells
  have hbs1 : Chg W4 (W4.setRow w.heap.size x.l.cells) (fun k => k = w.heap.size) := ⟨rfl, rfl, rfl, by simp [World.setRow], fun k hk hn => setRow_other _ _ _ _ hn⟩
  have hs1 := HB1.out.size
  have hs4 := HB4.out.size
  have hfin : Chg w (W4.setRow w.heap.size x.l.cells) (fun k => k = gt ∨ k = cd) := (((Chg.of_below HB1.out (fun k => k = gt ∨ k = cd)).trans CH.out (fun _ _ e => e)).trans (Chg.of_below HB4.out _) (fun _ _ e => e)).trans hbs1 (fun k hk e => by omega)
  refine ⟨x, ?_, XV.out, (XO4.out.chg hbs1 (fun k hk => by omega)).base (by omega), HN.out.move hfin ?_, hfin⟩
  · have e : (dE f == 0) = decide (dE f = 0) := by rw [Bool.eq_iff_iff]; simp
    rw [e]; rfl
  · obtain ⟨d, a, b, hcd, hx, hy⟩ := N4.out.cod
    exact ⟨d, a, b, hcd.below hbs (by omega) (by omega), hx, hy⟩
end Go.Proofs.YtnnegldaekmgbaaGreatDoor
