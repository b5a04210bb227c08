/- GN: CdK CdN CdO CdP -/
import Derived.Test.YtmpedblelnpjdaaGreatDoorZGM
import Derived.Test.YtmpedblelnpjdaaGreatDoorZTq
import Derived.Test.YtmpedblelnpjdaaGreatDoorZTk
import Derived.Test.YtmpedblelnpjdaaGreatDoorZGR
/- Votes: which may be (printed by cdgen7.py). -/
namespace Go.Proofs.YtmpedblelnpjdaaGreatDoor
open Go.RowKit
set_option linter.unusedSimpArgs false
set_option linter.unusedVariables false
set_option maxHeartbeats 8000000
set_option maxRecDepth 100000
def voteOk (l : List Vt) (j : Nat) (v : Vt) : Prop := (0 ≤ v.sl ∧ v.sl < 512) ∧ (∀ u, 0 < j → l[j - 1]? = some u → u.sl < v.sl) ∧ isBal v.bl = true ∧ cmdE v.qk v.qc v.qe v.qn = 0
open Classical in
noncomputable def votesB (l : List Vt) : Bool := decide ((∀ j v, l[j]? = some v → voteOk l j v) ∧ l.length ≤ 512)
open Classical in
theorem votesB_no {l : List Vt} {j : Nat} {v : Vt} (hv : l[j]? = some v) (h : ¬ voteOk l j v) : votesB l = false := by
 unfold votesB
 exact decide_eq_false (fun h1 => h (h1.1 j v hv))
open Classical in
theorem votesB_yes {l : List Vt} (h : ∀ j v, l[j]? = some v → voteOk l j v) (hl : l.length ≤ 512) : votesB l = true := by
 unfold votesB
 exact decide_eq_true ⟨h, hl⟩
open Classical in
theorem votesB_long {l : List Vt} (hl : 512 < l.length) : votesB l = false := by
 unfold votesB
 exact decide_eq_false (fun h => by omega)
theorem vt_cells {w : World} {g : Nat} {t : TypeId} {v : Vt} (h : Blk w g t v.cells) : w.cell? ⟨g, 0, none⟩ = some (.int .i64 v.sl) ∧ w.cell? ⟨g, 1, none⟩ = some (.int .u64 v.bl) ∧ w.cell? ⟨g, 2, none⟩ = some (.int .i64 v.qk) ∧ w.cell? ⟨g, 3, none⟩ = some (.int .i64 v.qc) ∧ w.cell? ⟨g, 4, none⟩ = some (.int .u64 v.qe) ∧ w.cell? ⟨g, 5, none⟩ = some (.int .i64 v.qn) :=
 ⟨h.cell 0, h.cell 1, h.cell 2, h.cell 3, h.cell 4, h.cell 5⟩
theorem votes_any (A : Option Addr) (n c B : Nat) (l : List Vt) (w : World) (h : Reads w B 6 A n (l.flatMap Vt.row)) (hw : ∀ v ∈ l, v.wf) (hB : B ≤ w.heap.size) (hn : n ≤ 1000000) :
  Calls Tryz.prog 273 #[.slice A n c] w fun e w' => e = .returned (.bool (votesB l)) ∧ Below w.heap.size w w' := by
 have hll := flat_len Vt.row Vt.row_len (by omega) h
 have H := Lib.hid h
 have HL := Lib.hid hll
 have HWF := Lib.hid hw
 have HB0 : Hid (Below w.heap.size w w) := Lib.hid (Below.refl _ _)
 clear h hll hw
 go_enter Tryz.func273, Tryz.ntmps273
 go_wp2_with (fail)
 go_loopw [7] (fun iv wr => ∃ k : Nat, k ≤ n ∧ iv = .int .i64 k ∧ Hid (∀ j x, j < k → l[j]? = some x → voteOk l j x) ∧ Hid (Below w.heap.size w wr)) (fun iv _ => n - (intOf iv).toNat)
 case atStart => exact ⟨0, by omega, rfl, Lib.hid (fun j x hj => absurd hj (by omega)), HB0⟩
 case round =>
  clear HB0
  obtain ⟨k, hk, rfl, HO, HB⟩ := hrel
  by_cases hlt : k < n
  rotate_left
  ·obtain rfl : k = n := by omega
   by_cases h5 : k ≤ 512
   ·have h5' : (k : Int) ≤ 512 := by omega
    have HV : Hid (votesB l = true) := Lib.hid (votesB_yes (fun j v hv => HO.out j v (by have := (List.getElem?_eq_some_iff.1 hv).1; have := HL.out; omega) hv) (by have := HL.out; omega))
    clear h5
    go_wp2_with (fail)
    go_ret
    exact ⟨by rw [HV.out]; rfl, HB.out⟩
   ·have h5' : ¬ (k : Int) ≤ 512 := by omega
    have HV : Hid (votesB l = false) := Lib.hid (votesB_long (by have := HL.out; omega))
    clear h5
    go_wp2_with (fail)
    go_ret
    exact ⟨by rw [HV.out]; rfl, HB.out⟩
  ·have hltZ : (k : Int) < n := by omega
   obtain ⟨b, off, v, rfl, hb, hv, hc⟩ := reads_at Vt.row (fun _ => rfl) (by omega) (H.out.below (HB.out.mono hB)) hlt
   have p0 := hc 0 _ rfl
   have p1 := hc 1 _ rfl
   have p2 := hc 2 _ rfl
   have p3 := hc 3 _ rfl
   have p4 := hc 4 _ rfl
   have p5 := hc 5 _ rfl
   simp only [Nat.add_zero] at p0
   have hvw := HWF.out v (List.mem_of_getElem? hv)
   have HV := Lib.hid hv
   have IS := Lib.hid (fun W => is_any v.bl W hvw.bl.1 (by have := hvw.bl.2; omega))
   have CE := Lib.hid (fun W => cmdCheck_any v.qk v.qc v.qe v.qn hvw.qe.1 W)
   have hbw : b < wr.heap.size := Nat.lt_of_lt_of_le hb (Nat.le_trans hB HB.out.size)
   obtain ⟨W1, hW1⟩ : ∃ W1, W1 = wr.alloc (.cells #[.int .i64 v.sl, .int .u64 v.bl, .int .i64 v.qk, .int .i64 v.qc, .int .u64 v.qe, .int .i64 v.qn] 239) := ⟨_, rfl⟩
   have hb1 : Below wr.heap.size wr W1 := by rw [hW1]; exact (Below.refl _ _).alloc (Nat.le_refl _) _
   have HB1 := Lib.hid (HB.out.trans (hb1.mono HB.out.size))
   have BV : Blk W1 wr.heap.size 239 v.cells := by rw [hW1]; exact Blk.new _ _ _
   obtain ⟨c0, c1, c2, c3, c4, c5⟩ := vt_cells BV
   have hgV := BV.lt
   have HPU : Hid (∀ u, 0 < k → l[k - 1]? = some u → b < W1.heap.size ∧ W1.cell? ⟨b, off + (k - 1) * 6, none⟩ = some (.int .i64 u.sl)) := Lib.hid (fun u hk0 hu => by
    obtain ⟨b2, off2, u2, e2, hb2, hu2, hc2⟩ := reads_at Vt.row (fun _ => rfl) (by omega) (H.out.below (HB.out.mono hB)) (k := k - 1) (by omega)
    injection e2 with e2
    injection e2 with e3 e4
    subst e3 e4
    rw [hu] at hu2
    injection hu2 with hu2
    subst hu2
    exact ⟨Nat.lt_of_lt_of_le hbw hb1.size, (hb1.cell hbw).trans (hc2 0 _ rfl)⟩)
   have HLEN := Lib.hid (show k < l.length by have := HL.out; omega)
   have HW1 := Lib.hid hW1
   clear hc hv hb hvw hW1 hb1 BV
   go_upto_region 4 with (fail)
   rw [← HW1.out]
   clear p0 p1 p2 p3 p4 p5
   generalize wr.heap.size = gV at *
   by_cases a0 : v.sl < 0
   ·have HN : Hid (votesB l = false) := Lib.hid (votesB_no HV.out (fun h => by have := h.1.1; omega))
    refine wp_region_held_drew (S := fun w' => (w'.cell? ⟨gV, 0, none⟩ = some (.int .i64 v.sl) ∧ w'.cell? ⟨gV, 1, none⟩ = some (.int .u64 v.bl) ∧ w'.cell? ⟨gV, 2, none⟩ = some (.int .i64 v.qk) ∧ w'.cell? ⟨gV, 3, none⟩ = some (.int .i64 v.qc) ∧ w'.cell? ⟨gV, 4, none⟩ = some (.int .u64 v.qe) ∧ w'.cell? ⟨gV, 5, none⟩ = some (.int .i64 v.qn)) ∧ True) (by kernel_rfl) ⟨⟨c0, c1, c2, c3, c4, c5⟩, trivial⟩ (fun hHeld => ?_)
    refine tkV 0 rfl ?_
    try simp only [Act.put, pS]
    refine tkV 1 rfl ?_
    try simp only [Act.put, pS]
    refine tkV 2 rfl ?_
    try simp only [Act.put, pS]
    refine tkV 3 rfl ?_
    try simp only [Act.put, pS]
    refine tkU 4 rfl ?_
    try simp only [Act.put, pS]
    refine tkU 5 rfl ?_
    try simp only [Act.put, pS]
    refine tkU 6 rfl ?_
    exact rp82
   by_cases a1 : 512 ≤ v.sl
   ·have HN : Hid (votesB l = false) := Lib.hid (votesB_no HV.out (fun h => by have := h.1.2; omega))
    refine wp_region_held_drew (S := fun w' => (w'.cell? ⟨gV, 0, none⟩ = some (.int .i64 v.sl) ∧ w'.cell? ⟨gV, 1, none⟩ = some (.int .u64 v.bl) ∧ w'.cell? ⟨gV, 2, none⟩ = some (.int .i64 v.qk) ∧ w'.cell? ⟨gV, 3, none⟩ = some (.int .i64 v.qc) ∧ w'.cell? ⟨gV, 4, none⟩ = some (.int .u64 v.qe) ∧ w'.cell? ⟨gV, 5, none⟩ = some (.int .i64 v.qn)) ∧ True) (by kernel_rfl) ⟨⟨c0, c1, c2, c3, c4, c5⟩, trivial⟩ (fun hHeld => ?_)
    refine tkV 0 rfl ?_
    try simp only [Act.put, pS]
    refine tkV 1 rfl ?_
    try simp only [Act.put, pS]
    refine tkV 2 rfl ?_
    try simp only [Act.put, pS]
    refine tkV 3 rfl ?_
    try simp only [Act.put, pS]
    refine tkV 4 rfl ?_
    try simp only [Act.put, pS]
    refine tkV 5 rfl ?_
    try simp only [Act.put, pS]
    refine tkV 6 rfl ?_
    exact rp82
   by_cases a2 : 0 < k
   ·have a2' : (0 : Int) < (k : Int) := by omega
    have hk1 : k - 1 < l.length := by have := HLEN.out; omega
    obtain ⟨u, hu⟩ : ∃ u, l[k - 1]? = some u := ⟨_, List.getElem?_eq_getElem hk1⟩
    obtain ⟨hbb, pu⟩ := HPU.out u a2 hu
    have HU := Lib.hid hu
    clear hu hk1
    have kz : IntKind.i64.wrap ((k : Int) - 1) = (((k - 1 : Nat)) : Int) := by rw [IntKind.wrap_i64]; omega
    have kz2 : (((k - 1 : Nat)) : Int) < (n : Int) := by omega
    have kz3 : k - 1 < n := by omega
    by_cases a3 : v.sl ≤ u.sl
    ·have HN : Hid (votesB l = false) := Lib.hid (votesB_no HV.out (fun h => by have := h.2.1 u a2 HU.out; omega))
     refine wp_region_held_drew (S := fun w' => (w'.cell? ⟨gV, 0, none⟩ = some (.int .i64 v.sl) ∧ w'.cell? ⟨gV, 1, none⟩ = some (.int .u64 v.bl) ∧ w'.cell? ⟨gV, 2, none⟩ = some (.int .i64 v.qk) ∧ w'.cell? ⟨gV, 3, none⟩ = some (.int .i64 v.qc) ∧ w'.cell? ⟨gV, 4, none⟩ = some (.int .u64 v.qe) ∧ w'.cell? ⟨gV, 5, none⟩ = some (.int .i64 v.qn)) ∧ w'.cell? ⟨b, off + (k - 1) * 6, none⟩ = some (.int .i64 u.sl)) (by kernel_rfl) ⟨⟨c0, c1, c2, c3, c4, c5⟩, pu⟩ (fun hHeld => ?_)
     refine tkV 0 rfl ?_
     try simp only [Act.put, pS]
     refine tkV 1 rfl ?_
     try simp only [Act.put, pS]
     refine tkV 2 rfl ?_
     try simp only [Act.put, pS]
     refine tkV 3 rfl ?_
     try simp only [Act.put, pS]
     refine tkV 4 rfl ?_
     try simp only [Act.put, pS]
     refine tkV 5 rfl ?_
     try simp only [Act.put, pS]
     refine tkV 6 rfl ?_
     try simp only [Act.put, pS]
     refine tkV 7 rfl ?_
     try simp only [Act.put, pS]
     refine tkV 8 rfl ?_
     try simp only [Act.put, pS]
     refine tkV 9 rfl ?_
     try simp only [Act.put, pS]
     refine tkV 10 rfl ?_
     try simp only [Act.put, pS]
     refine tkV 11 rfl ?_
     try simp only [Act.put, pS]
     refine tkV 12 rfl ?_
     try simp only [Act.put, pS]
     refine tkV 13 rfl ?_
     try simp only [Act.put, pS]
     refine tkV 14 rfl ?_
     try simp only [Act.put, pS]
     refine tkV 15 rfl ?_
     try simp only [Act.put, pS]
     refine tkV 16 rfl ?_
     try simp only [Act.put, pS]
     refine tkV 17 rfl ?_
     try simp only [Act.put, pS]
     refine tkV 18 rfl ?_
     try simp only [Act.put, pS]
     refine tkV 19 rfl ?_
     try simp only [Act.put, pS]
     refine tkV 20 rfl ?_
     try simp only [Act.put, pS]
     refine tkV 21 rfl ?_
     try simp only [Act.put, pS]
     refine tkV 22 rfl ?_
     try simp only [Act.put, pS]
     refine tkV 23 rfl ?_
     try simp only [Act.put, pS]
     refine tkU 24 rfl ?_
     try simp only [Act.put, pS]
     refine tkU 25 rfl ?_
     try simp only [Act.put, pS]
     refine tkU 26 rfl ?_
     try simp only [Act.put, pS]
     refine tkU 27 rfl ?_
     exact rp18
    cases hi : isBal v.bl with
    | false =>
     have HN : Hid (votesB l = false) := Lib.hid (votesB_no HV.out (fun h => by have := h.2.2.1; rw [hi] at this; cases this))
     rw [hi] at IS
     clear hi
     refine wp_region_held_drew (S := fun w' => (w'.cell? ⟨gV, 0, none⟩ = some (.int .i64 v.sl) ∧ w'.cell? ⟨gV, 1, none⟩ = some (.int .u64 v.bl) ∧ w'.cell? ⟨gV, 2, none⟩ = some (.int .i64 v.qk) ∧ w'.cell? ⟨gV, 3, none⟩ = some (.int .i64 v.qc) ∧ w'.cell? ⟨gV, 4, none⟩ = some (.int .u64 v.qe) ∧ w'.cell? ⟨gV, 5, none⟩ = some (.int .i64 v.qn)) ∧ w'.cell? ⟨b, off + (k - 1) * 6, none⟩ = some (.int .i64 u.sl)) (by kernel_rfl) ⟨⟨c0, c1, c2, c3, c4, c5⟩, pu⟩ (fun hHeld => ?_)
     refine tkV 0 rfl ?_
     try simp only [Act.put, pS]
     refine tkV 1 rfl ?_
     try simp only [Act.put, pS]
     refine tkV 2 rfl ?_
     try simp only [Act.put, pS]
     refine tkV 3 rfl ?_
     try simp only [Act.put, pS]
     refine tkV 4 rfl ?_
     try simp only [Act.put, pS]
     refine tkV 5 rfl ?_
     try simp only [Act.put, pS]
     refine tkV 6 rfl ?_
     try simp only [Act.put, pS]
     refine tkV 7 rfl ?_
     try simp only [Act.put, pS]
     refine tkV 8 rfl ?_
     try simp only [Act.put, pS]
     refine tkV 9 rfl ?_
     try simp only [Act.put, pS]
     refine tkV 10 rfl ?_
     try simp only [Act.put, pS]
     refine tkV 11 rfl ?_
     try simp only [Act.put, pS]
     refine tkV 12 rfl ?_
     try simp only [Act.put, pS]
     refine tkV 13 rfl ?_
     try simp only [Act.put, pS]
     refine tkV 14 rfl ?_
     try simp only [Act.put, pS]
     refine tkV 15 rfl ?_
     try simp only [Act.put, pS]
     refine tkV 16 rfl ?_
     try simp only [Act.put, pS]
     refine tkV 17 rfl ?_
     try simp only [Act.put, pS]
     refine tkV 18 rfl ?_
     try simp only [Act.put, pS]
     refine tkV 19 rfl ?_
     try simp only [Act.put, pS]
     refine tkV 20 rfl ?_
     exact rp84
    | true =>
     have HI := Lib.hid hi
     rw [hi] at IS
     clear hi
     by_cases hc : cmdE v.qk v.qc v.qe v.qn = 0
     ·have HVO : Hid (voteOk l k v) := Lib.hid ⟨⟨by omega, by omega⟩, (fun x hx0 hx => by rw [HU.out] at hx; injection hx with hx; subst hx; omega), HI.out, hc⟩
      rw [hc] at CE
      clear hc
      refine wp_region_held_drew (S := fun w' => (w'.cell? ⟨gV, 0, none⟩ = some (.int .i64 v.sl) ∧ w'.cell? ⟨gV, 1, none⟩ = some (.int .u64 v.bl) ∧ w'.cell? ⟨gV, 2, none⟩ = some (.int .i64 v.qk) ∧ w'.cell? ⟨gV, 3, none⟩ = some (.int .i64 v.qc) ∧ w'.cell? ⟨gV, 4, none⟩ = some (.int .u64 v.qe) ∧ w'.cell? ⟨gV, 5, none⟩ = some (.int .i64 v.qn)) ∧ w'.cell? ⟨b, off + (k - 1) * 6, none⟩ = some (.int .i64 u.sl)) (by kernel_rfl) ⟨⟨c0, c1, c2, c3, c4, c5⟩, pu⟩ (fun hHeld => ?_)
      refine tkV 0 rfl ?_
      try simp only [Act.put, pS]
      refine tkV 1 rfl ?_
      try simp only [Act.put, pS]
      refine tkV 2 rfl ?_
      try simp only [Act.put, pS]
      refine tkV 3 rfl ?_
      try simp only [Act.put, pS]
      refine tkV 4 rfl ?_
      try simp only [Act.put, pS]
      refine tkV 5 rfl ?_
      try simp only [Act.put, pS]
      refine tkV 6 rfl ?_
      try simp only [Act.put, pS]
      refine tkV 7 rfl ?_
      try simp only [Act.put, pS]
      refine tkV 8 rfl ?_
      try simp only [Act.put, pS]
      refine tkV 9 rfl ?_
      try simp only [Act.put, pS]
      refine tkV 10 rfl ?_
      try simp only [Act.put, pS]
      refine tkV 11 rfl ?_
      try simp only [Act.put, pS]
      refine tkV 12 rfl ?_
      try simp only [Act.put, pS]
      refine tkV 13 rfl ?_
      try simp only [Act.put, pS]
      refine tkV 14 rfl ?_
      try simp only [Act.put, pS]
      refine tkV 15 rfl ?_
      try simp only [Act.put, pS]
      refine tkV 16 rfl ?_
      try simp only [Act.put, pS]
      refine tkV 17 rfl ?_
      try simp only [Act.put, pS]
      refine tkV 18 rfl ?_
      try simp only [Act.put, pS]
      refine tkV 19 rfl ?_
      try simp only [Act.put, pS]
      refine tkV 20 rfl ?_
      try simp only [Act.put, pS]
      refine tkV 21 rfl ?_
      try simp only [Act.put, pS]
      refine tkV 22 rfl ?_
      try simp only [Act.put, pS]
      refine tkV 23 rfl ?_
      try simp only [Act.put, pS]
      refine tkV 24 rfl ?_
      try simp only [Act.put, pS]
      refine tkV 25 rfl ?_
      try simp only [Act.put, pS]
      refine wpAnyH_ready (rs := [26]) (by kernel_rfl) (by simp) ?_
      refine AllReadyH.cons (o := _) rfl (fun K hK => ?_) AllReadyH.nil
      go_simp
      refine (IS.out _).mono ?_; rintro e w2 ⟨rfl, rfl⟩
      (try go_simp)
      refine hK.out _ _ ?_ (fun hHeld => ?_)
      ·go_keep
      clear hK K
      try simp only [Act.put, pS]
      refine tkV 27 rfl ?_
      try simp only [Act.put, pS]
      refine tkV 28 rfl ?_
      try simp only [Act.put, pS]
      refine tkV 29 rfl ?_
      try simp only [Act.put, pS]
      refine tkV 30 rfl ?_
      try simp only [Act.put, pS]
      refine tkV 31 rfl ?_
      try simp only [Act.put, pS]
      refine wpAnyH_ready (rs := [32]) (by kernel_rfl) (by simp) ?_
      refine AllReadyH.cons (o := _) rfl (fun K hK => ?_) AllReadyH.nil
      go_simp
      refine (CE.out _).mono ?_; rintro e w2 ⟨rfl, h⟩; have c0 := (h.cell (p := ⟨gV, 0, none⟩) hgV).trans c0; have c1 := (h.cell (p := ⟨gV, 1, none⟩) hgV).trans c1; have c2 := (h.cell (p := ⟨gV, 2, none⟩) hgV).trans c2; have c3 := (h.cell (p := ⟨gV, 3, none⟩) hgV).trans c3; have c4 := (h.cell (p := ⟨gV, 4, none⟩) hgV).trans c4; have c5 := (h.cell (p := ⟨gV, 5, none⟩) hgV).trans c5; have pu := (h.cell (p := ⟨b, off + (k - 1) * 6, none⟩) hbb).trans pu; have HBE := Lib.hid ((HB1.out.drew).trans (h.mono HB1.out.size)); clear h
      (try go_simp)
      refine hK.out _ _ ?_ (fun hHeld => ?_)
      ·go_keep
      clear hK K
      try simp only [Act.put, pS]
      refine tkV 33 rfl ?_
      try simp only [Act.put, pS]
      refine tkV 34 rfl ?_
      try simp only [Act.put, pS]
      refine wpAnyH_done (by kernel_rfl) ?_ _
      clear hHeld
      clear c0 c1 c2 c3 c4 c5 pu
      exact rp38
     ·have HN : Hid (votesB l = false) := Lib.hid (votesB_no HV.out (fun h => hc h.2.2.2))
      have hcb : (cmdE v.qk v.qc v.qe v.qn != 0) = true := by simpa using hc
      clear hc
      generalize cmdE v.qk v.qc v.qe v.qn = ce at *
      refine wp_region_held_drew (S := fun w' => (w'.cell? ⟨gV, 0, none⟩ = some (.int .i64 v.sl) ∧ w'.cell? ⟨gV, 1, none⟩ = some (.int .u64 v.bl) ∧ w'.cell? ⟨gV, 2, none⟩ = some (.int .i64 v.qk) ∧ w'.cell? ⟨gV, 3, none⟩ = some (.int .i64 v.qc) ∧ w'.cell? ⟨gV, 4, none⟩ = some (.int .u64 v.qe) ∧ w'.cell? ⟨gV, 5, none⟩ = some (.int .i64 v.qn)) ∧ w'.cell? ⟨b, off + (k - 1) * 6, none⟩ = some (.int .i64 u.sl)) (by kernel_rfl) ⟨⟨c0, c1, c2, c3, c4, c5⟩, pu⟩ (fun hHeld => ?_)
      refine tkV 0 rfl ?_
      try simp only [Act.put, pS]
      refine tkV 1 rfl ?_
      try simp only [Act.put, pS]
      refine tkV 2 rfl ?_
      try simp only [Act.put, pS]
      refine tkV 3 rfl ?_
      try simp only [Act.put, pS]
      refine tkV 4 rfl ?_
      try simp only [Act.put, pS]
      refine tkV 5 rfl ?_
      try simp only [Act.put, pS]
      refine tkV 6 rfl ?_
      try simp only [Act.put, pS]
      refine tkV 7 rfl ?_
      try simp only [Act.put, pS]
      refine tkV 8 rfl ?_
      try simp only [Act.put, pS]
      refine tkV 9 rfl ?_
      try simp only [Act.put, pS]
      refine tkV 10 rfl ?_
      try simp only [Act.put, pS]
      refine tkV 11 rfl ?_
      try simp only [Act.put, pS]
      refine tkV 12 rfl ?_
      try simp only [Act.put, pS]
      refine tkV 13 rfl ?_
      try simp only [Act.put, pS]
      refine tkV 14 rfl ?_
      try simp only [Act.put, pS]
      refine tkV 15 rfl ?_
      try simp only [Act.put, pS]
      refine tkV 16 rfl ?_
      try simp only [Act.put, pS]
      refine tkV 17 rfl ?_
      try simp only [Act.put, pS]
      refine tkV 18 rfl ?_
      try simp only [Act.put, pS]
      refine tkV 19 rfl ?_
      try simp only [Act.put, pS]
      refine tkV 20 rfl ?_
      try simp only [Act.put, pS]
      refine tkV 21 rfl ?_
      try simp only [Act.put, pS]
      refine tkV 22 rfl ?_
      try simp only [Act.put, pS]
      refine tkV 23 rfl ?_
      try simp only [Act.put, pS]
      refine tkV 24 rfl ?_
      try simp only [Act.put, pS]
      refine tkV 25 rfl ?_
      try simp only [Act.put, pS]
      refine wpAnyH_ready (rs := [26]) (by kernel_rfl) (by simp) ?_
      refine AllReadyH.cons (o := _) rfl (fun K hK => ?_) AllReadyH.nil
      go_simp
      refine (IS.out _).mono ?_; rintro e w2 ⟨rfl, rfl⟩
      (try go_simp)
      refine hK.out _ _ ?_ (fun hHeld => ?_)
      ·go_keep
      clear hK K
      try simp only [Act.put, pS]
      refine tkV 27 rfl ?_
      try simp only [Act.put, pS]
      refine tkV 28 rfl ?_
      try simp only [Act.put, pS]
      refine tkV 29 rfl ?_
      try simp only [Act.put, pS]
      refine tkV 30 rfl ?_
      try simp only [Act.put, pS]
      refine tkV 31 rfl ?_
      try simp only [Act.put, pS]
      refine wpAnyH_ready (rs := [32]) (by kernel_rfl) (by simp) ?_
      refine AllReadyH.cons (o := _) rfl (fun K hK => ?_) AllReadyH.nil
      go_simp
      refine (CE.out _).mono ?_; rintro e w2 ⟨rfl, h⟩; have c0 := (h.cell (p := ⟨gV, 0, none⟩) hgV).trans c0; have c1 := (h.cell (p := ⟨gV, 1, none⟩) hgV).trans c1; have c2 := (h.cell (p := ⟨gV, 2, none⟩) hgV).trans c2; have c3 := (h.cell (p := ⟨gV, 3, none⟩) hgV).trans c3; have c4 := (h.cell (p := ⟨gV, 4, none⟩) hgV).trans c4; have c5 := (h.cell (p := ⟨gV, 5, none⟩) hgV).trans c5; have pu := (h.cell (p := ⟨b, off + (k - 1) * 6, none⟩) hbb).trans pu; have HBE := Lib.hid ((HB1.out.drew).trans (h.mono HB1.out.size)); clear h
      exact rp71
   ·have a2' : ¬ (0 : Int) < (k : Int) := by omega
    cases hi : isBal v.bl with
    | false =>
     have HN : Hid (votesB l = false) := Lib.hid (votesB_no HV.out (fun h => by have := h.2.2.1; rw [hi] at this; cases this))
     rw [hi] at IS
     clear hi
     refine wp_region_held_drew (S := fun w' => (w'.cell? ⟨gV, 0, none⟩ = some (.int .i64 v.sl) ∧ w'.cell? ⟨gV, 1, none⟩ = some (.int .u64 v.bl) ∧ w'.cell? ⟨gV, 2, none⟩ = some (.int .i64 v.qk) ∧ w'.cell? ⟨gV, 3, none⟩ = some (.int .i64 v.qc) ∧ w'.cell? ⟨gV, 4, none⟩ = some (.int .u64 v.qe) ∧ w'.cell? ⟨gV, 5, none⟩ = some (.int .i64 v.qn)) ∧ True) (by kernel_rfl) ⟨⟨c0, c1, c2, c3, c4, c5⟩, trivial⟩ (fun hHeld => ?_)
     refine tkV 0 rfl ?_
     try simp only [Act.put, pS]
     refine tkV 1 rfl ?_
     try simp only [Act.put, pS]
     refine tkV 2 rfl ?_
     try simp only [Act.put, pS]
     refine tkV 3 rfl ?_
     try simp only [Act.put, pS]
     refine tkV 4 rfl ?_
     try simp only [Act.put, pS]
     refine tkV 5 rfl ?_
     try simp only [Act.put, pS]
     refine tkV 6 rfl ?_
     try simp only [Act.put, pS]
     refine tkV 7 rfl ?_
     try simp only [Act.put, pS]
     refine tkV 8 rfl ?_
     try simp only [Act.put, pS]
     refine tkV 9 rfl ?_
     try simp only [Act.put, pS]
     refine tkV 10 rfl ?_
     try simp only [Act.put, pS]
     refine tkV 11 rfl ?_
     try simp only [Act.put, pS]
     refine tkU 12 rfl ?_
     try simp only [Act.put, pS]
     refine tkU 13 rfl ?_
     try simp only [Act.put, pS]
     refine tkU 14 rfl ?_
     try simp only [Act.put, pS]
     refine tkU 15 rfl ?_
     try simp only [Act.put, pS]
     refine tkU 16 rfl ?_
     try simp only [Act.put, pS]
     refine tkU 17 rfl ?_
     try simp only [Act.put, pS]
     refine tkU 18 rfl ?_
     try simp only [Act.put, pS]
     refine tkU 19 rfl ?_
     try simp only [Act.put, pS]
     refine tkU 20 rfl ?_
     exact rp84
    | true =>
     have HI := Lib.hid hi
     rw [hi] at IS
     clear hi
     by_cases hc : cmdE v.qk v.qc v.qe v.qn = 0
     ·have HVO : Hid (voteOk l k v) := Lib.hid ⟨⟨by omega, by omega⟩, (fun x hx0 hx => absurd hx0 a2), HI.out, hc⟩
      rw [hc] at CE
      clear hc
      refine wp_region_held_drew (S := fun w' => (w'.cell? ⟨gV, 0, none⟩ = some (.int .i64 v.sl) ∧ w'.cell? ⟨gV, 1, none⟩ = some (.int .u64 v.bl) ∧ w'.cell? ⟨gV, 2, none⟩ = some (.int .i64 v.qk) ∧ w'.cell? ⟨gV, 3, none⟩ = some (.int .i64 v.qc) ∧ w'.cell? ⟨gV, 4, none⟩ = some (.int .u64 v.qe) ∧ w'.cell? ⟨gV, 5, none⟩ = some (.int .i64 v.qn)) ∧ True) (by kernel_rfl) ⟨⟨c0, c1, c2, c3, c4, c5⟩, trivial⟩ (fun hHeld => ?_)
      refine tkV 0 rfl ?_
      try simp only [Act.put, pS]
      refine tkV 1 rfl ?_
      try simp only [Act.put, pS]
      refine tkV 2 rfl ?_
      try simp only [Act.put, pS]
      refine tkV 3 rfl ?_
      try simp only [Act.put, pS]
      refine tkV 4 rfl ?_
      try simp only [Act.put, pS]
      refine tkV 5 rfl ?_
      try simp only [Act.put, pS]
      refine tkV 6 rfl ?_
      try simp only [Act.put, pS]
      refine tkV 7 rfl ?_
      try simp only [Act.put, pS]
      refine tkV 8 rfl ?_
      try simp only [Act.put, pS]
      refine tkV 9 rfl ?_
      try simp only [Act.put, pS]
      refine tkV 10 rfl ?_
      try simp only [Act.put, pS]
      refine tkV 11 rfl ?_
      try simp only [Act.put, pS]
      refine tkU 12 rfl ?_
      try simp only [Act.put, pS]
      refine tkU 13 rfl ?_
      try simp only [Act.put, pS]
      refine tkU 14 rfl ?_
      try simp only [Act.put, pS]
      refine tkU 15 rfl ?_
      try simp only [Act.put, pS]
      refine tkU 16 rfl ?_
      try simp only [Act.put, pS]
      refine tkU 17 rfl ?_
      try simp only [Act.put, pS]
      refine tkU 18 rfl ?_
      try simp only [Act.put, pS]
      refine tkU 19 rfl ?_
      try simp only [Act.put, pS]
      refine tkU 20 rfl ?_
      try simp only [Act.put, pS]
      refine tkV 21 rfl ?_
      try simp only [Act.put, pS]
      refine tkV 22 rfl ?_
      try simp only [Act.put, pS]
      refine tkV 23 rfl ?_
      try simp only [Act.put, pS]
      refine tkV 24 rfl ?_
      try simp only [Act.put, pS]
      refine tkV 25 rfl ?_
      try simp only [Act.put, pS]
      refine wpAnyH_ready (rs := [26]) (by kernel_rfl) (by simp) ?_
      refine AllReadyH.cons (o := _) rfl (fun K hK => ?_) AllReadyH.nil
      go_simp
      refine (IS.out _).mono ?_; rintro e w2 ⟨rfl, rfl⟩
      (try go_simp)
      refine hK.out _ _ ?_ (fun hHeld => ?_)
      ·go_keep
      clear hK K
      try simp only [Act.put, pS]
      refine tkV 27 rfl ?_
      try simp only [Act.put, pS]
      refine tkV 28 rfl ?_
      try simp only [Act.put, pS]
      refine tkV 29 rfl ?_
      try simp only [Act.put, pS]
      refine tkV 30 rfl ?_
      try simp only [Act.put, pS]
      refine tkV 31 rfl ?_
      try simp only [Act.put, pS]
      refine wpAnyH_ready (rs := [32]) (by kernel_rfl) (by simp) ?_
      refine AllReadyH.cons (o := _) rfl (fun K hK => ?_) AllReadyH.nil
      go_simp
      refine (CE.out _).mono ?_; rintro e w2 ⟨rfl, h⟩; have c0 := (h.cell (p := ⟨gV, 0, none⟩) hgV).trans c0; have c1 := (h.cell (p := ⟨gV, 1, none⟩) hgV).trans c1; have c2 := (h.cell (p := ⟨gV, 2, none⟩) hgV).trans c2; have c3 := (h.cell (p := ⟨gV, 3, none⟩) hgV).trans c3; have c4 := (h.cell (p := ⟨gV, 4, none⟩) hgV).trans c4; have c5 := (h.cell (p := ⟨gV, 5, none⟩) hgV).trans c5; have HBE := Lib.hid ((HB1.out.drew).trans (h.mono HB1.out.size)); clear h
      (try go_simp)
      refine hK.out _ _ ?_ (fun hHeld => ?_)
      ·go_keep
      clear hK K
      try simp only [Act.put, pS]
      refine tkV 33 rfl ?_
      try simp only [Act.put, pS]
      refine tkV 34 rfl ?_
      try simp only [Act.put, pS]
      refine wpAnyH_done (by kernel_rfl) ?_ _
      clear hHeld
      clear c0 c1 c2 c3 c4 c5
      exact rp38
     ·have HN : Hid (votesB l = false) := Lib.hid (votesB_no HV.out (fun h => hc h.2.2.2))
      have hcb : (cmdE v.qk v.qc v.qe v.qn != 0) = true := by simpa using hc
      clear hc
      generalize cmdE v.qk v.qc v.qe v.qn = ce at *
      refine wp_region_held_drew (S := fun w' => (w'.cell? ⟨gV, 0, none⟩ = some (.int .i64 v.sl) ∧ w'.cell? ⟨gV, 1, none⟩ = some (.int .u64 v.bl) ∧ w'.cell? ⟨gV, 2, none⟩ = some (.int .i64 v.qk) ∧ w'.cell? ⟨gV, 3, none⟩ = some (.int .i64 v.qc) ∧ w'.cell? ⟨gV, 4, none⟩ = some (.int .u64 v.qe) ∧ w'.cell? ⟨gV, 5, none⟩ = some (.int .i64 v.qn)) ∧ True) (by kernel_rfl) ⟨⟨c0, c1, c2, c3, c4, c5⟩, trivial⟩ (fun hHeld => ?_)
      refine tkV 0 rfl ?_
      try simp only [Act.put, pS]
      refine tkV 1 rfl ?_
      try simp only [Act.put, pS]
      refine tkV 2 rfl ?_
      try simp only [Act.put, pS]
      refine tkV 3 rfl ?_
      try simp only [Act.put, pS]
      refine tkV 4 rfl ?_
      try simp only [Act.put, pS]
      refine tkV 5 rfl ?_
      try simp only [Act.put, pS]
      refine tkV 6 rfl ?_
      try simp only [Act.put, pS]
      refine tkV 7 rfl ?_
      try simp only [Act.put, pS]
      refine tkV 8 rfl ?_
      try simp only [Act.put, pS]
      refine tkV 9 rfl ?_
      try simp only [Act.put, pS]
      refine tkV 10 rfl ?_
      try simp only [Act.put, pS]
      refine tkV 11 rfl ?_
      try simp only [Act.put, pS]
      refine tkU 12 rfl ?_
      try simp only [Act.put, pS]
      refine tkU 13 rfl ?_
      try simp only [Act.put, pS]
      refine tkU 14 rfl ?_
      try simp only [Act.put, pS]
      refine tkU 15 rfl ?_
      try simp only [Act.put, pS]
      refine tkU 16 rfl ?_
      try simp only [Act.put, pS]
      refine tkU 17 rfl ?_
      try simp only [Act.put, pS]
      refine tkU 18 rfl ?_
      try simp only [Act.put, pS]
      refine tkU 19 rfl ?_
      try simp only [Act.put, pS]
      refine tkU 20 rfl ?_
      try simp only [Act.put, pS]
      refine tkV 21 rfl ?_
      try simp only [Act.put, pS]
      refine tkV 22 rfl ?_
      try simp only [Act.put, pS]
      refine tkV 23 rfl ?_
      try simp only [Act.put, pS]
      refine tkV 24 rfl ?_
      try simp only [Act.put, pS]
      refine tkV 25 rfl ?_
      try simp only [Act.put, pS]
      refine wpAnyH_ready (rs := [26]) (by kernel_rfl) (by simp) ?_
      refine AllReadyH.cons (o := _) rfl (fun K hK => ?_) AllReadyH.nil
      go_simp
      refine (IS.out _).mono ?_; rintro e w2 ⟨rfl, rfl⟩
      (try go_simp)
      refine hK.out _ _ ?_ (fun hHeld => ?_)
      ·go_keep
      clear hK K
      try simp only [Act.put, pS]
      refine tkV 27 rfl ?_
      try simp only [Act.put, pS]
      refine tkV 28 rfl ?_
      try simp only [Act.put, pS]
      refine tkV 29 rfl ?_
      try simp only [Act.put, pS]
      refine tkV 30 rfl ?_
      try simp only [Act.put, pS]
      refine tkV 31 rfl ?_
      try simp only [Act.put, pS]
      refine wpAnyH_ready (rs := [32]) (by kernel_rfl) (by simp) ?_
      refine AllReadyH.cons (o := _) rfl (fun K hK => ?_) AllReadyH.nil
      go_simp
      refine (CE.out _).mono ?_; rintro e w2 ⟨rfl, h⟩; have c0 := (h.cell (p := ⟨gV, 0, none⟩) hgV).trans c0; have c1 := (h.cell (p := ⟨gV, 1, none⟩) hgV).trans c1; have c2 := (h.cell (p := ⟨gV, 2, none⟩) hgV).trans c2; have c3 := (h.cell (p := ⟨gV, 3, none⟩) hgV).trans c3; have c4 := (h.cell (p := ⟨gV, 4, none⟩) hgV).trans c4; have c5 := (h.cell (p := ⟨gV, 5, none⟩) hgV).trans c5; have HBE := Lib.hid ((HB1.out.drew).trans (h.mono HB1.out.size)); clear h
      exact rp71
end Go.Proofs.YtmpedblelnpjdaaGreatDoor
/- What is demanded of each part of a letter (printed by cdgen8.py). -/
namespace Go.Proofs.YtmpedblelnpjdaaGreatDoor
open Go.RowKit
set_option linter.unusedSimpArgs false
set_option linter.unusedVariables false
set_option maxHeartbeats 8000000
set_option maxRecDepth 100000
def LV.conf (x : LV) : Cf := ⟨x.l.fc, x.l.fe.toNat, x.l.fA, x.l.fn, x.l.fp, x.l.ff, x.l.fj, x.ns⟩
theorem LIn.conf {w : World} {B : Nat} {x : LV} (h : LIn w B x) : CfIn w B x.conf := ⟨h.nd, h.cf.1, h.cf.2⟩
noncomputable def fineB (x : LV) (i : Nat) : Bool := match i with
 | 0 => decide (0 ≤ x.l.ch ∧ x.l.ch < 4)
 | 1 => decide (1 ≤ x.l.ep)
 | 2 => isBal x.l.bl
 | 5 => decide (0 ≤ x.l.sl ∧ x.l.sl ≤ 512)
 | 7 => decide (0 ≤ x.l.cd ∧ x.l.cd ≤ 255)
 | 10 => decide (cmdE x.l.qk x.l.qc x.l.qe x.l.qn = 0)
 | 11 => x.conf.right
 | 12 => votesB x.vs
 | 13 => updsB x.l.kd x.us
 | 14 => decide ((x.l.dn : Int) ≤ if x.l.kd = 14 then 1024 else 2048)
 | _ => true
theorem box_all (x : LV) (w : World) : ∃ W0, W0 = w.alloc (.cells x.l.cells 37) ∧ Below w.heap.size w W0 ∧ Blk W0 w.heap.size 37 x.l.cells :=
 ⟨_, rfl, (Below.refl _ _).alloc (Nat.le_refl _) _, Blk.new _ _ _⟩
theorem fine0_any (x : LV) (w : World) : Calls Tryz.prog 184 #[.agg x.l.cells] w fun e w' => e = .returned (.bool (decide (0 ≤ x.l.ch ∧ x.l.ch < 4))) ∧ Below w.heap.size w w' := by
 obtain ⟨W0, hW0, hb0, hbk⟩ := box_all x w; have hl := hbk.lt; have HB := Lib.hid hb0; have HW := Lib.hid hW0; have BK := Lib.hid hbk; clear hb0 hW0 hbk
 have x0 := (BK.out.cell 3).trans (show _ = some (.int .i64 x.l.ch) from rfl)
 by_cases a0 : 0 ≤ x.l.ch
 rotate_left
 ·go_enter Tryz.func184, Tryz.ntmps184
  exact rp28
 by_cases a1 : x.l.ch < 4
 rotate_left
 ·go_enter Tryz.func184, Tryz.ntmps184
  exact rp14
 go_enter Tryz.func184, Tryz.ntmps184
 exact rp14
theorem fine1_any (x : LV) (w : World) : Calls Tryz.prog 189 #[.agg x.l.cells] w fun e w' => e = .returned (.bool (decide (1 ≤ x.l.ep))) ∧ Below w.heap.size w w' := by
 obtain ⟨W0, hW0, hb0, hbk⟩ := box_all x w; have hl := hbk.lt; have HB := Lib.hid hb0; have HW := Lib.hid hW0; have BK := Lib.hid hbk; clear hb0 hW0 hbk
 have x0 := (BK.out.cell 4).trans (show _ = some (.int .u64 x.l.ep) from rfl)
 by_cases a0 : 1 ≤ x.l.ep
 rotate_left
 ·go_enter Tryz.func189, Tryz.ntmps189
  exact rp28
 go_enter Tryz.func189, Tryz.ntmps189
 exact rp28
theorem fine5_any (x : LV) (w : World) : Calls Tryz.prog 186 #[.agg x.l.cells] w fun e w' => e = .returned (.bool (decide (0 ≤ x.l.sl ∧ x.l.sl ≤ 512))) ∧ Below w.heap.size w w' := by
 obtain ⟨W0, hW0, hb0, hbk⟩ := box_all x w; have hl := hbk.lt; have HB := Lib.hid hb0; have HW := Lib.hid hW0; have BK := Lib.hid hbk; clear hb0 hW0 hbk
 have x0 := (BK.out.cell 10).trans (show _ = some (.int .i64 x.l.sl) from rfl)
 by_cases a0 : 0 ≤ x.l.sl
 rotate_left
 ·go_enter Tryz.func186, Tryz.ntmps186
  exact rp28
 by_cases a1 : x.l.sl ≤ 512
 rotate_left
 ·go_enter Tryz.func186, Tryz.ntmps186
  exact rp14
 go_enter Tryz.func186, Tryz.ntmps186
 exact rp14
theorem fine7_any (x : LV) (w : World) : Calls Tryz.prog 258 #[.agg x.l.cells] w fun e w' => e = .returned (.bool (decide (0 ≤ x.l.cd ∧ x.l.cd ≤ 255))) ∧ Below w.heap.size w w' := by
 obtain ⟨W0, hW0, hb0, hbk⟩ := box_all x w; have hl := hbk.lt; have HB := Lib.hid hb0; have HW := Lib.hid hW0; have BK := Lib.hid hbk; clear hb0 hW0 hbk
 have x0 := (BK.out.cell 12).trans (show _ = some (.int .i64 x.l.cd) from rfl)
 by_cases a0 : 0 ≤ x.l.cd
 rotate_left
 ·go_enter Tryz.func258, Tryz.ntmps258
  exact rp28
 by_cases a1 : x.l.cd ≤ 255
 rotate_left
 ·go_enter Tryz.func258, Tryz.ntmps258
  exact rp14
 go_enter Tryz.func258, Tryz.ntmps258
 exact rp14
theorem fineT_any (x : LV) (w : World) : Calls Tryz.prog 194 #[.agg x.l.cells] w fun e w' => e = .returned (.bool true) ∧ Below w.heap.size w w' := by
 obtain ⟨W0, hW0, hb0, hbk⟩ := box_all x w; have hl := hbk.lt; have HB := Lib.hid hb0; have HW := Lib.hid hW0; have BK := Lib.hid hbk; clear hb0 hW0 hbk
 go_enter Tryz.func194, Tryz.ntmps194
 go_upto_region 1 with (fail)
 have e0 := HW.out
 simp only [Lt.cells] at e0
 first | rw [← e0] | rw [← HW.out]
 clear e0
 go_wp2_with (fail)
 go_ret
 exact ⟨rfl, HB.out⟩
theorem fine2_any (x : LV) (hw : 0 ≤ x.l.bl ∧ x.l.bl < 18446744073709551616) (w : World) : Calls Tryz.prog 191 #[.agg x.l.cells] w fun e w' => e = .returned (.bool (isBal x.l.bl)) ∧ Below w.heap.size w w' := by
 obtain ⟨W0, hW0, hb0, hbk⟩ := box_all x w; have hl := hbk.lt; have HB := Lib.hid hb0; have HW := Lib.hid hW0; have BK := Lib.hid hbk; clear hb0 hW0 hbk
 have x0 := (BK.out.cell 5).trans (show _ = some (.int .u64 x.l.bl) from rfl)
 have C := Lib.hid (is_any x.l.bl W0 hw.1 hw.2)
 generalize isBal x.l.bl = b at *
 go_enter Tryz.func191, Tryz.ntmps191
 exact rp76
theorem fine10_any (x : LV) (hw : 0 ≤ x.l.qe) (w : World) : Calls Tryz.prog 263 #[.agg x.l.cells] w fun e w' => e = .returned (.bool (decide (cmdE x.l.qk x.l.qc x.l.qe x.l.qn = 0))) ∧ Below w.heap.size w w' := by
 obtain ⟨W0, hW0, hb0, hbk⟩ := box_all x w; have hl := hbk.lt; have HB := Lib.hid hb0; have HW := Lib.hid hW0; have BK := Lib.hid hbk; clear hb0 hW0 hbk
 have x0 := (BK.out.cell 13).trans (show _ = some (.int .i64 x.l.qk) from rfl)
 have x1 := (BK.out.cell 14).trans (show _ = some (.int .i64 x.l.qc) from rfl)
 have x2 := (BK.out.cell 15).trans (show _ = some (.int .u64 x.l.qe) from rfl)
 have x3 := (BK.out.cell 16).trans (show _ = some (.int .i64 x.l.qn) from rfl)
 have C := Lib.hid (cmdCheck_any x.l.qk x.l.qc x.l.qe x.l.qn hw W0)
 generalize cmdE x.l.qk x.l.qc x.l.qe x.l.qn = er at *
 go_enter Tryz.func263, Tryz.ntmps263
 exact rp48
theorem fine11_any (x : LV) (B : Nat) (w : World) (h : LIn w B x) (hB : B ≤ w.heap.size) (hn : x.near) : Calls Tryz.prog 268 #[.agg x.l.cells] w fun e w' => e = .returned (.bool x.conf.right) ∧ Below w.heap.size w w' := by
 obtain ⟨W0, hW0, hb0, hbk⟩ := box_all x w; have hl := hbk.lt; have HB := Lib.hid hb0; have HW := Lib.hid hW0; have BK := Lib.hid hbk; clear hb0 hW0 hbk
 have x0 := (BK.out.cell 17).trans (show _ = some (.int .i64 x.l.fc) from rfl)
 have x1 := (BK.out.cell 18).trans (show _ = some (.int .u64 x.l.fe) from rfl)
 have x2 := (BK.out.cell 19).trans (show _ = some (.slice x.l.fA x.l.fn x.l.fp) from rfl)
 have x3 := (BK.out.cell 20).trans (show _ = some (.bool x.l.ff) from rfl)
 have x4 := (BK.out.cell 21).trans (show _ = some (.int .i64 x.l.fj) from rfl)
 have C0 := right_any x.conf B W0 (h.conf.below (HB.out.mono hB)) (Nat.le_trans hB HB.out.size)
 have ef : ((x.l.fe.toNat : Nat) : Int) = x.l.fe := Int.toNat_of_nonneg h.wf.fe.1
 unfold Cf.agg at C0
 simp only [LV.conf] at C0
 rw [ef] at C0
 have C := Lib.hid C0
 have HR : Hid (x.conf.right = Cf.right ⟨x.l.fc, x.l.fe.toNat, x.l.fA, x.l.fn, x.l.fp, x.l.ff, x.l.fj, x.ns⟩) := Lib.hid rfl
 clear C0 ef h hn
 rw [HR.out]
 generalize Cf.right ⟨x.l.fc, x.l.fe.toNat, x.l.fA, x.l.fn, x.l.fp, x.l.ff, x.l.fj, x.ns⟩ = b at *
 go_enter Tryz.func268, Tryz.ntmps268
 exact rp88
theorem fine12_any (x : LV) (B : Nat) (w : World) (h : LIn w B x) (hB : B ≤ w.heap.size) (hn : x.near) : Calls Tryz.prog 272 #[.agg x.l.cells] w fun e w' => e = .returned (.bool (votesB x.vs)) ∧ Below w.heap.size w w' := by
 obtain ⟨W0, hW0, hb0, hbk⟩ := box_all x w; have hl := hbk.lt; have HB := Lib.hid hb0; have HW := Lib.hid hW0; have BK := Lib.hid hbk; clear hb0 hW0 hbk
 have x0 := (BK.out.cell 22).trans (show _ = some (.slice x.l.vA x.l.vn x.l.vp) from rfl)
 have C := Lib.hid (votes_any x.l.vA x.l.vn x.l.vp B x.vs W0 (h.vt.below (HB.out.mono hB)) h.vw (Nat.le_trans hB HB.out.size) hn.vl)
 clear h hn
 generalize votesB x.vs = b at *
 go_enter Tryz.func272, Tryz.ntmps272
 exact rp88
def roomV (k : Int) : Int := if k = 14 then 1024 else 2048
theorem room_any (l : Lt) (w : World) : Calls Tryz.prog 280 #[.agg l.cells] w fun e w' => e = .returned (.int .i64 (roomV l.kd)) ∧ Below w.heap.size w w' := by
 obtain ⟨W0, hW0, hb0, hbk⟩ := box_all ⟨l, [], [], [], []⟩ w
 have hl := hbk.lt
 have x0 := (hbk.cell 0).trans (show _ = some (.int .i64 l.kd) from rfl)
 have HB := Lib.hid hb0
 have HW := Lib.hid hW0
 clear hb0 hW0 hbk
 by_cases hk : l.kd = 14
 ·have hkb : (l.kd == 14) = true := by simpa using hk
  have HR : Hid (roomV l.kd = 1024) := Lib.hid (by unfold roomV; rw [if_pos hk])
  clear hk
  go_enter Tryz.func280, Tryz.ntmps280
  go_upto_region 1 with (fail)
  have e0 := HW.out
  simp only [Lt.cells] at e0
  first | rw [← e0] | rw [← HW.out]
  clear e0
  go_wp2_with (fail)
  go_ret
  exact ⟨by rw [HR.out]; rfl, HB.out⟩
 ·have hkb : (l.kd == 14) = false := by simpa using hk
  have HR : Hid (roomV l.kd = 2048) := Lib.hid (by unfold roomV; rw [if_neg hk])
  clear hk
  go_enter Tryz.func280, Tryz.ntmps280
  go_upto_region 1 with (fail)
  have e0 := HW.out
  simp only [Lt.cells] at e0
  first | rw [← e0] | rw [← HW.out]
  clear e0
  go_wp2_with (fail)
  go_ret
  exact ⟨by rw [HR.out]; rfl, HB.out⟩
end Go.Proofs.YtmpedblelnpjdaaGreatDoor
/- letter.Check of any letter. -/
namespace Go.Proofs.YtmpedblelnpjdaaGreatDoor
open Go.RowKit
set_option linter.unusedSimpArgs false
set_option linter.unusedVariables false
set_option maxHeartbeats 8000000
set_option maxRecDepth 100000
theorem checkK_any (l : Lt) (hk : l.kd < 1 ∨ 20 < l.kd) (w : World) :
  Calls Tryz.prog 49 #[l.agg] w fun e w' => e = .returned (.int .i64 1) ∧ Below w.heap.size w w' := by
 obtain ⟨W0, hW0⟩ : ∃ W0, W0 = w.alloc (.cells #[.int .i64 l.kd, .int .i64 l.fr, .int .i64 l.tw, .int .i64 l.ch, .int .u64 l.ep, .int .u64 l.bl, .int .u64 l.nu, .int .u64 l.sq, .int .u64 l.dz, .int .u64 l.vr, .int .i64 l.sl, .int .u32 l.ky, .int .i64 l.cd, .int .i64 l.qk, .int .i64 l.qc, .int .u64 l.qe, .int .i64 l.qn, .int .i64 l.fc, .int .u64 l.fe, .slice l.fA l.fn l.fp, .bool l.ff, .int .i64 l.fj, .slice l.vA l.vn l.vp, .slice l.uA l.un l.up, .slice l.dA l.dn l.dp] 37) := ⟨_, rfl⟩; have hb0 : Below w.heap.size w W0 := by rw [hW0]; exact (Below.refl _ _).alloc (Nat.le_refl _) _
 have hbk : Blk W0 w.heap.size 37 l.cells := by rw [hW0]; exact Blk.new _ _ _
 have x0 := (hbk.cell 0).trans (show _ = some (.int .i64 l.kd) from rfl); have x1 := (hbk.cell 1).trans (show _ = some (.int .i64 l.fr) from rfl); have x2 := (hbk.cell 2).trans (show _ = some (.int .i64 l.tw) from rfl); have l1 := hbk.lt; have HB := Lib.hid hb0; have HW := Lib.hid hW0; clear hb0 hW0 hbk
 have KN := Lib.hid (known_no l.kd W0 hk)
 clear hk
 show Calls Tryz.prog 49 #[.agg #[.int .i64 l.kd, .int .i64 l.fr, .int .i64 l.tw, .int .i64 l.ch, .int .u64 l.ep, .int .u64 l.bl, .int .u64 l.nu, .int .u64 l.sq, .int .u64 l.dz, .int .u64 l.vr, .int .i64 l.sl, .int .u32 l.ky, .int .i64 l.cd, .int .i64 l.qk, .int .i64 l.qc, .int .u64 l.qe, .int .i64 l.qn, .int .i64 l.fc, .int .u64 l.fe, .slice l.fA l.fn l.fp, .bool l.ff, .int .i64 l.fj, .slice l.vA l.vn l.vp, .slice l.uA l.un l.up, .slice l.dA l.dn l.dp]] w _
 go_enter Tryz.func49, Tryz.ntmps49
 go_upto_region 1 with (fail)
 rw [← HW.out]
 go_wp2_with (fail)
 refine KN.out.mono ?_
 rintro e w1 ⟨rfl, rfl⟩
 go_wp2_with (fail)
 go_ret
 exact ⟨rfl, HB.out⟩
theorem checkF_any (l : Lt) (hk : 1 ≤ l.kd ∧ l.kd ≤ 20) (ha : addrB l.fr = false) (w : World) :
  Calls Tryz.prog 49 #[l.agg] w fun e w' => e = .returned (.int .i64 4) ∧ Below w.heap.size w w' := by
 obtain ⟨W0, hW0⟩ : ∃ W0, W0 = w.alloc (.cells #[.int .i64 l.kd, .int .i64 l.fr, .int .i64 l.tw, .int .i64 l.ch, .int .u64 l.ep, .int .u64 l.bl, .int .u64 l.nu, .int .u64 l.sq, .int .u64 l.dz, .int .u64 l.vr, .int .i64 l.sl, .int .u32 l.ky, .int .i64 l.cd, .int .i64 l.qk, .int .i64 l.qc, .int .u64 l.qe, .int .i64 l.qn, .int .i64 l.fc, .int .u64 l.fe, .slice l.fA l.fn l.fp, .bool l.ff, .int .i64 l.fj, .slice l.vA l.vn l.vp, .slice l.uA l.un l.up, .slice l.dA l.dn l.dp] 37) := ⟨_, rfl⟩; have hb0 : Below w.heap.size w W0 := by rw [hW0]; exact (Below.refl _ _).alloc (Nat.le_refl _) _
 have hbk : Blk W0 w.heap.size 37 l.cells := by rw [hW0]; exact Blk.new _ _ _
 have x0 := (hbk.cell 0).trans (show _ = some (.int .i64 l.kd) from rfl); have x1 := (hbk.cell 1).trans (show _ = some (.int .i64 l.fr) from rfl); have x2 := (hbk.cell 2).trans (show _ = some (.int .i64 l.tw) from rfl); have l1 := hbk.lt; have HB := Lib.hid hb0; have HW := Lib.hid hW0; clear hb0 hW0 hbk
 have KN := Lib.hid (known_yes l.kd W0 hk.1 hk.2)
 have A1 := Lib.hid (fun W => (ha ▸ address_any l.fr W : Calls Tryz.prog 117 #[.int .i64 l.fr] W fun e w' => e = .returned (.bool false) ∧ W = w'))
 clear hk ha
 show Calls Tryz.prog 49 #[.agg #[.int .i64 l.kd, .int .i64 l.fr, .int .i64 l.tw, .int .i64 l.ch, .int .u64 l.ep, .int .u64 l.bl, .int .u64 l.nu, .int .u64 l.sq, .int .u64 l.dz, .int .u64 l.vr, .int .i64 l.sl, .int .u32 l.ky, .int .i64 l.cd, .int .i64 l.qk, .int .i64 l.qc, .int .u64 l.qe, .int .i64 l.qn, .int .i64 l.fc, .int .u64 l.fe, .slice l.fA l.fn l.fp, .bool l.ff, .int .i64 l.fj, .slice l.vA l.vn l.vp, .slice l.uA l.un l.up, .slice l.dA l.dn l.dp]] w _
 go_enter Tryz.func49, Tryz.ntmps49
 go_upto_region 1 with (fail)
 rw [← HW.out]
 go_wp2_with (fail)
 refine KN.out.mono ?_
 rintro e w1 ⟨rfl, rfl⟩
 go_wp2_with (fail)
 refine wp_region_held_drew (S := fun w' => w'.cell? ⟨w.heap.size, 1, none⟩ = some (.int .i64 l.fr) ∧ w'.cell? ⟨w.heap.size, 2, none⟩ = some (.int .i64 l.tw)) (by kernel_rfl) ⟨x1, x2⟩ (fun hHeld => ?_)
 refine tkV 0 rfl ?_
 try simp only [Act.put, pS]
 refine tkV 1 rfl ?_
 try simp only [Act.put, pS]
 refine wpAnyH_ready (rs := [2]) (by kernel_rfl) (by simp) ?_
 refine AllReadyH.cons (o := _) rfl (fun K hK => ?_) AllReadyH.nil
 go_simp
 refine (A1.out _).mono ?_; rintro e w9 ⟨rfl, rfl⟩
 (try go_simp)
 refine hK.out _ _ ?_ (fun hHeld => ?_)
 ·go_keep
 clear hK K
 try simp only [Act.put, pS]
 refine tkV 3 rfl ?_
 try simp only [Act.put, pS]
 refine tkV 4 rfl ?_
 try simp only [Act.put, pS]
 refine tkU 5 rfl ?_
 try simp only [Act.put, pS]
 refine tkU 6 rfl ?_
 try simp only [Act.put, pS]
 refine tkU 7 rfl ?_
 try simp only [Act.put, pS]
 refine tkU 8 rfl ?_
 exact rp47
theorem checkG_any (l : Lt) (hk : 1 ≤ l.kd ∧ l.kd ≤ 20) (ha : addrB l.fr = true) (hb : addrB l.tw = false) (w : World) :
  Calls Tryz.prog 49 #[l.agg] w fun e w' => e = .returned (.int .i64 4) ∧ Below w.heap.size w w' := by
 obtain ⟨W0, hW0⟩ : ∃ W0, W0 = w.alloc (.cells #[.int .i64 l.kd, .int .i64 l.fr, .int .i64 l.tw, .int .i64 l.ch, .int .u64 l.ep, .int .u64 l.bl, .int .u64 l.nu, .int .u64 l.sq, .int .u64 l.dz, .int .u64 l.vr, .int .i64 l.sl, .int .u32 l.ky, .int .i64 l.cd, .int .i64 l.qk, .int .i64 l.qc, .int .u64 l.qe, .int .i64 l.qn, .int .i64 l.fc, .int .u64 l.fe, .slice l.fA l.fn l.fp, .bool l.ff, .int .i64 l.fj, .slice l.vA l.vn l.vp, .slice l.uA l.un l.up, .slice l.dA l.dn l.dp] 37) := ⟨_, rfl⟩; have hb0 : Below w.heap.size w W0 := by rw [hW0]; exact (Below.refl _ _).alloc (Nat.le_refl _) _
 have hbk : Blk W0 w.heap.size 37 l.cells := by rw [hW0]; exact Blk.new _ _ _
 have x0 := (hbk.cell 0).trans (show _ = some (.int .i64 l.kd) from rfl); have x1 := (hbk.cell 1).trans (show _ = some (.int .i64 l.fr) from rfl); have x2 := (hbk.cell 2).trans (show _ = some (.int .i64 l.tw) from rfl); have l1 := hbk.lt; have HB := Lib.hid hb0; have HW := Lib.hid hW0; clear hb0 hW0 hbk
 have KN := Lib.hid (known_yes l.kd W0 hk.1 hk.2)
 have A1 := Lib.hid (fun W => (ha ▸ address_any l.fr W : Calls Tryz.prog 117 #[.int .i64 l.fr] W fun e w' => e = .returned (.bool true) ∧ W = w'))
 have A2 := Lib.hid (fun W => (hb ▸ address_any l.tw W : Calls Tryz.prog 117 #[.int .i64 l.tw] W fun e w' => e = .returned (.bool false) ∧ W = w'))
 clear hk ha hb
 show Calls Tryz.prog 49 #[.agg #[.int .i64 l.kd, .int .i64 l.fr, .int .i64 l.tw, .int .i64 l.ch, .int .u64 l.ep, .int .u64 l.bl, .int .u64 l.nu, .int .u64 l.sq, .int .u64 l.dz, .int .u64 l.vr, .int .i64 l.sl, .int .u32 l.ky, .int .i64 l.cd, .int .i64 l.qk, .int .i64 l.qc, .int .u64 l.qe, .int .i64 l.qn, .int .i64 l.fc, .int .u64 l.fe, .slice l.fA l.fn l.fp, .bool l.ff, .int .i64 l.fj, .slice l.vA l.vn l.vp, .slice l.uA l.un l.up, .slice l.dA l.dn l.dp]] w _
 go_enter Tryz.func49, Tryz.ntmps49
 go_upto_region 1 with (fail)
 rw [← HW.out]
 go_wp2_with (fail)
 refine KN.out.mono ?_
 rintro e w1 ⟨rfl, rfl⟩
 go_wp2_with (fail)
 refine wp_region_held_drew (S := fun w' => w'.cell? ⟨w.heap.size, 1, none⟩ = some (.int .i64 l.fr) ∧ w'.cell? ⟨w.heap.size, 2, none⟩ = some (.int .i64 l.tw)) (by kernel_rfl) ⟨x1, x2⟩ (fun hHeld => ?_)
 refine tkV 0 rfl ?_
 try simp only [Act.put, pS]
 refine tkV 1 rfl ?_
 try simp only [Act.put, pS]
 refine wpAnyH_ready (rs := [2]) (by kernel_rfl) (by simp) ?_
 refine AllReadyH.cons (o := _) rfl (fun K hK => ?_) AllReadyH.nil
 go_simp
 refine (A1.out _).mono ?_; rintro e w9 ⟨rfl, rfl⟩
 (try go_simp)
 refine hK.out _ _ ?_ (fun hHeld => ?_)
 ·go_keep
 clear hK K
 try simp only [Act.put, pS]
 refine tkV 3 rfl ?_
 try simp only [Act.put, pS]
 refine tkV 4 rfl ?_
 try simp only [Act.put, pS]
 refine tkV 5 rfl ?_
 try simp only [Act.put, pS]
 refine tkV 6 rfl ?_
 try simp only [Act.put, pS]
 refine wpAnyH_ready (rs := [7]) (by kernel_rfl) (by simp) ?_
 refine AllReadyH.cons (o := _) rfl (fun K hK => ?_) AllReadyH.nil
 go_simp
 refine (A2.out _).mono ?_; rintro e w9 ⟨rfl, rfl⟩
 (try go_simp)
 refine hK.out _ _ ?_ (fun hHeld => ?_)
 ·go_keep
 clear hK K
 try simp only [Act.put, pS]
 refine tkV 8 rfl ?_
 exact rp47
end Go.Proofs.YtmpedblelnpjdaaGreatDoor
/- letter.Check of any letter in memory (printed by cdgen9.py). -/
namespace Go.Proofs.YtmpedblelnpjdaaGreatDoor
open Go.RowKit
set_option linter.unusedSimpArgs false
set_option linter.unusedVariables false
set_option maxHeartbeats 8000000
set_option maxRecDepth 100000
theorem fine14_any (x : LV) (w : World) : Calls Tryz.prog 279 #[.agg x.l.cells] w fun e w' => e = .returned (.bool (decide ((x.l.dn : Int) ≤ roomV x.l.kd))) ∧ Below w.heap.size w w' := by
 obtain ⟨W0, hW0, hb0, hbk⟩ := box_all x w
 have l1 := hbk.lt
 have x24 := (hbk.cell 24).trans (show _ = some (.slice x.l.dA x.l.dn x.l.dp) from rfl)
 have HB := Lib.hid hb0
 have HW := Lib.hid hW0
 have HBK := Lib.hid hbk
 have hB := hbk
 clear hb0 hW0 hbk
 obtain ⟨L, hL⟩ : ∃ L : Value, L = x.l.agg := ⟨_, rfl⟩
 have HLA := Lib.hid hL
 have hLD : ∀ wq, Blk wq w.heap.size 37 x.l.cells → (loadVar 37 ⟨w.heap.size, 0, none⟩).run Tryz.prog wq = .ok L wq := fun wq h => by rw [HLA.out]; exact load_lt x.l _ wq h
 have RM := Lib.hid (fun W => (HLA.out ▸ room_any x.l W : Calls Tryz.prog 280 #[L] W fun e w' => e = .returned (.int .i64 (roomV x.l.kd)) ∧ Below W.heap.size W w'))
 clear hL
 generalize roomV x.l.kd = rm at *
 by_cases hr : (x.l.dn : Int) ≤ rm
 all_goals
  have HD := Lib.hid hr
  go_enter Tryz.func279, Tryz.ntmps279
  go_upto_region 1 with (fail)
  have e0 := HW.out
  simp only [Lt.cells] at e0
  first | rw [← e0] | rw [← HW.out]
  clear e0
  refine wp_region_held_drew (S := fun w' => w'.cell? ⟨w.heap.size, 24, none⟩ = some (.slice x.l.dA x.l.dn x.l.dp) ∧ Blk w' w.heap.size 37 x.l.cells) (by kernel_rfl) ⟨x24, hB⟩ (fun hHeld => ?_)
  refine tkV 0 rfl ?_
  try simp only [Act.put, pS]
  refine tkV 1 rfl ?_
  try simp only [Act.put, pS]
  refine tkV 2 rfl ?_
  try simp only [Act.put, pS]
  refine tkT 3 rfl (v := L) ?_ ?_
  ·exact fun wq hSw => exec_load_row rfl _ rfl (hLD wq hSw.2)
  try simp only [Act.put, pS]
  refine wpAnyH_ready (rs := [4]) (by kernel_rfl) (by simp) ?_
  refine AllReadyH.cons (o := _) rfl (fun K hK => ?_) AllReadyH.nil
  go_simp
  refine (RM.out _).mono ?_; rintro e w9 ⟨rfl, h9⟩; replace x24 := (h9.cell (p := ⟨w.heap.size, 24, none⟩) l1).trans x24; replace hB := hB.drew.below h9 l1; have HB9 := Lib.hid (HB.out.drew.trans (h9.mono HB.out.size)); clear h9
  (try go_simp)
  refine hK.out _ _ ?_ (fun hHeld => ?_)
  ·go_keep
  clear hK K
  try simp only [Act.put, pS]
  refine tkV 5 rfl ?_
  try simp only [Act.put, pS]
  refine tkV 6 rfl ?_
  try simp only [Act.put, pS]
  refine wpAnyH_done (by kernel_rfl) ?_ _
  clear hHeld
  go_wp2_with (fail)
  go_ret
  exact ⟨ret_bool (by simp [hr]), HB9.out⟩
theorem fineC_all (x : LV) (B : Nat) (hn : x.near) : ∀ i, i < 15 → FineC B (fun W => LIn W B x) (.agg x.l.cells) i (fineB x i)
 | 0, _ => by
  intro p W0 hp
  obtain ⟨g0, g9, rfl, _⟩ := hp
  exact ⟨184, rfl, enters_of Tryz.func184 (by kernel_rfl) rfl, fun W hg hB => fine0_any x W⟩
 | 1, _ => by
  intro p W0 hp
  obtain ⟨g0, rfl, _⟩ := hp
  exact ⟨189, rfl, enters_of Tryz.func189 (by kernel_rfl) rfl, fun W hg hB => fine1_any x W⟩
 | 2, _ => by
  intro p W0 hp
  obtain ⟨g0, rfl, _⟩ := hp
  exact ⟨191, rfl, enters_of Tryz.func191 (by kernel_rfl) rfl, fun W hg hB => fine2_any x ⟨hg.wf.bl.1, by have := hg.wf.bl.2; omega⟩ W⟩
 | 3, _ => by
  exact rp64
 | 4, _ => by
  exact rp64
 | 5, _ => by
  intro p W0 hp
  obtain ⟨g0, g9, rfl, _⟩ := hp
  exact ⟨186, rfl, enters_of Tryz.func186 (by kernel_rfl) rfl, fun W hg hB => fine5_any x W⟩
 | 6, _ => by
  exact rp64
 | 7, _ => by
  intro p W0 hp
  obtain rfl := hp
  exact ⟨258, rfl, enters_of Tryz.func258 (by kernel_rfl) rfl, fun W hg hB => fine7_any x W⟩
 | 8, _ => by
  intro p W0 hp
  obtain rfl := hp
  exact ⟨194, rfl, enters_of Tryz.func194 (by kernel_rfl) rfl, fun W hg hB => fineT_any x W⟩
 | 9, _ => by
  exact rp64
 | 10, _ => by
  intro p W0 hp
  obtain rfl := hp
  exact ⟨263, rfl, enters_of Tryz.func263 (by kernel_rfl) rfl, fun W hg hB => fine10_any x hg.wf.qe.1 W⟩
 | 11, _ => by
  intro p W0 hp
  obtain rfl := hp
  exact ⟨268, rfl, enters_of Tryz.func268 (by kernel_rfl) rfl, fun W hg hB => fine11_any x B W hg hB hn⟩
 | 12, _ => by
  intro p W0 hp
  obtain rfl := hp
  exact ⟨272, rfl, enters_of Tryz.func272 (by kernel_rfl) rfl, fun W hg hB => fine12_any x B W hg hB hn⟩
 | 13, _ => by
  intro p W0 hp
  obtain rfl := hp
  exact ⟨276, rfl, enters_of Tryz.func276 (by kernel_rfl) rfl, fun W hg hB => letUpdatesG_any x B W hg hB hn⟩
 | 14, _ => by
  intro p W0 hp
  obtain rfl := hp
  exact ⟨279, rfl, enters_of Tryz.func279 (by kernel_rfl) rfl, fun W hg hB => fine14_any x W⟩
 | _ + 15, h => absurd h (by omega)
theorem partsI_lt : ∀ k, k < 21 → ∀ i ∈ partsI k, i < 15 := by decide +kernel
theorem partsI_len : ∀ k, k < 21 → (partsI k).length ≤ 6 := by decide +kernel
noncomputable def chkX (x : LV) : Int :=
 if x.l.kd < 1 ∨ 20 < x.l.kd then 1 else
  if addrB x.l.fr = true ∧ addrB x.l.tw = true ∧ sameB x (x.mask (partF x.l.kd.toNat 15)) = true ∧ (partsI x.l.kd.toNat).all (fineB x) = true then 0 else 4
theorem check_any (x : LV) (B : Nat) (w : World) (hK : KindsAt w) (h : LIn w B x) (hB : B ≤ w.heap.size) (hn : x.near) :
  Calls Tryz.prog 49 #[x.l.agg] w fun e w' => e = .returned (.int .i64 (chkX x)) ∧ Below w.heap.size w w' := by
 by_cases hk : x.l.kd < 1 ∨ 20 < x.l.kd
 ·have e : chkX x = 1 := by unfold chkX; rw [if_pos hk]
  rw [e]
  exact checkK_any x.l hk w
 by_cases ha : addrB x.l.fr = true
 rotate_left
 ·have e : chkX x = 4 := by unfold chkX; rw [if_neg hk, if_neg (fun h => ha h.1)]
  rw [e]
  exact checkF_any x.l ⟨by omega, by omega⟩ (by simpa using ha) w
 by_cases hb : addrB x.l.tw = true
 rotate_left
 ·have e : chkX x = 4 := by unfold chkX; rw [if_neg hk, if_neg (fun h => hb h.2.1)]
  rw [e]
  exact checkG_any x.l ⟨by omega, by omega⟩ ha (by simpa using hb) w
 have hkz : ((x.l.kd.toNat : Nat) : Int) = x.l.kd := Int.toNat_of_nonneg (by omega)
 have e : chkX x = chkR (sameB x (x.mask (partF x.l.kd.toNat 15)) && (partsI x.l.kd.toNat).all (fineB x)) := by
  unfold chkX chkR
  rw [if_neg hk]
  cases sameB x (x.mask (partF x.l.kd.toNat 15)) <;> cases (partsI x.l.kd.toNat).all (fineB x) <;> simp [ha, hb]
 rw [e]
 refine checkT_of x.l x.l.kd.toNat (by omega) (by omega) hkz.symm w hK _ (fun W => ?_) (fun W => ?_) (fun W hb => ?_) (fun W => LIn W B x) (fun W hb => h.below (hb.mono hB)) (fineB x) (fun i hi p W0 hp => ?_) (by have := partsI_len x.l.kd.toNat (by omega); omega)
 ·have := address_any x.l.fr W
  rwa [ha] at this
 ·have := address_any x.l.tw W
  rwa [hb] at this
 ·exact letSameG_any x (x.mask _) B B W (h.below (hb.mono hB)) ((h.mask _).below (hb.mono hB)) (Nat.le_trans hB hb.size) (Nat.le_trans hB hb.size) hn
 ·obtain ⟨fid, h1, h2, h3⟩ := fineC_all x B hn i (partsI_lt x.l.kd.toNat (by omega) i hi) p W0 hp
  exact ⟨fid, h1, h2, fun W hg hw => h3 W hg (Nat.le_trans hB hw)⟩
end Go.Proofs.YtmpedblelnpjdaaGreatDoor
