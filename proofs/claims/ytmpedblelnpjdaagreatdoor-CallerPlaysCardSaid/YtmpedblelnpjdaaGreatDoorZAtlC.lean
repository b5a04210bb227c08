import Derived.Test.YtmpedblelnpjdaaGreatDoorZGR
import Derived.Test.YtmpedblelnpjdaaGreatDoorZTq
section
/- Contracts: Tail, Head, Reader, of both. -/
namespace Go.Proofs.YtmpedblelnpjdaaGreatDoor
open Go.RowKit
set_option linter.unusedSimpArgs false
set_option linter.unusedVariables false
set_option maxHeartbeats 1000000
attribute [local go_sem] Cf.agg Cf.cells
theorem Cf.right_fine {x : Cf} (h : x.right = true) : x.fine ∧ Unl x.stands := by
 unfold Cf.right at h
 rw [Bool.and_eq_true, decide_eq_true_eq, unlikeB_iff] at h
 exact h
theorem cf_at {w : World} {B : Nat} {x : Cf} (h : CfIn w B x) {k : Nat} (hk : k < x.len) : ∃ ad, x.A = some ad ∧ ad.block < B ∧ w.cell? (ad.add k) = some (.int .i64 (x.zs.getD k 0)) := by
 obtain ⟨ad, z, hA, hb, hz, hc⟩ := reads_int h.rd hk
 exact ⟨ad, hA, hb, by rw [hc, List.getD_eq_getElem?_getD, hz]; rfl⟩
def Cf.last (x : Cf) : Int := x.zs.getD (x.len - 1) 0
noncomputable def Cf.headV (x : Cf) : Int := if x.right then x.zs.getD 0 0 else 0
noncomputable def Cf.readV (x : Cf) (p : Int) : Int := if x.right then x.zs.getD (p.toNat % x.len) 0 else 0
theorem box_below {w w1 : World} {o : Obj} (h : Below (w.alloc o).heap.size (w.alloc o) w1) : Below w.heap.size w w1 := ((Below.refl _ _).alloc (Nat.le_refl _) _).trans (h.mono (by simp))
theorem head_any (x : Cf) (B : Nat) (w : World) (hx : CfIn w B x) (hB : B ≤ w.heap.size) :
  Calls Tryz.prog 238 #[x.agg] w fun e w' => e = .returned (.int .i64 x.headV) ∧ Below w.heap.size w w' := by
 have HX := Lib.hid hx
 clear hx
 cases hR : x.right
 ·go_enter Tryz.func238, Tryz.ntmps238
  go_wp2_with (fail)
  refine (right_any x B _ (HX.out.alloc hB _) (by simp; omega)).mono ?_
  rintro e w1 ⟨rfl, h⟩
  have hT : Hid (0 = x.headV) := Lib.hid (by rw [Cf.headV, hR]; rfl)
  have H1 := Lib.hid (box_below h)
  clear h
  go_wp2
  go_ret
  exact ⟨ret_int hT.out, H1.out⟩
 ·obtain ⟨m, hm⟩ : ∃ m, x.len = m + 1 := ⟨x.len - 1, by have := (Cf.right_fine hR).1.2.2.1; omega⟩
  have hm0 : (0 : Int) < (m : Int) + 1 := by omega
  have hT : Hid (x.zs.getD 0 0 = x.headV) := Lib.hid (by rw [Cf.headV, hR, if_pos rfl])
  have HM := Lib.hid hm
  clear hm
  go_enter Tryz.func238, Tryz.ntmps238
  go_wp2_with (fail)
  refine (right_any x B _ (HX.out.alloc hB _) (by simp; omega)).mono ?_
  exact rp55
theorem refHead_any (x : Cf) (B : Nat) (w : World) (hx : CfIn w B x) (hB : B ≤ w.heap.size) :
  Calls Tryz.prog 156 #[x.agg] w fun e w' => e = .returned (.int .i64 x.headV) ∧ Below w.heap.size w w' := by
 have HX := Lib.hid hx
 clear hx
 cases hR : x.right
 ·go_enter Tryz.func156, Tryz.ntmps156
  go_wp2_with (fail)
  refine (refRight_any x B _ (HX.out.alloc hB _) (by simp; omega)).mono ?_
  rintro e w1 ⟨rfl, h⟩
  have hT : Hid (0 = x.headV) := Lib.hid (by rw [Cf.headV, hR]; rfl)
  have H1 := Lib.hid (box_below h)
  clear h
  go_wp2
  go_ret
  exact ⟨ret_int hT.out, H1.out⟩
 ·obtain ⟨m, hm⟩ : ∃ m, x.len = m + 1 := ⟨x.len - 1, by have := (Cf.right_fine hR).1.2.2.1; omega⟩
  have hm0 : (0 : Int) < (m : Int) + 1 := by omega
  have hT : Hid (x.zs.getD 0 0 = x.headV) := Lib.hid (by rw [Cf.headV, hR, if_pos rfl])
  have HM := Lib.hid hm
  clear hm
  go_enter Tryz.func156, Tryz.ntmps156
  go_wp2_with (fail)
  refine (refRight_any x B _ (HX.out.alloc hB _) (by simp; omega)).mono ?_
  exact rp55
theorem reader_any (x : Cf) (p : Int) (hp : p ≤ 9223372036854775807) (B : Nat) (w : World) (hx : CfIn w B x) (hB : B ≤ w.heap.size) :
  Calls Tryz.prog 236 #[x.agg, .int .i64 p] w fun e w' => e = .returned (.int .i64 (x.readV p)) ∧ Below w.heap.size w w' := by
 have HX := Lib.hid hx
 clear hx
 cases hR : x.right
 ·go_enter Tryz.func236, Tryz.ntmps236
  go_wp2_with (fail)
  refine (right_any x B _ (HX.out.alloc hB _) (by simp; omega)).mono ?_
  rintro e w1 ⟨rfl, h⟩
  have hT : Hid (0 = x.readV p) := Lib.hid (by rw [Cf.readV, hR]; rfl)
  have H1 := Lib.hid (box_below h)
  clear h
  go_wp2
  go_ret
  exact ⟨ret_int hT.out, H1.out⟩
 ·obtain ⟨m, hm⟩ : ∃ m, x.len = m + 1 := ⟨x.len - 1, by have := (Cf.right_fine hR).1.2.2.1; omega⟩
  have hc63 : (m : Int) + 1 ≤ 9223372036854775807 := by have h1 := HX.out.hc; have h2 := HX.out.hm; unfold maxLen at h2; omega
  have hT : Hid (x.zs.getD (p.toNat % (m + 1)) 0 = x.readV p) := Lib.hid (by rw [Cf.readV, hR, if_pos rfl, hm])
  by_cases h0 : 0 ≤ p
  ·obtain ⟨q, rfl⟩ := Int.eq_ofNat_of_zero_le h0
   have et : ((q : Nat) : Int).tmod ((m : Int) + 1) = ((q % (m + 1) : Nat) : Int) := by rw [Int.tmod_eq_emod_of_nonneg (by omega)]; rfl
   have hr : q % (m + 1) < m + 1 := Nat.mod_lt _ (by omega)
   rw [Int.toNat_natCast] at hT
   generalize q % (m + 1) = r at *
   have HM := Lib.hid hm
   clear hm
   go_enter Tryz.func236, Tryz.ntmps236
   go_wp2_with (fail)
   refine (right_any x B _ (HX.out.alloc hB _) (by simp; omega)).mono ?_
   exact rp56
  ·have h0' : ¬ 0 ≤ p := h0
   have e0 : p.toNat % (m + 1) = 0 := by rw [show p.toNat = 0 by omega]; exact Nat.zero_mod _
   rw [e0] at hT
   have et0 : (0 : Int).tmod ((m : Int) + 1) = 0 := Int.zero_tmod _
   clear e0
   have HM := Lib.hid hm
   clear hm
   go_enter Tryz.func236, Tryz.ntmps236
   go_wp2_with (fail)
   refine (right_any x B _ (HX.out.alloc hB _) (by simp; omega)).mono ?_
   rintro e w1 ⟨rfl, h⟩
   have hb1 := box_below h; obtain ⟨c0, c1, c2, c3, c4⟩ := cf_cells (x := x) ((Blk.new w 33 x.cells).below h (by simp)); have H1 := Lib.hid hb1; have HX1 := Lib.hid (HX.out.below (hb1.mono hB)); clear h hb1
   obtain ⟨ad, hA, _, hcell⟩ := cf_at HX1.out (k := 0) (by rw [HM.out]; omega)
   rw [show ad.add 0 = ad by simp [Addr.add]] at hcell
   rw [hA, HM.out] at c2
   clear hA
   go_wp2_with (fail)
   go_quiet (fail)
   go_wp2
   go_ret
   exact ⟨ret_int hT.out, below_drewN H1.out _⟩
theorem refReader_any (x : Cf) (p : Int) (hp : p ≤ 9223372036854775807) (B : Nat) (w : World) (hx : CfIn w B x) (hB : B ≤ w.heap.size) :
  Calls Tryz.prog 155 #[x.agg, .int .i64 p] w fun e w' => e = .returned (.int .i64 (x.readV p)) ∧ Below w.heap.size w w' := by
 have HX := Lib.hid hx
 clear hx
 cases hR : x.right
 ·go_enter Tryz.func155, Tryz.ntmps155
  go_wp2_with (fail)
  refine (refRight_any x B _ (HX.out.alloc hB _) (by simp; omega)).mono ?_
  rintro e w1 ⟨rfl, h⟩
  have hT : Hid (0 = x.readV p) := Lib.hid (by rw [Cf.readV, hR]; rfl)
  have H1 := Lib.hid (box_below h)
  clear h
  go_wp2
  go_ret
  exact ⟨ret_int hT.out, H1.out⟩
 ·obtain ⟨m, hm⟩ : ∃ m, x.len = m + 1 := ⟨x.len - 1, by have := (Cf.right_fine hR).1.2.2.1; omega⟩
  have hc63 : (m : Int) + 1 ≤ 9223372036854775807 := by have h1 := HX.out.hc; have h2 := HX.out.hm; unfold maxLen at h2; omega
  have hT : Hid (x.zs.getD (p.toNat % (m + 1)) 0 = x.readV p) := Lib.hid (by rw [Cf.readV, hR, if_pos rfl, hm])
  by_cases h0 : 0 ≤ p
  ·obtain ⟨q, rfl⟩ := Int.eq_ofNat_of_zero_le h0
   have et : ((q : Nat) : Int).tmod ((m : Int) + 1) = ((q % (m + 1) : Nat) : Int) := by rw [Int.tmod_eq_emod_of_nonneg (by omega)]; rfl
   have hr : q % (m + 1) < m + 1 := Nat.mod_lt _ (by omega)
   rw [Int.toNat_natCast] at hT
   generalize q % (m + 1) = r at *
   have hq : ((q : Int) < 0) = False := by simp
   have HM := Lib.hid hm
   clear hm
   go_enter Tryz.func155, Tryz.ntmps155
   go_wp2_with (fail)
   refine (refRight_any x B _ (HX.out.alloc hB _) (by simp; omega)).mono ?_
   exact rp56
  ·have h0' : p < 0 := by omega
   have e0 : p.toNat % (m + 1) = 0 := by rw [show p.toNat = 0 by omega]; exact Nat.zero_mod _
   rw [e0] at hT
   have et0 : (0 : Int).tmod ((m : Int) + 1) = 0 := Int.zero_tmod _
   clear e0
   have HM := Lib.hid hm
   clear hm
   go_enter Tryz.func155, Tryz.ntmps155
   go_wp2_with (fail)
   refine (refRight_any x B _ (HX.out.alloc hB _) (by simp; omega)).mono ?_
   rintro e w1 ⟨rfl, h⟩
   have hb1 := box_below h; obtain ⟨c0, c1, c2, c3, c4⟩ := cf_cells (x := x) ((Blk.new w 33 x.cells).below h (by simp)); have H1 := Lib.hid hb1; have HX1 := Lib.hid (HX.out.below (hb1.mono hB)); clear h hb1
   obtain ⟨ad, hA, _, hcell⟩ := cf_at HX1.out (k := 0) (by rw [HM.out]; omega)
   rw [show ad.add 0 = ad by simp [Addr.add]] at hcell
   rw [hA, HM.out] at c2
   clear hA
   go_wp2_with (fail)
   go_ret
   exact ⟨ret_int hT.out, H1.out⟩
end Go.Proofs.YtmpedblelnpjdaaGreatDoor

end
section
/- Lists of configurations; conf.own, conf.Copy. -/
namespace Go.Proofs.YtmpedblelnpjdaaGreatDoor
open Go.RowKit
set_option linter.unusedSimpArgs false
set_option linter.unusedVariables false
set_option maxHeartbeats 8000000
set_option maxRecDepth 100000
attribute [local go_sem] Cf.agg Cf.cells
def Cf.row (x : Cf) : List Value := [.int .i64 x.ch, .int .u64 x.ep, .slice x.A x.len x.cap, .bool x.fr, .int .i64 x.jn]
theorem Cf.row_len (x : Cf) : x.row.length = 5 := rfl
def Cf.val (x : Cf) : Int × Int × List Int × Bool × Int := (x.ch, x.ep, x.zs, x.fr, x.jn)
structure CfsIn (w : World) (B : Nat) (A : Option Addr) (n : Nat) (l : List Cf) : Prop where
 rd : Reads w B 5 A n (l.flatMap Cf.row)
 mem : ∀ x ∈ l, CfIn w B x
theorem CfsIn.below {w w' : World} {B n : Nat} {A : Option Addr} {l : List Cf} (h : CfsIn w B A n l) (hb : Below B w w') : CfsIn w' B A n l := ⟨h.rd.below hb, fun u hu => (h.mem u hu).below hb⟩
theorem CfsIn.len {w : World} {B n : Nat} {A : Option Addr} {l : List Cf} (h : CfsIn w B A n l) : l.length = n := flat_len Cf.row Cf.row_len (by omega) h.rd
theorem CfsIn.at_ {w : World} {B n k : Nat} {A : Option Addr} {l : List Cf} (h : CfsIn w B A n l) (hk : k < n) :
  ∃ b off x, A = some ⟨b, off, none⟩ ∧ b < B ∧ l[k]? = some x ∧ CfIn w B x ∧ (w.cell? ⟨b, off + k * 5, none⟩ = some (.int .i64 x.ch) ∧ w.cell? ⟨b, off + k * 5 + 1, none⟩ = some (.int .u64 x.ep) ∧ w.cell? ⟨b, off + k * 5 + 2, none⟩ = some (.slice x.A x.len x.cap) ∧
   w.cell? ⟨b, off + k * 5 + 3, none⟩ = some (.bool x.fr) ∧ w.cell? ⟨b, off + k * 5 + 4, none⟩ = some (.int .i64 x.jn)) := by
 obtain ⟨b, off, x, hA, hb, hx, hc⟩ := reads_at Cf.row Cf.row_len (by omega) h.rd hk
 exact ⟨b, off, x, hA, hb, hx, h.mem x (List.mem_of_getElem? hx), hc 0 _ rfl, hc 1 _ rfl, hc 2 _ rfl, hc 3 _ rfl, hc 4 _ rfl⟩
def CfOwn (w : World) (base : Nat) (x : Cf) : Prop := w.ownsRow base 3 1 (.slice x.A x.len x.cap) x.len (x.zs.map (Value.int .i64))
theorem CfOwn.in_ {w : World} {base : Nat} {x : Cf} (h : CfOwn w base x) : CfIn w w.heap.size x := by
 obtain ⟨A, c, hv, hr, hn, hm⟩ := own_slice h
 injection hv with h1 h2 h3
 subst h1 h3
 exact ⟨hr, hn, hm⟩
theorem own_any (x : Cf) (B : Nat) (w : World) (hx : CfIn w B x) (hB : B ≤ w.heap.size) (hn : x.len ≤ 1000000) :
  Calls Tryz.prog 234 #[x.agg] w fun e w' => ∃ y : Cf, e = .returned y.agg ∧ y.val = x.val ∧ CfOwn w' w.heap.size y ∧ Below w.heap.size w w' := by
 have HX := Lib.hid hx
 have hb1 : Hid (Blk ((w.alloc (.cells x.cells 33)).alloc (.cells #[.int .i64 0, .int .u64 0, .slice none 0 0, .bool false, .int .i64 0] 33)) w.heap.size 33 x.cells) := Lib.hid ((Blk.new w _ _).alloc _)
 have hb2 : Hid (Blk ((w.alloc (.cells x.cells 33)).alloc (.cells #[.int .i64 0, .int .u64 0, .slice none 0 0, .bool false, .int .i64 0] 33)) (w.heap.size + 1) 33 #[.int .i64 0, .int .u64 0, .slice none 0 0, .bool false, .int .i64 0]) := Lib.hid (by
  have := Blk.new (w.alloc (.cells x.cells 33)) 33 #[.int .i64 0, .int .u64 0, .slice none 0 0, .bool false, .int .i64 0]
  simpa using this)
 have hbl : Hid (Below w.heap.size w ((w.alloc (.cells x.cells 33)).alloc (.cells #[.int .i64 0, .int .u64 0, .slice none 0 0, .bool false, .int .i64 0] 33))) := Lib.hid (((Below.refl _ _).alloc (Nat.le_refl _) _).alloc (by simp) _)
 clear hx
 go_enter Tryz.func234, Tryz.ntmps234
 go_wp2_with (fail)
 refine (clone_int x.A x.len x.cap B x.zs _ (by simp; omega) ((HX.out.rd.alloc hB _).alloc (by simp; omega) _) (by omega)).mono ?_
 rintro e w1 ⟨v, rfl, h1, h2⟩
 obtain ⟨A1, c1, rfl, h3, h4, h5⟩ := own_slice h1
 have b1 : Blk w1 w.heap.size 33 x.cells := hb1.out.below h2 (by simp; omega)
 have b2 : Blk w1 (w.heap.size + 1) 33 #[.int .i64 0, .int .u64 0, .slice none 0 0, .bool false, .int .i64 0] := hb2.out.below h2 (by simp)
 have hsz : w.heap.size + 1 < w1.heap.size := by have := h2.size; simp at this; omega
 have HO := Lib.hid h1
 have HW := Lib.hid ((hbl.out).trans (h2.mono (by simp; omega)))
 clear h1 h2 h3 hbl hb1 hb2
 have f1 := b1.frozen 2
 have k2 : w1.cell? ⟨w.heap.size, 2, none⟩ = some (.slice x.A x.len x.cap) := by rw [b1.cell]; rfl
 have b1' := b1.set_ 2 (.slice A1 x.len c1)
 have b2' := b2.far (p := ⟨w.heap.size, 2, none⟩) (by simp) (.slice A1 x.len c1)
 have c0 : (w1.setCell ⟨w.heap.size, 2, none⟩ (.slice A1 x.len c1)).cell? ⟨w.heap.size, 0, none⟩ = some (.int .i64 x.ch) := by rw [b1'.cell]; rfl
 have c1' : (w1.setCell ⟨w.heap.size, 2, none⟩ (.slice A1 x.len c1)).cell? ⟨w.heap.size, 1, none⟩ = some (.int .u64 x.ep) := by rw [b1'.cell]; rfl
 have c2' : (w1.setCell ⟨w.heap.size, 2, none⟩ (.slice A1 x.len c1)).cell? ⟨w.heap.size, 2, none⟩ = some (.slice A1 x.len c1) := by rw [b1'.cell]; rfl
 have c3' : (w1.setCell ⟨w.heap.size, 2, none⟩ (.slice A1 x.len c1)).cell? ⟨w.heap.size, 3, none⟩ = some (.bool x.fr) := by rw [b1'.cell]; rfl
 have c4' : (w1.setCell ⟨w.heap.size, 2, none⟩ (.slice A1 x.len c1)).cell? ⟨w.heap.size, 4, none⟩ = some (.int .i64 x.jn) := by rw [b1'.cell]; rfl
 have d0 : (w1.setCell ⟨w.heap.size, 2, none⟩ (.slice A1 x.len c1)).cell? ⟨w.heap.size + 1, 0, none⟩ = some (.int .i64 0) := by rw [b2'.cell]; rfl
 have d1 : (w1.setCell ⟨w.heap.size, 2, none⟩ (.slice A1 x.len c1)).cell? ⟨w.heap.size + 1, 1, none⟩ = some (.int .u64 0) := by rw [b2'.cell]; rfl
 have d2 : (w1.setCell ⟨w.heap.size, 2, none⟩ (.slice A1 x.len c1)).cell? ⟨w.heap.size + 1, 2, none⟩ = some (.slice none 0 0) := by rw [b2'.cell]; rfl
 have d3 : (w1.setCell ⟨w.heap.size, 2, none⟩ (.slice A1 x.len c1)).cell? ⟨w.heap.size + 1, 3, none⟩ = some (.bool false) := by rw [b2'.cell]; rfl
 have d4 : (w1.setCell ⟨w.heap.size, 2, none⟩ (.slice A1 x.len c1)).cell? ⟨w.heap.size + 1, 4, none⟩ = some (.int .i64 0) := by rw [b2'.cell]; rfl
 have e0 := b2'.frozen 0
 have e1 := b2'.frozen 1
 have e2 := b2'.frozen 2
 have e3 := b2'.frozen 3
 have e4 := b2'.frozen 4
 have B2 := Lib.hid b2'
 clear b1 b2 b1' b2'
 go_wp2_with (fail)
 have F := ((((B2.out.set_ 0 (.int .i64 x.ch)).set_ 1 (.int .u64 x.ep)).set_ 2 (.slice A1 x.len c1)).set_ 3 (.bool x.fr)).set_ 4 (.int .i64 x.jn)
 have G0 := (F.cell 0).trans (show _ = some (Value.int .i64 x.ch) from rfl)
 have G1 := (F.cell 1).trans (show _ = some (Value.int .u64 x.ep) from rfl)
 have G2 := (F.cell 2).trans (show _ = some (Value.slice A1 x.len c1) from rfl)
 have G3 := (F.cell 3).trans (show _ = some (Value.bool x.fr) from rfl)
 have G4 := (F.cell 4).trans (show _ = some (Value.int .i64 x.jn) from rfl)
 clear F
 refine bodyPost_ret (v := (Cf.mk x.ch x.ep A1 x.len c1 x.fr x.jn x.zs).agg) (by simp [results, Tryz.results234, go_sem, G0, G1, G2, G3, G4]) rfl ⟨_, rfl, rfl, ?_, ?_⟩
 ·refine own_mono (base := w.heap.size + 2) ?_ (by omega)
  have h := HO.out
  simp only [World.size_alloc] at h
  iterate 6 refine ownsRow_setCell_below ?_ (by simp) _
  exact h
 ·iterate 6 refine Below.setCell ?_ (by simp) _
  exact HW.out
end Go.Proofs.YtmpedblelnpjdaaGreatDoor

end
section
/- conf.Copy: configurations in memory of the call's own. -/
namespace Go.Proofs.YtmpedblelnpjdaaGreatDoor
open Go.RowKit
set_option linter.unusedSimpArgs false
set_option linter.unusedVariables false
set_option maxHeartbeats 8000000
set_option maxRecDepth 100000
attribute [local go_sem] Cf.agg Cf.cells
theorem set_splice (l : List Value) (o : Nat) (v : Value) (vs : List Value) (h : o + (vs.length + 1) ≤ l.length) :
  (l.set o v).take (o + 1) ++ vs ++ (l.set o v).drop (o + 1 + vs.length) = l.take o ++ (v :: vs) ++ l.drop (o + (vs.length + 1)) := by
 rw [List.set_eq_take_append_cons_drop, if_pos (by omega)]
 have h1 : (l.take o).length = o := by rw [List.length_take]; omega
 have e1 : (l.take o ++ v :: l.drop (o + 1)).take (o + 1) = l.take o ++ [v] := by
  rw [List.take_append, h1, show o + 1 - o = 1 from by omega, List.take_of_length_le (by omega)]; rfl
 have e2 : (l.take o ++ v :: l.drop (o + 1)).drop (o + 1 + vs.length) = l.drop (o + (vs.length + 1)) := by
  rw [List.drop_append, h1, List.drop_of_length_le (by omega), show o + 1 + vs.length - o = vs.length + 1 from by omega, List.drop_succ_cons, List.drop_drop, List.nil_append]
  congr 1; omega
 rw [e1, e2]; simp
theorem Blk.sets {g : Nat} {t : TypeId} : ∀ (vs : List Value) (o : Nat) (w : World) (l : List Value), Blk w g t ⟨l⟩ → o + vs.length ≤ l.length → Blk (w.setCells g o vs) g t ⟨l.take o ++ vs ++ l.drop (o + vs.length)⟩
 | [], o, w, l, h, _ => by simpa [World.setCells] using h
 | v :: vs, o, w, l, h, hl => by
  have h1 : Blk (w.setCell ⟨g, o, none⟩ v) g t ⟨l.set o v⟩ := by simpa using h.set_ o v
  have h2 := Blk.sets vs (o + 1) _ _ h1 (by rw [List.length_set]; simp at hl; omega)
  rw [set_splice l o v vs (by simpa using hl)] at h2
  exact h2
theorem confInfo : (Tryz.prog.info? 33).map (fun i => (i.zero, i.size, i.bytes)) = some (some (.agg #[.int .i64 0, .int .u64 0, .slice none 0 0, .bool false, .int .i64 0]), 5, 56) := by kernel_rfl
theorem CfOwn.later {w w' : World} {base base' : Nat} {x : Cf} (h : CfOwn w base x) (hb : Below w.heap.size w w') (hB : base' ≤ base) : CfOwn w' base' x :=
 own_mono (h.kept (only_of_below hb none) (by cases (Value.slice x.A x.len x.cap).ownBlock <;> simp)) hB
structure CpRel (w : World) (l : List Cf) (n k : Nat) (o : List Cf) (rest : List Value) (W : World) : Prop where
 blk : Blk W w.heap.size 33 ⟨o.flatMap Cf.row ++ rest⟩
 len : o.length = k
 val : o.map Cf.val = (l.take k).map Cf.val
 rl : rest.length = (n - k) * 5
 own : ∀ x ∈ o, CfOwn W (w.heap.size + 1) x
 bel : Below w.heap.size w W
theorem CpRel.put {w wr w1 : World} {l o : List Cf} {n k : Nat} {rest : List Value} {u0 u1 u2 u3 u4 : Value} {x y : Cf} {t : TypeId} (h : CpRel w l n k o (u0 :: u1 :: u2 :: u3 :: u4 :: rest) wr) (hx : l[k]? = some x) (hv : y.val = x.val)
  (hb : Below (wr.alloc (.cells x.cells t)).heap.size (wr.alloc (.cells x.cells t)) w1) (ho : CfOwn w1 (wr.alloc (.cells x.cells t)).heap.size y) :
  CpRel w l n (k + 1) (o ++ [y]) rest (w1.setCells w.heap.size (k * 5) y.row) := by
 have hlt := h.blk.lt
 have hsz := hb.size
 simp only [World.size_alloc] at hsz
 have b1 := (h.blk.alloc (.cells x.cells t)).below hb (by simp; omega)
 have hfl : (o.flatMap Cf.row).length = k * 5 := by rw [flat_length Cf.row 5 Cf.row_len, h.len]
 have h5 : y.row.length = 5 := rfl
 have b2 := Blk.sets y.row (k * 5) w1 _ b1 (by simp [hfl, h5])
 have hkl : k < l.length := (List.getElem?_eq_some_iff.1 hx).1
 have hst : ∀ (vs : List Value) (j : Nat) (V : World) (z : Cf), CfOwn V (w.heap.size + 1) z → CfOwn (V.setCells w.heap.size j vs) (w.heap.size + 1) z := by
  intro vs
  induction vs with
  | nil => intro j V z hz; exact hz
  | cons a vs ih => intro j V z hz; exact ih _ _ _ (ownsRow_setCell_below hz (by simp) _)
 have hbe : ∀ (vs : List Value) (j : Nat) (V : World), Below w.heap.size w V → Below w.heap.size w (V.setCells w.heap.size j vs) := by
  intro vs
  induction vs with
  | nil => intro j V hz; exact hz
  | cons a vs ih => intro j V hz; exact ih _ _ (hz.setCell (by simp) _)
 refine ⟨?_, ?_, ?_, ?_, ?_, ?_⟩
 ·have e1 : (o.flatMap Cf.row ++ u0 :: u1 :: u2 :: u3 :: u4 :: rest).take (k * 5) = o.flatMap Cf.row := by rw [← hfl]; simp
  have e2 : (o.flatMap Cf.row ++ u0 :: u1 :: u2 :: u3 :: u4 :: rest).drop (k * 5 + 5) = rest := by rw [← hfl, List.drop_append]; simp
  rw [h5, e1, e2] at b2
  rw [List.flatMap_append]
  simpa using b2
 ·rw [List.length_append, h.len]; rfl
 ·rw [List.map_append, h.val, List.take_add_one, hx, List.map_append]; simp [hv]
 ·have := h.rl
  simp only [List.length_cons] at this
  have h1 : k < n := by omega
  rw [Nat.sub_mul] at this ⊢
  omega
 ·intro z hz
  refine hst _ _ _ _ ?_
  rw [List.mem_append, List.mem_singleton] at hz
  rcases hz with hz | rfl
  ·exact (((h.own z hz).later ((Below.refl _ _).alloc (Nat.le_refl _) _) (Nat.le_refl _))).later hb (Nat.le_refl _)
  ·exact own_mono ho (by simp; omega)
 ·exact hbe _ _ _ ((h.bel.alloc h.bel.size _).trans (hb.mono (by have := h.bel.size; simp; omega)))
theorem copy_any (A : Option Addr) (n c B : Nat) (l : List Cf) (w : World) (hl : CfsIn w B A n l) (hB : B ≤ w.heap.size) (hn : n ≤ 1000000) (hx : ∀ x ∈ l, x.len ≤ 1000000) :
  Calls Tryz.prog 147 #[.slice A n c] w fun e w' => ∃ o : List Cf, e = .returned (.slice (some ⟨w.heap.size, 0, none⟩) n n) ∧ CpRel w l n n o [] w' := by
 obtain ⟨i0, hi, hz0, hz1, hz2⟩ := info_parts confInfo
 have hmk : ∀ W : World, (Instr.makeSlice 52 (.int .i64 (n : Int)) (.int .i64 (n : Int))).run Tryz.prog W = .ok (.slice (some ⟨W.heap.size, 0, none⟩) n n) (W.alloc (.cells (madeCells (Value.agg #[.int .i64 0, .int .u64 0, .slice none 0 0, .bool false, .int .i64 0]).cells (n * i0.size)) 33)) :=
  fun W => run_make_rowN _ _ i0 _ Tryz.underlying52 hi hz0 _ _ n n (Nat.le_refl _) (by rw [hz2]; omega) (by omega) W
 rw [hz1] at hmk
 obtain ⟨rest0, hr0⟩ : ∃ rest0 : List Value, madeCells (Value.agg #[.int .i64 0, .int .u64 0, .slice none 0 0, .bool false, .int .i64 0]).cells (n * 5) = ⟨rest0⟩ := ⟨_, rfl⟩
 have hrl : rest0.length = n * 5 := by
  have := congrArg Array.size hr0
  simpa [madeCells] using this.symm
 rw [hr0] at hmk
 have HL := Lib.hid hl
 have HX := Lib.hid hx
 have HR := Lib.hid hrl
 clear hl hx hr0 hrl hz0 hz1 hz2
 go_enter Tryz.func147, Tryz.ntmps147
 go_wp2
 go_loopw [11] (fun i wr => ∃ (k : Nat) (o : List Cf) (rest : List Value), k ≤ n ∧ i = .int .i64 k ∧ CpRel w l n k o rest wr) (fun i _ => n - (intOf i).toNat)
 case atStart => exact ⟨0, [], rest0, Nat.zero_le _, rfl, Blk.new _ _ _, rfl, rfl, by rw [HR.out]; rfl, by simp, (Below.refl _ _).alloc (Nat.le_refl _) _⟩
 case round =>
  obtain ⟨k, o, rest, hk, rfl, hrel⟩ := hrel
  have HP := Lib.hid hrel
  clear hrel
  by_cases hlt : k < n
  ·obtain ⟨b, off, x, hA, hb, hlx, hxin, q0, q1, q2, q3, q4⟩ := (HL.out.below (HP.out.bel.mono hB)).at_ hlt
   have HLX := Lib.hid hlx
   have HXI := Lib.hid hxin
   clear hlx hxin
   subst hA
   obtain ⟨u0, u1, u2, u3, u4, rest', hrest⟩ : ∃ u0 u1 u2 u3 u4 rest', rest = u0 :: u1 :: u2 :: u3 :: u4 :: rest' := by
    have h := HP.out.rl
    rcases rest with _ | ⟨u0, _ | ⟨u1, _ | ⟨u2, _ | ⟨u3, _ | ⟨u4, r⟩⟩⟩⟩⟩
    all_goals first | exact ⟨_, _, _, _, _, _, rfl⟩ | (simp at h; omega)
   subst hrest
   have hfl : Hid ((o.flatMap Cf.row).length = k * 5) := Lib.hid (by rw [flat_length Cf.row 5 Cf.row_len, HP.out.len])
   go_wp2_with (fail)
   refine (own_any x B _ (HXI.out.alloc (Nat.le_trans hB HP.out.bel.size) _) (by simp; have := HP.out.bel.size; omega) (HX.out x (List.mem_of_getElem? HLX.out))).mono ?_
   rintro e w1 ⟨y, rfl, hyv, hyo, hyb⟩
   have b1 := (HP.out.blk.alloc (.cells x.cells 33)).below hyb (by have := HP.out.blk.lt; simp; omega)
   have k0 := b1.cell (k * 5)
   have k1 := b1.cell (k * 5 + 1)
   have k2 := b1.cell (k * 5 + 2)
   have k3 := b1.cell (k * 5 + 3)
   have k4 := b1.cell (k * 5 + 4)
   simp [List.getElem?_append, hfl.out] at k0 k1 k2 k3 k4
   have f0 := b1.frozen (k * 5)
   have f1 := b1.frozen (k * 5 + 1)
   have f2 := b1.frozen (k * 5 + 2)
   have f3 := b1.frozen (k * 5 + 3)
   have f4 := b1.frozen (k * 5 + 4)
   have B1 := Lib.hid b1
   have YV := Lib.hid hyv
   have YO := Lib.hid hyo
   have YB := Lib.hid hyb
   clear b1 hyv hyo hyb
   obtain ⟨ych, yep, yA, ylen, ycap, yfr, yjn, yzs⟩ := y
   go_wp2_with (fail)
   have P := HP.out.put HLX.out YV.out YB.out YO.out
   simp only [Cf.row, World.setCells, Nat.add_assoc, Nat.reduceAdd] at P
   refine ⟨⟨k + 1, _, rest', hlt, rfl, P⟩, ?_⟩
   have hi2 : (intOf (Value.int .i64 ((k : Int) + 1))).toNat = k + 1 := by simp only [intOf]; omega
   have hi1 : (intOf (Value.int .i64 (k : Int))).toNat = k := by simp only [intOf]; omega
   rw [hi1, hi2]; omega
  ·obtain rfl : k = n := by omega
   obtain rfl : rest = [] := List.eq_nil_of_length_eq_zero (by have := HP.out.rl; simpa using this)
   go_wp2
   go_ret
   exact ⟨o, rfl, HP.out⟩
end Go.Proofs.YtmpedblelnpjdaaGreatDoor

end
section
/- conf.All. -/
namespace Go.Proofs.YtmpedblelnpjdaaGreatDoor
open Go.RowKit
set_option linter.unusedSimpArgs false
set_option linter.unusedVariables false
set_option maxHeartbeats 8000000
set_option maxRecDepth 100000
attribute [local go_sem] Cf.agg Cf.cells
def Ups (l : List Cf) (k : Nat) : Prop := ∀ j x, j < k → l[j]? = some x → x.ch = j ∧ x.right = true
def AllP (l : List Cf) : Prop := (1 ≤ l.length ∧ l.length ≤ 4) ∧ Ups l l.length ∧ Unl (l.flatMap Cf.stands)
open Classical in
noncomputable def allB (l : List Cf) : Bool := decide (AllP l)
theorem allB_no {l : List Cf} (h : ¬ AllP l) : false = allB l := by unfold allB; simp [h]
theorem allB_iff {l : List Cf} : allB l = true ↔ AllP l := by unfold allB; simp
theorem allB_tail {l : List Cf} (h1 : 1 ≤ l.length ∧ l.length ≤ 4) (h2 : Ups l l.length) : unlikeB (l.flatMap Cf.stands) = allB l := by
 unfold allB unlikeB AllP
 by_cases h : Unl (l.flatMap Cf.stands) <;> simp [h, h1.1, h1.2, h2]
theorem Ups.succ {l : List Cf} {k : Nat} {x : Cf} (h : Ups l k) (hx : l[k]? = some x) (hc : x.ch = k) (hr : x.right = true) : Ups l (k + 1) := by
 intro j y hj hy
 rcases Nat.lt_or_ge j k with hlt | hge
 ·exact h j y hlt hy
 ·obtain rfl : j = k := by omega
  rw [hx] at hy; injection hy with hy; subst hy; exact ⟨hc, hr⟩
theorem stands_le {x : Cf} {w : World} {B : Nat} (h : CfIn w B x) (hr : x.right = true) : x.stands.length ≤ 6 := by
 have h1 := h.len_eq
 have h2 := (Cf.right_fine hr).1.2.2.1.2
 unfold Cf.stands
 rw [List.length_append, h1]
 split <;> simp <;> omega
structure AllRel (w : World) (l : List Cf) (k : Nat) (v : Value) (m : List Int) (W : World) : Prop where
 own : W.ownsRow w.heap.size 3 1 v m.length (m.map (Value.int .i64))
 met : m = (l.take k).flatMap Cf.stands
 len : m.length ≤ 6 * k
 ups : Ups l k
 bel : Below w.heap.size w W
theorem AllRel.put {w W w2 w3 : World} {l : List Cf} {k : Nat} {v v3 : Value} {m : List Int} {x : Cf} (h : AllRel w l k v m W) (hx : l[k]? = some x) (hc : x.ch = k) (hr : x.right = true) (h6 : x.stands.length ≤ 6) (hb : Below W.heap.size W w2)
  (ho : w3.ownsRow w.heap.size 3 1 v3 (m.length + x.stands.length) (m.map (Value.int .i64) ++ x.stands.map (Value.int .i64))) (hg : w2.grownBy w3 v.ownBlock) : AllRel w l (k + 1) v3 (m ++ x.stands) w3 := by
 refine ⟨by rw [List.length_append, List.map_append]; exact ho, ?_, ?_, h.ups.succ hx hc hr, ?_⟩
 ·rw [List.take_add_one, hx, List.flatMap_append, h.met]; simp
 ·rw [List.length_append]; have := h.len; omega
 ·exact (h.bel.trans (hb.mono h.bel.size)).grown hg (Nat.le_trans h.bel.size hb.size) (fun g hg' => (h.own.lt g hg').1)
theorem all_any (A : Option Addr) (n c B : Nat) (l : List Cf) (w : World) (hl : CfsIn w B A n l) (hB : B ≤ w.heap.size) :
  Calls Tryz.prog 144 #[.slice A n c] w fun e w' => e = .returned (.bool (allB l)) ∧ Below w.heap.size w w' := by
 obtain ⟨i0, hi, hz0, hz1, hz2⟩ := info_parts i64Info
 have hlen := hl.len
 have HL := Lib.hid hl
 clear hl
 by_cases h1 : n < 1
 ·have hT := Lib.hid (allB_no (l := l) (fun h => by have := h.1.1; omega))
  clear hlen
  go_enter Tryz.func144, Tryz.ntmps144
  go_wp2
  go_ret
  exact ⟨ret_bool hT.out, Below.refl _ _⟩
 by_cases h4 : 4 < n
 ·have hT := Lib.hid (allB_no (l := l) (fun h => by have := h.1.2; omega))
  clear hlen
  go_enter Tryz.func144, Tryz.ntmps144
  go_wp2
  go_ret
  exact ⟨ret_bool hT.out, Below.refl _ _⟩
 have HN : Hid (l.length = n) := Lib.hid hlen
 clear hlen
 go_enter Tryz.func144, Tryz.ntmps144
 go_wp2
 go_loopw [3, 16] (fun v i wr => ∃ (k : Nat) (m : List Int), k ≤ n ∧ i = .int .i64 k ∧ AllRel w l k v m wr) (fun _ i _ => n - (intOf i).toNat)
 case atStart => exact ⟨0, [], by omega, rfl, ⟨World.ownsRow_nil _ _ _ _, rfl, by simp, fun j x hj => by omega, Below.refl _ _⟩⟩
 case round =>
  obtain ⟨k, m, hk, rfl, hrel⟩ := hrel
  have HP := Lib.hid hrel
  have hml := hrel.len
  have hsz := hrel.bel.size
  clear hrel
  by_cases hlt : k < n
  ·obtain ⟨b, off, x, hA, hb, hlx, hxin, q0, q1, q2, q3, q4⟩ := (HL.out.below (HP.out.bel.mono hB)).at_ hlt
   have HLX := Lib.hid hlx
   have HXI := Lib.hid hxin
   clear hlx hxin
   subst hA
   by_cases hch : x.ch = k
   ·have hch' : (x.ch != (k : Int)) = false := by simp [hch]
    have HC := Lib.hid hch
    clear hch
    cases hR : x.right
    ·have hT := Lib.hid (allB_no (l := l) (fun h => by have := (h.2.1 k x (by rw [HN.out]; exact hlt) HLX.out).2; rw [hR] at this; cases this))
     go_wp2_with (fail)
     refine (right_any x B _ (HXI.out.alloc (Nat.le_trans hB hsz) _) (by simp; omega)).mono ?_
     rintro e w1 ⟨rfl, h⟩
     have hb1 := Lib.hid (box_below h)
     clear h
     go_wp2
     go_ret
     exact ⟨ret_bool hT.out, HP.out.bel.trans (hb1.out.mono hsz)⟩
    ·go_wp2_with (fail)
     refine (right_any x B _ (HXI.out.alloc (Nat.le_trans hB hsz) _) (by simp; omega)).mono ?_
     rintro e w1 ⟨rfl, h⟩
     obtain ⟨c0, c1, c2, c3, c4⟩ := cf_cells (x := x) ((Blk.new wr 33 x.cells).below h (by simp))
     have hb1 := Lib.hid (box_below h)
     have H6 := Lib.hid (stands_le HXI.out hR)
     have h5 := (Cf.right_fine hR).1.2.2.1.2
     have hs1 := hb1.out.size
     clear h
     go_wp2_with (fail)
     refine (everybody_any x B _ (HXI.out.below (hb1.out.mono (Nat.le_trans hB hsz))) (by omega) (by omega)).mono ?_
     rintro e w2 ⟨v2, rfl, ho2, hb2⟩
     obtain ⟨A2, cc2, rfl, hr2, _, _⟩ := own_slice ho2
     have R2 := Lib.hid hr2
     have B2 := Lib.hid (hb1.out.trans (hb2.mono hs1))
     have hs2 := hb2.size
     have hs6 := H6.out
     have OWN := Lib.hid (HP.out.own.kept (only_of_below B2.out none) (by cases u3.ownBlock <;> simp))
     clear ho2 hr2 hb2
     go_wp2_with (at_builtin; go_must (refine wpList_append_any _ rfl (.tmp 30) (.tmp 32) _ rfl w.heap.size 3 i0 _ 1 8 Tryz.underlying31 hi hz0 hz1 hz2 rfl (by omega) _ _ _ rfl OWN.out w2.heap.size A2 _ cc2 _ rfl R2.out ?c1 ?c2 ?c3 ?c4 ?_))
     case c1 => intro u hu; obtain ⟨z, _, rfl⟩ := List.mem_map.1 hu; rfl
     case c2 => unfold maxLen; omega
     case c3 => omega
     case c4 => omega
     intro v3 w3 hown hg _
     have P := Lib.hid (HP.out.put HLX.out HC.out hR H6.out B2.out hown hg)
     clear hown hg
     go_wp2_with (fail)
     exact ⟨⟨k + 1, _, hlt, rfl, P.out⟩, by simp [intOf]; omega⟩
   ·have hch' : (x.ch != (k : Int)) = true := by simp [hch]
    have hT := Lib.hid (allB_no (l := l) (fun h => hch (h.2.1 k x (by rw [HN.out]; exact hlt) HLX.out).1))
    clear hch
    go_wp2_with (fail)
    go_ret
    exact ⟨ret_bool hT.out, HP.out.bel.alloc hsz _⟩
  ·obtain rfl : k = n := by omega
   obtain ⟨A2, cc2, rfl, hr2, hc2, hm2⟩ := own_slice HP.out.own
   have R2 := Lib.hid hr2
   have hT := Lib.hid (allB_tail (l := l) (by rw [HN.out]; omega) (by rw [HN.out]; exact HP.out.ups))
   have hM : Hid (m = l.flatMap Cf.stands) := Lib.hid (by rw [HP.out.met, ← HN.out, List.take_length])
   clear hr2
   go_wp2_with (go_at_call 233; refine (unlike_any A2 _ cc2 _ m _ R2.out hc2 hm2).mono ?_; rintro e w' ⟨rfl, rfl⟩)
   go_ret
   exact ⟨ret_bool (by rw [hM.out]; exact hT.out), HP.out.bel⟩
end Go.Proofs.YtmpedblelnpjdaaGreatDoor

end
