/- Lists of configurations; conf.own, conf.Copy. -/
import Derived.Test.YtnnegldaekmgbaaGreatDoorZRolC25
namespace Go.Proofs.YtnnegldaekmgbaaGreatDoor
open Go.RowKit
set_option linter.unusedSimpArgs false
set_option linter.unusedVariables false
set_option maxHeartbeats 8000000
set_option maxRecDepth 100000
attribute [local go_sem] Cf.agg Cf.cells

def Cf.row (x : Cf) : List Value := [.int .i64 x.ch, .int .u64 x.ep, .slice x.A x.len x.cap, .bool x.fr, .int .i64 x.jn]
theorem Cf.row_len (x : Cf) : x.row.length = 5 := rfl
def Cf.val (x : Cf) : Int × Int × List Int × Bool × Int := (x.ch, x.ep, x.zs, x.fr, x.jn)
structure CfsIn (w : World) (B : Nat) (A : Option Addr) (n : Nat) (l : List Cf) : Prop where
  rd : Reads w B 5 A n (l.flatMap Cf.row)
  mem : ∀ x ∈ l, CfIn w B x
theorem CfsIn.below {w w' : World} {B n : Nat} {A : Option Addr} {l : List Cf} (h : CfsIn w B A n l) (hb : Below B w w') : CfsIn w' B A n l := ⟨h.rd.below hb, fun u hu => (h.mem u hu).below hb⟩
theorem CfsIn.len {w : World} {B n : Nat} {A : Option Addr} {l : List Cf} (h : CfsIn w B A n l) : l.length = n := flat_len Cf.row Cf.row_len (by omega) h.rd
theorem CfsIn.at_ {w : World} {B n k : Nat} {A : Option Addr} {l : List Cf} (h : CfsIn w B A n l) (hk : k < n) :
    ∃ b off x, A = some ⟨b, off, none⟩ ∧ b < B ∧ l[k]? = some x ∧ CfIn w B x ∧ (w.cell? ⟨b, off + k * 5, none⟩ = some (.int .i64 x.ch) ∧ w.cell? ⟨b, off + k * 5 + 1, none⟩ = some (.int .u64 x.ep) ∧ w.cell? ⟨b, off + k * 5 + 2, none⟩ = some (.slice x.A x.len x.cap) ∧
      w.cell? ⟨b, off + k * 5 + 3, none⟩ = some (.bool x.fr) ∧ w.cell? ⟨b, off + k * 5 + 4, none⟩ = some (.int .i64 x.jn)) := by
  obtain ⟨b, off, x, hA, hb, hx, hc⟩ := reads_at Cf.row Cf.row_len (by omega) h.rd hk
  exact ⟨b, off, x, hA, hb, hx, h.mem x (List.mem_of_getElem? hx), hc 0 _ rfl, hc 1 _ rfl, hc 2 _ rfl, hc 3 _ rfl, hc 4 _ rfl⟩

/-- a configuration whose nodes lie in memory of the call's own -/
def CfOwn (w : World) (base : Nat) (x : Cf) : Prop := w.ownsRow base 3 1 (.slice x.A x.len x.cap) x.len (x.zs.map (Value.int .i64))
theorem CfOwn.in_ {w : World} {base : Nat} {x : Cf} (h : CfOwn w base x) : CfIn w w.heap.size x := by
  obtain ⟨A, c, hv, hr, hn, hm⟩ := own_slice h
  injection hv with h1 h2 h3
  subst h1 h3
  exact ⟨hr, hn, hm⟩
theorem own_any (x : Cf) (B : Nat) (w : World) (hx : CfIn w B x) (hB : B ≤ w.heap.size) (hn : x.len ≤ 1000000) :
    Calls Tryz.prog 161 #[x.agg] w fun e w' => ∃ y : Cf, e = .returned y.agg ∧ y.val = x.val ∧ CfOwn w' w.heap.size y ∧ Below w.heap.size w w' := by
  have HX := Lib.hid hx
  have hb1 : Hid (Blk ((w.alloc (.cells x.cells 44)).alloc (.cells #[.int .i64 0, .int .u64 0, .slice none 0 0, .bool false, .int .i64 0] 44)) w.heap.size 44 x.cells) := Lib.hid ((Blk.new w _ _).alloc _)
  have hb2 : Hid (Blk ((w.alloc (.cells x.cells 44)).alloc (.cells #[.int .i64 0, .int .u64 0, .slice none 0 0, .bool false, .int .i64 0] 44)) (w.heap.size + 1) 44 #[.int .i64 0, .int .u64 0, .slice none 0 0, .bool false, .int .i64 0]) := Lib.hid (by
    have := Blk.new (w.alloc (.cells x.cells 44)) 44 #[.int .i64 0, .int .u64 0, .slice none 0 0, .bool false, .int .i64 0]
    simpa using this)
  have hbl : Hid (Below w.heap.size w ((w.alloc (.cells x.cells 44)).alloc (.cells #[.int .i64 0, .int .u64 0, .slice none 0 0, .bool false, .int .i64 0] 44))) := Lib.hid (((Below.refl _ _).alloc (Nat.le_refl _) _).alloc (by simp) _)
  clear hx
  go_enter Tryz.func161, Tryz.ntmps161
  go_wp2_with (fail)
  refine (clone_int x.A x.len x.cap B x.zs _ (by simp; omega) ((HX.out.rd.alloc hB _).alloc (by simp; omega) _) (by omega)).mono ?_
  rintro e w1 ⟨v, rfl, h1, h2⟩
  obtain ⟨A1, c1, rfl, h3, h4, h5⟩ := own_slice h1
  have b1 : Blk w1 w.heap.size 44 x.cells := hb1.out.below h2 (by simp; omega)
  have b2 : Blk w1 (w.heap.size + 1) 44 #[.int .i64 0, .int .u64 0, .slice none 0 0, .bool false, .int .i64 0] := hb2.out.below h2 (by simp)
  have hsz : w.heap.size + 1 < w1.heap.size := by have := h2.size; simp at this; omega
  have HO := Lib.hid h1
  have HW := Lib.hid ((hbl.out).trans (h2.mono (by simp; omega)))
  clear h1 h2 h3 hbl hb1 hb2
  have f1 := b1.frozen 2
  have k2 : w1.cell? ⟨w.heap.size, 2, none⟩ = some (.slice x.A x.len x.cap) := by rw [b1.cell]; rfl
  have b1' := b1.set_ 2 (.slice A1 x.len c1)
  have b2' := b2.far (p := ⟨w.heap.size, 2, none⟩) (by simp) (.slice A1 x.len c1)
  have c0 : (w1.setCell ⟨w.heap.size, 2, none⟩ (.slice A1 x.len c1)).cell? ⟨w.heap.size, 0, none⟩ = some (.int .i64 x.ch) := by rw [b1'.cell]; rfl
  have c1' : (w1.setCell ⟨w.heap.size, 2, none⟩ (.slice A1 x.len c1)).cell? ⟨w.heap.size, 1, none⟩ = some (.int .u64 x.ep) := by rw [b1'.cell]; rfl
  have c2' : (w1.setCell ⟨w.heap.size, 2, none⟩ (.slice A1 x.len c1)).cell? ⟨w.heap.size, 2, none⟩ = some (.slice A1 x.len c1) := by rw [b1'.cell]; rfl
  have c3' : (w1.setCell ⟨w.heap.size, 2, none⟩ (.slice A1 x.len c1)).cell? ⟨w.heap.size, 3, none⟩ = some (.bool x.fr) := by rw [b1'.cell]; rfl
  have c4' : (w1.setCell ⟨w.heap.size, 2, none⟩ (.slice A1 x.len c1)).cell? ⟨w.heap.size, 4, none⟩ = some (.int .i64 x.jn) := by rw [b1'.cell]; rfl
  have d0 : (w1.setCell ⟨w.heap.size, 2, none⟩ (.slice A1 x.len c1)).cell? ⟨w.heap.size + 1, 0, none⟩ = some (.int .i64 0) := by rw [b2'.cell]; rfl
  have d1 : (w1.setCell ⟨w.heap.size, 2, none⟩ (.slice A1 x.len c1)).cell? ⟨w.heap.size + 1, 1, none⟩ = some (.int .u64 0) := by rw [b2'.cell]; rfl
  have d2 : (w1.setCell ⟨w.heap.size, 2, none⟩ (.slice A1 x.len c1)).cell? ⟨w.heap.size + 1, 2, none⟩ = some (.slice none 0 0) := by rw [b2'.cell]; rfl
  have d3 : (w1.setCell ⟨w.heap.size, 2, none⟩ (.slice A1 x.len c1)).cell? ⟨w.heap.size + 1, 3, none⟩ = some (.bool false) := by rw [b2'.cell]; rfl
  have d4 : (w1.setCell ⟨w.heap.size, 2, none⟩ (.slice A1 x.len c1)).cell? ⟨w.heap.size + 1, 4, none⟩ = some (.int .i64 0) := by rw [b2'.cell]; rfl
  have e0 := b2'.frozen 0
  have e1 := b2'.frozen 1
  have e2 := b2'.frozen 2
  have e3 := b2'.frozen 3
  have e4 := b2'.frozen 4
  have B2 := Lib.hid b2'
  clear b1 b2 b1' b2'
  go_wp2_with (fail)
  have F := ((((B2.out.set_ 0 (.int .i64 x.ch)).set_ 1 (.int .u64 x.ep)).set_ 2 (.slice A1 x.len c1)).set_ 3 (.bool x.fr)).set_ 4 (.int .i64 x.jn)
  have G0 := (F.cell 0).trans (show _ = some (Value.int .i64 x.ch) from rfl)
  have G1 := (F.cell 1).trans (show _ = some (Value.int .u64 x.ep) from rfl)
  have G2 := (F.cell 2).trans (show _ = some (Value.slice A1 x.len c1) from rfl)
  have G3 := (F.cell 3).trans (show _ = some (Value.bool x.fr) from rfl)
  have G4 := (F.cell 4).trans (show _ = some (Value.int .i64 x.jn) from rfl)
  clear F
  refine bodyPost_ret (v := (Cf.mk x.ch x.ep A1 x.len c1 x.fr x.jn x.zs).agg) (by simp [results, Tryz.results161, go_sem, G0, G1, G2, G3, G4]) rfl ⟨_, rfl, rfl, ?_, ?_⟩
  · refine own_mono (base := w.heap.size + 2) ?_ (by omega)
    have h := HO.out
    simp only [World.size_alloc] at h
    iterate 6 refine ownsRow_setCell_below ?_ (by simp) _
    exact h
  · iterate 6 refine Below.setCell ?_ (by simp) _
    exact HW.out
end Go.Proofs.YtnnegldaekmgbaaGreatDoor
