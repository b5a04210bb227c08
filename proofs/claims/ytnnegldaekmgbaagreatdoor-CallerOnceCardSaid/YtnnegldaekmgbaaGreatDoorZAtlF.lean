/- Chains, Confs, Of, Head, Reader of an atlas. -/
import Derived.Test.YtnnegldaekmgbaaGreatDoorZAtlE
namespace Go.Proofs.YtnnegldaekmgbaaGreatDoor
open Go.RowKit
set_option linter.unusedSimpArgs false
set_option linter.unusedVariables false
set_option maxHeartbeats 8000000
set_option maxRecDepth 100000
attribute [local go_sem] Cf.agg Cf.cells

theorem CfOwn.len_ {w : World} {base : Nat} {x : Cf} (h : CfOwn w base x) : x.zs.length = x.len := h.in_.len_eq
theorem CfsIn.of_blk {w : World} {q : Nat} {o : List Cf} (hb : Blk w q 44 ⟨o.flatMap Cf.row⟩) (ho : ∀ x ∈ o, CfIn w w.heap.size x) : CfsIn w w.heap.size (some ⟨q, 0, none⟩) o.length o := by
  refine ⟨⟨flat_length Cf.row 5 Cf.row_len o, fun _ => ⟨_, rfl, hb.lt, fun j u hu => ?_⟩⟩, ho⟩
  rw [Go.WideShapes.add_plain, hb.cell]
  simpa using hu
theorem AtX.cfs {w : World} {b0 G q h cB : Nat} {o : List Cf} (a : AtX w b0 G q h cB o) : CfsIn w w.heap.size (some ⟨q, 0, none⟩) o.length o :=
  .of_blk a.conf fun x hx => (a.own x hx).in_
theorem CpRel.cfs {w W : World} {l o : List Cf} {n : Nat} (a : CpRel w l n n o [] W) : CfsIn W W.heap.size (some ⟨w.heap.size, 0, none⟩) n o := by
  have := CfsIn.of_blk (by simpa using a.blk) fun x hx => (a.own x hx).in_
  rwa [a.len] at this
theorem chains_any (b0 G q h cB : Nat) (o : List Cf) (w : World) (a : AtX w b0 G q h cB o) :
    Calls Tryz.prog 116 #[.pointer (some ⟨G, 0, none⟩)] w fun e w' => e = .returned (.int .i64 o.length) ∧ w = w' := by
  have c0 : w.cell? ⟨G, 0, none⟩ = some (.slice (some ⟨q, 0, none⟩) o.length o.length) := a.blk.cell 0
  clear a
  go_enter Tryz.func116, Tryz.ntmps116
  go_wp2
  go_ret
  exact ⟨rfl, rfl⟩
theorem confs_any (b0 G q h cB : Nat) (o : List Cf) (w : World) (a : AtX w b0 G q h cB o) :
    Calls Tryz.prog 69 #[.pointer (some ⟨G, 0, none⟩)] w fun e w' => ∃ o2 : List Cf, e = .returned (.slice (some ⟨w.heap.size, 0, none⟩) o.length o.length) ∧ CpRel w o o.length o.length o2 [] w' := by
  have c0 : w.cell? ⟨G, 0, none⟩ = some (.slice (some ⟨q, 0, none⟩) o.length o.length) := a.blk.cell 0
  have HC := Lib.hid a.cfs
  have h4 := a.few.1.2
  have HF := Lib.hid a.few.2
  clear a
  go_enter Tryz.func69, Tryz.ntmps69
  go_wp2_with (fail)
  refine (copy_any _ _ _ _ o _ HC.out (Nat.le_refl _) (by omega) HF.out).mono ?_
  rintro e w1 ⟨o2, rfl, hcp⟩
  have CP := Lib.hid hcp
  clear hcp
  go_wp2
  go_ret
  exact ⟨o2, rfl, CP.out⟩
theorem atlOf_any (b0 G q h cB : Nat) (o : List Cf) (k : Nat) (hk : k < 4294967296) (w : World) (a : AtX w b0 G q h cB o) :
    Calls Tryz.prog 59 #[.pointer (some ⟨G, 0, none⟩), .int .u32 k] w fun e w' => ∃ y : Cf, e = .returned y.agg ∧ (o.map Cf.val)[(chainV k o.length).toNat]? = some y.val ∧ CfOwn w' w.heap.size y ∧ Below w.heap.size w w' := by
  have h1 := a.few.1.1
  have h4 := a.few.1.2
  obtain ⟨n, hn⟩ : ∃ n : Nat, o.length = n := ⟨_, rfl⟩
  rw [hn] at h1 h4 ⊢
  obtain ⟨c, hc⟩ : ∃ c : Nat, chainV k n = c := ⟨(chainV k n).toNat, by have := chainV_lt k n (by omega); omega⟩
  have hcn : c < n := by have := chainV_lt k n (by omega); omega
  have CH := chain_any k hk n (by omega)
  rw [hc] at CH ⊢
  clear hc
  rw [Int.toNat_natCast]
  have hb2 : Hid (Blk (w.alloc (.cells #[.int .i64 0, .int .u64 0, .slice none 0 0, .bool false, .int .i64 0] 44)) w.heap.size 44 #[.int .i64 0, .int .u64 0, .slice none 0 0, .bool false, .int .i64 0]) := Lib.hid (Blk.new w _ _)
  have AX := Lib.hid (a.below ((Below.refl _ _).alloc (Nat.le_refl _) (.cells #[.int .i64 0, .int .u64 0, .slice none 0 0, .bool false, .int .i64 0] 44)))
  have HNL := Lib.hid hn
  clear a hn
  go_enter Tryz.func59, Tryz.ntmps59
  go_wp2_with (fail)
  refine (confs_any b0 G q h cB o _ AX.out).mono ?_
  rintro e w1 ⟨o2, rfl, hcp⟩
  have hs := hcp.bel.size
  rw [HNL.out] at hcp ⊢
  have CI := hcp.cfs
  simp only [World.size_alloc] at CI hs
  obtain ⟨b, off, x, hA, _, hx, hxin, q0, q1, q2, q3, q4⟩ := CI.at_ hcn
  injection hA with hA
  injection hA with hA1 hA2
  subst hA1 hA2
  simp only [Nat.zero_add] at q0 q1 q2 q3 q4
  have ho2 := hcp.own x (List.mem_of_getElem? hx)
  simp only [World.size_alloc] at ho2
  have HV : Hid ((o.map Cf.val)[c]? = some x.val) := Lib.hid (by
    have hv := hcp.val
    rw [List.take_of_length_le (by rw [HNL.out]; exact Nat.le_refl _)] at hv
    rw [← hv, List.getElem?_map, hx]; rfl)
  have HO := Lib.hid ho2
  have b2 := hb2.out.below hcp.bel (by simp)
  have d0 : w1.cell? ⟨w.heap.size, 0, none⟩ = some (.int .i64 0) := by rw [b2.cell]; rfl
  have d1 : w1.cell? ⟨w.heap.size, 1, none⟩ = some (.int .u64 0) := by rw [b2.cell]; rfl
  have d2 : w1.cell? ⟨w.heap.size, 2, none⟩ = some (.slice none 0 0) := by rw [b2.cell]; rfl
  have d3 : w1.cell? ⟨w.heap.size, 3, none⟩ = some (.bool false) := by rw [b2.cell]; rfl
  have d4 : w1.cell? ⟨w.heap.size, 4, none⟩ = some (.int .i64 0) := by rw [b2.cell]; rfl
  have e0 := b2.frozen 0
  have e1 := b2.frozen 1
  have e2 := b2.frozen 2
  have e3 := b2.frozen 3
  have e4 := b2.frozen 4
  have B2 := Lib.hid b2
  have A1 := Lib.hid (AX.out.below hcp.bel)
  have BE := Lib.hid (((Below.refl w.heap.size w).alloc (Nat.le_refl _) (.cells #[.int .i64 0, .int .u64 0, .slice none 0 0, .bool false, .int .i64 0] 44)).trans (hcp.bel.mono (by simp)))
  have CC : Hid (Calls Tryz.prog 116 #[.pointer (some ⟨G, 0, none⟩)] w1 fun e w' => e = .returned (.int .i64 n) ∧ w1 = w') := Lib.hid (by
    have := chains_any b0 G q h cB o w1 A1.out
    rwa [HNL.out] at this)
  clear hcp CI hx hxin ho2 b2 hb2 AX
  go_wp2_with (first | (go_at_call 116; refine CC.out.mono ?_; rintro e w' ⟨rfl, rfl⟩) | (go_at_call 104; refine (CH _).mono ?_; rintro e w' ⟨rfl, rfl⟩) | fail)
  have F := ((((B2.out.set_ 0 (.int .i64 x.ch)).set_ 1 (.int .u64 x.ep)).set_ 2 (.slice x.A x.len x.cap)).set_ 3 (.bool x.fr)).set_ 4 (.int .i64 x.jn)
  have G0 := (F.cell 0).trans (show _ = some (Value.int .i64 x.ch) from rfl)
  have G1 := (F.cell 1).trans (show _ = some (Value.int .u64 x.ep) from rfl)
  have G2 := (F.cell 2).trans (show _ = some (Value.slice x.A x.len x.cap) from rfl)
  have G3 := (F.cell 3).trans (show _ = some (Value.bool x.fr) from rfl)
  have G4 := (F.cell 4).trans (show _ = some (Value.int .i64 x.jn) from rfl)
  clear F
  refine bodyPost_ret (v := x.agg) (by simp [results, Tryz.results59, go_sem, G0, G1, G2, G3, G4]) rfl ⟨x, rfl, HV.out, ?_, ?_⟩
  · refine own_mono (base := w.heap.size + 1 + 1) ?_ (by omega)
    iterate 5 refine ownsRow_setCell_below ?_ (by simp; omega) _
    exact HO.out
  · iterate 5 refine Below.setCell ?_ (by simp) _
    exact BE.out
/-- a configuration in which every key lies, of those that there are -/
def OneOf (vs : List (Int × Int × List Int × Bool × Int)) (k : Nat) (y : Cf) : Prop := vs[(chainV k vs.length).toNat]? = some y.val ∧ y.zs.length = y.len
theorem aHead_any (b0 G q h cB : Nat) (o : List Cf) (k : Nat) (hk : k < 4294967296) (w : World) (a : AtX w b0 G q h cB o) :
    Calls Tryz.prog 109 #[.pointer (some ⟨G, 0, none⟩), .int .u32 k] w fun e w' => ∃ y : Cf, OneOf (o.map Cf.val) k y ∧ e = .returned (.int .i64 y.headV) ∧ Below w.heap.size w w' := by
  have O := Lib.hid (atlOf_any b0 G q h cB o k hk w a)
  clear a
  go_enter Tryz.func109, Tryz.ntmps109
  go_wp2_with (fail)
  refine O.out.mono ?_
  rintro e w1 ⟨y, rfl, hy, ho, hb⟩
  have HY : Hid (OneOf (o.map Cf.val) k y) := Lib.hid ⟨by rw [List.length_map]; exact hy, ho.len_⟩
  have HI := Lib.hid ho.in_
  have HB := Lib.hid hb
  clear hy ho hb
  go_wp2_with (fail)
  refine (head_any y w1.heap.size w1 HI.out (Nat.le_refl _)).mono ?_
  rintro e w2 ⟨rfl, hb2⟩
  have HB2 := Lib.hid hb2
  clear hb2
  go_wp2
  go_ret
  exact ⟨y, HY.out, rfl, HB.out.trans (HB2.out.mono HB.out.size)⟩
theorem aReader_any (b0 G q h cB : Nat) (o : List Cf) (k : Nat) (hk : k < 4294967296) (p : Int) (hp : p ≤ 9223372036854775807) (w : World) (a : AtX w b0 G q h cB o) :
    Calls Tryz.prog 108 #[.pointer (some ⟨G, 0, none⟩), .int .u32 k, .int .i64 p] w fun e w' => ∃ y : Cf, OneOf (o.map Cf.val) k y ∧ e = .returned (.int .i64 (y.readV p)) ∧ Below w.heap.size w w' := by
  have O := Lib.hid (atlOf_any b0 G q h cB o k hk w a)
  clear a
  go_enter Tryz.func108, Tryz.ntmps108
  go_wp2_with (fail)
  refine O.out.mono ?_
  rintro e w1 ⟨y, rfl, hy, ho, hb⟩
  have HY : Hid (OneOf (o.map Cf.val) k y) := Lib.hid ⟨by rw [List.length_map]; exact hy, ho.len_⟩
  have HI := Lib.hid ho.in_
  have HB := Lib.hid hb
  clear hy ho hb
  go_wp2_with (fail)
  refine (reader_any y p hp w1.heap.size w1 HI.out (Nat.le_refl _)).mono ?_
  rintro e w2 ⟨rfl, hb2⟩
  have HB2 := Lib.hid hb2
  clear hb2
  go_wp2
  go_ret
  exact ⟨y, HY.out, rfl, HB.out.trans (HB2.out.mono HB.out.size)⟩
end Go.Proofs.YtnnegldaekmgbaaGreatDoor
