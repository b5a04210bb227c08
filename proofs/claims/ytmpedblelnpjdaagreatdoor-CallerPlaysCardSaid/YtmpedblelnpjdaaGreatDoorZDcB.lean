/- The document's caller: ask. -/
import Derived.Test.YtmpedblelnpjdaaGreatDoorZDcA
import Derived.Test.YtmpedblelnpjdaaGreatDoorZTq
import Derived.Test.YtmpedblelnpjdaaGreatDoorZTk
namespace Go.Proofs.YtmpedblelnpjdaaGreatDoor
open Go.RowKit
set_option linter.unusedSimpArgs false
set_option linter.unusedVariables false
set_option maxHeartbeats 8000000
set_option maxRecDepth 100000
attribute [local go_sem] Opn.agg Opn.cells Cf.agg Cf.cells Up.agg Up.cells
theorem load_cf5 (y : Cf) (g : Nat) (w : World) (h : Blk w g 33 y.cells) : (loadVar 33 ⟨g, 0, none⟩).run Tryz.prog w = .ok (.agg #[.int .i64 y.ch, .int .u64 y.ep, .slice y.A y.len y.cap, .bool y.fr, .int .i64 y.jn]) w :=
 run_loadVar_row w g 33 33 y.cells (0, 0) _ h Tryz.underlying33 rfl cfInfo5
def rdLt (f tt ch ep num key : Int) : Lt := { Lt.zero with kd := 19, fr := f, tw := tt, ch := ch, ep := ep, nu := num, ky := key }
def wrLt (f tt ch ep : Int) (A : Option Addr) : Lt := { Lt.zero with kd := 17, fr := f, tw := tt, ch := ch, ep := ep, uA := A, un := 1, up := 1 }
theorem rd_hdr (f tt ch ep num key : Int) (w : World) : (Instr.build 37 #[(0, .int .i64 19), (1, .int .i64 f), (2, .int .i64 tt), (3, .int .i64 ch), (4, .int .u64 ep), (6, .int .u64 num), (11, .int .u32 key)]).run Tryz.prog w = .ok (.agg (rdLt f tt ch ep num key).cells) w := by kernel_rfl
theorem wr_hdr (f tt ch ep : Int) (A : Option Addr) (w : World) : (Instr.build 37 #[(0, .int .i64 17), (1, .int .i64 f), (2, .int .i64 tt), (3, .int .i64 ch), (4, .int .u64 ep), (16, .slice A 1 1)]).run Tryz.prog w = .ok (.agg (wrLt f tt ch ep A).cells) w := by kernel_rfl
theorem ask_plain {l : Lt} (hsl : ((l.fn = 0 ∧ l.fp = 0) ∧ (l.vn = 0 ∧ l.vp = 0) ∧ (l.dn = 0 ∧ l.dp = 0)) ∧ l.un = 0 ∧ l.up = 0) (hwf : LWf l) : (∀ (W : World) (B : Nat), LIn W B ⟨l, [], [], [], []⟩) ∧ LV.near ⟨l, [], [], [], []⟩ :=
 ⟨fun W B => lin_ask hsl.1 hwf ⟨by rw [hsl.2.1]; exact Reads.none_, fun u hu => (by cases hu)⟩ (by rw [hsl.2.1, hsl.2.2]; decide), ⟨fun u hu => (by cases hu), by show l.un ≤ 1000000; rw [hsl.2.1]; decide, by show l.vn ≤ 1000000; rw [hsl.1.2.1.1]; decide, by show l.dn ≤ 1000000; rw [hsl.1.2.2.1]; decide, by show l.fn ≤ 1000000; rw [hsl.1.1.1]; decide⟩⟩
theorem reads_blk_up' {W : World} {q B : Nat} {u : Up} (h : Blk W q 145 u.cells) (hq : q < B) : Reads W B 7 (some ⟨q, 0, none⟩) 1 ([u].flatMap Up.row) := by
 refine ⟨rfl, fun _ => ⟨_, rfl, hq, fun j v hv => ?_⟩⟩
 rw [Go.WideShapes.add_plain, h.cell]
 simpa [Up.row, Up.cells] using hv
theorem ask_near {l : Lt} {u : Up} (hl : (l.un, l.vn, l.dn, l.fn) = (1, 0, 0, 0)) (hb : u.bs.length ≤ 1000000) (hu : u.bs.length = u.n) : LV.near ⟨l, [], [], [u], []⟩ := by
 simp only [Prod.mk.injEq] at hl
 obtain ⟨a, b, c, d⟩ := hl
 exact ⟨fun u' hu' => by rw [List.mem_singleton] at hu'; rw [hu', ← hu]; exact hb, by show l.un ≤ 1000000; rw [a]; decide, by show l.vn ≤ 1000000; rw [b]; decide, by show l.dn ≤ 1000000; rw [c]; decide, by show l.fn ≤ 1000000; rw [d]; decide⟩
def DAskP (B : Nat) (vs : List CV) (k : Nat) (c : Cl) (w : World) (e : Ending) (w' : World) : Prop :=
 ∃ (q : Nat) (x : LV), e = .returned (.slice (some ⟨q, 0, none⟩) 1 1) ∧ w.heap.size ≤ q ∧ Blk w' q 37 x.l.cells ∧ (∀ W, Chg w' W (fun i => (B ≤ i ∧ i < w.heap.size) ∨ q ≤ i) → LIn W q x) ∧ x.near ∧ AskOf vs k c x.val ∧ Below w.heap.size w w'
theorem dask_any (c : Cl) (d : DA) (l : List Cf) (k B : Nat) (w : World) (h : DIn w B c d l) (hB : B ≤ w.heap.size) (D : Nat) (hop : OpIn w D (c.op.at_ d.oA d.oc)) (hD : D ≤ w.heap.size) (hk : c.op.key = (k : Int)) (hkk : k < 4294967296) (h1 : 1 ≤ l.length) (h4 : l.length ≤ 4) (hvs : VsOk (l.map Cf.val)) (hcl : c.cl ≤ 6) (hnum : c.num ≤ 1000000) (hn : c.op.n ≤ 1000000) :
  Calls Tryz.prog 72 #[.agg (c.dcells d)] w (DAskP D (l.map Cf.val) k c w) := by
 have HOPN := Lib.hid hop
 have HVS := Lib.hid hvs
 have HKK := Lib.hid hk
 have HBN : Hid (c.op.bs.length = c.op.n) := Lib.hid (by have := h.op.rd.1; simpa [Opn.at_] using this)
 have HD := Lib.hid h
 obtain ⟨W1, hW1⟩ : ∃ W1, W1 = w.alloc (.cells (c.dcells d) 62) := ⟨_, rfl⟩
 have hb1 : Blk W1 w.heap.size 62 (c.dcells d) := by rw [hW1]; exact Blk.new _ _ _
 have HB1 : Hid (Below w.heap.size w W1) := Lib.hid (by rw [hW1]; exact (Below.refl _ _).alloc (Nat.le_refl _) _)
 have HX1 := Lib.hid hb1
 have HW1 := Lib.hid hW1
 have CH := Lib.hid (dchain_any c d l k B W1 (h.below (HB1.out.mono hB)) (Nat.le_trans hB HB1.out.size) hk hkk h1 h4)
 clear h hop hk hvs hW1 hb1
 go_enter Tryz.func72, Tryz.ntmps72
 go_upto_region 1 with (fail)
 rw [show w.alloc (.cells (c.dcells d) 62) = W1 from HW1.out.symm]
 clear HW1
 iterate 1 go_step
 refine wpList_load_row rfl 62 (.tmp 1) rfl w.heap.size rfl 62 (c.dcells d) (0, 0) _ HX1.out Tryz.underlying62 rfl dcInfo ?_
 go_wp2_with (fail)
 refine CH.out.mono ?_
 rintro e w2 ⟨y, rfl, hyl, hb2⟩
 have HB2 := Lib.hid (HB1.out.trans (hb2.mono HB1.out.size))
 have HX2 := Lib.hid (HX1.out.below hb2 HX1.out.lt)
 have hyin : CfIn w2 B y := (HD.out.cf.below (HB2.out.mono hB)).mem _ (List.mem_of_getElem? hyl)
 have HYI := Lib.hid hyin
 have hlen := hyin.len_eq
 have HONE : Hid (OneOf (l.map Cf.val) k y) := Lib.hid ⟨by rw [List.length_map, List.getElem?_map, hyl]; rfl, hlen⟩
 clear CH HX1 HB1 hb2 hyin hlen hyl
 go_upto_region 2 with (fail)
 obtain ⟨g3, hg3⟩ : ∃ g3, g3 = w2.heap.size := ⟨_, rfl⟩
 obtain ⟨W3, hW3⟩ : ∃ W3, W3 = w2.alloc (.cells #[.int .i64 y.ch, .int .u64 y.ep, .slice y.A y.len y.cap, .bool y.fr, .int .i64 y.jn] 33) := ⟨_, rfl⟩
 have lx2 := HX2.out.lt
 have HX3 : Hid (Blk W3 w.heap.size 62 (c.dcells d)) := Lib.hid (by rw [hW3]; exact HX2.out.alloc _)
 have HY3 : Hid (Blk W3 g3 33 y.cells) := Lib.hid (by rw [hW3, hg3]; exact Blk.new _ _ _)
 have HB3 : Hid (Below w.heap.size w W3) := Lib.hid (by rw [hW3]; exact HB2.out.alloc HB2.out.size _)
 have HYI3 : Hid (CfIn W3 B y) := Lib.hid (by rw [hW3]; exact HYI.out.alloc (Nat.le_trans hB HB2.out.size) _)
 rw [← hg3, ← hW3]
 have n3 : w.heap.size < g3 := by omega
 clear HX2 HB2 HYI hW3 hg3 lx2
 have x0 : W3.cell? ⟨w.heap.size, 0, none⟩ = some (.int .i64 c.cl) := HX3.out.cell 0
 have x2 : W3.cell? ⟨w.heap.size, 2, none⟩ = some (.int .u64 c.num) := HX3.out.cell 2
 have x5 : W3.cell? ⟨w.heap.size, 5, none⟩ = some (.int .i64 c.op.kd) := HX3.out.cell 5
 have x6 : W3.cell? ⟨w.heap.size, 6, none⟩ = some (.int .u32 (k : Int)) := (HX3.out.cell 6).trans (by rw [← HKK.out]; rfl)
 have x9 : W3.cell? ⟨w.heap.size, 9, none⟩ = some (.int .i64 c.op.pick) := HX3.out.cell 9
 have y0 : W3.cell? ⟨g3, 0, none⟩ = some (.int .i64 y.ch) := HY3.out.cell 0
 have y1 : W3.cell? ⟨g3, 1, none⟩ = some (.int .u64 (y.ep : Int)) := HY3.out.cell 1
 have hB3 : B ≤ W3.heap.size := Nat.le_trans hB HB3.out.size
 by_cases hk1 : c.op.kd = 1
 ·have q1 : (c.op.kd == 1) = true := by simp [hk1]
  have HK1 := Lib.hid hk1
  have RD := Lib.hid (fun W (h9 : Below W3.heap.size W3 W) => refReader_any y c.op.pick (HD.out.op.wf.pick.2) B W (HYI3.out.below (h9.mono hB3)) (Nat.le_trans hB3 h9.size))
  clear hk1
  go_upto_region 3 with (fail)
  have hz := rd_hdr
  have e2 : IntKind.i64.wrap (200 + (c.cl : Int)) = 200 + (c.cl : Int) := by rw [IntKind.wrap_i64]; omega
  have hz2 := fun (l : Lt) => one_ltc l
  have HX : Hid (Blk W3.drew w.heap.size 62 (c.dcells d)) := Lib.hid HX3.out.drew
  have HY : Hid (Blk W3.drew g3 33 y.cells) := Lib.hid HY3.out.drew
  have HB : Hid (Below w.heap.size w W3.drew) := Lib.hid HB3.out.drew
  have HB9 : Hid (Below W3.heap.size W3 W3.drew) := Lib.hid (Below.refl _ _).drew
  refine wp_region_held_drew (S := fun wq => wq.cell? ⟨w.heap.size, 0, none⟩ = some (.int .i64 c.cl) ∧ wq.cell? ⟨w.heap.size, 2, none⟩ = some (.int .u64 c.num) ∧ wq.cell? ⟨w.heap.size, 6, none⟩ = some (.int .u32 (k : Int)) ∧ wq.cell? ⟨w.heap.size, 9, none⟩ = some (.int .i64 c.op.pick) ∧ (wq.cell? ⟨g3, 0, none⟩ = some (.int .i64 y.ch) ∧ wq.cell? ⟨g3, 1, none⟩ = some (.int .u64 (y.ep : Int))) ∧ Blk wq g3 33 y.cells) (by kernel_rfl) ⟨x0, x2, x6, x9, ⟨y0, y1⟩, HY3.out⟩ (fun hHeld => ?_)
  generalize W3.drew = Vd at *
  refine tkT 0 rfl (v := ?_) ?_ ?_
  rotate_left 1
  ·(intro wq hSw; (try dsimp only at hSw); go_simp; (try with_reducible rfl))
  try simp only [Act.put, pS]
  refine tkT 1 rfl (v := ?_) ?_ ?_
  rotate_left 1
  ·(intro wq hSw; (try dsimp only at hSw); go_simp; (try with_reducible rfl))
  try simp only [Act.put, pS]
  refine tkT 2 rfl (v := ?_) ?_ ?_
  rotate_left 1
  ·(intro wq hSw; (try dsimp only at hSw); go_simp; (try with_reducible rfl))
  try simp only [Act.put, pS]
  refine tkT 3 rfl (v := (.agg #[.int .i64 y.ch, .int .u64 y.ep, .slice y.A y.len y.cap, .bool y.fr, .int .i64 y.jn])) ?_ ?_
  ·exact fun wq hSw => exec_load_row rfl _ rfl (load_cf5 y _ wq (by first | exact hSw.2.2.2.2.2 | exact hSw.2.2.1))
  try simp only [Act.put, pS]
  refine tkT 4 rfl (v := ?_) ?_ ?_
  rotate_left 1
  ·(intro wq hSw; (try dsimp only at hSw); go_simp; (try with_reducible rfl))
  try simp only [Act.put, pS]
  refine tkT 5 rfl (v := ?_) ?_ ?_
  rotate_left 1
  ·(intro wq hSw; (try dsimp only at hSw); go_simp; (try with_reducible rfl))
  try simp only [Act.put, pS]
  refine tkT 6 rfl (v := ?_) ?_ ?_
  rotate_left 1
  ·(intro wq hSw; (try dsimp only at hSw); go_simp; (try with_reducible rfl))
  try simp only [Act.put, pS]
  refine tkT 8 rfl (v := ?_) ?_ ?_
  rotate_left 1
  ·(intro wq hSw; (try dsimp only at hSw); go_simp; (try with_reducible rfl))
  try simp only [Act.put, pS]
  refine tkT 9 rfl (v := ?_) ?_ ?_
  rotate_left 1
  ·(intro wq hSw; (try dsimp only at hSw); go_simp; (try with_reducible rfl))
  try simp only [Act.put, pS]
  refine tkT 10 rfl (v := ?_) ?_ ?_
  rotate_left 1
  ·(intro wq hSw; (try dsimp only at hSw); go_simp; (try with_reducible rfl))
  try simp only [Act.put, pS]
  refine tkT 11 rfl (v := ?_) ?_ ?_
  rotate_left 1
  ·(intro wq hSw; (try dsimp only at hSw); go_simp; (try with_reducible rfl))
  try simp only [Act.put, pS]
  refine tkT 12 rfl (v := ?_) ?_ ?_
  rotate_left 1
  ·(intro wq hSw; (try dsimp only at hSw); go_simp; (try with_reducible rfl))
  try simp only [Act.put, pS]
  refine tkT 13 rfl (v := ?_) ?_ ?_
  rotate_left 1
  ·(intro wq hSw; (try dsimp only at hSw); go_simp; (try with_reducible rfl))
  try simp only [Act.put, pS]
  refine tkT 14 rfl (v := ?_) ?_ ?_
  rotate_left 1
  ·(intro wq hSw; (try dsimp only at hSw); go_simp; (try with_reducible rfl))
  try simp only [Act.put, pS]
  refine tkT 15 rfl (v := ?_) ?_ ?_
  rotate_left 1
  ·(intro wq hSw; (try dsimp only at hSw); go_simp; (try with_reducible rfl))
  try simp only [Act.put, pS]
  refine tkT 16 rfl (v := ?_) ?_ ?_
  rotate_left 1
  ·(intro wq hSw; (try dsimp only at hSw); go_simp; (try with_reducible rfl))
  try simp only [Act.put, pS]
  refine wpAnyH_ready (rs := [7]) (by kernel_rfl) (by simp) ?_
  refine (AllReadyH.cons rfl (fun K hK => ?_) AllReadyH.nil)
  go_simp
  refine (RD.out _ HB9.out).mono ?_
  rintro e x7 ⟨rfl, h9⟩
  replace HB := Lib.hid (HB.out.trans (h9.mono HB.out.size))
  replace HB9 := Lib.hid (HB9.out.trans (h9.mono HB9.out.size))
  replace HX := Lib.hid (HX.out.below h9 HX.out.lt)
  replace HY := Lib.hid (HY.out.below h9 HY.out.lt)
  have HS : x7.cell? ⟨w.heap.size, 0, none⟩ = some (.int .i64 c.cl) ∧ x7.cell? ⟨w.heap.size, 2, none⟩ = some (.int .u64 c.num) ∧ x7.cell? ⟨w.heap.size, 6, none⟩ = some (.int .u32 (k : Int)) ∧ x7.cell? ⟨w.heap.size, 9, none⟩ = some (.int .i64 c.op.pick) ∧ (x7.cell? ⟨g3, 0, none⟩ = some (.int .i64 y.ch) ∧ x7.cell? ⟨g3, 1, none⟩ = some (.int .u64 (y.ep : Int))) ∧ Blk x7 g3 33 y.cells := ⟨HX.out.cell 0, HX.out.cell 2, (HX.out.cell 6).trans (by rw [← HKK.out]; rfl), HX.out.cell 9, ⟨HY.out.cell 0, HY.out.cell 1⟩, HY.out⟩
  clear h9
  refine hK.out _ _ ?_ (fun hHeld => ?_)
  ·first | exact HS | go_keep
  clear hK K
  try simp only [Act.put, pS]
  refine tkT 17 rfl (v := ?_) ?_ ?_
  rotate_left 1
  ·(intro wq hSw; (try dsimp only at hSw); go_simp; (try with_reducible rfl))
  try simp only [Act.put, pS]
  refine wpAnyH_ready (rs := [18]) (by kernel_rfl) (by simp) ?_
  refine (AllReadyH.cons rfl (fun K hK => ?_) AllReadyH.nil)
  go_simp
  have hq : w.heap.size ≤ x7.heap.size := HB.out.size
  have HL : Hid (Blk (x7.alloc (.cells (rdLt (200 + (c.cl : Int)) (y.readV c.op.pick) y.ch (y.ep : Int) (c.num : Int) (k : Int)).cells 37)) x7.heap.size 37 (rdLt (200 + (c.cl : Int)) (y.readV c.op.pick) y.ch (y.ep : Int) (c.num : Int) (k : Int)).cells) := Lib.hid (Blk.new _ _ _)
  replace HB := Lib.hid (HB.out.alloc HB.out.size (.cells (rdLt (200 + (c.cl : Int)) (y.readV c.op.pick) y.ch (y.ep : Int) (c.num : Int) (k : Int)).cells 37))
  replace HX := Lib.hid (HX.out.alloc (.cells (rdLt (200 + (c.cl : Int)) (y.readV c.op.pick) y.ch (y.ep : Int) (c.num : Int) (k : Int)).cells 37))
  replace HY := Lib.hid (HY.out.alloc (.cells (rdLt (200 + (c.cl : Int)) (y.readV c.op.pick) y.ch (y.ep : Int) (c.num : Int) (k : Int)).cells 37))
  have HS : (x7.alloc (.cells (rdLt (200 + (c.cl : Int)) (y.readV c.op.pick) y.ch (y.ep : Int) (c.num : Int) (k : Int)).cells 37)).cell? ⟨w.heap.size, 0, none⟩ = some (.int .i64 c.cl) ∧ (x7.alloc (.cells (rdLt (200 + (c.cl : Int)) (y.readV c.op.pick) y.ch (y.ep : Int) (c.num : Int) (k : Int)).cells 37)).cell? ⟨w.heap.size, 2, none⟩ = some (.int .u64 c.num) ∧ (x7.alloc (.cells (rdLt (200 + (c.cl : Int)) (y.readV c.op.pick) y.ch (y.ep : Int) (c.num : Int) (k : Int)).cells 37)).cell? ⟨w.heap.size, 6, none⟩ = some (.int .u32 (k : Int)) ∧ (x7.alloc (.cells (rdLt (200 + (c.cl : Int)) (y.readV c.op.pick) y.ch (y.ep : Int) (c.num : Int) (k : Int)).cells 37)).cell? ⟨w.heap.size, 9, none⟩ = some (.int .i64 c.op.pick) ∧ ((x7.alloc (.cells (rdLt (200 + (c.cl : Int)) (y.readV c.op.pick) y.ch (y.ep : Int) (c.num : Int) (k : Int)).cells 37)).cell? ⟨g3, 0, none⟩ = some (.int .i64 y.ch) ∧ (x7.alloc (.cells (rdLt (200 + (c.cl : Int)) (y.readV c.op.pick) y.ch (y.ep : Int) (c.num : Int) (k : Int)).cells 37)).cell? ⟨g3, 1, none⟩ = some (.int .u64 (y.ep : Int))) ∧ Blk (x7.alloc (.cells (rdLt (200 + (c.cl : Int)) (y.readV c.op.pick) y.ch (y.ep : Int) (c.num : Int) (k : Int)).cells 37)) g3 33 y.cells := ⟨HX.out.cell 0, HX.out.cell 2, (HX.out.cell 6).trans (by rw [← HKK.out]; rfl), HX.out.cell 9, ⟨HY.out.cell 0, HY.out.cell 1⟩, HY.out⟩
  refine hK.out _ _ ?_ (fun hHeld => ?_)
  ·first | exact HS | go_keep
  clear hK K
  try simp only [Act.put, pS]
  refine tkT 19 rfl (v := ?_) ?_ ?_
  rotate_left 1
  ·(intro wq hSw; (try dsimp only at hSw); go_simp; (try with_reducible rfl))
  try simp only [Act.put, pS]
  refine wpAnyH_done (by kernel_rfl) ?_ _
  go_wp2_with (fail)
  go_ret
  have HL5 : rdLt (200 + (c.cl : Int)) (y.readV c.op.pick) y.ch (y.ep : Int) (c.num : Int) (k : Int) = askLt c (200 + c.cl) (askTo c y) y none := by unfold askLt askTo askHd rdLt; rw [if_pos HK1.out, if_pos HK1.out, ← HKK.out]; simp only [Int.natCast_add]; rfl
  have hwf : LWf (askLt c (200 + c.cl) (askTo c y) y none) := ask_wf (one_right HVS.out HONE.out) (one_right HVS.out HONE.out) (by have := (HVS.out _ (List.mem_of_getElem? HONE.out.1)).2; exact Int.ofNat_le.1 this) hcl hnum ⟨by rw [HKK.out]; omega, by rw [HKK.out]; omega⟩
  have hsl : (((askLt c (200 + c.cl) (askTo c y) y none).fn = 0 ∧ (askLt c (200 + c.cl) (askTo c y) y none).fp = 0) ∧ ((askLt c (200 + c.cl) (askTo c y) y none).vn = 0 ∧ (askLt c (200 + c.cl) (askTo c y) y none).vp = 0) ∧ ((askLt c (200 + c.cl) (askTo c y) y none).dn = 0 ∧ (askLt c (200 + c.cl) (askTo c y) y none).dp = 0)) ∧ (askLt c (200 + c.cl) (askTo c y) y none).un = 0 ∧ (askLt c (200 + c.cl) (askTo c y) y none).up = 0 := by unfold askLt; rw [if_pos HK1.out]; exact ⟨⟨⟨rfl, rfl⟩, ⟨rfl, rfl⟩, ⟨rfl, rfl⟩⟩, rfl, rfl⟩
  have hof : AskOf (l.map Cf.val) k c (LV.mk (askLt c (200 + c.cl) (askTo c y) y none) [] [] [] []).val := ask_of HONE.out HONE.out (by unfold askUs; rw [if_pos HK1.out])
  rw [← HL5] at hwf hsl hof
  exact ⟨_, ⟨rdLt (200 + (c.cl : Int)) (y.readV c.op.pick) y.ch (y.ep : Int) (c.num : Int) (k : Int), [], [], [], []⟩, rfl, hq, HL.out, fun W _ => (ask_plain hsl hwf).1 _ _, (ask_plain hsl hwf).2, hof, HB.out⟩
 ·have q1 : (c.op.kd == 1) = false := by simp [hk1]
  have RQ := Lib.hid (fun W => refRequest_any (c.op.at_ d.oA d.oc) c.cl c.num W HD.out.op.wf hn (by omega) (by omega))
  have HK1 := Lib.hid hk1
  clear hk1
  have hrg : W3.rangeAt w.heap.size 5 [.int .i64 c.op.kd, .int .u32 c.op.key, .int .u64 c.op.ver, .slice d.oA c.op.n d.oc, .int .i64 c.op.pick] := by
   intro j u hu
   match j, hu with
   | 0, hu => injection hu with hu; subst hu; exact HX3.out.cell 5
   | 1, hu => injection hu with hu; subst hu; exact HX3.out.cell 6
   | 2, hu => injection hu with hu; subst hu; exact HX3.out.cell 7
   | 3, hu => injection hu with hu; subst hu; exact HX3.out.cell 8
   | 4, hu => injection hu with hu; subst hu; exact HX3.out.cell 9
   | n + 5, hu => simp at hu
  go_upto_region 4 with (fail)
  iterate 4 go_step
  refine wpList_load_mid rfl 58 (.tmp 32) rfl w.heap.size 5 rfl _ _ hrg Tryz.underlying58 rfl opInfo ?_
  go_wp2_with (fail)
  refine (RQ.out _).mono ?_
  rintro e w5 ⟨rfl, hb5⟩
  rw [show reqE (c.op.at_ d.oA d.oc) c.cl c.num = reqE c.op c.cl c.num from rfl, show reqU (c.op.at_ d.oA d.oc) c.cl c.num (c.op.at_ d.oA d.oc).A (c.op.at_ d.oA d.oc).c = reqU c.op c.cl c.num d.oA d.oc from rfl]
  have HUV := Lib.hid (reqV_val (reqE c.op c.cl c.num) c.op c.cl c.num d.oA d.oc)
  have hb9 : Below D w w5 := (HB3.out.mono hD).trans (hb5.mono (Nat.le_trans hD HB3.out.size))
  have HU9 : Hid (UpIn w5 D (reqV (reqE c.op c.cl c.num) (reqU c.op c.cl c.num d.oA d.oc))) := Lib.hid (reqV_in _ ⟨(HOPN.out.below hb9).rd, HOPN.out.hc, HOPN.out.hm, reqU_wf HOPN.out.wf (by omega) (by omega) _ _⟩)
  have HB5 : Hid (Below w.heap.size w w5) := Lib.hid (HB3.out.trans (hb5.mono HB3.out.size))
  have HX5 := Lib.hid (HX3.out.below hb5 HX3.out.lt)
  have HY5 := Lib.hid (HY3.out.below hb5 HY3.out.lt)
  have HYI5 : Hid (CfIn w5 B y) := Lib.hid (HYI3.out.below (hb5.mono hB3))
  have ly5 := HY5.out.lt
  clear hb5 hb9 x0 x2 x5 x6 x9 y0 y1 hrg HX3 HY3 HB3 HYI3 hB3
  generalize reqV (reqE c.op c.cl c.num) (reqU c.op c.cl c.num d.oA d.oc) = u at *
  go_upto_region 5 with (fail)
  obtain ⟨g5, hg5⟩ : ∃ g5, g5 = w5.heap.size := ⟨_, rfl⟩
  obtain ⟨W6, hW6⟩ : ∃ W6, W6 = w5.alloc (.cells #[.int .u64 u.seq, .int .i64 u.cl, .int .u64 u.num, .int .i64 u.kd, .int .u32 u.key, .int .u64 u.ver, .slice u.A u.n u.c] 145) := ⟨_, rfl⟩
  have HX6 : Hid (Blk W6 w.heap.size 62 (c.dcells d)) := Lib.hid (by rw [hW6]; exact HX5.out.alloc _)
  have HY6 : Hid (Blk W6 g3 33 y.cells) := Lib.hid (by rw [hW6]; exact HY5.out.alloc _)
  have HU6 : Hid (Blk W6 g5 145 u.cells) := Lib.hid (by rw [hW6, hg5]; exact Blk.new _ _ _)
  have HB6 : Hid (Below w.heap.size w W6) := Lib.hid (by rw [hW6]; exact HB5.out.alloc HB5.out.size _)
  have HYI6 : Hid (CfIn W6 B y) := Lib.hid (by rw [hW6]; exact HYI5.out.alloc (Nat.le_trans hB HB5.out.size) _)
  have HUI6 : Hid (UpIn W6 D u) := Lib.hid (by rw [hW6]; exact HU9.out.below ((Below.refl _ _).alloc (Nat.le_trans hD HB5.out.size) _))
  rw [← hg5, ← hW6]
  have n5 : g3 < g5 := by omega
  clear HX5 HB5 HY5 HYI5 HU9 hW6 hg5 ly5
  have x0 : W6.cell? ⟨w.heap.size, 0, none⟩ = some (.int .i64 c.cl) := HX6.out.cell 0
  have y0 : W6.cell? ⟨g3, 0, none⟩ = some (.int .i64 y.ch) := HY6.out.cell 0
  have y1 : W6.cell? ⟨g3, 1, none⟩ = some (.int .u64 (y.ep : Int)) := HY6.out.cell 1
  have hB6 : B ≤ W6.heap.size := Nat.le_trans hB HB6.out.size
  have hD6 : D ≤ W6.heap.size := Nat.le_trans hD HB6.out.size
  have hz := wr_hdr
  have hz2 := fun (l : Lt) => one_ltc l
  have e2 : IntKind.i64.wrap (200 + (c.cl : Int)) = 200 + (c.cl : Int) := by rw [IntKind.wrap_i64]; omega
  have RD := Lib.hid (fun W (h9 : Below W6.heap.size W6 W) => refHead_any y B W (HYI6.out.below (h9.mono hB6)) (Nat.le_trans hB6 h9.size))
  have HX : Hid (Blk W6.drew w.heap.size 62 (c.dcells d)) := Lib.hid HX6.out.drew
  have HY : Hid (Blk W6.drew g3 33 y.cells) := Lib.hid HY6.out.drew
  have HU : Hid (Blk W6.drew g5 145 u.cells) := Lib.hid HU6.out.drew
  have HB : Hid (Below w.heap.size w W6.drew) := Lib.hid HB6.out.drew
  have HB9 : Hid (Below W6.heap.size W6 W6.drew) := Lib.hid (Below.refl _ _).drew
  refine wp_region_held_drew (S := fun wq => wq.cell? ⟨w.heap.size, 0, none⟩ = some (.int .i64 c.cl) ∧ (wq.cell? ⟨g3, 0, none⟩ = some (.int .i64 y.ch) ∧ wq.cell? ⟨g3, 1, none⟩ = some (.int .u64 (y.ep : Int))) ∧ Blk wq g3 33 y.cells ∧ Blk wq g5 145 u.cells) (by kernel_rfl) ⟨x0, ⟨y0, y1⟩, HY6.out, HU6.out⟩ (fun hHeld => ?_)
  generalize W6.drew = Vd at *
  refine tkT 0 rfl (v := ?_) ?_ ?_
  rotate_left 1
  ·(intro wq hSw; (try dsimp only at hSw); go_simp; (try with_reducible rfl))
  try simp only [Act.put, pS]
  refine tkT 1 rfl (v := ?_) ?_ ?_
  rotate_left 1
  ·(intro wq hSw; (try dsimp only at hSw); go_simp; (try with_reducible rfl))
  try simp only [Act.put, pS]
  refine tkT 2 rfl (v := ?_) ?_ ?_
  rotate_left 1
  ·(intro wq hSw; (try dsimp only at hSw); go_simp; (try with_reducible rfl))
  try simp only [Act.put, pS]
  refine tkT 3 rfl (v := (.agg #[.int .i64 y.ch, .int .u64 y.ep, .slice y.A y.len y.cap, .bool y.fr, .int .i64 y.jn])) ?_ ?_
  ·exact fun wq hSw => exec_load_row rfl _ rfl (load_cf5 y _ wq (by first | exact hSw.2.2.2.2.2 | exact hSw.2.2.1))
  try simp only [Act.put, pS]
  refine tkT 5 rfl (v := ?_) ?_ ?_
  rotate_left 1
  ·(intro wq hSw; (try dsimp only at hSw); go_simp; (try with_reducible rfl))
  try simp only [Act.put, pS]
  refine tkT 6 rfl (v := ?_) ?_ ?_
  rotate_left 1
  ·(intro wq hSw; (try dsimp only at hSw); go_simp; (try with_reducible rfl))
  try simp only [Act.put, pS]
  refine tkT 7 rfl (v := ?_) ?_ ?_
  rotate_left 1
  ·(intro wq hSw; (try dsimp only at hSw); go_simp; (try with_reducible rfl))
  try simp only [Act.put, pS]
  refine tkT 8 rfl (v := ?_) ?_ ?_
  rotate_left 1
  ·(intro wq hSw; (try dsimp only at hSw); go_simp; (try with_reducible rfl))
  try simp only [Act.put, pS]
  refine tkT 9 rfl (v := (.agg #[.int .u64 u.seq, .int .i64 u.cl, .int .u64 u.num, .int .i64 u.kd, .int .u32 u.key, .int .u64 u.ver, .slice u.A u.n u.c])) ?_ ?_
  ·exact fun wq hSw => exec_load_row rfl _ rfl (load_up7 u _ wq hSw.2.2.2)
  try simp only [Act.put, pS]
  refine wpAnyH_ready (rs := [4, 10]) (by kernel_rfl) (by simp) ?_
  refine (AllReadyH.cons rfl (fun K hK => ?_) (AllReadyH.cons rfl (fun K hK => ?_) AllReadyH.nil))
  ·go_simp
   refine (RD.out _ HB9.out).mono ?_
   rintro e x4 ⟨rfl, h9⟩
   replace HB := Lib.hid (HB.out.trans (h9.mono HB.out.size))
   replace HB9 := Lib.hid (HB9.out.trans (h9.mono HB9.out.size))
   replace HX := Lib.hid (HX.out.below h9 HX.out.lt)
   replace HY := Lib.hid (HY.out.below h9 HY.out.lt)
   replace HU := Lib.hid (HU.out.below h9 HU.out.lt)
   (try replace HQ := Lib.hid (HQ.out.below h9 HQ.out.lt))
   have HS : x4.cell? ⟨w.heap.size, 0, none⟩ = some (.int .i64 c.cl) ∧ (x4.cell? ⟨g3, 0, none⟩ = some (.int .i64 y.ch) ∧ x4.cell? ⟨g3, 1, none⟩ = some (.int .u64 (y.ep : Int))) ∧ Blk x4 g3 33 y.cells ∧ Blk x4 g5 145 u.cells := ⟨HX.out.cell 0, ⟨HY.out.cell 0, HY.out.cell 1⟩, HY.out, HU.out⟩
   clear h9
   refine hK.out _ _ ?_ (fun hHeld => ?_)
   ·first | exact HS | go_keep
   clear hK K
   try simp only [Act.put, pS]
   refine wpAnyH_ready (rs := [10]) (by kernel_rfl) (by simp) ?_
   refine (AllReadyH.cons rfl (fun K hK => ?_) AllReadyH.nil)
   go_simp
   have hqB : w.heap.size ≤ x4.heap.size := HB.out.size
   have HQ : Hid (Blk (x4.alloc (.cells #[.int .u64 u.seq, .int .i64 u.cl, .int .u64 u.num, .int .i64 u.kd, .int .u32 u.key, .int .u64 u.ver, .slice u.A u.n u.c] 145)) x4.heap.size 145 u.cells) := Lib.hid (Blk.new _ _ _)
   replace HB := Lib.hid (HB.out.alloc HB.out.size (.cells #[.int .u64 u.seq, .int .i64 u.cl, .int .u64 u.num, .int .i64 u.kd, .int .u32 u.key, .int .u64 u.ver, .slice u.A u.n u.c] 145))
   replace HB9 := Lib.hid (HB9.out.alloc HB9.out.size (.cells #[.int .u64 u.seq, .int .i64 u.cl, .int .u64 u.num, .int .i64 u.kd, .int .u32 u.key, .int .u64 u.ver, .slice u.A u.n u.c] 145))
   replace HX := Lib.hid (HX.out.alloc (.cells #[.int .u64 u.seq, .int .i64 u.cl, .int .u64 u.num, .int .i64 u.kd, .int .u32 u.key, .int .u64 u.ver, .slice u.A u.n u.c] 145))
   replace HY := Lib.hid (HY.out.alloc (.cells #[.int .u64 u.seq, .int .i64 u.cl, .int .u64 u.num, .int .i64 u.kd, .int .u32 u.key, .int .u64 u.ver, .slice u.A u.n u.c] 145))
   replace HU := Lib.hid (HU.out.alloc (.cells #[.int .u64 u.seq, .int .i64 u.cl, .int .u64 u.num, .int .i64 u.kd, .int .u32 u.key, .int .u64 u.ver, .slice u.A u.n u.c] 145))
   have HS : (x4.alloc (.cells #[.int .u64 u.seq, .int .i64 u.cl, .int .u64 u.num, .int .i64 u.kd, .int .u32 u.key, .int .u64 u.ver, .slice u.A u.n u.c] 145)).cell? ⟨w.heap.size, 0, none⟩ = some (.int .i64 c.cl) ∧ ((x4.alloc (.cells #[.int .u64 u.seq, .int .i64 u.cl, .int .u64 u.num, .int .i64 u.kd, .int .u32 u.key, .int .u64 u.ver, .slice u.A u.n u.c] 145)).cell? ⟨g3, 0, none⟩ = some (.int .i64 y.ch) ∧ (x4.alloc (.cells #[.int .u64 u.seq, .int .i64 u.cl, .int .u64 u.num, .int .i64 u.kd, .int .u32 u.key, .int .u64 u.ver, .slice u.A u.n u.c] 145)).cell? ⟨g3, 1, none⟩ = some (.int .u64 (y.ep : Int))) ∧ Blk (x4.alloc (.cells #[.int .u64 u.seq, .int .i64 u.cl, .int .u64 u.num, .int .i64 u.kd, .int .u32 u.key, .int .u64 u.ver, .slice u.A u.n u.c] 145)) g3 33 y.cells ∧ Blk (x4.alloc (.cells #[.int .u64 u.seq, .int .i64 u.cl, .int .u64 u.num, .int .i64 u.kd, .int .u32 u.key, .int .u64 u.ver, .slice u.A u.n u.c] 145)) g5 145 u.cells := ⟨HX.out.cell 0, ⟨HY.out.cell 0, HY.out.cell 1⟩, HY.out, HU.out⟩
   refine hK.out _ _ ?_ (fun hHeld => ?_)
   ·first | exact HS | go_keep
   clear hK K
   generalize (x4.alloc (.cells #[.int .u64 u.seq, .int .i64 u.cl, .int .u64 u.num, .int .i64 u.kd, .int .u32 u.key, .int .u64 u.ver, .slice u.A u.n u.c] 145)) = Va at *
   try simp only [Act.put, pS]
   refine tkT 11 rfl (v := ?_) ?_ ?_
   rotate_left 1
   ·(intro wq hSw; (try dsimp only at hSw); go_simp; (try with_reducible rfl))
   try simp only [Act.put, pS]
   refine wpAnyH_ready (rs := [12]) (by kernel_rfl) (by simp) ?_
   refine (AllReadyH.cons rfl (fun K hK => ?_) AllReadyH.nil)
   go_simp
   have hq : w.heap.size ≤ Va.heap.size := HB.out.size
   have hqz : x4.heap.size < Va.heap.size := HQ.out.lt
   have hBz : D ≤ Va.heap.size := Nat.le_trans hD HB.out.size
   have HL : Hid (Blk (Va.alloc (.cells (wrLt (200 + (c.cl : Int)) y.headV y.ch (y.ep : Int) (some ⟨x4.heap.size, 0, none⟩)).cells 37)) Va.heap.size 37 (wrLt (200 + (c.cl : Int)) y.headV y.ch (y.ep : Int) (some ⟨x4.heap.size, 0, none⟩)).cells) := Lib.hid (Blk.new _ _ _)
   replace HB := Lib.hid (HB.out.alloc HB.out.size (.cells (wrLt (200 + (c.cl : Int)) y.headV y.ch (y.ep : Int) (some ⟨x4.heap.size, 0, none⟩)).cells 37))
   replace HB9 := Lib.hid (HB9.out.alloc HB9.out.size (.cells (wrLt (200 + (c.cl : Int)) y.headV y.ch (y.ep : Int) (some ⟨x4.heap.size, 0, none⟩)).cells 37))
   replace HX := Lib.hid (HX.out.alloc (.cells (wrLt (200 + (c.cl : Int)) y.headV y.ch (y.ep : Int) (some ⟨x4.heap.size, 0, none⟩)).cells 37))
   replace HY := Lib.hid (HY.out.alloc (.cells (wrLt (200 + (c.cl : Int)) y.headV y.ch (y.ep : Int) (some ⟨x4.heap.size, 0, none⟩)).cells 37))
   replace HU := Lib.hid (HU.out.alloc (.cells (wrLt (200 + (c.cl : Int)) y.headV y.ch (y.ep : Int) (some ⟨x4.heap.size, 0, none⟩)).cells 37))
   replace HQ := Lib.hid (HQ.out.alloc (.cells (wrLt (200 + (c.cl : Int)) y.headV y.ch (y.ep : Int) (some ⟨x4.heap.size, 0, none⟩)).cells 37))
   have HS : (Va.alloc (.cells (wrLt (200 + (c.cl : Int)) y.headV y.ch (y.ep : Int) (some ⟨x4.heap.size, 0, none⟩)).cells 37)).cell? ⟨w.heap.size, 0, none⟩ = some (.int .i64 c.cl) ∧ ((Va.alloc (.cells (wrLt (200 + (c.cl : Int)) y.headV y.ch (y.ep : Int) (some ⟨x4.heap.size, 0, none⟩)).cells 37)).cell? ⟨g3, 0, none⟩ = some (.int .i64 y.ch) ∧ (Va.alloc (.cells (wrLt (200 + (c.cl : Int)) y.headV y.ch (y.ep : Int) (some ⟨x4.heap.size, 0, none⟩)).cells 37)).cell? ⟨g3, 1, none⟩ = some (.int .u64 (y.ep : Int))) ∧ Blk (Va.alloc (.cells (wrLt (200 + (c.cl : Int)) y.headV y.ch (y.ep : Int) (some ⟨x4.heap.size, 0, none⟩)).cells 37)) g3 33 y.cells ∧ Blk (Va.alloc (.cells (wrLt (200 + (c.cl : Int)) y.headV y.ch (y.ep : Int) (some ⟨x4.heap.size, 0, none⟩)).cells 37)) g5 145 u.cells := ⟨HX.out.cell 0, ⟨HY.out.cell 0, HY.out.cell 1⟩, HY.out, HU.out⟩
   refine hK.out _ _ ?_ (fun hHeld => ?_)
   ·first | exact HS | go_keep
   clear hK K
   try simp only [Act.put, pS]
   refine tkT 13 rfl (v := ?_) ?_ ?_
   rotate_left 1
   ·(intro wq hSw; (try dsimp only at hSw); go_simp; (try with_reducible rfl))
   try simp only [Act.put, pS]
   refine wpAnyH_done (by kernel_rfl) ?_ _
   go_wp2_with (fail)
   go_ret
   have HL5 : (wrLt (200 + (c.cl : Int)) y.headV y.ch (y.ep : Int) (some ⟨x4.heap.size, 0, none⟩)) = askLt c (200 + c.cl) (askTo c y) y (some ⟨x4.heap.size, 0, none⟩) := by unfold askLt askTo askHd wrLt; rw [if_neg HK1.out, if_neg HK1.out]; simp only [Int.natCast_add]; rfl
   have hwf : LWf (askLt c (200 + c.cl) (askTo c y) y (some ⟨x4.heap.size, 0, none⟩)) := ask_wf (one_right HVS.out HONE.out) (one_right HVS.out HONE.out) (by have := (HVS.out _ (List.mem_of_getElem? HONE.out.1)).2; exact Int.ofNat_le.1 this) hcl hnum ⟨by rw [HKK.out]; omega, by rw [HKK.out]; omega⟩
   have hof : AskOf (l.map Cf.val) k c (LV.mk (askLt c (200 + c.cl) (askTo c y) y (some ⟨x4.heap.size, 0, none⟩)) [] [] [u] []).val := ask_of HONE.out HONE.out (by unfold askUs; rw [if_neg HK1.out]; simp only [List.map_cons, List.map_nil, HUV.out])
   rw [← HL5] at hwf hof
   have hbel : Below W6.heap.size W6 _ := HB9.out
   have hub : u.bs.length ≤ 1000000 := by
    exact rp23
   exact ⟨_, ⟨(wrLt (200 + (c.cl : Int)) y.headV y.ch (y.ep : Int) (some ⟨x4.heap.size, 0, none⟩)), [], [], [u], []⟩, rfl, hq, HL.out, fun W hW => lin_ask ⟨⟨rfl, rfl⟩, ⟨rfl, rfl⟩, ⟨rfl, rfl⟩⟩ hwf ⟨(reads_blk_up' (hW.blk HQ.out (fun e => by rcases e with e | e <;> omega)) hqz), fun u' hu' => by rw [List.mem_singleton] at hu'; rw [hu']; exact (HUI6.out.below ((hbel.mono hD6).trans (hW.below (Nat.le_trans hD6 hbel.size) (fun i hi e => by rcases e with e | e <;> omega)))).more hBz⟩ (show (1:Nat) ≤ 1 ∧ 1 ≤ maxLen by decide), ask_near rfl hub HUI6.out.len, hof, HB.out⟩
  ·go_simp
   have hqB : w.heap.size ≤ Vd.heap.size := HB.out.size
   have HQ : Hid (Blk (Vd.alloc (.cells #[.int .u64 u.seq, .int .i64 u.cl, .int .u64 u.num, .int .i64 u.kd, .int .u32 u.key, .int .u64 u.ver, .slice u.A u.n u.c] 145)) Vd.heap.size 145 u.cells) := Lib.hid (Blk.new _ _ _)
   replace HB := Lib.hid (HB.out.alloc HB.out.size (.cells #[.int .u64 u.seq, .int .i64 u.cl, .int .u64 u.num, .int .i64 u.kd, .int .u32 u.key, .int .u64 u.ver, .slice u.A u.n u.c] 145))
   replace HB9 := Lib.hid (HB9.out.alloc HB9.out.size (.cells #[.int .u64 u.seq, .int .i64 u.cl, .int .u64 u.num, .int .i64 u.kd, .int .u32 u.key, .int .u64 u.ver, .slice u.A u.n u.c] 145))
   replace HX := Lib.hid (HX.out.alloc (.cells #[.int .u64 u.seq, .int .i64 u.cl, .int .u64 u.num, .int .i64 u.kd, .int .u32 u.key, .int .u64 u.ver, .slice u.A u.n u.c] 145))
   replace HY := Lib.hid (HY.out.alloc (.cells #[.int .u64 u.seq, .int .i64 u.cl, .int .u64 u.num, .int .i64 u.kd, .int .u32 u.key, .int .u64 u.ver, .slice u.A u.n u.c] 145))
   replace HU := Lib.hid (HU.out.alloc (.cells #[.int .u64 u.seq, .int .i64 u.cl, .int .u64 u.num, .int .i64 u.kd, .int .u32 u.key, .int .u64 u.ver, .slice u.A u.n u.c] 145))
   have HS : (Vd.alloc (.cells #[.int .u64 u.seq, .int .i64 u.cl, .int .u64 u.num, .int .i64 u.kd, .int .u32 u.key, .int .u64 u.ver, .slice u.A u.n u.c] 145)).cell? ⟨w.heap.size, 0, none⟩ = some (.int .i64 c.cl) ∧ ((Vd.alloc (.cells #[.int .u64 u.seq, .int .i64 u.cl, .int .u64 u.num, .int .i64 u.kd, .int .u32 u.key, .int .u64 u.ver, .slice u.A u.n u.c] 145)).cell? ⟨g3, 0, none⟩ = some (.int .i64 y.ch) ∧ (Vd.alloc (.cells #[.int .u64 u.seq, .int .i64 u.cl, .int .u64 u.num, .int .i64 u.kd, .int .u32 u.key, .int .u64 u.ver, .slice u.A u.n u.c] 145)).cell? ⟨g3, 1, none⟩ = some (.int .u64 (y.ep : Int))) ∧ Blk (Vd.alloc (.cells #[.int .u64 u.seq, .int .i64 u.cl, .int .u64 u.num, .int .i64 u.kd, .int .u32 u.key, .int .u64 u.ver, .slice u.A u.n u.c] 145)) g3 33 y.cells ∧ Blk (Vd.alloc (.cells #[.int .u64 u.seq, .int .i64 u.cl, .int .u64 u.num, .int .i64 u.kd, .int .u32 u.key, .int .u64 u.ver, .slice u.A u.n u.c] 145)) g5 145 u.cells := ⟨HX.out.cell 0, ⟨HY.out.cell 0, HY.out.cell 1⟩, HY.out, HU.out⟩
   refine hK.out _ _ ?_ (fun hHeld => ?_)
   ·first | exact HS | go_keep
   clear hK K
   generalize (Vd.alloc (.cells #[.int .u64 u.seq, .int .i64 u.cl, .int .u64 u.num, .int .i64 u.kd, .int .u32 u.key, .int .u64 u.ver, .slice u.A u.n u.c] 145)) = Va at *
   try simp only [Act.put, pS]
   refine wpAnyH_ready (rs := [4]) (by kernel_rfl) (by simp) ?_
   refine (AllReadyH.cons rfl (fun K hK => ?_) AllReadyH.nil)
   go_simp
   refine (RD.out _ HB9.out).mono ?_
   rintro e x4 ⟨rfl, h9⟩
   replace HB := Lib.hid (HB.out.trans (h9.mono HB.out.size))
   replace HB9 := Lib.hid (HB9.out.trans (h9.mono HB9.out.size))
   replace HX := Lib.hid (HX.out.below h9 HX.out.lt)
   replace HY := Lib.hid (HY.out.below h9 HY.out.lt)
   replace HU := Lib.hid (HU.out.below h9 HU.out.lt)
   (try replace HQ := Lib.hid (HQ.out.below h9 HQ.out.lt))
   have HS : x4.cell? ⟨w.heap.size, 0, none⟩ = some (.int .i64 c.cl) ∧ (x4.cell? ⟨g3, 0, none⟩ = some (.int .i64 y.ch) ∧ x4.cell? ⟨g3, 1, none⟩ = some (.int .u64 (y.ep : Int))) ∧ Blk x4 g3 33 y.cells ∧ Blk x4 g5 145 u.cells := ⟨HX.out.cell 0, ⟨HY.out.cell 0, HY.out.cell 1⟩, HY.out, HU.out⟩
   clear h9
   refine hK.out _ _ ?_ (fun hHeld => ?_)
   ·first | exact HS | go_keep
   clear hK K
   try simp only [Act.put, pS]
   refine tkT 11 rfl (v := ?_) ?_ ?_
   rotate_left 1
   ·(intro wq hSw; (try dsimp only at hSw); go_simp; (try with_reducible rfl))
   try simp only [Act.put, pS]
   refine wpAnyH_ready (rs := [12]) (by kernel_rfl) (by simp) ?_
   refine (AllReadyH.cons rfl (fun K hK => ?_) AllReadyH.nil)
   go_simp
   have hq : w.heap.size ≤ x4.heap.size := HB.out.size
   have hqz : Vd.heap.size < x4.heap.size := HQ.out.lt
   have hBz : D ≤ x4.heap.size := Nat.le_trans hD HB.out.size
   have HL : Hid (Blk (x4.alloc (.cells (wrLt (200 + (c.cl : Int)) y.headV y.ch (y.ep : Int) (some ⟨Vd.heap.size, 0, none⟩)).cells 37)) x4.heap.size 37 (wrLt (200 + (c.cl : Int)) y.headV y.ch (y.ep : Int) (some ⟨Vd.heap.size, 0, none⟩)).cells) := Lib.hid (Blk.new _ _ _)
   replace HB := Lib.hid (HB.out.alloc HB.out.size (.cells (wrLt (200 + (c.cl : Int)) y.headV y.ch (y.ep : Int) (some ⟨Vd.heap.size, 0, none⟩)).cells 37))
   replace HB9 := Lib.hid (HB9.out.alloc HB9.out.size (.cells (wrLt (200 + (c.cl : Int)) y.headV y.ch (y.ep : Int) (some ⟨Vd.heap.size, 0, none⟩)).cells 37))
   replace HX := Lib.hid (HX.out.alloc (.cells (wrLt (200 + (c.cl : Int)) y.headV y.ch (y.ep : Int) (some ⟨Vd.heap.size, 0, none⟩)).cells 37))
   replace HY := Lib.hid (HY.out.alloc (.cells (wrLt (200 + (c.cl : Int)) y.headV y.ch (y.ep : Int) (some ⟨Vd.heap.size, 0, none⟩)).cells 37))
   replace HU := Lib.hid (HU.out.alloc (.cells (wrLt (200 + (c.cl : Int)) y.headV y.ch (y.ep : Int) (some ⟨Vd.heap.size, 0, none⟩)).cells 37))
   replace HQ := Lib.hid (HQ.out.alloc (.cells (wrLt (200 + (c.cl : Int)) y.headV y.ch (y.ep : Int) (some ⟨Vd.heap.size, 0, none⟩)).cells 37))
   have HS : (x4.alloc (.cells (wrLt (200 + (c.cl : Int)) y.headV y.ch (y.ep : Int) (some ⟨Vd.heap.size, 0, none⟩)).cells 37)).cell? ⟨w.heap.size, 0, none⟩ = some (.int .i64 c.cl) ∧ ((x4.alloc (.cells (wrLt (200 + (c.cl : Int)) y.headV y.ch (y.ep : Int) (some ⟨Vd.heap.size, 0, none⟩)).cells 37)).cell? ⟨g3, 0, none⟩ = some (.int .i64 y.ch) ∧ (x4.alloc (.cells (wrLt (200 + (c.cl : Int)) y.headV y.ch (y.ep : Int) (some ⟨Vd.heap.size, 0, none⟩)).cells 37)).cell? ⟨g3, 1, none⟩ = some (.int .u64 (y.ep : Int))) ∧ Blk (x4.alloc (.cells (wrLt (200 + (c.cl : Int)) y.headV y.ch (y.ep : Int) (some ⟨Vd.heap.size, 0, none⟩)).cells 37)) g3 33 y.cells ∧ Blk (x4.alloc (.cells (wrLt (200 + (c.cl : Int)) y.headV y.ch (y.ep : Int) (some ⟨Vd.heap.size, 0, none⟩)).cells 37)) g5 145 u.cells := ⟨HX.out.cell 0, ⟨HY.out.cell 0, HY.out.cell 1⟩, HY.out, HU.out⟩
   refine hK.out _ _ ?_ (fun hHeld => ?_)
   ·first | exact HS | go_keep
   clear hK K
   try simp only [Act.put, pS]
   refine tkT 13 rfl (v := ?_) ?_ ?_
   rotate_left 1
   ·(intro wq hSw; (try dsimp only at hSw); go_simp; (try with_reducible rfl))
   try simp only [Act.put, pS]
   refine wpAnyH_done (by kernel_rfl) ?_ _
   go_wp2_with (fail)
   go_ret
   have HL5 : (wrLt (200 + (c.cl : Int)) y.headV y.ch (y.ep : Int) (some ⟨Vd.heap.size, 0, none⟩)) = askLt c (200 + c.cl) (askTo c y) y (some ⟨Vd.heap.size, 0, none⟩) := by unfold askLt askTo askHd wrLt; rw [if_neg HK1.out, if_neg HK1.out]; simp only [Int.natCast_add]; rfl
   have hwf : LWf (askLt c (200 + c.cl) (askTo c y) y (some ⟨Vd.heap.size, 0, none⟩)) := ask_wf (one_right HVS.out HONE.out) (one_right HVS.out HONE.out) (by have := (HVS.out _ (List.mem_of_getElem? HONE.out.1)).2; exact Int.ofNat_le.1 this) hcl hnum ⟨by rw [HKK.out]; omega, by rw [HKK.out]; omega⟩
   have hof : AskOf (l.map Cf.val) k c (LV.mk (askLt c (200 + c.cl) (askTo c y) y (some ⟨Vd.heap.size, 0, none⟩)) [] [] [u] []).val := ask_of HONE.out HONE.out (by unfold askUs; rw [if_neg HK1.out]; simp only [List.map_cons, List.map_nil, HUV.out])
   rw [← HL5] at hwf hof
   have hbel : Below W6.heap.size W6 _ := HB9.out
   have hub : u.bs.length ≤ 1000000 := by
    exact rp23
   exact ⟨_, ⟨(wrLt (200 + (c.cl : Int)) y.headV y.ch (y.ep : Int) (some ⟨Vd.heap.size, 0, none⟩)), [], [], [u], []⟩, rfl, hq, HL.out, fun W hW => lin_ask ⟨⟨rfl, rfl⟩, ⟨rfl, rfl⟩, ⟨rfl, rfl⟩⟩ hwf ⟨(reads_blk_up' (hW.blk HQ.out (fun e => by rcases e with e | e <;> omega)) hqz), fun u' hu' => by rw [List.mem_singleton] at hu'; rw [hu']; exact (HUI6.out.below ((hbel.mono hD6).trans (hW.below (Nat.le_trans hD6 hbel.size) (fun i hi e => by rcases e with e | e <;> omega)))).more hBz⟩ (show (1:Nat) ≤ 1 ∧ 1 ≤ maxLen by decide), ask_near rfl hub HUI6.out.len, hof, HB.out⟩
end Go.Proofs.YtmpedblelnpjdaaGreatDoor
