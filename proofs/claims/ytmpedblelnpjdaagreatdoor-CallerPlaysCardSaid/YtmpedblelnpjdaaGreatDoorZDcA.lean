/- The document's caller: as data; chain. -/
import Derived.Test.YtmpedblelnpjdaaGreatDoorZCalT
import Derived.Test.YtmpedblelnpjdaaGreatDoorZTk
import Derived.Test.YtmpedblelnpjdaaGreatDoorZAsC
import Derived.Test.YtmpedblelnpjdaaGreatDoorZAtlL
import Derived.OpenShut
import Derived.ProofKit
import Derived.Test.YtmpedblelnpjdaaGreatDoorZAtlU
import Derived.Test.YtmpedblelnpjdaaGreatDoorZGA
namespace Go.Proofs.YtmpedblelnpjdaaGreatDoor
open Go.RowKit
set_option linter.unusedSimpArgs false
set_option linter.unusedVariables false
set_option maxHeartbeats 8000000
set_option maxRecDepth 100000
attribute [local go_sem] Cf.agg Cf.cells
structure DA where
 lA : Option Addr
 ln : Nat
 lc : Nat
 oA : Option Addr
 oc : Nat
 rA : Option Addr
 rc : Nat
 yA : Option Addr
 yc : Nat
def Cl.dcells (c : Cl) (d : DA) : Array Value := #[.int .i64 c.cl, .int .i64 c.ms, .int .u64 c.num, .int .i64 c.tk, .slice d.lA d.ln d.lc, .int .i64 c.op.kd, .int .u32 c.op.key, .int .u64 c.op.ver, .slice d.oA c.op.n d.oc, .int .i64 c.op.pick, .int .i64 c.st, .int .i64 c.rp.cd, .int .u64 c.rp.vr, .slice d.rA c.rp.n d.rc, .int .u64 c.last, .int .i64 c.ly.cd, .int .u64 c.ly.vr, .slice d.yA c.ly.n d.yc]
structure DIn (w : World) (B : Nat) (c : Cl) (d : DA) (l : List Cf) : Prop where
 cf : CfsIn w B d.lA d.ln l
 lc : d.ln ≤ d.lc ∧ d.lc ≤ maxLen
 op : OpIn w B (c.op.at_ d.oA d.oc)
 rp : Reads w B 1 d.rA c.rp.n (c.rb.map (Value.int .u8))
 rc : c.rp.n ≤ d.rc ∧ d.rc ≤ maxLen
 ly : Reads w B 1 d.yA c.ly.n (c.lb.map (Value.int .u8))
 yc : c.ly.n ≤ d.yc ∧ d.yc ≤ maxLen
theorem DIn.below {w w' : World} {B : Nat} {c : Cl} {d : DA} {l : List Cf} (h : DIn w B c d l) (hb : Below B w w') : DIn w' B c d l := ⟨h.cf.below hb, h.lc, h.op.below hb, h.rp.below hb, h.rc, h.ly.below hb, h.yc⟩
theorem DIn.more {w : World} {B B' : Nat} {c : Cl} {d : DA} {l : List Cf} (h : DIn w B c d l) (hb : B ≤ B') : DIn w B' c d l := ⟨h.cf.more hb, h.lc, h.op.more hb, h.rp.more hb, h.rc, h.ly.more hb, h.yc⟩
theorem DIn.len {w : World} {B : Nat} {c : Cl} {d : DA} {l : List Cf} (h : DIn w B c d l) : l.length = d.ln := h.cf.len
theorem dc_cells {w : World} {g : Nat} {c : Cl} {d : DA} (h : Blk w g 62 (c.dcells d)) :
  w.cell? ⟨g, 0, none⟩ = some (.int .i64 c.cl) ∧ w.cell? ⟨g, 1, none⟩ = some (.int .i64 c.ms) ∧ w.cell? ⟨g, 2, none⟩ = some (.int .u64 c.num) ∧ w.cell? ⟨g, 3, none⟩ = some (.int .i64 c.tk) ∧ w.cell? ⟨g, 4, none⟩ = some (.slice d.lA d.ln d.lc) ∧
  w.cell? ⟨g, 5, none⟩ = some (.int .i64 c.op.kd) ∧ w.cell? ⟨g, 6, none⟩ = some (.int .u32 c.op.key) ∧ w.cell? ⟨g, 7, none⟩ = some (.int .u64 c.op.ver) ∧ w.cell? ⟨g, 8, none⟩ = some (.slice d.oA c.op.n d.oc) ∧ w.cell? ⟨g, 9, none⟩ = some (.int .i64 c.op.pick) ∧ w.cell? ⟨g, 10, none⟩ = some (.int .i64 c.st) :=
 ⟨h.cell 0, h.cell 1, h.cell 2, h.cell 3, h.cell 4, h.cell 5, h.cell 6, h.cell 7, h.cell 8, h.cell 9, h.cell 10⟩
theorem dcInfo : (Tryz.prog.info? 62).map (·.size) = some 18 := by kernel_rfl
theorem dc_all (c : Cl) (d : DA) : (c.dcells d).all (·.oneCell') = true := by simp [Cl.dcells, Value.oneCell']
theorem load_dc (c : Cl) (d : DA) (g : Nat) (w : World) (h : Blk w g 62 (c.dcells d)) : (loadVar 62 ⟨g, 0, none⟩).run Tryz.prog w = .ok (.agg (c.dcells d)) w :=
 run_loadVar_row w g 62 62 (c.dcells d) (0, 0) _ h Tryz.underlying62 rfl dcInfo
theorem load_cf_mid (y : Cf) (b o : Nat) (wq : World) (h : wq.rangeAt b o y.row) : (loadVar 33 ⟨b, o, none⟩).run Tryz.prog wq = .ok (.agg #[.int .i64 y.ch, .int .u64 y.ep, .slice y.A y.len y.cap, .bool y.fr, .int .i64 y.jn]) wq :=
 run_loadVar_mid wq b o 33 y.row _ h Tryz.underlying33 rfl cfInfo5
theorem cell_same9 {w w₁ : World} {g i : Nat} (h : w₁.heap[g]? = w.heap[g]?) : w₁.cell? ⟨g, i, none⟩ = w.cell? ⟨g, i, none⟩ := by simp [World.cell?, h]
theorem dchain_any (c : Cl) (d : DA) (l : List Cf) (k B : Nat) (w : World) (h : DIn w B c d l) (hB : B ≤ w.heap.size) (hk : c.op.key = (k : Int)) (hkk : k < 4294967296) (h1 : 1 ≤ l.length) (h4 : l.length ≤ 4) :
  Calls Tryz.prog 73 #[.agg (c.dcells d)] w fun e w' => ∃ y : Cf, e = .returned y.agg ∧ l[(chainV k l.length).toNat]? = some y ∧ Below w.heap.size w w' := by
 obtain ⟨i, hi⟩ : ∃ i : Nat, chainV k l.length = i := ⟨(chainV k l.length).toNat, by have := chainV_lt k l.length (by omega); omega⟩
 have hil : i < l.length := by have := chainV_lt k l.length (by omega); omega
 have hln := h.len
 have CH := refChain_any k hkk (d.ln : Int) (by omega)
 rw [← hln, hi] at CH
 rw [hi, Int.toNat_natCast]
 obtain ⟨W1, hW1⟩ : ∃ W1, W1 = w.alloc (.cells (c.dcells d) 62) := ⟨_, rfl⟩
 obtain ⟨W2, hW2⟩ : ∃ W2, W2 = W1.alloc (.cells #[.int .i64 0, .int .u64 0, .slice none 0 0, .bool false, .int .i64 0] 33) := ⟨_, rfl⟩
 have hb1 : Blk W2 w.heap.size 62 (c.dcells d) := by rw [hW2, hW1]; exact (Blk.new _ _ _).alloc _
 have hs1 : W1.heap.size = w.heap.size + 1 := by rw [hW1]; simp
 have hb2 : Blk W2 (w.heap.size + 1) 33 #[.int .i64 0, .int .u64 0, .slice none 0 0, .bool false, .int .i64 0] := by rw [hW2, ← hs1]; exact Blk.new _ _ _
 have hbel : Below w.heap.size w W2 := by rw [hW2, hW1]; exact ((Below.refl _ _).alloc (Nat.le_refl _) _).alloc (by simp) _
 obtain ⟨b, off, y, hA, hbB, hy, hyin, q0, q1, q2, q3, q4⟩ := (h.cf.below (hbel.mono hB)).at_ (k := i) (by omega)
 have hrg : W2.rangeAt b (off + i * 5) y.row := by
  intro j u hu
  match j, hu with
  | 0, hu => injection hu with hu; subst hu; exact q0
  | 1, hu => injection hu with hu; subst hu; exact q1
  | 2, hu => injection hu with hu; subst hu; exact q2
  | 3, hu => injection hu with hu; subst hu; exact q3
  | 4, hu => injection hu with hu; subst hu; exact q4
  | n + 5, hu => simp [Cf.row] at hu
 obtain ⟨x0, x1, x2, x3, x4, x5, x6, x7, x8, x9, x10⟩ := dc_cells hb1
 rw [hA] at x4
 rw [hk] at x6
 rw [← hln] at x4
 have HY := Lib.hid hy
 have HB := Lib.hid hbel
 have H2 := Lib.hid hb2
 have HW1 := Lib.hid hW1
 have HW2 := Lib.hid hW2
 have HS1 := Lib.hid hs1
 have qi : (i : Int) < (l.length : Int) := by omega
 clear h hln hi hW1 hW2 hb1 hs1 hb2 hbel hA hy hyin hk
 generalize l.length = n at *
 go_enter Tryz.func73, Tryz.ntmps73
 go_upto_region 1 with (fail)
 rw [show w.alloc (.cells (c.dcells d) 62) = W1 from HW1.out.symm, show W1.alloc (.cells #[.int .i64 0, .int .u64 0, .slice none 0 0, .bool false, .int .i64 0] 33) = W2 from HW2.out.symm]
 clear HW1 HW2
 have ad9 : (if i = 0 then (⟨b, off, none⟩ : Addr) else ⟨b, off + i * 5, none⟩) = ⟨b, off + i * 5, none⟩ := by
  by_cases h : i = 0
  ·subst h; simp
  ·exact if_neg h
 have GB : Hid (Blk W2.drew (w.heap.size + 1) 33 #[.int .i64 0, .int .u64 0, .slice none 0 0, .bool false, .int .i64 0]) := Lib.hid H2.out.drew
 have HBD : Hid (Below w.heap.size w W2.drew) := Lib.hid HB.out.drew
 clear x0 x1 x2 x3 x5 x7 x8 x9 x10 q0 q1 q2 q3 q4 H2 HB
 refine wp_region_held_drew (S := fun wq => wq.cell? ⟨w.heap.size, 4, none⟩ = some (.slice (some ⟨b, off, none⟩) n d.lc) ∧ wq.cell? ⟨w.heap.size, 6, none⟩ = some (.int .u32 (k : Int)) ∧ wq.rangeAt b (off + i * 5) y.row) (by kernel_rfl) ⟨x4, x6, hrg⟩ (fun hHeld => ?_)
 generalize W2.drew = Vd at *
 have HS9 := hHeld
 refine tkT 0 rfl (v := ?_) ?_ ?_
 rotate_left 1
 ·(intro wq hSw; (try dsimp only at hSw); go_simp; (try with_reducible rfl))
 try simp only [Act.put, pS]
 refine tkT 1 rfl (v := ?_) ?_ ?_
 rotate_left 1
 ·(intro wq hSw; (try dsimp only at hSw); go_simp; (try with_reducible rfl))
 try simp only [Act.put, pS]
 refine tkT 2 rfl (v := ?_) ?_ ?_
 rotate_left 1
 ·(intro wq hSw; (try dsimp only at hSw); go_simp; (try with_reducible rfl))
 try simp only [Act.put, pS]
 refine tkT 3 rfl (v := ?_) ?_ ?_
 rotate_left 1
 ·(intro wq hSw; (try dsimp only at hSw); go_simp; (try with_reducible rfl))
 try simp only [Act.put, pS]
 refine tkT 4 rfl (v := ?_) ?_ ?_
 rotate_left 1
 ·(intro wq hSw; (try dsimp only at hSw); go_simp; (try with_reducible rfl))
 try simp only [Act.put, pS]
 refine tkT 5 rfl (v := ?_) ?_ ?_
 rotate_left 1
 ·(intro wq hSw; (try dsimp only at hSw); go_simp; (try with_reducible rfl))
 try simp only [Act.put, pS]
 refine tkT 6 rfl (v := ?_) ?_ ?_
 rotate_left 1
 ·(intro wq hSw; (try dsimp only at hSw); go_simp; (try with_reducible rfl))
 try simp only [Act.put, pS]
 refine tkT 7 rfl (v := ?_) ?_ ?_
 rotate_left 1
 ·(intro wq hSw; (try dsimp only at hSw); go_simp; (try with_reducible rfl))
 try simp only [Act.put, pS]
 refine wpAnyH_ready (rs := [8]) (by kernel_rfl) (by simp) ?_
 refine (AllReadyH.cons rfl (fun K hK => ?_) AllReadyH.nil)
 go_simp
 refine (CH _).mono ?_
 rintro e x9 ⟨rfl, rfl⟩
 have HS := HS9
 refine hK.out _ _ ?_ (fun hHeld => ?_)
 ·first | exact HS | go_keep
 clear hK K
 try simp only [Act.put, pS]
 refine tkT 9 rfl (v := ?_) ?_ ?_
 rotate_left 1
 ·(intro wq hSw; (try dsimp only at hSw); go_simp; (try with_reducible rfl))
 try simp only [Act.put, pS]
 refine tkT 10 rfl (v := (.agg #[.int .i64 y.ch, .int .u64 y.ep, .slice y.A y.len y.cap, .bool y.fr, .int .i64 y.jn])) ?_ ?_
 ·exact fun wq hSw => exec_load_at rfl _ _ rfl (load_cf_mid y _ _ wq hSw.2.2)
 try simp only [Act.put, pS]
 refine wpAnyH_ready (rs := [11]) (by kernel_rfl) (by simp) ?_
 refine (AllReadyH.cons rfl (fun K hK => ?_) AllReadyH.nil)
 have HS : (World.setRow Vd (w.heap.size + 1) y.cells).cell? ⟨w.heap.size, 4, none⟩ = some (.slice (some ⟨b, off, none⟩) n d.lc) ∧ (World.setRow Vd (w.heap.size + 1) y.cells).cell? ⟨w.heap.size, 6, none⟩ = some (.int .u32 (k : Int)) ∧ (World.setRow Vd (w.heap.size + 1) y.cells).rangeAt b (off + i * 5) y.row := ⟨(cell_same9 (setRow_other _ _ _ _ (by omega))).trans HS9.1, (cell_same9 (setRow_other _ _ _ _ (by omega))).trans HS9.2.1, fun jj vv hv => (cell_same9 (setRow_other _ _ _ _ (by omega))).trans (HS9.2.2 jj vv hv)⟩
 refine step_store_row rfl 33 (.tmp 2) (.tmp 13) rfl (w.heap.size + 1) y.cells rfl rfl 33 #[.int .i64 0, .int .u64 0, .slice none 0 0, .bool false, .int .i64 0] GB.out cfInfo5 rfl (cf_all _) ?_
 refine hK.out _ _ ?_ (fun hHeld => ?_)
 ·first | exact HS | go_keep
 clear hK K
 try simp only [Act.put, pS]
 refine wpAnyH_done (by kernel_rfl) ?_ _
 have F := (show Blk (World.setRow Vd (w.heap.size + 1) y.cells) (w.heap.size + 1) 33 y.cells from setRow_heap _ _ _ _ _ _ GB.out)
 have HBE := Lib.hid (below_setRow (g := w.heap.size + 1) HBD.out (Nat.le_succ _) y.cells)
 clear HS HS9 hHeld hrg x6 x4
 generalize World.setRow Vd (w.heap.size + 1) y.cells = Ve at F HBE ⊢
 have G0 := (F.cell 0).trans (show _ = some (Value.int .i64 y.ch) from rfl)
 have G1 := (F.cell 1).trans (show _ = some (Value.int .u64 y.ep) from rfl)
 have G2 := (F.cell 2).trans (show _ = some (Value.slice y.A y.len y.cap) from rfl)
 have G3 := (F.cell 3).trans (show _ = some (Value.bool y.fr) from rfl)
 have G4 := (F.cell 4).trans (show _ = some (Value.int .i64 y.jn) from rfl)
 clear F
 go_wp2_with (fail)
 refine bodyPost_ret (v := y.agg) (by simp [results, Tryz.results73, go_sem, G0, G1, G2, G3, G4]) rfl ⟨y, rfl, HY.out, HBE.out⟩
end Go.Proofs.YtmpedblelnpjdaaGreatDoor
