/- The document's Get of a command: the walk. -/
import Derived.Test.YtmpedblelnpjdaaGreatDoorZRdC
import Derived.Test.YtmpedblelnpjdaaGreatDoorZTq
import Derived.Test.YtmpedblelnpjdaaGreatDoorZTk
import Derived.Test.YtmpedblelnpjdaaGreatDoorZRdD
namespace Go.Proofs.YtmpedblelnpjdaaGreatDoor
open Go.RowKit
set_option linter.unusedSimpArgs false
set_option linter.unusedVariables false
set_option maxHeartbeats 8000000
set_option maxRecDepth 100000
attribute [local go_sem] RI.agg
theorem cmInfo4 : (Tryz.prog.info? 30).map (·.size) = some 4 := by kernel_rfl
theorem cm_all (q : Cm) : q.cells.all (·.oneCell') = true := by simp [Cm.cells, Value.oneCell']
theorem load_cm4 (q : Cm) (g : Nat) (w : World) (h : Blk w g 30 q.cells) : (loadVar 30 ⟨g, 0, none⟩).run Tryz.prog w = .ok (.agg q.cells) w :=
 run_loadVar_row w g 30 30 q.cells (0, 0) _ h Tryz.underlying30 rfl cmInfo4
theorem results_three {P : Program} {fn : Func} {p u v : Tmp} {ty ty2 : TypeId} (h : fn.results = #[.cell p ty, .cell u ty2, .tmp v]) (tmps : Array Value) (w : World) (g g2 : Nat) (t t2 : TypeId) (cs cs2 : Array Value) (fr fr2 : Nat × Nat) (d d2 : TypeDesc) (q : Value)
  (hp : tmps.getD p undef = .pointer (some ⟨g, 0, none⟩)) (hg : w.heap[g]? = some (.cells cs t fr)) (hq : tmps.getD u undef = .pointer (some ⟨g2, 0, none⟩)) (hg2 : w.heap[g2]? = some (.cells cs2 t2 fr2)) (hv : tmps.getD v undef = q)
  (hu : P.underlying ty = some d) (hd : (match d with | .struct _ | .array _ _ => true | _ => false) = true) (hi : (P.info? ty).map (·.size) = some cs.size)
  (hu2 : P.underlying ty2 = some d2) (hd2 : (match d2 with | .struct _ | .array _ _ => true | _ => false) = true) (hi2 : (P.info? ty2).map (·.size) = some cs2.size) :
  (results fn tmps).run P w = .ok (.tuple #[.agg cs, .agg cs2, q]) w := by
 have hp' : tmps[p]?.getD undef = .pointer (some ⟨g, 0, none⟩) := by simpa using hp
 have hq' : tmps[u]?.getD undef = .pointer (some ⟨g2, 0, none⟩) := by simpa using hq
 have hv' : tmps[v]?.getD undef = q := by simpa using hv
 simp [results, h, hp', hq', hv', asAddr, run_loadVar_row w g t ty cs fr d hg hu hd hi, run_loadVar_row w g2 t2 ty2 cs2 fr2 d2 hg2 hu2 hd2 hi2]
def CrGP (B : Nat) (s : FI) (w : World) (e : Ending) (w' : World) : Prop :=
 ∃ y : RI, e = .returned (.tuple #[.agg y.cells, .agg (cmdGv s).cells, .int .i64 (cmdGe s)]) ∧ y.s = (s.raw 11).1 ∧ RIn w' B y ∧ Below w.heap.size w w'
structure CgM (w W : World) (y : RI) (g5 : Nat) : Prop where
 bz : Blk W (w.heap.size + 1) 130 #[.slice none 0 0, .int .i64 0]
 bw : Blk W (w.heap.size + 2) 30 #[.int .i64 0, .int .i64 0, .int .u64 0, .int .i64 0]
 b5 : Blk W g5 130 y.cells
 lt : w.heap.size + 2 < g5
 bel : Below w.heap.size w W
theorem CgM.below {w W W1 : World} {y : RI} {g5 : Nat} (h : CgM w W y g5) (hb : Below W.heap.size W W1) : CgM w W1 y g5 :=
 ⟨h.bz.below hb h.bz.lt, h.bw.below hb h.bw.lt, h.b5.below hb h.b5.lt, h.lt, h.bel.trans (hb.mono h.bel.size)⟩
structure CgN (w W : World) (y : RI) (g5 g7 B : Nat) (q : Cm) : Prop where
 m : CgM w W y g5
 b7 : Blk W g7 30 q.cells
 rin : RIn W B y
 lt : g5 < g7
structure CgR (w V V1 V2 : World) (y : RI) (q : Cm) (g5 B : Nat) : Prop where
 z1 : Blk V1 (w.heap.size + 2) 30 #[.int .i64 0, .int .i64 0, .int .u64 0, .int .i64 0]
 s1 : Blk V1 g5 130 y.cells
 s2 : Blk V2 g5 130 y.cells
 y1 : Blk V2 (w.heap.size + 1) 130 y.cells
 y2 : Blk V2 (w.heap.size + 2) 30 q.cells
 c1 : Chg V V1 (fun k => k = w.heap.size + 1)
 c2 : Chg V1 V2 (fun k => k = w.heap.size + 2)
 bel : Below w.heap.size w V2
 rin : RIn V2 B y
theorem CgM.fin {w V V1 V2 : World} {y : RI} {g5 B : Nat} (q : Cm) (h : CgM w V y g5) (hr : RIn V B y) (hB : B ≤ w.heap.size) (hV1 : V1 = V.setRow (w.heap.size + 1) y.cells) (hV2 : V2 = V1.setRow (w.heap.size + 2) q.cells) : CgR w V V1 V2 y q g5 B := by
 have hlt := h.lt
 have C1 : Chg V V1 (fun k => k = w.heap.size + 1) := by rw [hV1]; exact chg_row _ _ _
 have C2 : Chg V1 V2 (fun k => k = w.heap.size + 2) := by rw [hV2]; exact chg_row _ _ _
 have z1 := C1.blk h.bw (show ¬ (w.heap.size + 2 = w.heap.size + 1) by omega)
 have y1 : Blk V1 (w.heap.size + 1) 130 y.cells := by rw [hV1]; exact setRow_heap _ _ _ _ _ _ h.bz
 have s1 := C1.blk h.b5 (show ¬ (g5 = w.heap.size + 1) by omega)
 have b1 := C1.below (B := B) (Nat.le_trans hB h.bel.size) (fun k hk e => by omega)
 have b2 := C2.below (B := B) (Nat.le_trans hB (Nat.le_trans h.bel.size C1.size)) (fun k hk e => by omega)
 refine ⟨z1, s1, C2.blk s1 (by omega), C2.blk y1 (by omega), ?_, C1, C2, ?_, (hr.below b1).below b2⟩
 ·rw [hV2]; exact setRow_heap _ _ _ _ _ _ z1
 ·exact (h.bel.trans (C1.below h.bel.size (fun k hk e => by omega))).trans (C2.below (Nat.le_trans h.bel.size C1.size) (fun k hk e => by omega))
theorem CgM.start (w : World) (cs : Array Value) : ∀ W, W = ((w.alloc (.cells cs 130)).alloc (.cells #[.slice none 0 0, .int .i64 0] 130)).alloc (.cells #[.int .i64 0, .int .i64 0, .int .u64 0, .int .i64 0] 30) → Blk W w.heap.size 130 cs ∧ Blk W (w.heap.size + 1) 130 #[.slice none 0 0, .int .i64 0] ∧ Blk W (w.heap.size + 2) 30 #[.int .i64 0, .int .i64 0, .int .u64 0, .int .i64 0] ∧ Below w.heap.size w W ∧ W.heap.size = w.heap.size + 3 := by
 rintro W rfl
 refine ⟨((Blk.new w _ _).alloc _).alloc _, ?_, ?_, (((Below.refl _ _).alloc (Nat.le_refl _) _).alloc (by simp) _).alloc (by simp; omega) _, by simp⟩
 ·have := (Blk.new (w.alloc (.cells cs 130)) 130 #[.slice none 0 0, .int .i64 0]).alloc (.cells #[.int .i64 0, .int .i64 0, .int .u64 0, .int .i64 0] 30)
  simpa using this
 ·have := Blk.new ((w.alloc (.cells cs 130)).alloc (.cells #[.slice none 0 0, .int .i64 0] 130)) 30 #[.int .i64 0, .int .i64 0, .int .u64 0, .int .i64 0]
  simpa using this
theorem crGet_any (x : RI) (B : Nat) (w : World) (h : RIn w B x) (hB : B ≤ w.heap.size) : Calls Tryz.prog 122 #[.agg x.cells] w (CrGP B x.s w) := by
 have RW := Lib.hid (fun W (i : RIn W B x) (hW : B ≤ W.heap.size) => refRawC_any x 11 B W i hW)
 have VV : Hid (cmdGv x.s = if (x.s.raw 11).1.e ≠ 0 then Cm.zero else if (cmdP (x.s.raw 11).2).err ≠ 0 then Cm.zero else cmdP (x.s.raw 11).2) := Lib.hid rfl
 have VE : Hid (cmdGe x.s = if (x.s.raw 11).1.e ≠ 0 then (x.s.raw 11).1.e else if (cmdP (x.s.raw 11).2).err ≠ 0 then 4 else 0) := Lib.hid rfl
 have HBY := Lib.hid (raw_bytes2 x.s 11 h.by_)
 have HLN : Hid ((x.s.raw 11).1.e = 0 → (x.s.raw 11).2.length = 11) := Lib.hid (raw_yes x.s 11)
 have HP : Hid (∀ (y : RI) (W : World) (v : Cm) (z : Int), y.s = (x.s.raw 11).1 → cmdGv x.s = v → cmdGe x.s = z → RIn W B y → Below w.heap.size w W → CrGP B x.s w (.returned (.tuple #[.agg y.cells, .agg v.cells, .int .i64 z])) W) := Lib.hid (fun y W v z h1 h2 h3 h4 h5 => ⟨y, by rw [h2, h3], h1, h4, h5⟩)
 generalize CrGP B x.s w = post at *
 generalize cmdGv x.s = gv at *
 generalize cmdGe x.s = ge at *
 generalize x.s.raw 11 = q at *
 obtain ⟨s1, bs⟩ := q
 simp only at VV VE HBY HLN HP
 obtain ⟨W0, hW0⟩ : ∃ W0, W0 = ((w.alloc (.cells x.cells 130)).alloc (.cells #[.slice none 0 0, .int .i64 0] 130)).alloc (.cells #[.int .i64 0, .int .i64 0, .int .u64 0, .int .i64 0] 30) := ⟨_, rfl⟩
 obtain ⟨k0, k1, k2, kb, ks⟩ := CgM.start w x.cells W0 hW0
 have R0 := Lib.hid (h.below (kb.mono hB))
 have K1 := Lib.hid k1
 have K2 := Lib.hid k2
 have KB := Lib.hid kb
 have HW0 := Lib.hid hW0
 have hB0 := Nat.le_trans hB kb.size
 obtain ⟨c0, c1⟩ := ri_cells k0
 have f0 := k0.frozen 0
 have f1 := k0.frozen 1
 have g0 := k0.lt
 have hz : ∀ w : World, (Instr.build 30 #[]).run Tryz.prog w = .ok (.agg #[.int .i64 0, .int .i64 0, .int .u64 0, .int .i64 0]) w := fun w => by kernel_rfl
 clear h hW0 k0 k1 k2 kb
 go_enter Tryz.func122, Tryz.ntmps122
 go_upto_region 1 with (fail)
 rw [← HW0.out]
 clear HW0
 go_wp2_with (fail)
 refine (RW.out _ R0.out hB0).mono ?_
 rintro e w1 ⟨y, A2, c2, rfl, hy, h1, h3, h4, h2⟩
 obtain ⟨hc2, hm2⟩ := h4
 unfold maxLen at hm2
 simp only at hy h3 hc2
 have HYS := Lib.hid hy
 obtain ⟨Wa, hWa⟩ : ∃ Wa, Wa = w1.alloc (.cells #[.slice y.A y.s.l.length y.cap, .int .i64 y.s.e] 130) := ⟨_, rfl⟩
 have hba : Below w1.heap.size w1 Wa := by rw [hWa]; exact (Below.refl _ _).alloc (Nat.le_refl _) _
 have hs1 := h2.size
 have M : Hid (CgM w Wa y w1.heap.size) := Lib.hid ⟨(K1.out.below h2 K1.out.lt).below hba (Nat.lt_of_lt_of_le K1.out.lt hs1), (K2.out.below h2 K2.out.lt).below hba (Nat.lt_of_lt_of_le K2.out.lt hs1), by rw [hWa]; exact Blk.new w1 _ _, by omega, (KB.out.trans (h2.mono KB.out.size)).trans (hba.mono (Nat.le_trans KB.out.size hs1))⟩
 have HR := Lib.hid (h1.below (hba.mono (Nat.le_trans hB0 hs1)))
 have HD := Lib.hid (h3.below (hba.mono (Nat.le_trans hB0 hs1)))
 have HWa := Lib.hid hWa
 obtain ⟨g5, hg5⟩ : ∃ g5, g5 = w1.heap.size := ⟨_, rfl⟩
 rw [← hg5] at M
 have l5 := M.out.b5.lt
 have l1 := M.out.bz.lt
 have l2 := M.out.bw.lt
 have hlt5 := M.out.lt
 have x1 : Wa.cell? ⟨g5, 1, none⟩ = some (.int .i64 y.s.e) := (ri_cells M.out.b5).2
 have hBa := Nat.le_trans hB M.out.bel.size
 clear c0 c1 f0 f1 g0 hWa hba h1 h2 h3 hy RW R0 K1 K2 KB
 go_upto_region 2 with (fail)
 rw [← HWa.out, ← hg5]
 clear HWa hg5
 by_cases he : s1.e = 0
 rotate_left
 ·have heb : (y.s.e != 0) = true := by rw [HYS.out]; simpa using he
  have G1 : Hid (gv = Cm.zero) := Lib.hid (by rw [VV.out, if_pos he])
  have G2 : Hid (ge = y.s.e) := Lib.hid (by rw [VE.out, if_pos he, HYS.out])
  have HRD := Lib.hid (HR.out.below ((Below.refl B Wa).drew))
  have MD := Lib.hid (M.out.below ((Below.refl _ _).drew))
  have m5 := M.out.b5
  clear he VV VE HD HR M
  go_upto_region 3 with (fail)
  refine wp_region_held_drew (S := fun wq => Blk wq g5 130 y.cells ∧ wq.cell? ⟨g5, 1, none⟩ = some (.int .i64 y.s.e)) (by kernel_rfl) ⟨m5, x1⟩ (fun hHeld => ?_)
  clear m5 x1
  generalize Wa.drew = V at *
  obtain ⟨V1, hV1⟩ : ∃ V1, V1 = V.setRow (w.heap.size + 1) y.cells := ⟨_, rfl⟩
  obtain ⟨V2, hV2⟩ : ∃ V2, V2 = V1.setRow (w.heap.size + 2) Cm.zero.cells := ⟨_, rfl⟩
  have F := Lib.hid (MD.out.fin Cm.zero HRD.out hB hV1 hV2)
  have HV1 := Lib.hid hV1
  have HV2 := Lib.hid hV2
  clear hV1 hV2
  refine tkT 0 rfl (v := (.agg y.cells)) ?_ ?_
  ·exact fun wq hSw => exec_load_row rfl _ rfl (load_ri y _ wq hSw.1)
  try simp only [Act.put, pS]
  refine tkT 1 rfl (v := ?_) ?_ ?_
  rotate_left 1
  ·(intro wq hSw; (try dsimp only at hSw); go_simp; (try with_reducible rfl))
  try simp only [Act.put, pS]
  refine tkT 2 rfl (v := ?_) ?_ ?_
  rotate_left 1
  ·(intro wq hSw; (try dsimp only at hSw); go_simp; (try with_reducible rfl))
  try simp only [Act.put, pS]
  refine tkT 3 rfl (v := ?_) ?_ ?_
  rotate_left 1
  ·(intro wq hSw; (try dsimp only at hSw); go_simp; (try with_reducible rfl))
  try simp only [Act.put, pS]
  refine wpAnyH_ready (rs := [4]) (by kernel_rfl) (by simp) ?_
  refine (AllReadyH.cons rfl (fun K hK => ?_) AllReadyH.nil)
  have HS := And.intro F.out.s1 (ri_cells F.out.s1).2
  refine step_store_row rfl 130 (.tmp 2) (.tmp 16) rfl (w.heap.size + 1) y.cells rfl rfl 130 #[.slice none 0 0, .int .i64 0] MD.out.bz riInfo rfl (ri_all _) ?_
  rw [← HV1.out]
  refine hK.out _ _ ?_ (fun hHeld => ?_)
  ·first | exact HS | go_keep
  clear hK K
  try simp only [Act.put, pS]
  refine wpAnyH_ready (rs := [5]) (by kernel_rfl) (by simp) ?_
  refine (AllReadyH.cons rfl (fun K hK => ?_) AllReadyH.nil)
  have HS := And.intro F.out.s2 (ri_cells F.out.s2).2
  refine step_store_row rfl 30 (.tmp 3) (.tmp 17) rfl (w.heap.size + 2) Cm.zero.cells rfl rfl 30 #[.int .i64 0, .int .i64 0, .int .u64 0, .int .i64 0] F.out.z1 cmInfo4 rfl (cm_all _) ?_
  rw [← HV2.out]
  refine hK.out _ _ ?_ (fun hHeld => ?_)
  ·first | exact HS | go_keep
  clear hK K
  try simp only [Act.put, pS]
  refine tkT 6 rfl (v := ?_) ?_ ?_
  rotate_left 1
  ·(intro wq hSw; (try dsimp only at hSw); go_simp; (try with_reducible rfl))
  try simp only [Act.put, pS]
  refine wpAnyH_done (by kernel_rfl) ?_ _
  go_wp2_with (fail)
  refine bodyPost_ret_by (v := .tuple #[.agg y.cells, .agg Cm.zero.cells, .int .i64 y.s.e]) (results_three Tryz.results122 _ _ (w.heap.size + 1) (w.heap.size + 2) 130 30 y.cells Cm.zero.cells (0, 0) (0, 0) _ _ _ rfl F.out.y1 rfl F.out.y2 rfl Tryz.underlying130 rfl riInfo Tryz.underlying30 rfl cmInfo4) rfl ?_
  exact HP.out y V2 _ _ HYS.out G1.out G2.out F.out.rin F.out.bel
 ·have heb : (y.s.e != 0) = false := by rw [HYS.out]; simpa using he
  have VV2 : Hid (gv = if (cmdP bs).err ≠ 0 then Cm.zero else cmdP bs) := Lib.hid (by rw [VV.out, if_neg (fun h => h he)])
  have VE2 : Hid (ge = if (cmdP bs).err ≠ 0 then 4 else 0) := Lib.hid (by rw [VE.out, if_neg (fun h => h he)])
  have hlen := HLN.out he
  obtain ⟨b0, b1, b10, hb0, hb1, hb10, r0, r1, r10, hP⟩ := cmdP_eq bs hlen HBY.out
  obtain ⟨m, hm⟩ : ∃ m : Nat, m = numB ((bs.drop 2).take 8) := ⟨_, rfl⟩
  rw [← hm] at hP
  rw [hP] at VV2 VE2
  rw [hlen] at HD hc2 ⊢
  obtain ⟨bb, bo, rfl, hbB⟩ := plain_addrI HD.out (by omega)
  have hcell : ∀ (k : Nat) (z : Int), k < 11 → bs[k]? = some z → Wa.cell? ⟨bb, bo + k, none⟩ = some (.int .u8 z) := fun k z hk hz => by
   obtain ⟨ad, z', hA, _, hz', hc0⟩ := reads_int HD.out (k := k) hk
   cases hA
   rw [hz] at hz'
   cases hz'
   have e9 : (if k = 0 then (⟨bb, bo, none⟩ : Addr) else ⟨bb, bo + k, none⟩) = ⟨bb, bo + k, none⟩ := by split <;> simp_all
   simpa [Addr.add, e9] using hc0
  have s0 := hcell 0 b0 (by decide) hb0
  have s1' := hcell 1 b1 (by decide) hb1
  have s10 := hcell 10 b10 (by decide) hb10
  rw [Nat.add_zero] at s0
  have h8 := ((HD.out.cut (k := 2) (cap := c2) (by omega) hc2).take (k := 8) (by omega))
  rw [Nat.mul_one, if_neg (by omega), ← List.map_drop, ← List.map_take] at h8
  have H8 := Lib.hid h8
  have hby8 : bytesB ((bs.drop 2).take 8) := bytesB_take _ _ (bytesB_drop _ _ HBY.out)
  have NM : Hid (∀ W, Reads W B 1 (some ⟨bb, bo + 2, none⟩) 8 (((bs.drop 2).take 8).map (Value.int .u8)) → Calls Tryz.prog 222 #[.slice (some ⟨bb, bo + 2, none⟩) 8 (c2 - 2)] W fun e w' => e = .returned (.int .u64 (m : Int)) ∧ W = w') := Lib.hid (fun W hr => by
   rw [hm]
   exact refNum_any _ 8 _ B _ W hr hby8 (by decide))
  have e0 : IntKind.i64.wrap b0 = b0 := by rw [IntKind.wrap_i64]; omega
  have e1 : IntKind.i64.wrap b1 = b1 := by rw [IntKind.wrap_i64]; omega
  have e10 : IntKind.i64.wrap b10 = b10 := by rw [IntKind.wrap_i64]; omega
  have hc10 : (10 : Int) ≤ c2 := by omega
  have hc29 : ¬ (c2 = 2) := by omega
  have HSF : Hid (∀ V, Below w.heap.size Wa.drew V → V.cell? ⟨bb, bo, none⟩ = some (.int .u8 b0) ∧ V.cell? ⟨bb, bo + 1, none⟩ = some (.int .u8 b1) ∧ V.cell? ⟨bb, bo + 10, none⟩ = some (.int .u8 b10)) := Lib.hid (fun V hV => ⟨(hV.cell (p := ⟨bb, bo, none⟩) (by simp; omega)).trans s0, (hV.cell (p := ⟨bb, bo + 1, none⟩) (by simp; omega)).trans s1', (hV.cell (p := ⟨bb, bo + 10, none⟩) (by simp; omega)).trans s10⟩)
  have HR8 : Hid (∀ V, Below w.heap.size Wa.drew V → Reads V B 1 (some ⟨bb, bo + 2, none⟩) 8 (((bs.drop 2).take 8).map (Value.int .u8))) := Lib.hid (fun V hV => H8.out.below ((Below.refl B Wa).drew.trans (hV.mono hB)))
  have HRD := Lib.hid (HR.out.below ((Below.refl B Wa).drew))
  have MD := Lib.hid (M.out.below ((Below.refl _ _).drew))
  have HB : Hid (Below w.heap.size Wa.drew Wa.drew) := Lib.hid (Below.refl _ _)
  obtain ⟨q, hq⟩ : ∃ q : Cm, q = ⟨b0, b1, (m : Int), b10⟩ := ⟨_, rfl⟩
  rw [← hq] at VV2 VE2
  have HQ := Lib.hid hq
  clear he VV VE HD HR M hb0 hb1 hb10 hcell hm hP h8 H8 hq hlen
  go_upto_region 4 with (fail)
  go_cut [7] (fun v7 wx => ∃ g7 : Nat, v7 = .pointer (some ⟨g7, 0, none⟩) ∧ Hid (CgN w wx y g5 g7 B q))
  case first =>
   refine wp_region_held_drew (S := fun wq => wq.cell? ⟨bb, bo, none⟩ = some (.int .u8 b0) ∧ wq.cell? ⟨bb, bo + 1, none⟩ = some (.int .u8 b1) ∧ wq.cell? ⟨bb, bo + 10, none⟩ = some (.int .u8 b10)) (by kernel_rfl) ⟨s0, s1', s10⟩ (fun hHeld => ?_)
   clear s0 s1' s10 x1
   generalize Wa.drew = V at *
   refine tkT 0 rfl (v := ?_) ?_ ?_
   rotate_left 1
   ·(intro wq hSw; (try dsimp only at hSw); go_simp; (try with_reducible rfl))
   try simp only [Act.put, pS]
   refine tkT 1 rfl (v := ?_) ?_ ?_
   rotate_left 1
   ·(intro wq hSw; (try dsimp only at hSw); go_simp; (try with_reducible rfl))
   try simp only [Act.put, pS]
   refine tkT 2 rfl (v := ?_) ?_ ?_
   rotate_left 1
   ·(intro wq hSw; (try dsimp only at hSw); go_simp; (try with_reducible rfl))
   try simp only [Act.put, pS]
   refine tkT 3 rfl (v := ?_) ?_ ?_
   rotate_left 1
   ·(intro wq hSw; (try dsimp only at hSw); go_simp; (try with_reducible rfl))
   try simp only [Act.put, pS]
   refine tkT 4 rfl (v := ?_) ?_ ?_
   rotate_left 1
   ·(intro wq hSw; (try dsimp only at hSw); go_simp; (try with_reducible rfl))
   try simp only [Act.put, pS]
   refine tkT 5 rfl (v := ?_) ?_ ?_
   rotate_left 1
   ·(intro wq hSw; (try dsimp only at hSw); go_simp; (try with_reducible rfl))
   try simp only [Act.put, pS]
   refine tkT 6 rfl (v := ?_) ?_ ?_
   rotate_left 1
   ·(intro wq hSw; (try dsimp only at hSw); go_simp; (try with_reducible rfl))
   try simp only [Act.put, pS]
   refine tkT 7 rfl (v := ?_) ?_ ?_
   rotate_left 1
   ·(intro wq hSw; (try dsimp only at hSw); go_simp; (try with_reducible rfl))
   try simp only [Act.put, pS]
   refine tkT 8 rfl (v := ?_) ?_ ?_
   rotate_left 1
   ·(intro wq hSw; (try dsimp only at hSw); go_simp; (try with_reducible rfl))
   try simp only [Act.put, pS]
   refine tkT 9 rfl (v := ?_) ?_ ?_
   rotate_left 1
   ·(intro wq hSw; (try dsimp only at hSw); go_simp; (try with_reducible rfl))
   try simp only [Act.put, pS]
   refine tkT 11 rfl (v := ?_) ?_ ?_
   rotate_left 1
   ·(intro wq hSw; (try dsimp only at hSw); go_simp; (try with_reducible rfl))
   try simp only [Act.put, pS]
   refine tkT 12 rfl (v := ?_) ?_ ?_
   rotate_left 1
   ·(intro wq hSw; (try dsimp only at hSw); go_simp; (try with_reducible rfl))
   try simp only [Act.put, pS]
   refine tkT 13 rfl (v := ?_) ?_ ?_
   rotate_left 1
   ·(intro wq hSw; (try dsimp only at hSw); go_simp; (try with_reducible rfl))
   try simp only [Act.put, pS]
   refine tkT 14 rfl (v := ?_) ?_ ?_
   rotate_left 1
   ·(intro wq hSw; (try dsimp only at hSw); go_simp; (try with_reducible rfl))
   try simp only [Act.put, pS]
   refine wpAnyH_ready (rs := [10, 16]) (by kernel_rfl) (by simp) ?_
   refine (AllReadyH.cons rfl (fun K hK => ?_) (AllReadyH.cons rfl (fun K hK => ?_) AllReadyH.nil))
   ·go_simp
    refine (NM.out _ (HR8.out _ HB.out)).mono ?_
    rintro e x9 ⟨rfl, rfl⟩
    have HS := HSF.out _ HB.out
    refine hK.out _ _ ?_ (fun hHeld => ?_)
    ·first | exact HS | go_keep
    clear hK K
    try simp only [Act.put, pS]
    refine tkT 15 rfl (v := ?_) ?_ ?_
    rotate_left 1
    ·(intro wq hSw; (try dsimp only at hSw); go_simp; (try with_reducible rfl))
    try simp only [Act.put, pS]
    refine wpAnyH_ready (rs := [16]) (by kernel_rfl) (by simp) ?_
    refine (AllReadyH.cons rfl (fun K hK => ?_) AllReadyH.nil)
    go_simp
    have GB := Lib.hid (Blk.new V 30 #[.int .i64 0, .int .i64 0, .int .u64 0, .int .i64 0])
    have h57 := MD.out.b5.lt
    replace MD := Lib.hid (MD.out.below ((Below.refl _ _).alloc (Nat.le_refl _) (.cells #[.int .i64 0, .int .i64 0, .int .u64 0, .int .i64 0] 30)))
    replace HRD := Lib.hid (HRD.out.below ((Below.refl B V).alloc (Nat.le_trans hB (Nat.le_of_lt (by have := MD.out.lt; omega))) (.cells #[.int .i64 0, .int .i64 0, .int .u64 0, .int .i64 0] 30)))
    replace HB := Lib.hid (HB.out.alloc (by have := MD.out.lt; omega) (.cells #[.int .i64 0, .int .i64 0, .int .u64 0, .int .i64 0] 30))
    have HS := HSF.out _ HB.out
    refine hK.out _ _ ?_ (fun hHeld => ?_)
    ·first | exact HS | go_keep
    clear hK K
    generalize (V.alloc (.cells #[.int .i64 0, .int .i64 0, .int .u64 0, .int .i64 0] 30)) = Va at *
    exact rp24
   ·go_simp
    have GB := Lib.hid (Blk.new V 30 #[.int .i64 0, .int .i64 0, .int .u64 0, .int .i64 0])
    have h57 := MD.out.b5.lt
    replace MD := Lib.hid (MD.out.below ((Below.refl _ _).alloc (Nat.le_refl _) (.cells #[.int .i64 0, .int .i64 0, .int .u64 0, .int .i64 0] 30)))
    replace HRD := Lib.hid (HRD.out.below ((Below.refl B V).alloc (Nat.le_trans hB (Nat.le_of_lt (by have := MD.out.lt; omega))) (.cells #[.int .i64 0, .int .i64 0, .int .u64 0, .int .i64 0] 30)))
    replace HB := Lib.hid (HB.out.alloc (by have := MD.out.lt; omega) (.cells #[.int .i64 0, .int .i64 0, .int .u64 0, .int .i64 0] 30))
    have HS := HSF.out _ HB.out
    refine hK.out _ _ ?_ (fun hHeld => ?_)
    ·first | exact HS | go_keep
    clear hK K
    generalize (V.alloc (.cells #[.int .i64 0, .int .i64 0, .int .u64 0, .int .i64 0] 30)) = Va at *
    try simp only [Act.put, pS]
    refine wpAnyH_ready (rs := [10]) (by kernel_rfl) (by simp) ?_
    refine (AllReadyH.cons rfl (fun K hK => ?_) AllReadyH.nil)
    go_simp
    refine (NM.out _ (HR8.out _ HB.out)).mono ?_
    rintro e x9 ⟨rfl, rfl⟩
    have HS := HSF.out _ HB.out
    refine hK.out _ _ ?_ (fun hHeld => ?_)
    ·first | exact HS | go_keep
    clear hK K
    try simp only [Act.put, pS]
    refine tkT 15 rfl (v := ?_) ?_ ?_
    rotate_left 1
    ·(intro wq hSw; (try dsimp only at hSw); go_simp; (try with_reducible rfl))
    exact rp24
  case rest =>
   obtain ⟨g7, rfl, HN⟩ := hcut
   have hq0 : 0 ≤ q.e := by rw [HQ.out]; simp only; omega
   have CK := Lib.hid (fun W => rkCmd_any q.k q.c q.e q.n hq0 W)
   have HE0 : Hid (q.err = cmdE q.k q.c q.e q.n) := Lib.hid rfl
   rw [← HE0.out] at CK
   obtain ⟨y0, y1, y2, y3⟩ := cells4 (show Blk wc g7 30 #[.int .i64 q.k, .int .i64 q.c, .int .u64 q.e, .int .i64 q.n] from HN.out.b7)
   have l7 := HN.out.b7.lt
   clear NM HSF HR8 HRD MD HB HQ hq0 s0 s1' s10 x1 e0 e1 e10
   generalize q.err = qe at *
   go_wp2_with (fail)
   refine (CK.out _).mono ?_
   rintro e w9 ⟨rfl, hb9⟩
   have M9 := Lib.hid (HN.out.m.below hb9)
   have B7 := Lib.hid (HN.out.b7.below hb9 HN.out.b7.lt)
   have R9 := Lib.hid (HN.out.rin.below (hb9.mono (Nat.le_trans hB HN.out.m.bel.size)))
   have h579 := HN.out.lt
   clear HN CK hb9 y0 y1 y2 y3 l7
   by_cases hqe : qe = 0
   ·have hqb : (qe != 0) = false := by simp [hqe]
    have G1 : Hid (gv = q) := Lib.hid (by rw [VV2.out, if_neg (fun h => h hqe)])
    have G2 : Hid (ge = 0) := Lib.hid (by rw [VE2.out, if_neg (fun h => h hqe)])
    have HRD := Lib.hid (R9.out.below ((Below.refl B w9).drew))
    have MD := Lib.hid (M9.out.below ((Below.refl _ _).drew))
    have m5 := M9.out.b5
    have m7 := B7.out
    clear hqe VV2 VE2 R9 M9
    go_upto_region 7 with (fail)
    refine wp_region_held_drew (S := fun wq => Blk wq g5 130 y.cells ∧ Blk wq g7 30 q.cells) (by kernel_rfl) ⟨m5, m7⟩ (fun hHeld => ?_)
    clear m5 m7
    replace B7 := Lib.hid (B7.out.below ((Below.refl _ _).drew) B7.out.lt)
    generalize w9.drew = V at *
    obtain ⟨V1, hV1⟩ : ∃ V1, V1 = V.setRow (w.heap.size + 1) y.cells := ⟨_, rfl⟩
    obtain ⟨V2, hV2⟩ : ∃ V2, V2 = V1.setRow (w.heap.size + 2) q.cells := ⟨_, rfl⟩
    have F := Lib.hid (MD.out.fin q HRD.out hB hV1 hV2)
    have h57 : w.heap.size + 2 < g7 := by have := MD.out.lt; omega
    have S71 := Lib.hid (F.out.c1.blk B7.out (show ¬ (g7 = w.heap.size + 1) by omega))
    have S72 := Lib.hid (F.out.c2.blk S71.out (show ¬ (g7 = w.heap.size + 2) by omega))
    have HV1 := Lib.hid hV1
    have HV2 := Lib.hid hV2
    clear hV1 hV2
    refine tkT 0 rfl (v := (.agg y.cells)) ?_ ?_
    ·exact fun wq hSw => exec_load_row rfl _ rfl (load_ri y _ wq hSw.1)
    try simp only [Act.put, pS]
    refine tkT 1 rfl (v := (.agg q.cells)) ?_ ?_
    ·exact fun wq hSw => exec_load_row rfl _ rfl (load_cm4 q _ wq hSw.2)
    try simp only [Act.put, pS]
    refine wpAnyH_ready (rs := [2]) (by kernel_rfl) (by simp) ?_
    refine (AllReadyH.cons rfl (fun K hK => ?_) AllReadyH.nil)
    have HS := And.intro F.out.s1 S71.out
    refine step_store_row rfl 130 (.tmp 2) (.tmp 41) rfl (w.heap.size + 1) y.cells rfl rfl 130 #[.slice none 0 0, .int .i64 0] MD.out.bz riInfo rfl (ri_all _) ?_
    rw [← HV1.out]
    refine hK.out _ _ ?_ (fun hHeld => ?_)
    ·first | exact HS | go_keep
    clear hK K
    try simp only [Act.put, pS]
    refine wpAnyH_ready (rs := [3]) (by kernel_rfl) (by simp) ?_
    refine (AllReadyH.cons rfl (fun K hK => ?_) AllReadyH.nil)
    have HS := And.intro F.out.s2 S72.out
    refine step_store_row rfl 30 (.tmp 3) (.tmp 42) rfl (w.heap.size + 2) q.cells rfl rfl 30 #[.int .i64 0, .int .i64 0, .int .u64 0, .int .i64 0] F.out.z1 cmInfo4 rfl (cm_all _) ?_
    rw [← HV2.out]
    refine hK.out _ _ ?_ (fun hHeld => ?_)
    ·first | exact HS | go_keep
    clear hK K
    try simp only [Act.put, pS]
    refine tkT 4 rfl (v := ?_) ?_ ?_
    rotate_left 1
    ·(intro wq hSw; (try dsimp only at hSw); go_simp; (try with_reducible rfl))
    try simp only [Act.put, pS]
    refine wpAnyH_done (by kernel_rfl) ?_ _
    go_wp2_with (fail)
    refine bodyPost_ret_by (v := .tuple #[.agg y.cells, .agg q.cells, .int .i64 0]) (results_three Tryz.results122 _ _ (w.heap.size + 1) (w.heap.size + 2) 130 30 y.cells q.cells (0, 0) (0, 0) _ _ _ rfl F.out.y1 rfl F.out.y2 rfl Tryz.underlying130 rfl riInfo Tryz.underlying30 rfl cmInfo4) rfl ?_
    exact HP.out y V2 _ _ HYS.out G1.out G2.out F.out.rin F.out.bel
   ·have hqb : (qe != 0) = true := by simpa using hqe
    have G1 : Hid (gv = Cm.zero) := Lib.hid (by rw [VV2.out, if_pos hqe])
    have G2 : Hid (ge = 4) := Lib.hid (by rw [VE2.out, if_pos hqe])
    obtain ⟨V1, hV1⟩ : ∃ V1, V1 = w9.setRow (w.heap.size + 1) y.cells := ⟨_, rfl⟩
    obtain ⟨V2, hV2⟩ : ∃ V2, V2 = V1.setRow (w.heap.size + 2) Cm.zero.cells := ⟨_, rfl⟩
    have F := Lib.hid (M9.out.fin Cm.zero R9.out hB hV1 hV2)
    clear hqe VV2 VE2
    go_upto_region 6 with (fail)
    iterate 1 go_step
    refine wpList_load_row rfl 130 (.tmp 5) rfl g5 rfl 130 y.cells (0, 0) _ M9.out.b5 Tryz.underlying130 rfl riInfo ?_
    iterate 3 go_step
    refine wpList_store_row rfl 130 (.tmp 2) (.tmp 39) rfl (w.heap.size + 1) y.cells rfl rfl 130 #[.slice none 0 0, .int .i64 0] M9.out.bz riInfo rfl (ri_all _) ?_
    rw [← hV1]
    refine wpList_store_row rfl 30 (.tmp 3) (.tmp 40) rfl (w.heap.size + 2) Cm.zero.cells rfl rfl 30 #[.int .i64 0, .int .i64 0, .int .u64 0, .int .i64 0] F.out.z1 cmInfo4 rfl (cm_all _) ?_
    rw [← hV2]
    clear hV1 hV2
    go_wp2_with (fail)
    refine bodyPost_ret_by (v := .tuple #[.agg y.cells, .agg Cm.zero.cells, .int .i64 4]) (results_three Tryz.results122 _ _ (w.heap.size + 1) (w.heap.size + 2) 130 30 y.cells Cm.zero.cells (0, 0) (0, 0) _ _ _ rfl F.out.y1 rfl F.out.y2 rfl Tryz.underlying130 rfl riInfo Tryz.underlying30 rfl cmInfo4) rfl ?_
    exact HP.out y V2 _ _ HYS.out G1.out G2.out F.out.rin F.out.bel
end Go.Proofs.YtmpedblelnpjdaaGreatDoor
