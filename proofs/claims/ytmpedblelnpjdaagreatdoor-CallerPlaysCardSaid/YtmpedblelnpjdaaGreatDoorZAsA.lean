import Derived.Test.YtmpedblelnpjdaaGreatDoorZCalC
import Derived.Test.YtmpedblelnpjdaaGreatDoorZTq
import Derived.Test.YtmpedblelnpjdaaGreatDoorZTk
section
/- A caller: ask. -/
namespace Go.Proofs.YtmpedblelnpjdaaGreatDoor
open Go.RowKit
set_option linter.unusedSimpArgs false
set_option linter.unusedVariables false
set_option maxHeartbeats 8000000
set_option maxRecDepth 100000
structure ConfM (w : World) (vs : List (Int × Int × List Int × Bool × Int)) (k g3 : Nat) (y : Cf) (W : World) : Prop where
 blk : Blk W g3 33 y.cells
 one : OneOf vs k y
 new : w.heap.size ≤ g3
 bel : Below w.heap.size w W
theorem cfInfo5 : (Tryz.prog.info? 33).map (·.size) = some 5 := by kernel_rfl
theorem cf_all (y : Cf) : y.cells.all (·.oneCell') = true := by simp [Cf.cells, Value.oneCell']
def askHd (f : Int) (y : Cf) : Lt := { Lt.zero with fr := f, ch := y.ch, ep := (y.ep : Int) }
theorem ask_hdr (f ch ep : Int) (w : World) : (Instr.build 37 #[(1, .int .i64 f), (3, .int .i64 ch), (4, .int .u64 ep)]).run Tryz.prog w = .ok (Lt.agg { Lt.zero with fr := f, ch := ch, ep := ep }) w := by kernel_rfl
theorem one_lt (l : Lt) (w : World) : (Instr.buildSlice 67 1 #[(0, l.agg)]).run Tryz.prog w = .ok (.slice (some ⟨w.heap.size, 0, none⟩) 1 1) (w.alloc (.cells l.cells 37)) := by kernel_rfl
structure LetM2 (w : World) (l : Lt) (g4 : Nat) (W : World) : Prop where
 blk : Blk W g4 37 l.cells
 new : w.heap.size ≤ g4
 bel : Below w.heap.size w W
def askLt (c : Cl) (f : Nat) (tto : Int) (y : Cf) (A : Option Addr) : Lt := if c.op.kd = 1 then { askHd (f : Int) y with kd := 19, tw := tto, nu := (c.num : Int), ky := c.op.key } else { askHd (f : Int) y with kd := 17, tw := tto, uA := A, un := 1, up := 1 }
noncomputable def askTo (c : Cl) (y : Cf) : Int := if c.op.kd = 1 then y.readV c.op.pick else y.headV
theorem below_put {B : Nat} {w W : World} (h : Below B w W) (hB : B ≤ W.heap.size) {g : Nat} (hg : B ≤ g) (o : Nat) (v : Value) : Below B w (W.setCell ⟨g, o, none⟩ v) := h.trans ((chg_one W ⟨g, o, none⟩ v).below hB (fun k hk e => by have : k = g := e; omega))
theorem load_up7 (u : Up) (g : Nat) (w : World) (h : Blk w g 145 u.cells) : (loadVar 145 ⟨g, 0, none⟩).run Tryz.prog w = .ok u.agg w := run_loadVar_row w g 145 145 u.cells (0, 0) _ h Tryz.underlying145 rfl upInfo7
theorem one_ltc (l : Lt) (w : World) : (Instr.buildSlice 67 1 #[(0, .agg l.cells)]).run Tryz.prog w = .ok (.slice (some ⟨w.heap.size, 0, none⟩) 1 1) (w.alloc (.cells l.cells 37)) := one_lt l w
theorem lt_lit (l : Lt) : l.cells = #[.int .i64 l.kd, .int .i64 l.fr, .int .i64 l.tw, .int .i64 l.ch, .int .u64 l.ep, .int .u64 l.bl, .int .u64 l.nu, .int .u64 l.sq, .int .u64 l.dz, .int .u64 l.vr, .int .i64 l.sl, .int .u32 l.ky, .int .i64 l.cd, .int .i64 l.qk, .int .i64 l.qc, .int .u64 l.qe, .int .i64 l.qn, .int .i64 l.fc, .int .u64 l.fe, .slice l.fA l.fn l.fp, .bool l.ff, .int .i64 l.fj, .slice l.vA l.vn l.vp, .slice l.uA l.un l.up, .slice l.dA l.dn l.dp] := rfl
end Go.Proofs.YtmpedblelnpjdaaGreatDoor

end
section
/- A caller: ask, with what it asks. -/
namespace Go.Proofs.YtmpedblelnpjdaaGreatDoor
open Go.RowKit
set_option linter.unusedSimpArgs false
set_option linter.unusedVariables false
set_option maxHeartbeats 8000000
set_option maxRecDepth 100000
abbrev CV := Int × Int × List Int × Bool × Int
def cfOf (v : CV) : Cf := ⟨v.1, v.2.1.toNat, none, v.2.2.1.length, 0, v.2.2.2.1, v.2.2.2.2, v.2.2.1⟩
theorem cfOf_val (y : Cf) (h : y.zs.length = y.len) : y = { cfOf y.val with A := y.A, cap := y.cap } := by
 obtain ⟨ch, ep, A, len, cap, fr, jn, zs⟩ := y
 have h : zs.length = len := h
 subst h
 simp [cfOf, Cf.val]
theorem headV_of (y : Cf) (h : y.zs.length = y.len) : y.headV = (cfOf y.val).headV := by
 have e := cfOf_val y h
 generalize cfOf y.val = z at e
 rw [e]
 rfl
theorem readV_of (y : Cf) (h : y.zs.length = y.len) (p : Int) : y.readV p = (cfOf y.val).readV p := by
 have e := cfOf_val y h
 generalize cfOf y.val = z at e
 rw [e]
 rfl
def VsOk (vs : List CV) : Prop := ∀ v ∈ vs, (cfOf v).right = true ∧ v.2.1 ≤ 18446744073709551615
noncomputable def askUs (c : Cl) : List Up := if c.op.kd = 1 then [] else [reqV (reqE c.op c.cl c.num) (reqU c.op c.cl c.num none 0)]
noncomputable def askVal (c : Cl) (v : CV) : LVal := (LV.mk (askLt c (200 + c.cl) (askTo c (cfOf v)) (cfOf v) none) [] [] (askUs c) []).val
def AskOf (vs : List CV) (k : Nat) (c : Cl) (x : LVal) : Prop := ∃ v, vs[(chainV k vs.length).toNat]? = some v ∧ x = askVal c v
theorem askTo_of (c : Cl) (y : Cf) (h : y.zs.length = y.len) : askTo c y = askTo c (cfOf y.val) := by
 unfold askTo
 rw [readV_of y h, headV_of y h]
theorem ask_of {vs : List CV} {k : Nat} {c : Cl} {y y2 : Cf} {us : List Up} {A : Option Addr} (h : OneOf vs k y) (h2 : OneOf vs k y2) (hu : us.map Up.val = (askUs c).map Up.val) : AskOf vs k c (LV.mk (askLt c (200 + c.cl) (askTo c y2) y A) [] [] us []).val := by
 refine ⟨y.val, h.1, ?_⟩
 have e2 : y2.val = y.val := by have := h2.1; rw [h.1] at this; injection this with this; exact this.symm
 rw [askTo_of c y2 h2.2, e2]
 have e := cfOf_val y h.2
 unfold askVal
 have ec : y.ch = (cfOf y.val).ch := rfl
 have ee : y.ep = (cfOf y.val).ep := by simp [cfOf, Cf.val]
 unfold askLt askHd
 rw [← ec, ← ee]
 by_cases hk : c.op.kd = 1
 ·simp only [if_pos hk, LV.val, hu]
 ·simp only [if_neg hk, LV.val, hu]
theorem reqV_val (e : Int) (o : Opn) (cl n : Int) (A : Option Addr) (c : Nat) : (reqV e (reqU o cl n A c)).val = (reqV e (reqU o cl n none 0)).val := by
 unfold reqV
 split <;> rfl
theorem upIn_zero (W : World) (B : Nat) : UpIn W B Up.zero := ⟨Reads.none_, Nat.le_refl _, by decide, by constructor <;> simp [Up.zero]⟩
theorem reqV_in {W : World} {B : Nat} {u : Up} (e : Int) (h : UpIn W B u) : UpIn W B (reqV e u) := by
 unfold reqV
 split
 ·exact h
 ·exact upIn_zero _ _
theorem lin_ask {W : World} {B : Nat} {l : Lt} {us : List Up} (h : (l.fn = 0 ∧ l.fp = 0) ∧ (l.vn = 0 ∧ l.vp = 0) ∧ (l.dn = 0 ∧ l.dp = 0)) (wf : LWf l) (hu : UpsIn W B l.uA l.un us) (hc : l.un ≤ l.up ∧ l.up ≤ maxLen) : LIn W B ⟨l, [], [], us, []⟩ := by
 obtain ⟨⟨a1, a2⟩, ⟨b1, b2⟩, ⟨c1, c2⟩⟩ := h
 exact ⟨by rw [a1]; exact Reads.none_, by rw [b1]; exact Reads.none_, hu, by rw [c1]; exact Reads.none_, bytesB_nil, wf, fun v hv => (by cases hv), fun v hv => (by cases hv), by rw [a1, a2]; decide, by rw [b1, b2]; decide, hc, by rw [c1, c2]; decide⟩
theorem right_bounds {y : Cf} (h : y.right = true) : (0 ≤ y.ch ∧ y.ch < 4) ∧ (∀ z ∈ y.zs, 1 ≤ z ∧ z ≤ 24) := by
 unfold Cf.right at h
 simp only [Bool.and_eq_true, decide_eq_true_eq] at h
 refine ⟨h.1.1, fun z hz => ?_⟩
 have hu := (unlikeB_iff _).1 h.2
 obtain ⟨i, hi, e⟩ := List.getElem_of_mem hz
 have : y.stands[i]? = some z := by
  unfold Cf.stands
  rw [List.getElem?_append_left hi, List.getElem?_eq_getElem hi, e]
 have hn := (hu i z this).1
 simpa [nodeB] using hn
theorem getD_bound {l : List Int} (h : ∀ z ∈ l, 1 ≤ z ∧ z ≤ 24) (i : Nat) : 0 ≤ l.getD i 0 ∧ l.getD i 0 ≤ 24 := by
 rw [List.getD_eq_getElem?_getD]
 cases e : l[i]? with
 | none => simp
 | some z => have := h z (List.mem_of_getElem? e); simp; omega
theorem to_bound {c : Cl} {y : Cf} (h : y.right = true) : 0 ≤ askTo c y ∧ askTo c y ≤ 24 := by
 have hb := (right_bounds h).2
 unfold askTo Cf.readV Cf.headV
 rw [h]
 simp only [if_true]
 split <;> exact getD_bound hb _
theorem one_right {vs : List CV} {k : Nat} {y : Cf} (hv : VsOk vs) (h : OneOf vs k y) : y.right = true := by
 have e := cfOf_val y h.2
 have r := (hv _ (List.mem_of_getElem? h.1)).1
 generalize cfOf y.val = z at e r
 rw [e]
 exact r
theorem ask_wf {c : Cl} {y y2 : Cf} {A : Option Addr} (hy : y.right = true) (hy2 : y2.right = true) (hep : y.ep ≤ 18446744073709551615) (hcl : c.cl ≤ 6) (hnum : c.num ≤ 1000000) (hkey : 0 ≤ c.op.key ∧ c.op.key ≤ 4294967295) : LWf (askLt c (200 + c.cl) (askTo c y2) y A) := by
 have h1 := (right_bounds hy).1
 have h2 := to_bound (c := c) hy2
 unfold askLt askHd
 by_cases hk : c.op.kd = 1
 ·rw [if_pos hk]
  constructor <;> simp [Lt.zero] <;> omega
 ·rw [if_neg hk]
  constructor <;> simp [Lt.zero] <;> omega
theorem reads_blk_up {W : World} {q : Nat} {u : Up} (h : Blk W q 145 u.cells) : Reads W W.heap.size 7 (some ⟨q, 0, none⟩) 1 u.row := by
 refine ⟨rfl, fun _ => ⟨_, rfl, h.lt, fun j v hv => ?_⟩⟩
 rw [Go.WideShapes.add_plain, h.cell]
 simpa [Up.row, Up.cells] using hv
theorem no_byteG {W : World} {q B n : Nat} {A : Option Addr} {t : TypeId} {cs : Array Value} {bs : List Int} (h : Blk W q t cs) (hcs : ∀ (i : Nat) (z : Int), cs[i]? ≠ some (.int .u8 z)) (hr : Reads W B 1 A n (bs.map (Value.int .u8))) : ∀ ad, 0 < n → A = some ad → ¬ ad.block = q := by
 intro ad h0 hA e
 obtain ⟨ad', hA', _, hc⟩ := hr.2 h0
 rw [hA] at hA'
 injection hA' with hA'
 subst hA'
 have hl := hr.1
 simp only [List.length_map, Nat.mul_one] at hl
 have h1 := hc 0 (.int .u8 bs[0]) (by rw [List.getElem?_map, List.getElem?_eq_getElem (by omega)]; rfl)
 obtain ⟨b, o, sp⟩ := ad
 have sp0 := World.cell?_spot h1
 have sp1 : sp = none := by cases sp <;> simp_all [Addr.add]
 subst sp1
 simp only at e
 subst e
 rw [Go.WideShapes.add_plain, h.cell] at h1
 exact hcs _ _ h1
theorem no_byte {W : World} {q B n : Nat} {A : Option Addr} {l : Lt} {bs : List Int} (h : Blk W q 37 l.cells) (hr : Reads W B 1 A n (bs.map (Value.int .u8))) : ∀ ad, 0 < n → A = some ad → ¬ ad.block = q :=
 no_byteG h (fun i z e => by
  have := Array.mem_of_getElem? e
  simp [Lt.cells] at this) hr
theorem no_byteU {W : World} {q B n : Nat} {A : Option Addr} {u : Up} {bs : List Int} (h : Blk W q 145 u.cells) (hr : Reads W B 1 A n (bs.map (Value.int .u8))) : ∀ ad, 0 < n → A = some ad → ¬ ad.block = q :=
 no_byteG h (fun i z e => by
  have := Array.mem_of_getElem? e
  simp [Up.cells] at this) hr
theorem chg_row9 (W : World) (g : Nat) (cs : Array Value) : Chg W (W.setRow g cs) (fun k => k = g) := ⟨rfl, rfl, rfl, by simp [World.setRow], fun k hk hn => setRow_other W g k cs hn⟩
theorem up_alloc {W : World} {u : Up} (h : UpIn W W.heap.size u) (o : Obj) : UpIn (W.alloc o) (W.alloc o).heap.size u := by
 have hb : Below W.heap.size W (W.alloc o) := (Below.refl _ _).alloc (Nat.le_refl _) _
 exact (h.below hb).more hb.size
theorem up_row {W : World} {g : Nat} {u v : Up} (hb : Blk W g 145 v.cells) (h : UpIn W W.heap.size u) (cs : Array Value) : UpIn (W.setRow g cs) (W.setRow g cs).heap.size u := by
 have hc := chg_row9 W g cs
 exact ⟨(hc.reads h.rd (Nat.le_refl _) (no_byteU hb h.rd)).more hc.size, h.hc, h.hm, h.wf⟩
structure AskM3 (w : World) (l : Lt) (g4 g5 : Nat) (u : Up) (c : Cl) (W : World) : Prop where
 l4 : Blk W g4 37 l.cells
 u5 : Blk W g5 145 u.cells
 n4 : w.heap.size ≤ g4
 n5 : w.heap.size ≤ g5
 ne : g4 ≠ g5
 bel : Below w.heap.size w W
 up : UpIn W W.heap.size u
 val : u.val = (reqV (reqE c.op c.cl c.num) (reqU c.op c.cl c.num none 0)).val
def AskP2 (vs : List CV) (k : Nat) (c : Cl) (w : World) (e : Ending) (w' : World) : Prop :=
 ∃ (q : Nat) (x : LV), e = .returned (.slice (some ⟨q, 0, none⟩) 1 1) ∧ w.heap.size ≤ q ∧ Blk w' q 37 x.l.cells ∧ LIn w' q x ∧ x.near ∧ AskOf vs k c x.val ∧ Below w.heap.size w w'
theorem ask2_any (lo g G h : Nat) (vs : List (Int × Int × List Int × Bool × Int)) (c : Cl) (k : Nat) (w : World) (a : CalAt w lo g G h vs c) (hk : c.op.key = (k : Int)) (hk2 : k < 4294967296) (hK : KindsAt w) (hcl : c.cl ≤ 6) (hnum : c.num ≤ 1000000) (hn : c.op.n ≤ 1000000) (hvs : VsOk vs) :
  Calls Tryz.prog 71 #[.pointer (some ⟨g, 0, none⟩)] w (AskP2 vs k c w) := by
 have HVS := Lib.hid hvs
 have HKY := Lib.hid a.ow.key
 obtain ⟨q, hh, cB, o, hax, hov⟩ := a.atl
 have lg := a.box.lt
 have HA := Lib.hid a
 have HK := Lib.hid hK
 have HKK := Lib.hid hk
 have OF := Lib.hid (fun W (h9 : Below w.heap.size w W) => atlOf_any lo G q hh cB o k hk2 W (hax.below h9))
 have HD := Lib.hid (fun W (h9 : Below w.heap.size w W) => aHead_any lo G q hh cB o k hk2 W (hax.below h9))
 have RD := Lib.hid (fun W (h9 : Below w.heap.size w W) => aReader_any lo G q hh cB o k hk2 c.op.pick a.ow.pick.2 W (hax.below h9))
 have RQ := Lib.hid (fun W (h9 : Below w.heap.size w W) => request_any c.op c.cl c.num W.heap.size W (hK.below h9) ((a.below h9).opIn) (Nat.le_refl _) hn (by omega) (by omega))
 obtain ⟨f, hf⟩ : ∃ f : Nat, f = 200 + c.cl := ⟨_, rfl⟩
 have AD := Lib.hid (fun W (h9 : Below w.heap.size w W) => calAddr_any lo g G h vs c f W (a.below h9) hf hcl)
 have HF := Lib.hid hf
 have HBN : Hid (c.op.bs.length = c.op.n) := Lib.hid (by have := a.opIn.rd.1; simpa using this)
 have HEP : Hid (∀ y : Cf, OneOf vs k y → y.ep ≤ 18446744073709551615) := Lib.hid (fun y hy => by have := (hvs _ (List.mem_of_getElem? hy.1)).2; have this : (y.ep : Int) ≤ 18446744073709551615 := this; omega)
 have hOV := Lib.hid hov
 have hOL : Hid (∀ y : Cf, (o.map Cf.val)[(chainV k o.length).toNat]? = some y.val → y.zs.length = y.len → OneOf vs k y) := Lib.hid (fun y h1 h2 => ⟨by rw [← hov, List.length_map]; exact h1, h2⟩)
 have y0 : w.cell? ⟨g, 0, none⟩ = some (.int .i64 c.cl) := a.box.cell 0
 have y2 : w.cell? ⟨g, 2, none⟩ = some (.int .u64 c.num) := a.box.cell 2
 have y4 : w.cell? ⟨g, 4, none⟩ = some (.pointer (some ⟨G, 0, none⟩)) := a.box.cell 4
 have y6 : w.cell? ⟨g, 6, none⟩ = some (.int .u32 (k : Int)) := (a.box.cell 6).trans (by rw [← hk]; rfl)
 clear a hax hov hk hK hf
 go_enter Tryz.func71, Tryz.ntmps71
 go_upto_region 1 with (fail)
 go_cut [3] (fun v3 wx => ∃ (g3 : Nat) (y : Cf), v3 = .pointer (some ⟨g3, 0, none⟩) ∧ Hid (ConfM w vs k g3 y wx))
 case first =>
  have HB : Hid (Below w.heap.size w w.drew) := Lib.hid (Below.refl _ _).drew
  refine wp_region_held_drew (S := fun wq => wq.cell? ⟨g, 4, none⟩ = some (.pointer (some ⟨G, 0, none⟩)) ∧ wq.cell? ⟨g, 6, none⟩ = some (.int .u32 (k : Int))) (by kernel_rfl) ⟨y4, y6⟩ (fun hHeld => ?_)
  generalize w.drew = Vd at *
  refine tkT 0 rfl (v := ?_) ?_ ?_
  rotate_left 1
  ·(intro wq hSw; (try dsimp only at hSw); go_simp; (try with_reducible rfl))
  try simp only [Act.put, pS]
  refine tkT 1 rfl (v := ?_) ?_ ?_
  rotate_left 1
  ·(intro wq hSw; (try dsimp only at hSw); go_simp; (try with_reducible rfl))
  try simp only [Act.put, pS]
  refine tkT 2 rfl (v := ?_) ?_ ?_
  rotate_left 1
  ·(intro wq hSw; (try dsimp only at hSw); go_simp; (try with_reducible rfl))
  try simp only [Act.put, pS]
  refine tkT 3 rfl (v := ?_) ?_ ?_
  rotate_left 1
  ·(intro wq hSw; (try dsimp only at hSw); go_simp; (try with_reducible rfl))
  try simp only [Act.put, pS]
  refine tkT 4 rfl (v := ?_) ?_ ?_
  rotate_left 1
  ·(intro wq hSw; (try dsimp only at hSw); go_simp; (try with_reducible rfl))
  try simp only [Act.put, pS]
  refine tkT 5 rfl (v := ?_) ?_ ?_
  rotate_left 1
  ·(intro wq hSw; (try dsimp only at hSw); go_simp; (try with_reducible rfl))
  try simp only [Act.put, pS]
  refine tkT 6 rfl (v := ?_) ?_ ?_
  rotate_left 1
  ·(intro wq hSw; (try dsimp only at hSw); go_simp; (try with_reducible rfl))
  try simp only [Act.put, pS]
  refine tkT 7 rfl (v := ?_) ?_ ?_
  rotate_left 1
  ·(intro wq hSw; (try dsimp only at hSw); go_simp; (try with_reducible rfl))
  try simp only [Act.put, pS]
  refine tkT 8 rfl (v := ?_) ?_ ?_
  rotate_left 1
  ·(intro wq hSw; (try dsimp only at hSw); go_simp; (try with_reducible rfl))
  try simp only [Act.put, pS]
  refine wpAnyH_ready (rs := [9, 10]) (by kernel_rfl) (by simp) ?_
  refine (AllReadyH.cons rfl (fun K hK => ?_) (AllReadyH.cons rfl (fun K hK => ?_) AllReadyH.nil))
  ·go_simp
   refine (OF.out _ HB.out).mono ?_
   rintro e x9 ⟨y, rfl, hone, hown, h9⟩
   replace HB := Lib.hid (HB.out.trans (h9.mono HB.out.size))
   (try replace GB := Lib.hid (GB.out.below h9 GB.out.lt))
   have HS : x9.cell? ⟨g, 4, none⟩ = some (.pointer (some ⟨G, 0, none⟩)) ∧ x9.cell? ⟨g, 6, none⟩ = some (.int .u32 (k : Int)) := ⟨(HA.out.below HB.out).box.cell 4, ((HA.out.below HB.out).box.cell 6).trans (by rw [← HKK.out]; rfl)⟩
   have HONE := Lib.hid (hOL.out y hone hown.len_)
   clear h9 hown hone
   refine hK.out _ _ ?_ (fun hHeld => ?_)
   ·first | exact HS | go_keep
   clear hK K
   try simp only [Act.put, pS]
   refine wpAnyH_ready (rs := [10]) (by kernel_rfl) (by simp) ?_
   refine (AllReadyH.cons rfl (fun K hK => ?_) AllReadyH.nil)
   go_simp
   have lG : w.heap.size ≤ x9.heap.size := HB.out.size
   have GB := Lib.hid (Blk.new x9 33 #[.int .i64 0, .int .u64 0, .slice none 0 0, .bool false, .int .i64 0])
   replace HB := Lib.hid (HB.out.alloc HB.out.size (.cells #[.int .i64 0, .int .u64 0, .slice none 0 0, .bool false, .int .i64 0] 33))
   have HS : (x9.alloc (.cells #[.int .i64 0, .int .u64 0, .slice none 0 0, .bool false, .int .i64 0] 33)).cell? ⟨g, 4, none⟩ = some (.pointer (some ⟨G, 0, none⟩)) ∧ (x9.alloc (.cells #[.int .i64 0, .int .u64 0, .slice none 0 0, .bool false, .int .i64 0] 33)).cell? ⟨g, 6, none⟩ = some (.int .u32 (k : Int)) := ⟨(HA.out.below HB.out).box.cell 4, ((HA.out.below HB.out).box.cell 6).trans (by rw [← HKK.out]; rfl)⟩
   refine hK.out _ _ ?_ (fun hHeld => ?_)
   ·first | exact HS | go_keep
   clear hK K
   generalize (x9.alloc (.cells #[.int .i64 0, .int .u64 0, .slice none 0 0, .bool false, .int .i64 0] 33)) = Va at *
   try simp only [Act.put, pS]
   refine wpAnyH_ready (rs := [11]) (by kernel_rfl) (by simp) ?_
   refine (AllReadyH.cons rfl (fun K hK => ?_) AllReadyH.nil)
   replace HB : Hid (Below w.heap.size w (World.setRow Va x9.heap.size y.cells)) := Lib.hid (below_setRow HB.out lG _)
   have HS : (World.setRow Va x9.heap.size y.cells).cell? ⟨g, 4, none⟩ = some (.pointer (some ⟨G, 0, none⟩)) ∧ (World.setRow Va x9.heap.size y.cells).cell? ⟨g, 6, none⟩ = some (.int .u32 (k : Int)) := ⟨(HA.out.below HB.out).box.cell 4, ((HA.out.below HB.out).box.cell 6).trans (by rw [← HKK.out]; rfl)⟩
   have HCM : Hid (ConfM w vs k x9.heap.size y (World.setRow Va x9.heap.size y.cells)) := Lib.hid ⟨setRow_heap _ _ _ _ _ _ GB.out, HONE.out, lG, HB.out⟩
   refine step_store_row rfl 33 (.tmp 3) (.tmp 16) rfl x9.heap.size y.cells rfl rfl 33 #[.int .i64 0, .int .u64 0, .slice none 0 0, .bool false, .int .i64 0] GB.out cfInfo5 rfl (cf_all _) ?_
   refine hK.out _ _ ?_ (fun hHeld => ?_)
   ·first | exact HS | go_keep
   clear hK K
   generalize (World.setRow Va x9.heap.size y.cells) = Vb at *
   try simp only [Act.put, pS]
   refine wpAnyH_done (by kernel_rfl) ?_ _
   go_wp2_with (fail)
   go_meet
   case rel => exact ⟨_, _, rfl, HCM⟩
  ·go_simp
   have lG : w.heap.size ≤ Vd.heap.size := HB.out.size
   have GB := Lib.hid (Blk.new Vd 33 #[.int .i64 0, .int .u64 0, .slice none 0 0, .bool false, .int .i64 0])
   replace HB := Lib.hid (HB.out.alloc HB.out.size (.cells #[.int .i64 0, .int .u64 0, .slice none 0 0, .bool false, .int .i64 0] 33))
   have HS : (Vd.alloc (.cells #[.int .i64 0, .int .u64 0, .slice none 0 0, .bool false, .int .i64 0] 33)).cell? ⟨g, 4, none⟩ = some (.pointer (some ⟨G, 0, none⟩)) ∧ (Vd.alloc (.cells #[.int .i64 0, .int .u64 0, .slice none 0 0, .bool false, .int .i64 0] 33)).cell? ⟨g, 6, none⟩ = some (.int .u32 (k : Int)) := ⟨(HA.out.below HB.out).box.cell 4, ((HA.out.below HB.out).box.cell 6).trans (by rw [← HKK.out]; rfl)⟩
   refine hK.out _ _ ?_ (fun hHeld => ?_)
   ·first | exact HS | go_keep
   clear hK K
   generalize (Vd.alloc (.cells #[.int .i64 0, .int .u64 0, .slice none 0 0, .bool false, .int .i64 0] 33)) = Va at *
   try simp only [Act.put, pS]
   refine wpAnyH_ready (rs := [9]) (by kernel_rfl) (by simp) ?_
   refine (AllReadyH.cons rfl (fun K hK => ?_) AllReadyH.nil)
   go_simp
   refine (OF.out _ HB.out).mono ?_
   rintro e x9 ⟨y, rfl, hone, hown, h9⟩
   replace HB := Lib.hid (HB.out.trans (h9.mono HB.out.size))
   (try replace GB := Lib.hid (GB.out.below h9 GB.out.lt))
   have HS : x9.cell? ⟨g, 4, none⟩ = some (.pointer (some ⟨G, 0, none⟩)) ∧ x9.cell? ⟨g, 6, none⟩ = some (.int .u32 (k : Int)) := ⟨(HA.out.below HB.out).box.cell 4, ((HA.out.below HB.out).box.cell 6).trans (by rw [← HKK.out]; rfl)⟩
   have HONE := Lib.hid (hOL.out y hone hown.len_)
   clear h9 hown hone
   refine hK.out _ _ ?_ (fun hHeld => ?_)
   ·first | exact HS | go_keep
   clear hK K
   try simp only [Act.put, pS]
   refine wpAnyH_ready (rs := [11]) (by kernel_rfl) (by simp) ?_
   refine (AllReadyH.cons rfl (fun K hK => ?_) AllReadyH.nil)
   replace HB : Hid (Below w.heap.size w (World.setRow x9 Vd.heap.size y.cells)) := Lib.hid (below_setRow HB.out lG _)
   have HS : (World.setRow x9 Vd.heap.size y.cells).cell? ⟨g, 4, none⟩ = some (.pointer (some ⟨G, 0, none⟩)) ∧ (World.setRow x9 Vd.heap.size y.cells).cell? ⟨g, 6, none⟩ = some (.int .u32 (k : Int)) := ⟨(HA.out.below HB.out).box.cell 4, ((HA.out.below HB.out).box.cell 6).trans (by rw [← HKK.out]; rfl)⟩
   have HCM : Hid (ConfM w vs k Vd.heap.size y (World.setRow x9 Vd.heap.size y.cells)) := Lib.hid ⟨setRow_heap _ _ _ _ _ _ GB.out, HONE.out, lG, HB.out⟩
   refine step_store_row rfl 33 (.tmp 3) (.tmp 16) rfl Vd.heap.size y.cells rfl rfl 33 #[.int .i64 0, .int .u64 0, .slice none 0 0, .bool false, .int .i64 0] GB.out cfInfo5 rfl (cf_all _) ?_
   refine hK.out _ _ ?_ (fun hHeld => ?_)
   ·first | exact HS | go_keep
   clear hK K
   generalize (World.setRow x9 Vd.heap.size y.cells) = Vb at *
   try simp only [Act.put, pS]
   refine wpAnyH_done (by kernel_rfl) ?_ _
   go_wp2_with (fail)
   go_meet
   case rel => exact ⟨_, _, rfl, HCM⟩
 case rest =>
  obtain ⟨g3, y, rfl, HM⟩ := hcut
  clear OF hOL
  have lg3 := HM.out.new
  have hz := ask_hdr (f : Int) y.ch (y.ep : Int)
  have c0 : wc.cell? ⟨g3, 0, none⟩ = some (.int .i64 y.ch) := HM.out.blk.cell 0
  have c1 : wc.cell? ⟨g3, 1, none⟩ = some (.int .u64 (y.ep : Int)) := HM.out.blk.cell 1
  clear y0 y2 y4 y6
  go_upto_region 2 with (fail)
  go_cut [4] (fun v4 wx => ∃ (g4 : Nat), v4 = .pointer (some ⟨g4, 0, none⟩) ∧ Hid (LetM2 w (askHd (f : Int) y) g4 wx))
  case first =>
   have HB : Hid (Below w.heap.size w wc.drew) := Lib.hid (HM.out.bel.drew)
   have GC : Hid (Blk wc.drew g3 33 y.cells) := Lib.hid (HM.out.blk.drew)
   refine wp_region_held_drew (S := fun wq => wq.cell? ⟨g3, 0, none⟩ = some (.int .i64 y.ch) ∧ wq.cell? ⟨g3, 1, none⟩ = some (.int .u64 (y.ep : Int))) (by kernel_rfl) ⟨c0, c1⟩ (fun hHeld => ?_)
   have HCD : Hid (Below wc.heap.size wc wc.drew) := Lib.hid (Below.refl _ _).drew
   generalize wc.drew = Vd at *
   refine tkT 0 rfl (v := ?_) ?_ ?_
   rotate_left 1
   ·(intro wq hSw; (try dsimp only at hSw); go_simp; (try with_reducible rfl))
   try simp only [Act.put, pS]
   refine tkT 2 rfl (v := ?_) ?_ ?_
   rotate_left 1
   ·(intro wq hSw; (try dsimp only at hSw); go_simp; (try with_reducible rfl))
   try simp only [Act.put, pS]
   refine tkT 3 rfl (v := ?_) ?_ ?_
   rotate_left 1
   ·(intro wq hSw; (try dsimp only at hSw); go_simp; (try with_reducible rfl))
   try simp only [Act.put, pS]
   refine tkT 4 rfl (v := ?_) ?_ ?_
   rotate_left 1
   ·(intro wq hSw; (try dsimp only at hSw); go_simp; (try with_reducible rfl))
   try simp only [Act.put, pS]
   refine tkT 5 rfl (v := ?_) ?_ ?_
   rotate_left 1
   ·(intro wq hSw; (try dsimp only at hSw); go_simp; (try with_reducible rfl))
   try simp only [Act.put, pS]
   refine wpAnyH_ready (rs := [1, 7]) (by kernel_rfl) (by simp) ?_
   refine (AllReadyH.cons rfl (fun K hK => ?_) (AllReadyH.cons rfl (fun K hK => ?_) AllReadyH.nil))
   ·go_simp
    refine (AD.out _ HB.out).mono ?_
    rintro e x9 ⟨rfl, rfl⟩
    have HS : Vd.cell? ⟨g3, 0, none⟩ = some (.int .i64 y.ch) ∧ Vd.cell? ⟨g3, 1, none⟩ = some (.int .u64 (y.ep : Int)) := ⟨GC.out.cell 0, GC.out.cell 1⟩
    refine hK.out _ _ ?_ (fun hHeld => ?_)
    ·first | exact HS | go_keep
    clear hK K
    try simp only [Act.put, pS]
    refine tkT 6 rfl (v := ?_) ?_ ?_
    rotate_left 1
    ·(intro wq hSw; (try dsimp only at hSw); go_simp; (try with_reducible rfl))
    try simp only [Act.put, pS]
    refine wpAnyH_ready (rs := [7]) (by kernel_rfl) (by simp) ?_
    refine (AllReadyH.cons rfl (fun K hK => ?_) AllReadyH.nil)
    go_simp
    have lG : w.heap.size ≤ Vd.heap.size := HB.out.size
    have GB := Lib.hid (Blk.new Vd 37 ZL)
    replace HB := Lib.hid (HB.out.alloc HB.out.size (.cells ZL 37))
    have lC := GC.out.lt
    replace GC := Lib.hid (GC.out.alloc (.cells ZL 37))
    have HS : (Vd.alloc (.cells ZL 37)).cell? ⟨g3, 0, none⟩ = some (.int .i64 y.ch) ∧ (Vd.alloc (.cells ZL 37)).cell? ⟨g3, 1, none⟩ = some (.int .u64 (y.ep : Int)) := ⟨GC.out.cell 0, GC.out.cell 1⟩
    refine hK.out _ _ ?_ (fun hHeld => ?_)
    ·first | exact HS | go_keep
    clear hK K
    generalize (Vd.alloc (.cells ZL 37)) = Va at *
    exact rp32
   ·go_simp
    have lG : w.heap.size ≤ Vd.heap.size := HB.out.size
    have GB := Lib.hid (Blk.new Vd 37 ZL)
    replace HB := Lib.hid (HB.out.alloc HB.out.size (.cells ZL 37))
    have lC := GC.out.lt
    replace GC := Lib.hid (GC.out.alloc (.cells ZL 37))
    have HS : (Vd.alloc (.cells ZL 37)).cell? ⟨g3, 0, none⟩ = some (.int .i64 y.ch) ∧ (Vd.alloc (.cells ZL 37)).cell? ⟨g3, 1, none⟩ = some (.int .u64 (y.ep : Int)) := ⟨GC.out.cell 0, GC.out.cell 1⟩
    refine hK.out _ _ ?_ (fun hHeld => ?_)
    ·first | exact HS | go_keep
    clear hK K
    generalize (Vd.alloc (.cells ZL 37)) = Va at *
    try simp only [Act.put, pS]
    refine wpAnyH_ready (rs := [1]) (by kernel_rfl) (by simp) ?_
    refine (AllReadyH.cons rfl (fun K hK => ?_) AllReadyH.nil)
    go_simp
    refine (AD.out _ HB.out).mono ?_
    rintro e x9 ⟨rfl, rfl⟩
    have HS : Va.cell? ⟨g3, 0, none⟩ = some (.int .i64 y.ch) ∧ Va.cell? ⟨g3, 1, none⟩ = some (.int .u64 (y.ep : Int)) := ⟨GC.out.cell 0, GC.out.cell 1⟩
    refine hK.out _ _ ?_ (fun hHeld => ?_)
    ·first | exact HS | go_keep
    clear hK K
    try simp only [Act.put, pS]
    refine tkT 6 rfl (v := ?_) ?_ ?_
    rotate_left 1
    ·(intro wq hSw; (try dsimp only at hSw); go_simp; (try with_reducible rfl))
    exact rp32
  case rest =>
   obtain ⟨g4, rfl, HL⟩ := hcut
   have HONE := Lib.hid HM.out.one
   clear HM c0 c1 lg3 hz AD
   have HA2 := Lib.hid (HA.out.below HL.out.bel)
   have lg4 := HL.out.new
   have ng : g ≠ g4 := by omega
   have ng' : g4 ≠ g := by omega
   have y0 : wc.cell? ⟨g, 0, none⟩ = some (.int .i64 c.cl) := HA2.out.box.cell 0
   have y2 : wc.cell? ⟨g, 2, none⟩ = some (.int .u64 c.num) := HA2.out.box.cell 2
   have y4 : wc.cell? ⟨g, 4, none⟩ = some (.pointer (some ⟨G, 0, none⟩)) := HA2.out.box.cell 4
   have y5 : wc.cell? ⟨g, 5, none⟩ = some (.int .i64 c.op.kd) := HA2.out.box.cell 5
   have y6 : wc.cell? ⟨g, 6, none⟩ = some (.int .u32 (k : Int)) := (HA2.out.box.cell 6).trans (by rw [← HKK.out]; rfl)
   have y7 : wc.cell? ⟨g, 7, none⟩ = some (.int .u64 c.op.ver) := HA2.out.box.cell 7
   have y8 : wc.cell? ⟨g, 8, none⟩ = some (.slice c.op.A c.op.n c.op.c) := HA2.out.box.cell 8
   have y9 : wc.cell? ⟨g, 9, none⟩ = some (.int .i64 c.op.pick) := HA2.out.box.cell 9
   by_cases hk1 : c.op.kd = 1
   ·have q1 : (c.op.kd == 1) = true := by simp [hk1]
    have HK1 := Lib.hid hk1
    clear hk1 HD RQ
    have lg := HA2.out.box.lt
    have HB : Hid (Below w.heap.size w wc.drew) := Lib.hid HL.out.bel.drew
    have GL : Hid (Blk wc.drew g4 37 (askHd (f : Int) y).cells) := Lib.hid (HL.out.blk.drew)
    go_upto_region 4 with (fail)
    refine wp_region_held_drew (S := fun wq => wq.cell? ⟨g, 2, none⟩ = some (.int .u64 c.num) ∧ wq.cell? ⟨g, 4, none⟩ = some (.pointer (some ⟨G, 0, none⟩)) ∧ wq.cell? ⟨g, 6, none⟩ = some (.int .u32 (k : Int)) ∧ wq.cell? ⟨g, 9, none⟩ = some (.int .i64 c.op.pick)) (by kernel_rfl) ⟨y2, y4, y6, y9⟩ (fun hHeld => ?_)
    refine tkT 0 rfl (v := ?_) ?_ ?_
    rotate_left 1
    ·(intro wq hSw; (try dsimp only at hSw); go_simp; (try with_reducible rfl))
    try simp only [Act.put, pS]
    refine tkT 1 rfl (v := ?_) ?_ ?_
    rotate_left 1
    ·(intro wq hSw; (try dsimp only at hSw); go_simp; (try with_reducible rfl))
    try simp only [Act.put, pS]
    refine tkT 2 rfl (v := ?_) ?_ ?_
    rotate_left 1
    ·(intro wq hSw; (try dsimp only at hSw); go_simp; (try with_reducible rfl))
    try simp only [Act.put, pS]
    refine tkT 3 rfl (v := ?_) ?_ ?_
    rotate_left 1
    ·(intro wq hSw; (try dsimp only at hSw); go_simp; (try with_reducible rfl))
    try simp only [Act.put, pS]
    refine tkT 4 rfl (v := ?_) ?_ ?_
    rotate_left 1
    ·(intro wq hSw; (try dsimp only at hSw); go_simp; (try with_reducible rfl))
    try simp only [Act.put, pS]
    refine tkT 5 rfl (v := ?_) ?_ ?_
    rotate_left 1
    ·(intro wq hSw; (try dsimp only at hSw); go_simp; (try with_reducible rfl))
    try simp only [Act.put, pS]
    refine tkT 6 rfl (v := ?_) ?_ ?_
    rotate_left 1
    ·(intro wq hSw; (try dsimp only at hSw); go_simp; (try with_reducible rfl))
    try simp only [Act.put, pS]
    refine tkT 7 rfl (v := ?_) ?_ ?_
    rotate_left 1
    ·(intro wq hSw; (try dsimp only at hSw); go_simp; (try with_reducible rfl))
    try simp only [Act.put, pS]
    refine tkT 8 rfl (v := ?_) ?_ ?_
    rotate_left 1
    ·(intro wq hSw; (try dsimp only at hSw); go_simp; (try with_reducible rfl))
    try simp only [Act.put, pS]
    refine tkT 9 rfl (v := ?_) ?_ ?_
    rotate_left 1
    ·(intro wq hSw; (try dsimp only at hSw); go_simp; (try with_reducible rfl))
    try simp only [Act.put, pS]
    refine tkT 10 rfl (v := ?_) ?_ ?_
    rotate_left 1
    ·(intro wq hSw; (try dsimp only at hSw); go_simp; (try with_reducible rfl))
    try simp only [Act.put, pS]
    refine tkT 11 rfl (v := ?_) ?_ ?_
    rotate_left 1
    ·(intro wq hSw; (try dsimp only at hSw); go_simp; (try with_reducible rfl))
    try simp only [Act.put, pS]
    refine tkT 12 rfl (v := ?_) ?_ ?_
    rotate_left 1
    ·(intro wq hSw; (try dsimp only at hSw); go_simp; (try with_reducible rfl))
    try simp only [Act.put, pS]
    refine tkT 13 rfl (v := ?_) ?_ ?_
    rotate_left 1
    ·(intro wq hSw; (try dsimp only at hSw); go_simp; (try with_reducible rfl))
    try simp only [Act.put, pS]
    refine tkT 15 rfl (v := ?_) ?_ ?_
    rotate_left 1
    ·(intro wq hSw; (try dsimp only at hSw); go_simp; (try with_reducible rfl))
    try simp only [Act.put, pS]
    refine tkT 16 rfl (v := ?_) ?_ ?_
    rotate_left 1
    ·(intro wq hSw; (try dsimp only at hSw); go_simp; (try with_reducible rfl))
    try simp only [Act.put, pS]
    refine tkT 17 rfl (v := ?_) ?_ ?_
    rotate_left 1
    ·(intro wq hSw; (try dsimp only at hSw); go_simp; (try with_reducible rfl))
    try simp only [Act.put, pS]
    refine tkT 18 rfl (v := ?_) ?_ ?_
    rotate_left 1
    ·(intro wq hSw; (try dsimp only at hSw); go_simp; (try with_reducible rfl))
    try simp only [Act.put, pS]
    refine tkT 19 rfl (v := ?_) ?_ ?_
    rotate_left 1
    ·(intro wq hSw; (try dsimp only at hSw); go_simp; (try with_reducible rfl))
    try simp only [Act.put, pS]
    refine tkT 20 rfl (v := ?_) ?_ ?_
    rotate_left 1
    ·(intro wq hSw; (try dsimp only at hSw); go_simp; (try with_reducible rfl))
    try simp only [Act.put, pS]
    refine tkT 21 rfl (v := ?_) ?_ ?_
    rotate_left 1
    ·(intro wq hSw; (try dsimp only at hSw); go_simp; (try with_reducible rfl))
    try simp only [Act.put, pS]
    refine tkT 22 rfl (v := ?_) ?_ ?_
    rotate_left 1
    ·(intro wq hSw; (try dsimp only at hSw); go_simp; (try with_reducible rfl))
    try simp only [Act.put, pS]
    refine tkT 23 rfl (v := ?_) ?_ ?_
    rotate_left 1
    ·(intro wq hSw; (try dsimp only at hSw); go_simp; (try with_reducible rfl))
    try simp only [Act.put, pS]
    refine tkT 24 rfl (v := ?_) ?_ ?_
    rotate_left 1
    ·(intro wq hSw; (try dsimp only at hSw); go_simp; (try with_reducible rfl))
    try simp only [Act.put, pS]
    refine wpAnyH_ready (rs := [14]) (by kernel_rfl) (by simp) ?_
    refine (AllReadyH.cons rfl (fun K hK => ?_) AllReadyH.nil)
    go_simp
    refine (RD.out _ HB.out).mono ?_
    rintro e x14 ⟨y2', hone2, rfl, h9⟩
    have HONE2 : Hid (OneOf vs k y2') := Lib.hid (by rw [← hOV.out]; exact hone2)
    replace HB := Lib.hid (HB.out.trans (h9.mono HB.out.size))
    replace GL := Lib.hid (GL.out.below h9 GL.out.lt)
    have HS : x14.cell? ⟨g, 2, none⟩ = some (.int .u64 c.num) ∧ x14.cell? ⟨g, 4, none⟩ = some (.pointer (some ⟨G, 0, none⟩)) ∧ x14.cell? ⟨g, 6, none⟩ = some (.int .u32 (k : Int)) ∧ x14.cell? ⟨g, 9, none⟩ = some (.int .i64 c.op.pick) := ⟨(HA.out.below HB.out).box.cell 2, (HA.out.below HB.out).box.cell 4, ((HA.out.below HB.out).box.cell 6).trans (by rw [← HKK.out]; rfl), (HA.out.below HB.out).box.cell 9⟩
    clear h9 hone2
    refine hK.out _ _ ?_ (fun hHeld => ?_)
    ·first | exact HS | go_keep
    clear hK K
    try simp only [Act.put, pS]
    refine wpAnyH_ready (rs := [25]) (by kernel_rfl) (by simp) ?_
    refine (AllReadyH.cons rfl (fun K hK => ?_) AllReadyH.nil)
    have s0 : x14.cell? ⟨g4, 0, none⟩ = some (.int .i64 0) := GL.out.cell 0
    have f0 := GL.out.frozen 0
    go_simp
    clear s0 f0
    replace GL : Hid (Blk (x14.setCell ⟨g4, 0, none⟩ (.int .i64 19)) g4 37 (Lt.cells { askHd (f : Int) y with kd := 19 })) := Lib.hid (GL.out.set_ 0 (.int .i64 19))
    replace HB : Hid (Below w.heap.size w (x14.setCell ⟨g4, 0, none⟩ (.int .i64 19))) := Lib.hid (below_put HB.out HB.out.size lg4 0 (.int .i64 19))
    have HS : (x14.setCell ⟨g4, 0, none⟩ (.int .i64 19)).cell? ⟨g, 2, none⟩ = some (.int .u64 c.num) ∧ (x14.setCell ⟨g4, 0, none⟩ (.int .i64 19)).cell? ⟨g, 4, none⟩ = some (.pointer (some ⟨G, 0, none⟩)) ∧ (x14.setCell ⟨g4, 0, none⟩ (.int .i64 19)).cell? ⟨g, 6, none⟩ = some (.int .u32 (k : Int)) ∧ (x14.setCell ⟨g4, 0, none⟩ (.int .i64 19)).cell? ⟨g, 9, none⟩ = some (.int .i64 c.op.pick) := ⟨(HA.out.below HB.out).box.cell 2, (HA.out.below HB.out).box.cell 4, ((HA.out.below HB.out).box.cell 6).trans (by rw [← HKK.out]; rfl), (HA.out.below HB.out).box.cell 9⟩
    refine hK.out _ _ ?_ (fun hHeld => ?_)
    ·first | exact HS | go_keep
    clear hK K
    generalize (x14.setCell ⟨g4, 0, none⟩ (.int .i64 19)) = Vb at *
    try simp only [Act.put, pS]
    refine tkT 26 rfl (v := ?_) ?_ ?_
    rotate_left 1
    ·(intro wq hSw; (try dsimp only at hSw); go_simp; (try with_reducible rfl))
    try simp only [Act.put, pS]
    refine wpAnyH_ready (rs := [27]) (by kernel_rfl) (by simp) ?_
    refine (AllReadyH.cons rfl (fun K hK => ?_) AllReadyH.nil)
    have s0 : Vb.cell? ⟨g4, 2, none⟩ = some (.int .i64 0) := GL.out.cell 2
    have f0 := GL.out.frozen 2
    go_simp
    clear s0 f0
    replace GL : Hid (Blk (Vb.setCell ⟨g4, 2, none⟩ (.int .i64 (y2'.readV c.op.pick))) g4 37 (Lt.cells { askHd (f : Int) y with kd := 19, tw := y2'.readV c.op.pick })) := Lib.hid (GL.out.set_ 2 (.int .i64 (y2'.readV c.op.pick)))
    replace HB : Hid (Below w.heap.size w (Vb.setCell ⟨g4, 2, none⟩ (.int .i64 (y2'.readV c.op.pick)))) := Lib.hid (below_put HB.out HB.out.size lg4 2 (.int .i64 (y2'.readV c.op.pick)))
    have HS : (Vb.setCell ⟨g4, 2, none⟩ (.int .i64 (y2'.readV c.op.pick))).cell? ⟨g, 2, none⟩ = some (.int .u64 c.num) ∧ (Vb.setCell ⟨g4, 2, none⟩ (.int .i64 (y2'.readV c.op.pick))).cell? ⟨g, 4, none⟩ = some (.pointer (some ⟨G, 0, none⟩)) ∧ (Vb.setCell ⟨g4, 2, none⟩ (.int .i64 (y2'.readV c.op.pick))).cell? ⟨g, 6, none⟩ = some (.int .u32 (k : Int)) ∧ (Vb.setCell ⟨g4, 2, none⟩ (.int .i64 (y2'.readV c.op.pick))).cell? ⟨g, 9, none⟩ = some (.int .i64 c.op.pick) := ⟨(HA.out.below HB.out).box.cell 2, (HA.out.below HB.out).box.cell 4, ((HA.out.below HB.out).box.cell 6).trans (by rw [← HKK.out]; rfl), (HA.out.below HB.out).box.cell 9⟩
    refine hK.out _ _ ?_ (fun hHeld => ?_)
    ·first | exact HS | go_keep
    clear hK K
    generalize (Vb.setCell ⟨g4, 2, none⟩ (.int .i64 (y2'.readV c.op.pick))) = Vc at *
    try simp only [Act.put, pS]
    refine tkT 28 rfl (v := ?_) ?_ ?_
    rotate_left 1
    ·(intro wq hSw; (try dsimp only at hSw); go_simp; (try with_reducible rfl))
    try simp only [Act.put, pS]
    refine wpAnyH_ready (rs := [29]) (by kernel_rfl) (by simp) ?_
    refine (AllReadyH.cons rfl (fun K hK => ?_) AllReadyH.nil)
    have s0 : Vc.cell? ⟨g4, 6, none⟩ = some (.int .u64 0) := GL.out.cell 6
    have f0 := GL.out.frozen 6
    go_simp
    clear s0 f0
    replace GL : Hid (Blk (Vc.setCell ⟨g4, 6, none⟩ (.int .u64 (c.num : Int))) g4 37 (Lt.cells { askHd (f : Int) y with kd := 19, tw := y2'.readV c.op.pick, nu := (c.num : Int) })) := Lib.hid (GL.out.set_ 6 (.int .u64 (c.num : Int)))
    replace HB : Hid (Below w.heap.size w (Vc.setCell ⟨g4, 6, none⟩ (.int .u64 (c.num : Int)))) := Lib.hid (below_put HB.out HB.out.size lg4 6 (.int .u64 (c.num : Int)))
    have HS : (Vc.setCell ⟨g4, 6, none⟩ (.int .u64 (c.num : Int))).cell? ⟨g, 2, none⟩ = some (.int .u64 c.num) ∧ (Vc.setCell ⟨g4, 6, none⟩ (.int .u64 (c.num : Int))).cell? ⟨g, 4, none⟩ = some (.pointer (some ⟨G, 0, none⟩)) ∧ (Vc.setCell ⟨g4, 6, none⟩ (.int .u64 (c.num : Int))).cell? ⟨g, 6, none⟩ = some (.int .u32 (k : Int)) ∧ (Vc.setCell ⟨g4, 6, none⟩ (.int .u64 (c.num : Int))).cell? ⟨g, 9, none⟩ = some (.int .i64 c.op.pick) := ⟨(HA.out.below HB.out).box.cell 2, (HA.out.below HB.out).box.cell 4, ((HA.out.below HB.out).box.cell 6).trans (by rw [← HKK.out]; rfl), (HA.out.below HB.out).box.cell 9⟩
    refine hK.out _ _ ?_ (fun hHeld => ?_)
    ·first | exact HS | go_keep
    clear hK K
    generalize (Vc.setCell ⟨g4, 6, none⟩ (.int .u64 (c.num : Int))) = Ve at *
    try simp only [Act.put, pS]
    refine tkT 30 rfl (v := ?_) ?_ ?_
    rotate_left 1
    ·(intro wq hSw; (try dsimp only at hSw); go_simp; (try with_reducible rfl))
    try simp only [Act.put, pS]
    refine wpAnyH_ready (rs := [31]) (by kernel_rfl) (by simp) ?_
    refine (AllReadyH.cons rfl (fun K hK => ?_) AllReadyH.nil)
    have s0 : Ve.cell? ⟨g4, 11, none⟩ = some (.int .u32 0) := GL.out.cell 11
    have f0 := GL.out.frozen 11
    go_simp
    clear s0 f0
    replace GL : Hid (Blk (Ve.setCell ⟨g4, 11, none⟩ (.int .u32 (k : Int))) g4 37 (Lt.cells { askHd (f : Int) y with kd := 19, tw := y2'.readV c.op.pick, nu := (c.num : Int), ky := (k : Int) })) := Lib.hid (GL.out.set_ 11 (.int .u32 (k : Int)))
    replace HB : Hid (Below w.heap.size w (Ve.setCell ⟨g4, 11, none⟩ (.int .u32 (k : Int)))) := Lib.hid (below_put HB.out HB.out.size lg4 11 (.int .u32 (k : Int)))
    have HS : (Ve.setCell ⟨g4, 11, none⟩ (.int .u32 (k : Int))).cell? ⟨g, 2, none⟩ = some (.int .u64 c.num) ∧ (Ve.setCell ⟨g4, 11, none⟩ (.int .u32 (k : Int))).cell? ⟨g, 4, none⟩ = some (.pointer (some ⟨G, 0, none⟩)) ∧ (Ve.setCell ⟨g4, 11, none⟩ (.int .u32 (k : Int))).cell? ⟨g, 6, none⟩ = some (.int .u32 (k : Int)) ∧ (Ve.setCell ⟨g4, 11, none⟩ (.int .u32 (k : Int))).cell? ⟨g, 9, none⟩ = some (.int .i64 c.op.pick) := ⟨(HA.out.below HB.out).box.cell 2, (HA.out.below HB.out).box.cell 4, ((HA.out.below HB.out).box.cell 6).trans (by rw [← HKK.out]; rfl), (HA.out.below HB.out).box.cell 9⟩
    refine hK.out _ _ ?_ (fun hHeld => ?_)
    ·first | exact HS | go_keep
    clear hK K
    generalize (Ve.setCell ⟨g4, 11, none⟩ (.int .u32 (k : Int))) = Vf at *
    try simp only [Act.put, pS]
    refine wpAnyH_done (by kernel_rfl) ?_ _
    obtain ⟨l5, hl5⟩ : ∃ l5 : Lt, l5 = { askHd (f : Int) y with kd := 19, tw := y2'.readV c.op.pick, nu := (c.num : Int), ky := (k : Int) } := ⟨_, rfl⟩
    have HL5 : Hid (l5 = askLt c (200 + c.cl) (askTo c y2') y none) := Lib.hid (by unfold askLt askTo; rw [if_pos HK1.out, if_pos HK1.out, ← HF.out, HKK.out]; exact hl5)
    have GL5 : Hid (Blk Vf g4 37 l5.cells) := Lib.hid (by rw [hl5]; exact GL.out)
    have hls := lt_lit l5
    have HBW := HB
    clear hl5 GL HB
    generalize Vf = W9 at *
    go_upto_region 5 with (fail)
    iterate 1 go_step
    refine wpList_load_row rfl 37 (.tmp 4) rfl g4 rfl 37 l5.cells (0, 0) _ GL5.out Tryz.underlying37 rfl ltInfo ?_
    go_wp2_with (fail)
    go_ret
    have hwf : LWf l5 := by rw [HL5.out]; exact ask_wf (one_right HVS.out HONE.out) (one_right HVS.out HONE2.out) (HEP.out y HONE.out) hcl hnum HKY.out
    have hsl : ((l5.fn = 0 ∧ l5.fp = 0) ∧ (l5.vn = 0 ∧ l5.vp = 0) ∧ (l5.dn = 0 ∧ l5.dp = 0)) ∧ l5.un = 0 ∧ l5.up = 0 := by rw [HL5.out]; unfold askLt; rw [if_pos HK1.out]; exact ⟨⟨⟨rfl, rfl⟩, ⟨rfl, rfl⟩, ⟨rfl, rfl⟩⟩, rfl, rfl⟩
    refine ⟨_, ⟨l5, [], [], [], []⟩, rfl, HBW.out.size, Blk.new _ _ _, lin_ask hsl.1 hwf ⟨by rw [hsl.2.1]; exact Reads.none_, fun u hu => (by cases hu)⟩ (by rw [hsl.2.1, hsl.2.2]; decide), ?_, ?_, HBW.out.alloc HBW.out.size _⟩
    ·exact ⟨fun u hu => (by cases hu), by show l5.un ≤ 1000000; rw [hsl.2.1]; decide, by show l5.vn ≤ 1000000; rw [hsl.1.2.1.1]; decide, by show l5.dn ≤ 1000000; rw [hsl.1.2.2.1]; decide, by show l5.fn ≤ 1000000; rw [hsl.1.1.1]; decide⟩
    ·rw [HL5.out]
     exact ask_of HONE.out HONE2.out (by unfold askUs; rw [if_pos HK1.out])
   ·have q1 : (c.op.kd == 1) = false := by simp [hk1]
    have HK1 := Lib.hid hk1
    have y6' : wc.cell? ⟨g, 6, none⟩ = some (.int .u32 c.op.key) := HA2.out.box.cell 6
    clear hk1 RD y4 y6
    have l4 := HL.out.blk.lt
    go_upto_region 6 with (fail)
    go_cut [5] (fun v5 wx => ∃ (g5 : Nat) (u : Up), v5 = .pointer (some ⟨g5, 0, none⟩) ∧ Hid (AskM3 w (askHd (f : Int) y) g4 g5 u c wx))
    case first =>
     have HB : Hid (Below w.heap.size w wc.drew) := Lib.hid HL.out.bel.drew
     have HBc : Hid (Below wc.heap.size wc wc.drew) := Lib.hid (Below.refl _ _).drew
     have GL : Hid (Blk wc.drew g4 37 (askHd (f : Int) y).cells) := Lib.hid (HL.out.blk.drew)
     refine wp_region_held_drew (S := fun wq => wq.cell? ⟨g, 0, none⟩ = some (.int .i64 c.cl) ∧ wq.cell? ⟨g, 2, none⟩ = some (.int .u64 c.num) ∧ wq.cell? ⟨g, 5, none⟩ = some (.int .i64 c.op.kd) ∧ wq.cell? ⟨g, 6, none⟩ = some (.int .u32 c.op.key) ∧ wq.cell? ⟨g, 7, none⟩ = some (.int .u64 c.op.ver) ∧ wq.cell? ⟨g, 8, none⟩ = some (.slice c.op.A c.op.n c.op.c) ∧ wq.cell? ⟨g, 9, none⟩ = some (.int .i64 c.op.pick)) (by kernel_rfl) ⟨y0, y2, y5, y6', y7, y8, y9⟩ (fun hHeld => ?_)
     generalize wc.drew = Vd at *
     refine tkT 0 rfl (v := ?_) ?_ ?_
     rotate_left 1
     ·(intro wq hSw; (try dsimp only at hSw); go_simp; (try with_reducible rfl))
     try simp only [Act.put, pS]
     refine tkT 1 rfl (v := ?_) ?_ ?_
     rotate_left 1
     ·(intro wq hSw; (try dsimp only at hSw); go_simp; (try with_reducible rfl))
     try simp only [Act.put, pS]
     refine tkT 2 rfl (v := ?_) ?_ ?_
     rotate_left 1
     ·(intro wq hSw; (try dsimp only at hSw); go_simp; (try with_reducible rfl))
     try simp only [Act.put, pS]
     refine tkT 3 rfl (v := ?_) ?_ ?_
     rotate_left 1
     ·(intro wq hSw; (try dsimp only at hSw); go_simp; (try with_reducible rfl))
     try simp only [Act.put, pS]
     refine tkT 4 rfl (v := ?_) ?_ ?_
     rotate_left 1
     ·(intro wq hSw; (try dsimp only at hSw); go_simp; (try with_reducible rfl))
     try simp only [Act.put, pS]
     refine tkT 5 rfl (v := ?_) ?_ ?_
     rotate_left 1
     ·(intro wq hSw; (try dsimp only at hSw); go_simp; (try with_reducible rfl))
     try simp only [Act.put, pS]
     refine tkT 6 rfl (v := ?_) ?_ ?_
     rotate_left 1
     ·(intro wq hSw; (try dsimp only at hSw); go_simp; (try with_reducible rfl))
     try simp only [Act.put, pS]
     refine tkT 7 rfl (v := ?_) ?_ ?_
     rotate_left 1
     ·(intro wq hSw; (try dsimp only at hSw); go_simp; (try with_reducible rfl))
     try simp only [Act.put, pS]
     refine tkT 8 rfl (v := ?_) ?_ ?_
     rotate_left 1
     ·(intro wq hSw; (try dsimp only at hSw); go_simp; (try with_reducible rfl))
     try simp only [Act.put, pS]
     refine tkT 9 rfl (v := ?_) ?_ ?_
     rotate_left 1
     ·(intro wq hSw; (try dsimp only at hSw); go_simp; (try with_reducible rfl))
     try simp only [Act.put, pS]
     refine tkT 10 rfl (v := ?_) ?_ ?_
     rotate_left 1
     ·(intro wq hSw; (try dsimp only at hSw); go_simp; (try with_reducible rfl))
     try simp only [Act.put, pS]
     refine tkT 11 rfl (v := ?_) ?_ ?_
     rotate_left 1
     ·(intro wq hSw; (try dsimp only at hSw); go_simp; (try with_reducible rfl))
     try simp only [Act.put, pS]
     refine wpAnyH_ready (rs := [12, 16]) (by kernel_rfl) (by simp) ?_
     refine (AllReadyH.cons rfl (fun K hK => ?_) (AllReadyH.cons rfl (fun K hK => ?_) AllReadyH.nil))
     ·go_simp
      refine (RQ.out _ HB.out).mono ?_
      rintro e x12 ⟨A9, c9, rfl, hu9, h9⟩
      replace HB := Lib.hid (HB.out.trans (h9.mono HB.out.size))
      replace HBc := Lib.hid (HBc.out.trans (h9.mono HBc.out.size))
      replace GL := Lib.hid (GL.out.below h9 GL.out.lt)
      (try replace GB := Lib.hid (GB.out.below h9 GB.out.lt))
      have HS : x12.cell? ⟨g, 0, none⟩ = some (.int .i64 c.cl) ∧ x12.cell? ⟨g, 2, none⟩ = some (.int .u64 c.num) ∧ x12.cell? ⟨g, 5, none⟩ = some (.int .i64 c.op.kd) ∧ x12.cell? ⟨g, 6, none⟩ = some (.int .u32 c.op.key) ∧ x12.cell? ⟨g, 7, none⟩ = some (.int .u64 c.op.ver) ∧ x12.cell? ⟨g, 8, none⟩ = some (.slice c.op.A c.op.n c.op.c) ∧ x12.cell? ⟨g, 9, none⟩ = some (.int .i64 c.op.pick) := ⟨(HA.out.below HB.out).box.cell 0, (HA.out.below HB.out).box.cell 2, (HA.out.below HB.out).box.cell 5, (HA.out.below HB.out).box.cell 6, (HA.out.below HB.out).box.cell 7, (HA.out.below HB.out).box.cell 8, (HA.out.below HB.out).box.cell 9⟩
      have HU9 : Hid (UpIn x12 x12.heap.size (reqV (reqE c.op c.cl c.num) (reqU c.op c.cl c.num A9 c9))) := Lib.hid (reqV_in _ hu9)
      have HV9 := Lib.hid (reqV_val (reqE c.op c.cl c.num) c.op c.cl c.num A9 c9)
      clear h9 hu9
      generalize reqV (reqE c.op c.cl c.num) (reqU c.op c.cl c.num A9 c9) = u9 at *
      refine hK.out _ _ ?_ (fun hHeld => ?_)
      ·first | exact HS | go_keep
      clear hK K
      try simp only [Act.put, pS]
      refine tkT 13 rfl (v := ?_) ?_ ?_
      rotate_left 1
      ·(intro wq hSw; (try dsimp only at hSw); go_simp; (try with_reducible rfl))
      try simp only [Act.put, pS]
      refine tkT 14 rfl (v := ?_) ?_ ?_
      rotate_left 1
      ·(intro wq hSw; (try dsimp only at hSw); go_simp; (try with_reducible rfl))
      try simp only [Act.put, pS]
      refine tkT 15 rfl (v := ?_) ?_ ?_
      rotate_left 1
      ·(intro wq hSw; (try dsimp only at hSw); go_simp; (try with_reducible rfl))
      try simp only [Act.put, pS]
      refine wpAnyH_ready (rs := [16]) (by kernel_rfl) (by simp) ?_
      refine (AllReadyH.cons rfl (fun K hK => ?_) AllReadyH.nil)
      go_simp
      have lG : w.heap.size ≤ x12.heap.size := HB.out.size
      have lGc : wc.heap.size ≤ x12.heap.size := HBc.out.size
      have GB := Lib.hid (Blk.new x12 145 #[.int .u64 0, .int .i64 0, .int .u64 0, .int .i64 0, .int .u32 0, .int .u64 0, .slice none 0 0])
      replace HB := Lib.hid (HB.out.alloc HB.out.size (.cells #[.int .u64 0, .int .i64 0, .int .u64 0, .int .i64 0, .int .u32 0, .int .u64 0, .slice none 0 0] 145))
      replace HBc := Lib.hid (HBc.out.alloc HBc.out.size (.cells #[.int .u64 0, .int .i64 0, .int .u64 0, .int .i64 0, .int .u32 0, .int .u64 0, .slice none 0 0] 145))
      (try replace HU9 : Hid (UpIn (x12.alloc (.cells #[.int .u64 0, .int .i64 0, .int .u64 0, .int .i64 0, .int .u32 0, .int .u64 0, .slice none 0 0] 145)) (x12.alloc (.cells #[.int .u64 0, .int .i64 0, .int .u64 0, .int .i64 0, .int .u32 0, .int .u64 0, .slice none 0 0] 145)).heap.size u9) := Lib.hid (up_alloc HU9.out _))
      replace GL := Lib.hid (GL.out.alloc (.cells #[.int .u64 0, .int .i64 0, .int .u64 0, .int .i64 0, .int .u32 0, .int .u64 0, .slice none 0 0] 145))
      have HS : (x12.alloc (.cells #[.int .u64 0, .int .i64 0, .int .u64 0, .int .i64 0, .int .u32 0, .int .u64 0, .slice none 0 0] 145)).cell? ⟨g, 0, none⟩ = some (.int .i64 c.cl) ∧ (x12.alloc (.cells #[.int .u64 0, .int .i64 0, .int .u64 0, .int .i64 0, .int .u32 0, .int .u64 0, .slice none 0 0] 145)).cell? ⟨g, 2, none⟩ = some (.int .u64 c.num) ∧ (x12.alloc (.cells #[.int .u64 0, .int .i64 0, .int .u64 0, .int .i64 0, .int .u32 0, .int .u64 0, .slice none 0 0] 145)).cell? ⟨g, 5, none⟩ = some (.int .i64 c.op.kd) ∧ (x12.alloc (.cells #[.int .u64 0, .int .i64 0, .int .u64 0, .int .i64 0, .int .u32 0, .int .u64 0, .slice none 0 0] 145)).cell? ⟨g, 6, none⟩ = some (.int .u32 c.op.key) ∧ (x12.alloc (.cells #[.int .u64 0, .int .i64 0, .int .u64 0, .int .i64 0, .int .u32 0, .int .u64 0, .slice none 0 0] 145)).cell? ⟨g, 7, none⟩ = some (.int .u64 c.op.ver) ∧ (x12.alloc (.cells #[.int .u64 0, .int .i64 0, .int .u64 0, .int .i64 0, .int .u32 0, .int .u64 0, .slice none 0 0] 145)).cell? ⟨g, 8, none⟩ = some (.slice c.op.A c.op.n c.op.c) ∧ (x12.alloc (.cells #[.int .u64 0, .int .i64 0, .int .u64 0, .int .i64 0, .int .u32 0, .int .u64 0, .slice none 0 0] 145)).cell? ⟨g, 9, none⟩ = some (.int .i64 c.op.pick) := ⟨(HA.out.below HB.out).box.cell 0, (HA.out.below HB.out).box.cell 2, (HA.out.below HB.out).box.cell 5, (HA.out.below HB.out).box.cell 6, (HA.out.below HB.out).box.cell 7, (HA.out.below HB.out).box.cell 8, (HA.out.below HB.out).box.cell 9⟩
      refine hK.out _ _ ?_ (fun hHeld => ?_)
      ·first | exact HS | go_keep
      clear hK K
      generalize (x12.alloc (.cells #[.int .u64 0, .int .i64 0, .int .u64 0, .int .i64 0, .int .u32 0, .int .u64 0, .slice none 0 0] 145)) = Va at *
      try simp only [Act.put, pS]
      refine wpAnyH_ready (rs := [17]) (by kernel_rfl) (by simp) ?_
      refine (AllReadyH.cons rfl (fun K hK => ?_) AllReadyH.nil)
      replace HB : Hid (Below w.heap.size w (World.setRow Va x12.heap.size u9.cells)) := Lib.hid (below_setRow HB.out lG _)
      replace HBc : Hid (Below wc.heap.size wc (World.setRow Va x12.heap.size u9.cells)) := Lib.hid (below_setRow HBc.out lGc _)
      replace GL : Hid (Blk (World.setRow Va x12.heap.size u9.cells) g4 37 (askHd (f : Int) y).cells) := Lib.hid (GL.out.below (below_setRow (Below.refl wc.heap.size Va) lGc _) l4)
      have HM2 : Hid (AskM3 w (askHd (f : Int) y) g4 x12.heap.size u9 c (World.setRow Va x12.heap.size u9.cells)) := Lib.hid ⟨GL.out, setRow_heap _ _ _ _ _ _ GB.out, by omega, by omega, by omega, HB.out, up_row (v := Up.zero) GB.out HU9.out _, HV9.out⟩
      have HS : (World.setRow Va x12.heap.size u9.cells).cell? ⟨g, 0, none⟩ = some (.int .i64 c.cl) ∧ (World.setRow Va x12.heap.size u9.cells).cell? ⟨g, 2, none⟩ = some (.int .u64 c.num) ∧ (World.setRow Va x12.heap.size u9.cells).cell? ⟨g, 5, none⟩ = some (.int .i64 c.op.kd) ∧ (World.setRow Va x12.heap.size u9.cells).cell? ⟨g, 6, none⟩ = some (.int .u32 c.op.key) ∧ (World.setRow Va x12.heap.size u9.cells).cell? ⟨g, 7, none⟩ = some (.int .u64 c.op.ver) ∧ (World.setRow Va x12.heap.size u9.cells).cell? ⟨g, 8, none⟩ = some (.slice c.op.A c.op.n c.op.c) ∧ (World.setRow Va x12.heap.size u9.cells).cell? ⟨g, 9, none⟩ = some (.int .i64 c.op.pick) := ⟨(HA.out.below HB.out).box.cell 0, (HA.out.below HB.out).box.cell 2, (HA.out.below HB.out).box.cell 5, (HA.out.below HB.out).box.cell 6, (HA.out.below HB.out).box.cell 7, (HA.out.below HB.out).box.cell 8, (HA.out.below HB.out).box.cell 9⟩
      refine step_store_row rfl 145 (.tmp 5) (.tmp 74) rfl x12.heap.size u9.cells rfl rfl 145 #[.int .u64 0, .int .i64 0, .int .u64 0, .int .i64 0, .int .u32 0, .int .u64 0, .slice none 0 0] GB.out upInfo7 rfl (up_all _) ?_
      refine hK.out _ _ ?_ (fun hHeld => ?_)
      ·first | exact HS | go_keep
      clear hK K
      generalize (World.setRow Va x12.heap.size u9.cells) = Vb at *
      exact rp73
     ·go_simp
      have lG : w.heap.size ≤ Vd.heap.size := HB.out.size
      have lGc : wc.heap.size ≤ Vd.heap.size := HBc.out.size
      have GB := Lib.hid (Blk.new Vd 145 #[.int .u64 0, .int .i64 0, .int .u64 0, .int .i64 0, .int .u32 0, .int .u64 0, .slice none 0 0])
      replace HB := Lib.hid (HB.out.alloc HB.out.size (.cells #[.int .u64 0, .int .i64 0, .int .u64 0, .int .i64 0, .int .u32 0, .int .u64 0, .slice none 0 0] 145))
      replace HBc := Lib.hid (HBc.out.alloc HBc.out.size (.cells #[.int .u64 0, .int .i64 0, .int .u64 0, .int .i64 0, .int .u32 0, .int .u64 0, .slice none 0 0] 145))
      (try replace HU9 : Hid (UpIn (Vd.alloc (.cells #[.int .u64 0, .int .i64 0, .int .u64 0, .int .i64 0, .int .u32 0, .int .u64 0, .slice none 0 0] 145)) (Vd.alloc (.cells #[.int .u64 0, .int .i64 0, .int .u64 0, .int .i64 0, .int .u32 0, .int .u64 0, .slice none 0 0] 145)).heap.size u9) := Lib.hid (up_alloc HU9.out _))
      replace GL := Lib.hid (GL.out.alloc (.cells #[.int .u64 0, .int .i64 0, .int .u64 0, .int .i64 0, .int .u32 0, .int .u64 0, .slice none 0 0] 145))
      have HS : (Vd.alloc (.cells #[.int .u64 0, .int .i64 0, .int .u64 0, .int .i64 0, .int .u32 0, .int .u64 0, .slice none 0 0] 145)).cell? ⟨g, 0, none⟩ = some (.int .i64 c.cl) ∧ (Vd.alloc (.cells #[.int .u64 0, .int .i64 0, .int .u64 0, .int .i64 0, .int .u32 0, .int .u64 0, .slice none 0 0] 145)).cell? ⟨g, 2, none⟩ = some (.int .u64 c.num) ∧ (Vd.alloc (.cells #[.int .u64 0, .int .i64 0, .int .u64 0, .int .i64 0, .int .u32 0, .int .u64 0, .slice none 0 0] 145)).cell? ⟨g, 5, none⟩ = some (.int .i64 c.op.kd) ∧ (Vd.alloc (.cells #[.int .u64 0, .int .i64 0, .int .u64 0, .int .i64 0, .int .u32 0, .int .u64 0, .slice none 0 0] 145)).cell? ⟨g, 6, none⟩ = some (.int .u32 c.op.key) ∧ (Vd.alloc (.cells #[.int .u64 0, .int .i64 0, .int .u64 0, .int .i64 0, .int .u32 0, .int .u64 0, .slice none 0 0] 145)).cell? ⟨g, 7, none⟩ = some (.int .u64 c.op.ver) ∧ (Vd.alloc (.cells #[.int .u64 0, .int .i64 0, .int .u64 0, .int .i64 0, .int .u32 0, .int .u64 0, .slice none 0 0] 145)).cell? ⟨g, 8, none⟩ = some (.slice c.op.A c.op.n c.op.c) ∧ (Vd.alloc (.cells #[.int .u64 0, .int .i64 0, .int .u64 0, .int .i64 0, .int .u32 0, .int .u64 0, .slice none 0 0] 145)).cell? ⟨g, 9, none⟩ = some (.int .i64 c.op.pick) := ⟨(HA.out.below HB.out).box.cell 0, (HA.out.below HB.out).box.cell 2, (HA.out.below HB.out).box.cell 5, (HA.out.below HB.out).box.cell 6, (HA.out.below HB.out).box.cell 7, (HA.out.below HB.out).box.cell 8, (HA.out.below HB.out).box.cell 9⟩
      refine hK.out _ _ ?_ (fun hHeld => ?_)
      ·first | exact HS | go_keep
      clear hK K
      generalize (Vd.alloc (.cells #[.int .u64 0, .int .i64 0, .int .u64 0, .int .i64 0, .int .u32 0, .int .u64 0, .slice none 0 0] 145)) = Va at *
      try simp only [Act.put, pS]
      refine wpAnyH_ready (rs := [12]) (by kernel_rfl) (by simp) ?_
      refine (AllReadyH.cons rfl (fun K hK => ?_) AllReadyH.nil)
      go_simp
      refine (RQ.out _ HB.out).mono ?_
      rintro e x12 ⟨A9, c9, rfl, hu9, h9⟩
      replace HB := Lib.hid (HB.out.trans (h9.mono HB.out.size))
      replace HBc := Lib.hid (HBc.out.trans (h9.mono HBc.out.size))
      replace GL := Lib.hid (GL.out.below h9 GL.out.lt)
      (try replace GB := Lib.hid (GB.out.below h9 GB.out.lt))
      have HS : x12.cell? ⟨g, 0, none⟩ = some (.int .i64 c.cl) ∧ x12.cell? ⟨g, 2, none⟩ = some (.int .u64 c.num) ∧ x12.cell? ⟨g, 5, none⟩ = some (.int .i64 c.op.kd) ∧ x12.cell? ⟨g, 6, none⟩ = some (.int .u32 c.op.key) ∧ x12.cell? ⟨g, 7, none⟩ = some (.int .u64 c.op.ver) ∧ x12.cell? ⟨g, 8, none⟩ = some (.slice c.op.A c.op.n c.op.c) ∧ x12.cell? ⟨g, 9, none⟩ = some (.int .i64 c.op.pick) := ⟨(HA.out.below HB.out).box.cell 0, (HA.out.below HB.out).box.cell 2, (HA.out.below HB.out).box.cell 5, (HA.out.below HB.out).box.cell 6, (HA.out.below HB.out).box.cell 7, (HA.out.below HB.out).box.cell 8, (HA.out.below HB.out).box.cell 9⟩
      have HU9 : Hid (UpIn x12 x12.heap.size (reqV (reqE c.op c.cl c.num) (reqU c.op c.cl c.num A9 c9))) := Lib.hid (reqV_in _ hu9)
      have HV9 := Lib.hid (reqV_val (reqE c.op c.cl c.num) c.op c.cl c.num A9 c9)
      clear h9 hu9
      generalize reqV (reqE c.op c.cl c.num) (reqU c.op c.cl c.num A9 c9) = u9 at *
      refine hK.out _ _ ?_ (fun hHeld => ?_)
      ·first | exact HS | go_keep
      clear hK K
      try simp only [Act.put, pS]
      refine tkT 13 rfl (v := ?_) ?_ ?_
      rotate_left 1
      ·(intro wq hSw; (try dsimp only at hSw); go_simp; (try with_reducible rfl))
      try simp only [Act.put, pS]
      refine tkT 14 rfl (v := ?_) ?_ ?_
      rotate_left 1
      ·(intro wq hSw; (try dsimp only at hSw); go_simp; (try with_reducible rfl))
      try simp only [Act.put, pS]
      refine tkT 15 rfl (v := ?_) ?_ ?_
      rotate_left 1
      ·(intro wq hSw; (try dsimp only at hSw); go_simp; (try with_reducible rfl))
      try simp only [Act.put, pS]
      refine wpAnyH_ready (rs := [17]) (by kernel_rfl) (by simp) ?_
      refine (AllReadyH.cons rfl (fun K hK => ?_) AllReadyH.nil)
      replace HB : Hid (Below w.heap.size w (World.setRow x12 Vd.heap.size u9.cells)) := Lib.hid (below_setRow HB.out lG _)
      replace HBc : Hid (Below wc.heap.size wc (World.setRow x12 Vd.heap.size u9.cells)) := Lib.hid (below_setRow HBc.out lGc _)
      replace GL : Hid (Blk (World.setRow x12 Vd.heap.size u9.cells) g4 37 (askHd (f : Int) y).cells) := Lib.hid (GL.out.below (below_setRow (Below.refl wc.heap.size x12) lGc _) l4)
      have HM2 : Hid (AskM3 w (askHd (f : Int) y) g4 Vd.heap.size u9 c (World.setRow x12 Vd.heap.size u9.cells)) := Lib.hid ⟨GL.out, setRow_heap _ _ _ _ _ _ GB.out, by omega, by omega, by omega, HB.out, up_row (v := Up.zero) GB.out HU9.out _, HV9.out⟩
      have HS : (World.setRow x12 Vd.heap.size u9.cells).cell? ⟨g, 0, none⟩ = some (.int .i64 c.cl) ∧ (World.setRow x12 Vd.heap.size u9.cells).cell? ⟨g, 2, none⟩ = some (.int .u64 c.num) ∧ (World.setRow x12 Vd.heap.size u9.cells).cell? ⟨g, 5, none⟩ = some (.int .i64 c.op.kd) ∧ (World.setRow x12 Vd.heap.size u9.cells).cell? ⟨g, 6, none⟩ = some (.int .u32 c.op.key) ∧ (World.setRow x12 Vd.heap.size u9.cells).cell? ⟨g, 7, none⟩ = some (.int .u64 c.op.ver) ∧ (World.setRow x12 Vd.heap.size u9.cells).cell? ⟨g, 8, none⟩ = some (.slice c.op.A c.op.n c.op.c) ∧ (World.setRow x12 Vd.heap.size u9.cells).cell? ⟨g, 9, none⟩ = some (.int .i64 c.op.pick) := ⟨(HA.out.below HB.out).box.cell 0, (HA.out.below HB.out).box.cell 2, (HA.out.below HB.out).box.cell 5, (HA.out.below HB.out).box.cell 6, (HA.out.below HB.out).box.cell 7, (HA.out.below HB.out).box.cell 8, (HA.out.below HB.out).box.cell 9⟩
      refine step_store_row rfl 145 (.tmp 5) (.tmp 74) rfl Vd.heap.size u9.cells rfl rfl 145 #[.int .u64 0, .int .i64 0, .int .u64 0, .int .i64 0, .int .u32 0, .int .u64 0, .slice none 0 0] GB.out upInfo7 rfl (up_all _) ?_
      refine hK.out _ _ ?_ (fun hHeld => ?_)
      ·first | exact HS | go_keep
      clear hK K
      generalize (World.setRow x12 Vd.heap.size u9.cells) = Vb at *
      exact rp73
    case rest =>
     obtain ⟨g5, u, rfl, HM⟩ := hcut
     clear y0 y2 y5 y6' y7 y8 y9 RQ HA2 l4
     have HA2 := Lib.hid (HA.out.below HM.out.bel)
     have lg4 := HM.out.n4
     have lg5 := HM.out.n5
     have n45 := HM.out.ne
     have y4 : wc.cell? ⟨g, 4, none⟩ = some (.pointer (some ⟨G, 0, none⟩)) := HA2.out.box.cell 4
     have y6 : wc.cell? ⟨g, 6, none⟩ = some (.int .u32 (k : Int)) := (HA2.out.box.cell 6).trans (by rw [← HKK.out]; rfl)
     have hU := HM.out.u5
     have HUP := Lib.hid HM.out.up
     have HUV := Lib.hid HM.out.val
     have HL4 := Lib.hid HM.out.l4
     have HCg : Hid (Chg wc wc.drew (fun i => i = g4)) := Lib.hid (Chg.of_below (Below.refl _ _).drew _)
     have HB : Hid (Below w.heap.size w wc.drew) := Lib.hid HM.out.bel.drew
     have GL : Hid (Blk wc.drew g4 37 (askHd (f : Int) y).cells) := Lib.hid (HM.out.l4.drew)
     have GU : Hid (Blk wc.drew g5 145 u.cells) := Lib.hid (HM.out.u5.drew)
     go_upto_region 7 with (fail)
     refine wp_region_held_drew (S := fun wq => wq.cell? ⟨g, 4, none⟩ = some (.pointer (some ⟨G, 0, none⟩)) ∧ wq.cell? ⟨g, 6, none⟩ = some (.int .u32 (k : Int)) ∧ Blk wq g5 145 u.cells) (by kernel_rfl) ⟨y4, y6, hU⟩ (fun hHeld => ?_)
     generalize wc.drew = Vd at *
     refine tkT 0 rfl (v := ?_) ?_ ?_
     rotate_left 1
     ·(intro wq hSw; (try dsimp only at hSw); go_simp; (try with_reducible rfl))
     try simp only [Act.put, pS]
     refine tkT 1 rfl (v := ?_) ?_ ?_
     rotate_left 1
     ·(intro wq hSw; (try dsimp only at hSw); go_simp; (try with_reducible rfl))
     try simp only [Act.put, pS]
     refine tkT 2 rfl (v := ?_) ?_ ?_
     rotate_left 1
     ·(intro wq hSw; (try dsimp only at hSw); go_simp; (try with_reducible rfl))
     try simp only [Act.put, pS]
     refine tkT 3 rfl (v := ?_) ?_ ?_
     rotate_left 1
     ·(intro wq hSw; (try dsimp only at hSw); go_simp; (try with_reducible rfl))
     try simp only [Act.put, pS]
     refine tkT 4 rfl (v := ?_) ?_ ?_
     rotate_left 1
     ·(intro wq hSw; (try dsimp only at hSw); go_simp; (try with_reducible rfl))
     try simp only [Act.put, pS]
     refine tkT 5 rfl (v := ?_) ?_ ?_
     rotate_left 1
     ·(intro wq hSw; (try dsimp only at hSw); go_simp; (try with_reducible rfl))
     try simp only [Act.put, pS]
     refine tkT 6 rfl (v := ?_) ?_ ?_
     rotate_left 1
     ·(intro wq hSw; (try dsimp only at hSw); go_simp; (try with_reducible rfl))
     try simp only [Act.put, pS]
     refine tkT 7 rfl (v := ?_) ?_ ?_
     rotate_left 1
     ·(intro wq hSw; (try dsimp only at hSw); go_simp; (try with_reducible rfl))
     try simp only [Act.put, pS]
     refine tkT 8 rfl (v := ?_) ?_ ?_
     rotate_left 1
     ·(intro wq hSw; (try dsimp only at hSw); go_simp; (try with_reducible rfl))
     try simp only [Act.put, pS]
     refine tkT 10 rfl (v := (.agg #[.int .u64 u.seq, .int .i64 u.cl, .int .u64 u.num, .int .i64 u.kd, .int .u32 u.key, .int .u64 u.ver, .slice u.A u.n u.c])) ?_ ?_
     ·exact fun wq hSw => exec_load_row rfl _ rfl (load_up7 u _ wq hSw.2.2)
     try simp only [Act.put, pS]
     refine tkT 12 rfl (v := ?_) ?_ ?_
     rotate_left 1
     ·(intro wq hSw; (try dsimp only at hSw); go_simp; (try with_reducible rfl))
     try simp only [Act.put, pS]
     refine wpAnyH_ready (rs := [9, 11]) (by kernel_rfl) (by simp) ?_
     refine (AllReadyH.cons rfl (fun K hK => ?_) (AllReadyH.cons rfl (fun K hK => ?_) AllReadyH.nil))
     ·go_simp
      refine (HD.out _ HB.out).mono ?_
      rintro e x9 ⟨y2', hone2, rfl, h9⟩
      have HONE2 : Hid (OneOf vs k y2') := Lib.hid (by rw [← hOV.out]; exact hone2)
      replace HB := Lib.hid (HB.out.trans (h9.mono HB.out.size))
      replace GL := Lib.hid (GL.out.below h9 GL.out.lt)
      replace GU := Lib.hid (GU.out.below h9 GU.out.lt)
      (try replace GQ := Lib.hid (GQ.out.below h9 GQ.out.lt))
      replace HCg := Lib.hid (HCg.out.trans (Chg.of_below h9 _) (fun _ _ e => e))
      have HS : x9.cell? ⟨g, 4, none⟩ = some (.pointer (some ⟨G, 0, none⟩)) ∧ x9.cell? ⟨g, 6, none⟩ = some (.int .u32 (k : Int)) ∧ Blk x9 g5 145 u.cells := ⟨(HA.out.below HB.out).box.cell 4, ((HA.out.below HB.out).box.cell 6).trans (by rw [← HKK.out]; rfl), GU.out⟩
      clear h9 hone2
      refine hK.out _ _ ?_ (fun hHeld => ?_)
      ·first | exact HS | go_keep
      clear hK K
      try simp only [Act.put, pS]
      refine wpAnyH_ready (rs := [11, 13]) (by kernel_rfl) (by simp) ?_
      refine (AllReadyH.cons rfl (fun K hK => ?_) (AllReadyH.cons rfl (fun K hK => ?_) AllReadyH.nil))
      ·go_simp
       have GQ : Hid (Blk (x9.alloc (.cells #[.int .u64 u.seq, .int .i64 u.cl, .int .u64 u.num, .int .i64 u.kd, .int .u32 u.key, .int .u64 u.ver, .slice u.A u.n u.c] 145)) x9.heap.size 145 u.cells) := Lib.hid (Blk.new x9 145 u.cells)
       have n4q : x9.heap.size ≠ g4 := by have := GL.out.lt; omega
       replace HCg := Lib.hid (HCg.out.trans (Chg.of_below ((Below.refl x9.heap.size x9).alloc (Nat.le_refl _) (.cells #[.int .u64 u.seq, .int .i64 u.cl, .int .u64 u.num, .int .i64 u.kd, .int .u32 u.key, .int .u64 u.ver, .slice u.A u.n u.c] 145)) _) (fun _ _ e => e))
       replace HB := Lib.hid (HB.out.alloc HB.out.size (.cells #[.int .u64 u.seq, .int .i64 u.cl, .int .u64 u.num, .int .i64 u.kd, .int .u32 u.key, .int .u64 u.ver, .slice u.A u.n u.c] 145))
       replace GL := Lib.hid (GL.out.alloc (.cells #[.int .u64 u.seq, .int .i64 u.cl, .int .u64 u.num, .int .i64 u.kd, .int .u32 u.key, .int .u64 u.ver, .slice u.A u.n u.c] 145))
       replace GU := Lib.hid (GU.out.alloc (.cells #[.int .u64 u.seq, .int .i64 u.cl, .int .u64 u.num, .int .i64 u.kd, .int .u32 u.key, .int .u64 u.ver, .slice u.A u.n u.c] 145))
       have HS : (x9.alloc (.cells #[.int .u64 u.seq, .int .i64 u.cl, .int .u64 u.num, .int .i64 u.kd, .int .u32 u.key, .int .u64 u.ver, .slice u.A u.n u.c] 145)).cell? ⟨g, 4, none⟩ = some (.pointer (some ⟨G, 0, none⟩)) ∧ (x9.alloc (.cells #[.int .u64 u.seq, .int .i64 u.cl, .int .u64 u.num, .int .i64 u.kd, .int .u32 u.key, .int .u64 u.ver, .slice u.A u.n u.c] 145)).cell? ⟨g, 6, none⟩ = some (.int .u32 (k : Int)) ∧ Blk (x9.alloc (.cells #[.int .u64 u.seq, .int .i64 u.cl, .int .u64 u.num, .int .i64 u.kd, .int .u32 u.key, .int .u64 u.ver, .slice u.A u.n u.c] 145)) g5 145 u.cells := ⟨(HA.out.below HB.out).box.cell 4, ((HA.out.below HB.out).box.cell 6).trans (by rw [← HKK.out]; rfl), GU.out⟩
       refine hK.out _ _ ?_ (fun hHeld => ?_)
       ·first | exact HS | go_keep
       clear hK K
       generalize (x9.alloc (.cells #[.int .u64 u.seq, .int .i64 u.cl, .int .u64 u.num, .int .i64 u.kd, .int .u32 u.key, .int .u64 u.ver, .slice u.A u.n u.c] 145)) = Va at *
       try simp only [Act.put, pS]
       refine wpAnyH_ready (rs := [13]) (by kernel_rfl) (by simp) ?_
       refine (AllReadyH.cons rfl (fun K hK => ?_) AllReadyH.nil)
       have s0 : Va.cell? ⟨g4, 0, none⟩ = some (.int .i64 0) := GL.out.cell 0
       have f0 := GL.out.frozen 0
       go_simp
       clear s0 f0
       replace GL : Hid (Blk (Va.setCell ⟨g4, 0, none⟩ (.int .i64 17)) g4 37 (Lt.cells { askHd (f : Int) y with kd := 17 })) := Lib.hid (GL.out.set_ 0 (.int .i64 17))
       replace HB : Hid (Below w.heap.size w (Va.setCell ⟨g4, 0, none⟩ (.int .i64 17))) := Lib.hid (below_put HB.out HB.out.size lg4 0 (.int .i64 17))
       replace GU : Hid (Blk (Va.setCell ⟨g4, 0, none⟩ (.int .i64 17)) g5 145 u.cells) := Lib.hid (GU.out.far (p := ⟨g4, 0, none⟩) (Ne.symm n45) _)
       (try replace GQ : Hid (Blk (Va.setCell ⟨g4, 0, none⟩ (.int .i64 17)) x9.heap.size 145 u.cells) := Lib.hid (GQ.out.far (p := ⟨g4, 0, none⟩) n4q _))
       replace HCg := Lib.hid (HCg.out.trans (chg_one _ ⟨g4, 0, none⟩ (.int .i64 17)) (fun _ _ e => e))
       have HS : (Va.setCell ⟨g4, 0, none⟩ (.int .i64 17)).cell? ⟨g, 4, none⟩ = some (.pointer (some ⟨G, 0, none⟩)) ∧ (Va.setCell ⟨g4, 0, none⟩ (.int .i64 17)).cell? ⟨g, 6, none⟩ = some (.int .u32 (k : Int)) ∧ Blk (Va.setCell ⟨g4, 0, none⟩ (.int .i64 17)) g5 145 u.cells := ⟨(HA.out.below HB.out).box.cell 4, ((HA.out.below HB.out).box.cell 6).trans (by rw [← HKK.out]; rfl), GU.out⟩
       refine hK.out _ _ ?_ (fun hHeld => ?_)
       ·first | exact HS | go_keep
       clear hK K
       generalize (Va.setCell ⟨g4, 0, none⟩ (.int .i64 17)) = Vb at *
       try simp only [Act.put, pS]
       refine tkT 14 rfl (v := ?_) ?_ ?_
       rotate_left 1
       ·(intro wq hSw; (try dsimp only at hSw); go_simp; (try with_reducible rfl))
       try simp only [Act.put, pS]
       refine wpAnyH_ready (rs := [15]) (by kernel_rfl) (by simp) ?_
       refine (AllReadyH.cons rfl (fun K hK => ?_) AllReadyH.nil)
       have s0 : Vb.cell? ⟨g4, 2, none⟩ = some (.int .i64 0) := GL.out.cell 2
       have f0 := GL.out.frozen 2
       go_simp
       clear s0 f0
       replace GL : Hid (Blk (Vb.setCell ⟨g4, 2, none⟩ (.int .i64 y2'.headV)) g4 37 (Lt.cells { askHd (f : Int) y with kd := 17, tw := y2'.headV })) := Lib.hid (GL.out.set_ 2 (.int .i64 y2'.headV))
       replace HB : Hid (Below w.heap.size w (Vb.setCell ⟨g4, 2, none⟩ (.int .i64 y2'.headV))) := Lib.hid (below_put HB.out HB.out.size lg4 2 (.int .i64 y2'.headV))
       replace GU : Hid (Blk (Vb.setCell ⟨g4, 2, none⟩ (.int .i64 y2'.headV)) g5 145 u.cells) := Lib.hid (GU.out.far (p := ⟨g4, 2, none⟩) (Ne.symm n45) _)
       (try replace GQ : Hid (Blk (Vb.setCell ⟨g4, 2, none⟩ (.int .i64 y2'.headV)) x9.heap.size 145 u.cells) := Lib.hid (GQ.out.far (p := ⟨g4, 2, none⟩) n4q _))
       replace HCg := Lib.hid (HCg.out.trans (chg_one _ ⟨g4, 2, none⟩ (.int .i64 y2'.headV)) (fun _ _ e => e))
       have HS : (Vb.setCell ⟨g4, 2, none⟩ (.int .i64 y2'.headV)).cell? ⟨g, 4, none⟩ = some (.pointer (some ⟨G, 0, none⟩)) ∧ (Vb.setCell ⟨g4, 2, none⟩ (.int .i64 y2'.headV)).cell? ⟨g, 6, none⟩ = some (.int .u32 (k : Int)) ∧ Blk (Vb.setCell ⟨g4, 2, none⟩ (.int .i64 y2'.headV)) g5 145 u.cells := ⟨(HA.out.below HB.out).box.cell 4, ((HA.out.below HB.out).box.cell 6).trans (by rw [← HKK.out]; rfl), GU.out⟩
       refine hK.out _ _ ?_ (fun hHeld => ?_)
       ·first | exact HS | go_keep
       clear hK K
       generalize (Vb.setCell ⟨g4, 2, none⟩ (.int .i64 y2'.headV)) = Vc at *
       try simp only [Act.put, pS]
       refine tkT 16 rfl (v := ?_) ?_ ?_
       rotate_left 1
       ·(intro wq hSw; (try dsimp only at hSw); go_simp; (try with_reducible rfl))
       try simp only [Act.put, pS]
       refine wpAnyH_ready (rs := [17]) (by kernel_rfl) (by simp) ?_
       refine (AllReadyH.cons rfl (fun K hK => ?_) AllReadyH.nil)
       have s0 : Vc.cell? ⟨g4, 23, none⟩ = some (.slice none 0 0) := GL.out.cell 23
       have f0 := GL.out.frozen 23
       go_simp
       clear s0 f0
       replace GL : Hid (Blk (Vc.setCell ⟨g4, 23, none⟩ (.slice (some ⟨x9.heap.size, 0, none⟩) 1 1)) g4 37 (Lt.cells { askHd (f : Int) y with kd := 17, tw := y2'.headV, uA := some ⟨x9.heap.size, 0, none⟩, un := 1, up := 1 })) := Lib.hid (GL.out.set_ 23 (.slice (some ⟨x9.heap.size, 0, none⟩) 1 1))
       replace HB : Hid (Below w.heap.size w (Vc.setCell ⟨g4, 23, none⟩ (.slice (some ⟨x9.heap.size, 0, none⟩) 1 1))) := Lib.hid (below_put HB.out HB.out.size lg4 23 (.slice (some ⟨x9.heap.size, 0, none⟩) 1 1))
       replace GU : Hid (Blk (Vc.setCell ⟨g4, 23, none⟩ (.slice (some ⟨x9.heap.size, 0, none⟩) 1 1)) g5 145 u.cells) := Lib.hid (GU.out.far (p := ⟨g4, 23, none⟩) (Ne.symm n45) _)
       (try replace GQ : Hid (Blk (Vc.setCell ⟨g4, 23, none⟩ (.slice (some ⟨x9.heap.size, 0, none⟩) 1 1)) x9.heap.size 145 u.cells) := Lib.hid (GQ.out.far (p := ⟨g4, 23, none⟩) n4q _))
       replace HCg := Lib.hid (HCg.out.trans (chg_one _ ⟨g4, 23, none⟩ (.slice (some ⟨x9.heap.size, 0, none⟩) 1 1)) (fun _ _ e => e))
       have HS : (Vc.setCell ⟨g4, 23, none⟩ (.slice (some ⟨x9.heap.size, 0, none⟩) 1 1)).cell? ⟨g, 4, none⟩ = some (.pointer (some ⟨G, 0, none⟩)) ∧ (Vc.setCell ⟨g4, 23, none⟩ (.slice (some ⟨x9.heap.size, 0, none⟩) 1 1)).cell? ⟨g, 6, none⟩ = some (.int .u32 (k : Int)) ∧ Blk (Vc.setCell ⟨g4, 23, none⟩ (.slice (some ⟨x9.heap.size, 0, none⟩) 1 1)) g5 145 u.cells := ⟨(HA.out.below HB.out).box.cell 4, ((HA.out.below HB.out).box.cell 6).trans (by rw [← HKK.out]; rfl), GU.out⟩
       refine hK.out _ _ ?_ (fun hHeld => ?_)
       ·first | exact HS | go_keep
       clear hK K
       generalize (Vc.setCell ⟨g4, 23, none⟩ (.slice (some ⟨x9.heap.size, 0, none⟩) 1 1)) = Ve at *
       try simp only [Act.put, pS]
       refine wpAnyH_done (by kernel_rfl) ?_ _
       obtain ⟨l5, hl5⟩ : ∃ l5 : Lt, l5 = { askHd (f : Int) y with kd := 17, tw := y2'.headV, uA := some ⟨x9.heap.size, 0, none⟩, un := 1, up := 1 } := ⟨_, rfl⟩
       have HL5 : Hid (l5 = askLt c (200 + c.cl) (askTo c y2') y (some ⟨x9.heap.size, 0, none⟩)) := Lib.hid (by unfold askLt askTo; rw [if_neg HK1.out, if_neg HK1.out, ← HF.out]; exact hl5)
       have GL5 : Hid (Blk Ve g4 37 l5.cells) := Lib.hid (by rw [hl5]; exact GL.out)
       have hls := lt_lit l5
       have HBW := HB
       have HGQ : Hid (Blk Ve x9.heap.size 145 u.cells) := GQ
       have HCw : Hid (Chg wc Ve (fun i => i = g4)) := HCg
       clear hl5 GL HB GU hU y4 y6 HM GQ HCg
       generalize hW9 : Ve = W9 at *
       clear hW9
       go_upto_region 8 with (fail)
       iterate 1 go_step
       refine wpList_load_row rfl 37 (.tmp 4) rfl g4 rfl 37 l5.cells (0, 0) _ GL5.out Tryz.underlying37 rfl ltInfo ?_
       go_wp2_with (fail)
       go_ret
       have hwf : LWf l5 := by rw [HL5.out]; exact ask_wf (one_right HVS.out HONE.out) (one_right HVS.out HONE2.out) (HEP.out y HONE.out) hcl hnum HKY.out
       have hsl : ((l5.fn = 0 ∧ l5.fp = 0) ∧ (l5.vn = 0 ∧ l5.vp = 0) ∧ (l5.dn = 0 ∧ l5.dp = 0)) ∧ l5.un = 1 ∧ l5.up = 1 ∧ l5.uA = some ⟨x9.heap.size, 0, none⟩ := by rw [HL5.out]; unfold askLt; rw [if_neg HK1.out]; exact ⟨⟨⟨rfl, rfl⟩, ⟨rfl, rfl⟩, ⟨rfl, rfl⟩⟩, rfl, rfl, rfl⟩
       exact rp6
      ·have s0 : x9.cell? ⟨g4, 0, none⟩ = some (.int .i64 0) := GL.out.cell 0
       have f0 := GL.out.frozen 0
       go_simp
       clear s0 f0
       replace GL : Hid (Blk (x9.setCell ⟨g4, 0, none⟩ (.int .i64 17)) g4 37 (Lt.cells { askHd (f : Int) y with kd := 17 })) := Lib.hid (GL.out.set_ 0 (.int .i64 17))
       replace HB : Hid (Below w.heap.size w (x9.setCell ⟨g4, 0, none⟩ (.int .i64 17))) := Lib.hid (below_put HB.out HB.out.size lg4 0 (.int .i64 17))
       replace GU : Hid (Blk (x9.setCell ⟨g4, 0, none⟩ (.int .i64 17)) g5 145 u.cells) := Lib.hid (GU.out.far (p := ⟨g4, 0, none⟩) (Ne.symm n45) _)
       (try replace GQ : Hid (Blk (x9.setCell ⟨g4, 0, none⟩ (.int .i64 17)) @q 145 u.cells) := Lib.hid (GQ.out.far (p := ⟨g4, 0, none⟩) n4q _))
       replace HCg := Lib.hid (HCg.out.trans (chg_one _ ⟨g4, 0, none⟩ (.int .i64 17)) (fun _ _ e => e))
       have HS : (x9.setCell ⟨g4, 0, none⟩ (.int .i64 17)).cell? ⟨g, 4, none⟩ = some (.pointer (some ⟨G, 0, none⟩)) ∧ (x9.setCell ⟨g4, 0, none⟩ (.int .i64 17)).cell? ⟨g, 6, none⟩ = some (.int .u32 (k : Int)) ∧ Blk (x9.setCell ⟨g4, 0, none⟩ (.int .i64 17)) g5 145 u.cells := ⟨(HA.out.below HB.out).box.cell 4, ((HA.out.below HB.out).box.cell 6).trans (by rw [← HKK.out]; rfl), GU.out⟩
       refine hK.out _ _ ?_ (fun hHeld => ?_)
       ·first | exact HS | go_keep
       clear hK K
       generalize (x9.setCell ⟨g4, 0, none⟩ (.int .i64 17)) = Vb at *
       try simp only [Act.put, pS]
       refine tkT 14 rfl (v := ?_) ?_ ?_
       rotate_left 1
       ·(intro wq hSw; (try dsimp only at hSw); go_simp; (try with_reducible rfl))
       try simp only [Act.put, pS]
       refine wpAnyH_ready (rs := [11, 15]) (by kernel_rfl) (by simp) ?_
       refine (AllReadyH.cons rfl (fun K hK => ?_) (AllReadyH.cons rfl (fun K hK => ?_) AllReadyH.nil))
       ·go_simp
        have GQ : Hid (Blk (Vb.alloc (.cells #[.int .u64 u.seq, .int .i64 u.cl, .int .u64 u.num, .int .i64 u.kd, .int .u32 u.key, .int .u64 u.ver, .slice u.A u.n u.c] 145)) Vb.heap.size 145 u.cells) := Lib.hid (Blk.new Vb 145 u.cells)
        have n4q : Vb.heap.size ≠ g4 := by have := GL.out.lt; omega
        replace HCg := Lib.hid (HCg.out.trans (Chg.of_below ((Below.refl Vb.heap.size Vb).alloc (Nat.le_refl _) (.cells #[.int .u64 u.seq, .int .i64 u.cl, .int .u64 u.num, .int .i64 u.kd, .int .u32 u.key, .int .u64 u.ver, .slice u.A u.n u.c] 145)) _) (fun _ _ e => e))
        replace HB := Lib.hid (HB.out.alloc HB.out.size (.cells #[.int .u64 u.seq, .int .i64 u.cl, .int .u64 u.num, .int .i64 u.kd, .int .u32 u.key, .int .u64 u.ver, .slice u.A u.n u.c] 145))
        replace GL := Lib.hid (GL.out.alloc (.cells #[.int .u64 u.seq, .int .i64 u.cl, .int .u64 u.num, .int .i64 u.kd, .int .u32 u.key, .int .u64 u.ver, .slice u.A u.n u.c] 145))
        replace GU := Lib.hid (GU.out.alloc (.cells #[.int .u64 u.seq, .int .i64 u.cl, .int .u64 u.num, .int .i64 u.kd, .int .u32 u.key, .int .u64 u.ver, .slice u.A u.n u.c] 145))
        have HS : (Vb.alloc (.cells #[.int .u64 u.seq, .int .i64 u.cl, .int .u64 u.num, .int .i64 u.kd, .int .u32 u.key, .int .u64 u.ver, .slice u.A u.n u.c] 145)).cell? ⟨g, 4, none⟩ = some (.pointer (some ⟨G, 0, none⟩)) ∧ (Vb.alloc (.cells #[.int .u64 u.seq, .int .i64 u.cl, .int .u64 u.num, .int .i64 u.kd, .int .u32 u.key, .int .u64 u.ver, .slice u.A u.n u.c] 145)).cell? ⟨g, 6, none⟩ = some (.int .u32 (k : Int)) ∧ Blk (Vb.alloc (.cells #[.int .u64 u.seq, .int .i64 u.cl, .int .u64 u.num, .int .i64 u.kd, .int .u32 u.key, .int .u64 u.ver, .slice u.A u.n u.c] 145)) g5 145 u.cells := ⟨(HA.out.below HB.out).box.cell 4, ((HA.out.below HB.out).box.cell 6).trans (by rw [← HKK.out]; rfl), GU.out⟩
        refine hK.out _ _ ?_ (fun hHeld => ?_)
        ·first | exact HS | go_keep
        clear hK K
        generalize (Vb.alloc (.cells #[.int .u64 u.seq, .int .i64 u.cl, .int .u64 u.num, .int .i64 u.kd, .int .u32 u.key, .int .u64 u.ver, .slice u.A u.n u.c] 145)) = Va at *
        try simp only [Act.put, pS]
        refine wpAnyH_ready (rs := [15]) (by kernel_rfl) (by simp) ?_
        refine (AllReadyH.cons rfl (fun K hK => ?_) AllReadyH.nil)
        have s0 : Va.cell? ⟨g4, 2, none⟩ = some (.int .i64 0) := GL.out.cell 2
        have f0 := GL.out.frozen 2
        go_simp
        clear s0 f0
        replace GL : Hid (Blk (Va.setCell ⟨g4, 2, none⟩ (.int .i64 y2'.headV)) g4 37 (Lt.cells { askHd (f : Int) y with kd := 17, tw := y2'.headV })) := Lib.hid (GL.out.set_ 2 (.int .i64 y2'.headV))
        replace HB : Hid (Below w.heap.size w (Va.setCell ⟨g4, 2, none⟩ (.int .i64 y2'.headV))) := Lib.hid (below_put HB.out HB.out.size lg4 2 (.int .i64 y2'.headV))
        replace GU : Hid (Blk (Va.setCell ⟨g4, 2, none⟩ (.int .i64 y2'.headV)) g5 145 u.cells) := Lib.hid (GU.out.far (p := ⟨g4, 2, none⟩) (Ne.symm n45) _)
        (try replace GQ : Hid (Blk (Va.setCell ⟨g4, 2, none⟩ (.int .i64 y2'.headV)) Vb.heap.size 145 u.cells) := Lib.hid (GQ.out.far (p := ⟨g4, 2, none⟩) n4q _))
        replace HCg := Lib.hid (HCg.out.trans (chg_one _ ⟨g4, 2, none⟩ (.int .i64 y2'.headV)) (fun _ _ e => e))
        have HS : (Va.setCell ⟨g4, 2, none⟩ (.int .i64 y2'.headV)).cell? ⟨g, 4, none⟩ = some (.pointer (some ⟨G, 0, none⟩)) ∧ (Va.setCell ⟨g4, 2, none⟩ (.int .i64 y2'.headV)).cell? ⟨g, 6, none⟩ = some (.int .u32 (k : Int)) ∧ Blk (Va.setCell ⟨g4, 2, none⟩ (.int .i64 y2'.headV)) g5 145 u.cells := ⟨(HA.out.below HB.out).box.cell 4, ((HA.out.below HB.out).box.cell 6).trans (by rw [← HKK.out]; rfl), GU.out⟩
        refine hK.out _ _ ?_ (fun hHeld => ?_)
        ·first | exact HS | go_keep
        clear hK K
        generalize (Va.setCell ⟨g4, 2, none⟩ (.int .i64 y2'.headV)) = Vc at *
        try simp only [Act.put, pS]
        refine tkT 16 rfl (v := ?_) ?_ ?_
        rotate_left 1
        ·(intro wq hSw; (try dsimp only at hSw); go_simp; (try with_reducible rfl))
        try simp only [Act.put, pS]
        refine wpAnyH_ready (rs := [17]) (by kernel_rfl) (by simp) ?_
        refine (AllReadyH.cons rfl (fun K hK => ?_) AllReadyH.nil)
        have s0 : Vc.cell? ⟨g4, 23, none⟩ = some (.slice none 0 0) := GL.out.cell 23
        have f0 := GL.out.frozen 23
        go_simp
        clear s0 f0
        replace GL : Hid (Blk (Vc.setCell ⟨g4, 23, none⟩ (.slice (some ⟨Vb.heap.size, 0, none⟩) 1 1)) g4 37 (Lt.cells { askHd (f : Int) y with kd := 17, tw := y2'.headV, uA := some ⟨Vb.heap.size, 0, none⟩, un := 1, up := 1 })) := Lib.hid (GL.out.set_ 23 (.slice (some ⟨Vb.heap.size, 0, none⟩) 1 1))
        replace HB : Hid (Below w.heap.size w (Vc.setCell ⟨g4, 23, none⟩ (.slice (some ⟨Vb.heap.size, 0, none⟩) 1 1))) := Lib.hid (below_put HB.out HB.out.size lg4 23 (.slice (some ⟨Vb.heap.size, 0, none⟩) 1 1))
        replace GU : Hid (Blk (Vc.setCell ⟨g4, 23, none⟩ (.slice (some ⟨Vb.heap.size, 0, none⟩) 1 1)) g5 145 u.cells) := Lib.hid (GU.out.far (p := ⟨g4, 23, none⟩) (Ne.symm n45) _)
        (try replace GQ : Hid (Blk (Vc.setCell ⟨g4, 23, none⟩ (.slice (some ⟨Vb.heap.size, 0, none⟩) 1 1)) Vb.heap.size 145 u.cells) := Lib.hid (GQ.out.far (p := ⟨g4, 23, none⟩) n4q _))
        replace HCg := Lib.hid (HCg.out.trans (chg_one _ ⟨g4, 23, none⟩ (.slice (some ⟨Vb.heap.size, 0, none⟩) 1 1)) (fun _ _ e => e))
        have HS : (Vc.setCell ⟨g4, 23, none⟩ (.slice (some ⟨Vb.heap.size, 0, none⟩) 1 1)).cell? ⟨g, 4, none⟩ = some (.pointer (some ⟨G, 0, none⟩)) ∧ (Vc.setCell ⟨g4, 23, none⟩ (.slice (some ⟨Vb.heap.size, 0, none⟩) 1 1)).cell? ⟨g, 6, none⟩ = some (.int .u32 (k : Int)) ∧ Blk (Vc.setCell ⟨g4, 23, none⟩ (.slice (some ⟨Vb.heap.size, 0, none⟩) 1 1)) g5 145 u.cells := ⟨(HA.out.below HB.out).box.cell 4, ((HA.out.below HB.out).box.cell 6).trans (by rw [← HKK.out]; rfl), GU.out⟩
        refine hK.out _ _ ?_ (fun hHeld => ?_)
        ·first | exact HS | go_keep
        clear hK K
        generalize (Vc.setCell ⟨g4, 23, none⟩ (.slice (some ⟨Vb.heap.size, 0, none⟩) 1 1)) = Ve at *
        try simp only [Act.put, pS]
        refine wpAnyH_done (by kernel_rfl) ?_ _
        obtain ⟨l5, hl5⟩ : ∃ l5 : Lt, l5 = { askHd (f : Int) y with kd := 17, tw := y2'.headV, uA := some ⟨Vb.heap.size, 0, none⟩, un := 1, up := 1 } := ⟨_, rfl⟩
        have HL5 : Hid (l5 = askLt c (200 + c.cl) (askTo c y2') y (some ⟨Vb.heap.size, 0, none⟩)) := Lib.hid (by unfold askLt askTo; rw [if_neg HK1.out, if_neg HK1.out, ← HF.out]; exact hl5)
        have GL5 : Hid (Blk Ve g4 37 l5.cells) := Lib.hid (by rw [hl5]; exact GL.out)
        have hls := lt_lit l5
        have HBW := HB
        have HGQ : Hid (Blk Ve Vb.heap.size 145 u.cells) := GQ
        have HCw : Hid (Chg wc Ve (fun i => i = g4)) := HCg
        clear hl5 GL HB GU hU y4 y6 HM GQ HCg
        generalize hW9 : Ve = W9 at *
        clear hW9
        go_upto_region 8 with (fail)
        iterate 1 go_step
        refine wpList_load_row rfl 37 (.tmp 4) rfl g4 rfl 37 l5.cells (0, 0) _ GL5.out Tryz.underlying37 rfl ltInfo ?_
        go_wp2_with (fail)
        go_ret
        have hwf : LWf l5 := by rw [HL5.out]; exact ask_wf (one_right HVS.out HONE.out) (one_right HVS.out HONE2.out) (HEP.out y HONE.out) hcl hnum HKY.out
        have hsl : ((l5.fn = 0 ∧ l5.fp = 0) ∧ (l5.vn = 0 ∧ l5.vp = 0) ∧ (l5.dn = 0 ∧ l5.dp = 0)) ∧ l5.un = 1 ∧ l5.up = 1 ∧ l5.uA = some ⟨Vb.heap.size, 0, none⟩ := by rw [HL5.out]; unfold askLt; rw [if_neg HK1.out]; exact ⟨⟨⟨rfl, rfl⟩, ⟨rfl, rfl⟩, ⟨rfl, rfl⟩⟩, rfl, rfl, rfl⟩
        exact rp6
       ·have s0 : Vb.cell? ⟨g4, 2, none⟩ = some (.int .i64 0) := GL.out.cell 2
        have f0 := GL.out.frozen 2
        go_simp
        clear s0 f0
        replace GL : Hid (Blk (Vb.setCell ⟨g4, 2, none⟩ (.int .i64 y2'.headV)) g4 37 (Lt.cells { askHd (f : Int) y with kd := 17, tw := y2'.headV })) := Lib.hid (GL.out.set_ 2 (.int .i64 y2'.headV))
        replace HB : Hid (Below w.heap.size w (Vb.setCell ⟨g4, 2, none⟩ (.int .i64 y2'.headV))) := Lib.hid (below_put HB.out HB.out.size lg4 2 (.int .i64 y2'.headV))
        replace GU : Hid (Blk (Vb.setCell ⟨g4, 2, none⟩ (.int .i64 y2'.headV)) g5 145 u.cells) := Lib.hid (GU.out.far (p := ⟨g4, 2, none⟩) (Ne.symm n45) _)
        (try replace GQ : Hid (Blk (Vb.setCell ⟨g4, 2, none⟩ (.int .i64 y2'.headV)) @q 145 u.cells) := Lib.hid (GQ.out.far (p := ⟨g4, 2, none⟩) n4q _))
        replace HCg := Lib.hid (HCg.out.trans (chg_one _ ⟨g4, 2, none⟩ (.int .i64 y2'.headV)) (fun _ _ e => e))
        have HS : (Vb.setCell ⟨g4, 2, none⟩ (.int .i64 y2'.headV)).cell? ⟨g, 4, none⟩ = some (.pointer (some ⟨G, 0, none⟩)) ∧ (Vb.setCell ⟨g4, 2, none⟩ (.int .i64 y2'.headV)).cell? ⟨g, 6, none⟩ = some (.int .u32 (k : Int)) ∧ Blk (Vb.setCell ⟨g4, 2, none⟩ (.int .i64 y2'.headV)) g5 145 u.cells := ⟨(HA.out.below HB.out).box.cell 4, ((HA.out.below HB.out).box.cell 6).trans (by rw [← HKK.out]; rfl), GU.out⟩
        refine hK.out _ _ ?_ (fun hHeld => ?_)
        ·first | exact HS | go_keep
        clear hK K
        generalize (Vb.setCell ⟨g4, 2, none⟩ (.int .i64 y2'.headV)) = Vc at *
        try simp only [Act.put, pS]
        refine wpAnyH_ready (rs := [11]) (by kernel_rfl) (by simp) ?_
        refine (AllReadyH.cons rfl (fun K hK => ?_) AllReadyH.nil)
        go_simp
        have GQ : Hid (Blk (Vc.alloc (.cells #[.int .u64 u.seq, .int .i64 u.cl, .int .u64 u.num, .int .i64 u.kd, .int .u32 u.key, .int .u64 u.ver, .slice u.A u.n u.c] 145)) Vc.heap.size 145 u.cells) := Lib.hid (Blk.new Vc 145 u.cells)
        have n4q : Vc.heap.size ≠ g4 := by have := GL.out.lt; omega
        replace HCg := Lib.hid (HCg.out.trans (Chg.of_below ((Below.refl Vc.heap.size Vc).alloc (Nat.le_refl _) (.cells #[.int .u64 u.seq, .int .i64 u.cl, .int .u64 u.num, .int .i64 u.kd, .int .u32 u.key, .int .u64 u.ver, .slice u.A u.n u.c] 145)) _) (fun _ _ e => e))
        replace HB := Lib.hid (HB.out.alloc HB.out.size (.cells #[.int .u64 u.seq, .int .i64 u.cl, .int .u64 u.num, .int .i64 u.kd, .int .u32 u.key, .int .u64 u.ver, .slice u.A u.n u.c] 145))
        replace GL := Lib.hid (GL.out.alloc (.cells #[.int .u64 u.seq, .int .i64 u.cl, .int .u64 u.num, .int .i64 u.kd, .int .u32 u.key, .int .u64 u.ver, .slice u.A u.n u.c] 145))
        replace GU := Lib.hid (GU.out.alloc (.cells #[.int .u64 u.seq, .int .i64 u.cl, .int .u64 u.num, .int .i64 u.kd, .int .u32 u.key, .int .u64 u.ver, .slice u.A u.n u.c] 145))
        have HS : (Vc.alloc (.cells #[.int .u64 u.seq, .int .i64 u.cl, .int .u64 u.num, .int .i64 u.kd, .int .u32 u.key, .int .u64 u.ver, .slice u.A u.n u.c] 145)).cell? ⟨g, 4, none⟩ = some (.pointer (some ⟨G, 0, none⟩)) ∧ (Vc.alloc (.cells #[.int .u64 u.seq, .int .i64 u.cl, .int .u64 u.num, .int .i64 u.kd, .int .u32 u.key, .int .u64 u.ver, .slice u.A u.n u.c] 145)).cell? ⟨g, 6, none⟩ = some (.int .u32 (k : Int)) ∧ Blk (Vc.alloc (.cells #[.int .u64 u.seq, .int .i64 u.cl, .int .u64 u.num, .int .i64 u.kd, .int .u32 u.key, .int .u64 u.ver, .slice u.A u.n u.c] 145)) g5 145 u.cells := ⟨(HA.out.below HB.out).box.cell 4, ((HA.out.below HB.out).box.cell 6).trans (by rw [← HKK.out]; rfl), GU.out⟩
        refine hK.out _ _ ?_ (fun hHeld => ?_)
        ·first | exact HS | go_keep
        clear hK K
        generalize (Vc.alloc (.cells #[.int .u64 u.seq, .int .i64 u.cl, .int .u64 u.num, .int .i64 u.kd, .int .u32 u.key, .int .u64 u.ver, .slice u.A u.n u.c] 145)) = Va at *
        try simp only [Act.put, pS]
        refine tkT 16 rfl (v := ?_) ?_ ?_
        rotate_left 1
        ·(intro wq hSw; (try dsimp only at hSw); go_simp; (try with_reducible rfl))
        try simp only [Act.put, pS]
        refine wpAnyH_ready (rs := [17]) (by kernel_rfl) (by simp) ?_
        refine (AllReadyH.cons rfl (fun K hK => ?_) AllReadyH.nil)
        have s0 : Va.cell? ⟨g4, 23, none⟩ = some (.slice none 0 0) := GL.out.cell 23
        have f0 := GL.out.frozen 23
        go_simp
        clear s0 f0
        replace GL : Hid (Blk (Va.setCell ⟨g4, 23, none⟩ (.slice (some ⟨Vc.heap.size, 0, none⟩) 1 1)) g4 37 (Lt.cells { askHd (f : Int) y with kd := 17, tw := y2'.headV, uA := some ⟨Vc.heap.size, 0, none⟩, un := 1, up := 1 })) := Lib.hid (GL.out.set_ 23 (.slice (some ⟨Vc.heap.size, 0, none⟩) 1 1))
        replace HB : Hid (Below w.heap.size w (Va.setCell ⟨g4, 23, none⟩ (.slice (some ⟨Vc.heap.size, 0, none⟩) 1 1))) := Lib.hid (below_put HB.out HB.out.size lg4 23 (.slice (some ⟨Vc.heap.size, 0, none⟩) 1 1))
        replace GU : Hid (Blk (Va.setCell ⟨g4, 23, none⟩ (.slice (some ⟨Vc.heap.size, 0, none⟩) 1 1)) g5 145 u.cells) := Lib.hid (GU.out.far (p := ⟨g4, 23, none⟩) (Ne.symm n45) _)
        (try replace GQ : Hid (Blk (Va.setCell ⟨g4, 23, none⟩ (.slice (some ⟨Vc.heap.size, 0, none⟩) 1 1)) Vc.heap.size 145 u.cells) := Lib.hid (GQ.out.far (p := ⟨g4, 23, none⟩) n4q _))
        replace HCg := Lib.hid (HCg.out.trans (chg_one _ ⟨g4, 23, none⟩ (.slice (some ⟨Vc.heap.size, 0, none⟩) 1 1)) (fun _ _ e => e))
        have HS : (Va.setCell ⟨g4, 23, none⟩ (.slice (some ⟨Vc.heap.size, 0, none⟩) 1 1)).cell? ⟨g, 4, none⟩ = some (.pointer (some ⟨G, 0, none⟩)) ∧ (Va.setCell ⟨g4, 23, none⟩ (.slice (some ⟨Vc.heap.size, 0, none⟩) 1 1)).cell? ⟨g, 6, none⟩ = some (.int .u32 (k : Int)) ∧ Blk (Va.setCell ⟨g4, 23, none⟩ (.slice (some ⟨Vc.heap.size, 0, none⟩) 1 1)) g5 145 u.cells := ⟨(HA.out.below HB.out).box.cell 4, ((HA.out.below HB.out).box.cell 6).trans (by rw [← HKK.out]; rfl), GU.out⟩
        refine hK.out _ _ ?_ (fun hHeld => ?_)
        ·first | exact HS | go_keep
        clear hK K
        generalize (Va.setCell ⟨g4, 23, none⟩ (.slice (some ⟨Vc.heap.size, 0, none⟩) 1 1)) = Ve at *
        try simp only [Act.put, pS]
        refine wpAnyH_done (by kernel_rfl) ?_ _
        obtain ⟨l5, hl5⟩ : ∃ l5 : Lt, l5 = { askHd (f : Int) y with kd := 17, tw := y2'.headV, uA := some ⟨Vc.heap.size, 0, none⟩, un := 1, up := 1 } := ⟨_, rfl⟩
        have HL5 : Hid (l5 = askLt c (200 + c.cl) (askTo c y2') y (some ⟨Vc.heap.size, 0, none⟩)) := Lib.hid (by unfold askLt askTo; rw [if_neg HK1.out, if_neg HK1.out, ← HF.out]; exact hl5)
        have GL5 : Hid (Blk Ve g4 37 l5.cells) := Lib.hid (by rw [hl5]; exact GL.out)
        have hls := lt_lit l5
        have HBW := HB
        have HGQ : Hid (Blk Ve Vc.heap.size 145 u.cells) := GQ
        have HCw : Hid (Chg wc Ve (fun i => i = g4)) := HCg
        clear hl5 GL HB GU hU y4 y6 HM GQ HCg
        generalize hW9 : Ve = W9 at *
        clear hW9
        go_upto_region 8 with (fail)
        iterate 1 go_step
        refine wpList_load_row rfl 37 (.tmp 4) rfl g4 rfl 37 l5.cells (0, 0) _ GL5.out Tryz.underlying37 rfl ltInfo ?_
        go_wp2_with (fail)
        go_ret
        have hwf : LWf l5 := by rw [HL5.out]; exact ask_wf (one_right HVS.out HONE.out) (one_right HVS.out HONE2.out) (HEP.out y HONE.out) hcl hnum HKY.out
        have hsl : ((l5.fn = 0 ∧ l5.fp = 0) ∧ (l5.vn = 0 ∧ l5.vp = 0) ∧ (l5.dn = 0 ∧ l5.dp = 0)) ∧ l5.un = 1 ∧ l5.up = 1 ∧ l5.uA = some ⟨Vc.heap.size, 0, none⟩ := by rw [HL5.out]; unfold askLt; rw [if_neg HK1.out]; exact ⟨⟨⟨rfl, rfl⟩, ⟨rfl, rfl⟩, ⟨rfl, rfl⟩⟩, rfl, rfl, rfl⟩
        exact rp6
     ·go_simp
      have GQ : Hid (Blk (Vd.alloc (.cells #[.int .u64 u.seq, .int .i64 u.cl, .int .u64 u.num, .int .i64 u.kd, .int .u32 u.key, .int .u64 u.ver, .slice u.A u.n u.c] 145)) Vd.heap.size 145 u.cells) := Lib.hid (Blk.new Vd 145 u.cells)
      have n4q : Vd.heap.size ≠ g4 := by have := GL.out.lt; omega
      replace HCg := Lib.hid (HCg.out.trans (Chg.of_below ((Below.refl Vd.heap.size Vd).alloc (Nat.le_refl _) (.cells #[.int .u64 u.seq, .int .i64 u.cl, .int .u64 u.num, .int .i64 u.kd, .int .u32 u.key, .int .u64 u.ver, .slice u.A u.n u.c] 145)) _) (fun _ _ e => e))
      replace HB := Lib.hid (HB.out.alloc HB.out.size (.cells #[.int .u64 u.seq, .int .i64 u.cl, .int .u64 u.num, .int .i64 u.kd, .int .u32 u.key, .int .u64 u.ver, .slice u.A u.n u.c] 145))
      replace GL := Lib.hid (GL.out.alloc (.cells #[.int .u64 u.seq, .int .i64 u.cl, .int .u64 u.num, .int .i64 u.kd, .int .u32 u.key, .int .u64 u.ver, .slice u.A u.n u.c] 145))
      replace GU := Lib.hid (GU.out.alloc (.cells #[.int .u64 u.seq, .int .i64 u.cl, .int .u64 u.num, .int .i64 u.kd, .int .u32 u.key, .int .u64 u.ver, .slice u.A u.n u.c] 145))
      have HS : (Vd.alloc (.cells #[.int .u64 u.seq, .int .i64 u.cl, .int .u64 u.num, .int .i64 u.kd, .int .u32 u.key, .int .u64 u.ver, .slice u.A u.n u.c] 145)).cell? ⟨g, 4, none⟩ = some (.pointer (some ⟨G, 0, none⟩)) ∧ (Vd.alloc (.cells #[.int .u64 u.seq, .int .i64 u.cl, .int .u64 u.num, .int .i64 u.kd, .int .u32 u.key, .int .u64 u.ver, .slice u.A u.n u.c] 145)).cell? ⟨g, 6, none⟩ = some (.int .u32 (k : Int)) ∧ Blk (Vd.alloc (.cells #[.int .u64 u.seq, .int .i64 u.cl, .int .u64 u.num, .int .i64 u.kd, .int .u32 u.key, .int .u64 u.ver, .slice u.A u.n u.c] 145)) g5 145 u.cells := ⟨(HA.out.below HB.out).box.cell 4, ((HA.out.below HB.out).box.cell 6).trans (by rw [← HKK.out]; rfl), GU.out⟩
      refine hK.out _ _ ?_ (fun hHeld => ?_)
      ·first | exact HS | go_keep
      clear hK K
      generalize (Vd.alloc (.cells #[.int .u64 u.seq, .int .i64 u.cl, .int .u64 u.num, .int .i64 u.kd, .int .u32 u.key, .int .u64 u.ver, .slice u.A u.n u.c] 145)) = Va at *
      try simp only [Act.put, pS]
      refine wpAnyH_ready (rs := [9]) (by kernel_rfl) (by simp) ?_
      refine (AllReadyH.cons rfl (fun K hK => ?_) AllReadyH.nil)
      go_simp
      refine (HD.out _ HB.out).mono ?_
      rintro e x9 ⟨y2', hone2, rfl, h9⟩
      have HONE2 : Hid (OneOf vs k y2') := Lib.hid (by rw [← hOV.out]; exact hone2)
      replace HB := Lib.hid (HB.out.trans (h9.mono HB.out.size))
      replace GL := Lib.hid (GL.out.below h9 GL.out.lt)
      replace GU := Lib.hid (GU.out.below h9 GU.out.lt)
      (try replace GQ := Lib.hid (GQ.out.below h9 GQ.out.lt))
      replace HCg := Lib.hid (HCg.out.trans (Chg.of_below h9 _) (fun _ _ e => e))
      have HS : x9.cell? ⟨g, 4, none⟩ = some (.pointer (some ⟨G, 0, none⟩)) ∧ x9.cell? ⟨g, 6, none⟩ = some (.int .u32 (k : Int)) ∧ Blk x9 g5 145 u.cells := ⟨(HA.out.below HB.out).box.cell 4, ((HA.out.below HB.out).box.cell 6).trans (by rw [← HKK.out]; rfl), GU.out⟩
      clear h9 hone2
      refine hK.out _ _ ?_ (fun hHeld => ?_)
      ·first | exact HS | go_keep
      clear hK K
      try simp only [Act.put, pS]
      refine wpAnyH_ready (rs := [13]) (by kernel_rfl) (by simp) ?_
      refine (AllReadyH.cons rfl (fun K hK => ?_) AllReadyH.nil)
      have s0 : x9.cell? ⟨g4, 0, none⟩ = some (.int .i64 0) := GL.out.cell 0
      have f0 := GL.out.frozen 0
      go_simp
      clear s0 f0
      replace GL : Hid (Blk (x9.setCell ⟨g4, 0, none⟩ (.int .i64 17)) g4 37 (Lt.cells { askHd (f : Int) y with kd := 17 })) := Lib.hid (GL.out.set_ 0 (.int .i64 17))
      replace HB : Hid (Below w.heap.size w (x9.setCell ⟨g4, 0, none⟩ (.int .i64 17))) := Lib.hid (below_put HB.out HB.out.size lg4 0 (.int .i64 17))
      replace GU : Hid (Blk (x9.setCell ⟨g4, 0, none⟩ (.int .i64 17)) g5 145 u.cells) := Lib.hid (GU.out.far (p := ⟨g4, 0, none⟩) (Ne.symm n45) _)
      (try replace GQ : Hid (Blk (x9.setCell ⟨g4, 0, none⟩ (.int .i64 17)) Vd.heap.size 145 u.cells) := Lib.hid (GQ.out.far (p := ⟨g4, 0, none⟩) n4q _))
      replace HCg := Lib.hid (HCg.out.trans (chg_one _ ⟨g4, 0, none⟩ (.int .i64 17)) (fun _ _ e => e))
      have HS : (x9.setCell ⟨g4, 0, none⟩ (.int .i64 17)).cell? ⟨g, 4, none⟩ = some (.pointer (some ⟨G, 0, none⟩)) ∧ (x9.setCell ⟨g4, 0, none⟩ (.int .i64 17)).cell? ⟨g, 6, none⟩ = some (.int .u32 (k : Int)) ∧ Blk (x9.setCell ⟨g4, 0, none⟩ (.int .i64 17)) g5 145 u.cells := ⟨(HA.out.below HB.out).box.cell 4, ((HA.out.below HB.out).box.cell 6).trans (by rw [← HKK.out]; rfl), GU.out⟩
      refine hK.out _ _ ?_ (fun hHeld => ?_)
      ·first | exact HS | go_keep
      clear hK K
      generalize (x9.setCell ⟨g4, 0, none⟩ (.int .i64 17)) = Vb at *
      try simp only [Act.put, pS]
      refine tkT 14 rfl (v := ?_) ?_ ?_
      rotate_left 1
      ·(intro wq hSw; (try dsimp only at hSw); go_simp; (try with_reducible rfl))
      try simp only [Act.put, pS]
      refine wpAnyH_ready (rs := [15]) (by kernel_rfl) (by simp) ?_
      refine (AllReadyH.cons rfl (fun K hK => ?_) AllReadyH.nil)
      have s0 : Vb.cell? ⟨g4, 2, none⟩ = some (.int .i64 0) := GL.out.cell 2
      have f0 := GL.out.frozen 2
      go_simp
      clear s0 f0
      replace GL : Hid (Blk (Vb.setCell ⟨g4, 2, none⟩ (.int .i64 y2'.headV)) g4 37 (Lt.cells { askHd (f : Int) y with kd := 17, tw := y2'.headV })) := Lib.hid (GL.out.set_ 2 (.int .i64 y2'.headV))
      replace HB : Hid (Below w.heap.size w (Vb.setCell ⟨g4, 2, none⟩ (.int .i64 y2'.headV))) := Lib.hid (below_put HB.out HB.out.size lg4 2 (.int .i64 y2'.headV))
      replace GU : Hid (Blk (Vb.setCell ⟨g4, 2, none⟩ (.int .i64 y2'.headV)) g5 145 u.cells) := Lib.hid (GU.out.far (p := ⟨g4, 2, none⟩) (Ne.symm n45) _)
      (try replace GQ : Hid (Blk (Vb.setCell ⟨g4, 2, none⟩ (.int .i64 y2'.headV)) Vd.heap.size 145 u.cells) := Lib.hid (GQ.out.far (p := ⟨g4, 2, none⟩) n4q _))
      replace HCg := Lib.hid (HCg.out.trans (chg_one _ ⟨g4, 2, none⟩ (.int .i64 y2'.headV)) (fun _ _ e => e))
      have HS : (Vb.setCell ⟨g4, 2, none⟩ (.int .i64 y2'.headV)).cell? ⟨g, 4, none⟩ = some (.pointer (some ⟨G, 0, none⟩)) ∧ (Vb.setCell ⟨g4, 2, none⟩ (.int .i64 y2'.headV)).cell? ⟨g, 6, none⟩ = some (.int .u32 (k : Int)) ∧ Blk (Vb.setCell ⟨g4, 2, none⟩ (.int .i64 y2'.headV)) g5 145 u.cells := ⟨(HA.out.below HB.out).box.cell 4, ((HA.out.below HB.out).box.cell 6).trans (by rw [← HKK.out]; rfl), GU.out⟩
      refine hK.out _ _ ?_ (fun hHeld => ?_)
      ·first | exact HS | go_keep
      clear hK K
      generalize (Vb.setCell ⟨g4, 2, none⟩ (.int .i64 y2'.headV)) = Vc at *
      try simp only [Act.put, pS]
      refine tkT 16 rfl (v := ?_) ?_ ?_
      rotate_left 1
      ·(intro wq hSw; (try dsimp only at hSw); go_simp; (try with_reducible rfl))
      try simp only [Act.put, pS]
      refine wpAnyH_ready (rs := [17]) (by kernel_rfl) (by simp) ?_
      refine (AllReadyH.cons rfl (fun K hK => ?_) AllReadyH.nil)
      have s0 : Vc.cell? ⟨g4, 23, none⟩ = some (.slice none 0 0) := GL.out.cell 23
      have f0 := GL.out.frozen 23
      go_simp
      clear s0 f0
      replace GL : Hid (Blk (Vc.setCell ⟨g4, 23, none⟩ (.slice (some ⟨Vd.heap.size, 0, none⟩) 1 1)) g4 37 (Lt.cells { askHd (f : Int) y with kd := 17, tw := y2'.headV, uA := some ⟨Vd.heap.size, 0, none⟩, un := 1, up := 1 })) := Lib.hid (GL.out.set_ 23 (.slice (some ⟨Vd.heap.size, 0, none⟩) 1 1))
      replace HB : Hid (Below w.heap.size w (Vc.setCell ⟨g4, 23, none⟩ (.slice (some ⟨Vd.heap.size, 0, none⟩) 1 1))) := Lib.hid (below_put HB.out HB.out.size lg4 23 (.slice (some ⟨Vd.heap.size, 0, none⟩) 1 1))
      replace GU : Hid (Blk (Vc.setCell ⟨g4, 23, none⟩ (.slice (some ⟨Vd.heap.size, 0, none⟩) 1 1)) g5 145 u.cells) := Lib.hid (GU.out.far (p := ⟨g4, 23, none⟩) (Ne.symm n45) _)
      (try replace GQ : Hid (Blk (Vc.setCell ⟨g4, 23, none⟩ (.slice (some ⟨Vd.heap.size, 0, none⟩) 1 1)) Vd.heap.size 145 u.cells) := Lib.hid (GQ.out.far (p := ⟨g4, 23, none⟩) n4q _))
      replace HCg := Lib.hid (HCg.out.trans (chg_one _ ⟨g4, 23, none⟩ (.slice (some ⟨Vd.heap.size, 0, none⟩) 1 1)) (fun _ _ e => e))
      have HS : (Vc.setCell ⟨g4, 23, none⟩ (.slice (some ⟨Vd.heap.size, 0, none⟩) 1 1)).cell? ⟨g, 4, none⟩ = some (.pointer (some ⟨G, 0, none⟩)) ∧ (Vc.setCell ⟨g4, 23, none⟩ (.slice (some ⟨Vd.heap.size, 0, none⟩) 1 1)).cell? ⟨g, 6, none⟩ = some (.int .u32 (k : Int)) ∧ Blk (Vc.setCell ⟨g4, 23, none⟩ (.slice (some ⟨Vd.heap.size, 0, none⟩) 1 1)) g5 145 u.cells := ⟨(HA.out.below HB.out).box.cell 4, ((HA.out.below HB.out).box.cell 6).trans (by rw [← HKK.out]; rfl), GU.out⟩
      refine hK.out _ _ ?_ (fun hHeld => ?_)
      ·first | exact HS | go_keep
      clear hK K
      generalize (Vc.setCell ⟨g4, 23, none⟩ (.slice (some ⟨Vd.heap.size, 0, none⟩) 1 1)) = Ve at *
      try simp only [Act.put, pS]
      refine wpAnyH_done (by kernel_rfl) ?_ _
      obtain ⟨l5, hl5⟩ : ∃ l5 : Lt, l5 = { askHd (f : Int) y with kd := 17, tw := y2'.headV, uA := some ⟨Vd.heap.size, 0, none⟩, un := 1, up := 1 } := ⟨_, rfl⟩
      have HL5 : Hid (l5 = askLt c (200 + c.cl) (askTo c y2') y (some ⟨Vd.heap.size, 0, none⟩)) := Lib.hid (by unfold askLt askTo; rw [if_neg HK1.out, if_neg HK1.out, ← HF.out]; exact hl5)
      have GL5 : Hid (Blk Ve g4 37 l5.cells) := Lib.hid (by rw [hl5]; exact GL.out)
      have hls := lt_lit l5
      have HBW := HB
      have HGQ : Hid (Blk Ve Vd.heap.size 145 u.cells) := GQ
      have HCw : Hid (Chg wc Ve (fun i => i = g4)) := HCg
      clear hl5 GL HB GU hU y4 y6 HM GQ HCg
      generalize hW9 : Ve = W9 at *
      clear hW9
      go_upto_region 8 with (fail)
      iterate 1 go_step
      refine wpList_load_row rfl 37 (.tmp 4) rfl g4 rfl 37 l5.cells (0, 0) _ GL5.out Tryz.underlying37 rfl ltInfo ?_
      go_wp2_with (fail)
      go_ret
      have hwf : LWf l5 := by rw [HL5.out]; exact ask_wf (one_right HVS.out HONE.out) (one_right HVS.out HONE2.out) (HEP.out y HONE.out) hcl hnum HKY.out
      have hsl : ((l5.fn = 0 ∧ l5.fp = 0) ∧ (l5.vn = 0 ∧ l5.vp = 0) ∧ (l5.dn = 0 ∧ l5.dp = 0)) ∧ l5.un = 1 ∧ l5.up = 1 ∧ l5.uA = some ⟨Vd.heap.size, 0, none⟩ := by rw [HL5.out]; unfold askLt; rw [if_neg HK1.out]; exact ⟨⟨⟨rfl, rfl⟩, ⟨rfl, rfl⟩, ⟨rfl, rfl⟩⟩, rfl, rfl, rfl⟩
      exact rp6
end Go.Proofs.YtmpedblelnpjdaaGreatDoor

end
