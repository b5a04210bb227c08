/- GI: CdD CdE -/
import Derived.Test.YtmpedblelnpjdaaGreatDoorZGG
/- letter.Encode, given what its calls tell. -/
namespace Go.Proofs.YtmpedblelnpjdaaGreatDoor
open Go.RowKit
set_option linter.unusedSimpArgs false
set_option linter.unusedVariables false
set_option maxHeartbeats 8000000
set_option maxRecDepth 100000
theorem ltInfo : (Tryz.prog.info? 37).map (·.size) = some 25 := by kernel_rfl
theorem OutStep.row {W W' : World} {g base n sz : Nat} {v v' rv : Value} {s : FO} {t : TypeId} {xs : List Value} (h : OutStep W W' g v v') (ho : OutAt W g v s) (hr : W.ownsRow base t sz rv n xs) (h1 : t ≠ 242) (h2 : t ≠ 5) : W'.ownsRow base t sz rv n xs := by
 refine own_block_same hr (fun k hk => ?_)
 rcases hr.2 with hn | ⟨k', cap, cur, hv, _, hh, _⟩
 ·rw [hn.1] at hk; cases hk
 ·have hkk : k = k' := by rw [hv] at hk; injection hk with hk; exact hk.symm
  subst hkk
  exact (h.typ ho (b := k) hh h1 h2).trans hh.symm
structure EncI (w : World) (l : Lt) (lb g lo : Nat) (is : List Nat) (ps : List Pm) (pv : Value) (hd : List Int) (f : Nat → List Int) (j : Nat) (v : Value) (W : World) : Prop where
 out : OutAt W g v ⟨hd ++ (is.take j).flatMap f, 16384, 0⟩
 box : Blk W lb 37 l.cells
 pm : ∀ (i k : Nat) (p : Pm), is[i]? = some k → ps[i]? = some p → PartM W k p
 row : W.ownsRow lo 123 3 pv ps.length (ps.flatMap Pm.row)
 bel : Below w.heap.size w W
theorem EncI.below {w W W' : World} {l : Lt} {lb g lo : Nat} {is : List Nat} {ps : List Pm} {pv v : Value} {hd : List Int} {f : Nat → List Int} {j : Nat} (h : EncI w l lb g lo is ps pv hd f j v W) (hb : Below W.heap.size W W') : EncI w l lb g lo is ps pv hd f j v W' :=
 ⟨h.out.below hb, h.box.below hb h.box.lt, fun i k p h1 h2 => PartM.below hb _ (h.pm i k p h1 h2), own_block_same h.row (fun k hk => hb.block k (h.row.lt k hk).2), h.bel.trans (hb.mono h.bel.size)⟩
theorem EncI.step {w W W' : World} {l : Lt} {lb g lo k : Nat} {is : List Nat} {ps : List Pm} {pv v v' : Value} {hd : List Int} {f : Nat → List Int} {j : Nat} (h : EncI w l lb g lo is ps pv hd f j v W) (hk : is[j]? = some k) (hg : w.heap.size ≤ g)
  (h1 : OutAt W' g v' ⟨(hd ++ (is.take j).flatMap f) ++ f k, 16384, 0⟩) (h2 : OutStep W W' g v v') : EncI w l lb g lo is ps pv hd f (j + 1) v' W' :=
 ⟨by rw [List.take_add_one, hk]; simpa [List.flatMap_append, List.append_assoc] using h1, h2.typ h.out h.box (by decide) (by decide), fun i k p e1 e2 => PartM.put h.out h2 _ (h.pm i k p e1 e2), h2.row h.out h.row (by decide) (by decide), h.bel.trans (h2.bel h.out hg)⟩
end Go.Proofs.YtmpedblelnpjdaaGreatDoor
/- letter.Decode, given what its calls tell. -/
namespace Go.Proofs.YtmpedblelnpjdaaGreatDoor
open Go.RowKit
set_option linter.unusedSimpArgs false
set_option linter.unusedVariables false
set_option maxHeartbeats 8000000
set_option maxRecDepth 100000
theorem known_yes (k : Int) (w : World) (h0 : 1 ≤ k) (h1 : k ≤ 20) : Calls Tryz.prog 44 #[.int .i64 k] w fun e w' => e = .returned (.bool true) ∧ w = w' := by
 go_enter Tryz.func44, Tryz.ntmps44
 go_wp2
 go_ret
 exact ⟨rfl, rfl⟩
theorem known_no (k : Int) (w : World) (h : k < 1 ∨ 20 < k) : Calls Tryz.prog 44 #[.int .i64 k] w fun e w' => e = .returned (.bool false) ∧ w = w' := by
 rcases h with h | h
 ·have h2 : ¬ 1 ≤ k := by omega
  go_enter Tryz.func44, Tryz.ntmps44
  go_wp2
  go_ret
  exact ⟨rfl, rfl⟩
 ·have h1 : 1 ≤ k := by omega
  have h2 : ¬ k ≤ 20 := by omega
  clear h
  go_enter Tryz.func44, Tryz.ntmps44
  go_wp2
  go_ret
  exact ⟨rfl, rfl⟩
structure LOwn (W : World) (base : Nat) (x : LV) : Prop where
 nd : W.ownsRow base 3 1 (.slice x.l.fA x.l.fn x.l.fp) x.l.fn (x.ns.map (Value.int .i64))
 vt : W.ownsRow base 239 6 (.slice x.l.vA x.l.vn x.l.vp) x.l.vn (x.vs.flatMap Vt.row)
 up : W.ownsRow base 145 7 (.slice x.l.uA x.l.un x.l.up) x.l.un (x.us.flatMap Up.row)
 ub : ∀ u ∈ x.us, W.ownsRow base 5 1 (.slice u.A u.n u.c) u.n (u.bs.map (Value.int .u8)) ∧ u.wf
 da : W.ownsRow base 5 1 (.slice x.l.dA x.l.dn x.l.dp) x.l.dn (x.ds.map (Value.int .u8))
 by_ : bytesB x.ds
 wf : LWf x.l
 vw : ∀ v ∈ x.vs, v.wf
 nw : ∀ z ∈ x.ns, -9223372036854775808 ≤ z ∧ z ≤ 9223372036854775807
theorem LOwn.below {W W' : World} {base : Nat} {x : LV} (h : LOwn W base x) (hb : Below W.heap.size W W') : LOwn W' base x := by
 have o : ∀ {e : TypeId} {sz n : Nat} {v : Value} {xs : List Value}, W.ownsRow base e sz v n xs → W'.ownsRow base e sz v n xs := fun ho => own_block_same ho (fun k hk => hb.block k (ho.lt k hk).2)
 exact ⟨o h.nd, o h.vt, o h.up, fun u hu => ⟨o (h.ub u hu).1, (h.ub u hu).2⟩, o h.da, h.by_, h.wf, h.vw, h.nw⟩
theorem LOwn.chg {W W' : World} {S : Nat → Prop} {base : Nat} {x : LV} (h : LOwn W base x) (hc : Chg W W' S) (hS : ∀ k, S k → k < base) : LOwn W' base x := by
 have o : ∀ {e : TypeId} {sz n : Nat} {v : Value} {xs : List Value}, W.ownsRow base e sz v n xs → W'.ownsRow base e sz v n xs := fun ho => hc.own ho (fun k hk hs => by have := (ho.lt k hk).1; have := hS k hs; omega)
 exact ⟨o h.nd, o h.vt, o h.up, fun u hu => ⟨o (h.ub u hu).1, (h.ub u hu).2⟩, o h.da, h.by_, h.wf, h.vw, h.nw⟩
theorem LOwn.base {W : World} {base base' : Nat} {x : LV} (h : LOwn W base x) (hb : base' ≤ base) : LOwn W base' x := by
 have o : ∀ {e : TypeId} {sz n : Nat} {v : Value} {xs : List Value}, W.ownsRow base e sz v n xs → W.ownsRow base' e sz v n xs := fun ho => Go.Joins.ownsRow_le ho hb
 exact ⟨o h.nd, o h.vt, o h.up, fun u hu => ⟨o (h.ub u hu).1, (h.ub u hu).2⟩, o h.da, h.by_, h.wf, h.vw, h.nw⟩
structure LAt (W : World) (gl : Nat) (x : LV) : Prop where
 blk : Blk W gl 37 x.l.cells
 own : LOwn W (gl + 1) x
 nil : (x.vs = [] → x.l.vA = none) ∧ (x.us = [] → x.l.uA = none)
theorem LAt.below {W W' : World} {gl : Nat} {x : LV} (h : LAt W gl x) (hb : Below W.heap.size W W') : LAt W' gl x := ⟨h.blk.below hb h.blk.lt, h.own.below hb, h.nil⟩
def stF (st : Nat → FI → LVal → FI × LVal) (is : List Nat) (s : FI) (v : LVal) : FI × LVal := is.foldl (fun q i => st i q.1 q.2) (s, v)
theorem stF_step (st : Nat → FI → LVal → FI × LVal) (is : List Nat) (s : FI) (v : LVal) (j k : Nat) (hk : is[j]? = some k) : stF st (is.take (j + 1)) s v = st k (stF st (is.take j) s v).1 (stF st (is.take j) s v).2 := by
 unfold stF
 rw [List.take_add_one, hk, List.foldl_append]; rfl
def LVal.zero : LVal := ⟨0, 0, 0, 0, 0, 0, 0, 0, 0, 0, 0, 0, 0, 0, 0, 0, 0, 0, 0, false, 0, [], [], [], []⟩
def LV.zero : LV := ⟨Lt.zero, [], [], [], []⟩
theorem LOwn.zero (W : World) (base : Nat) : LOwn W base LV.zero :=
 ⟨World.ownsRow_nil _ _ _ _, World.ownsRow_nil _ _ _ _, World.ownsRow_nil _ _ _ _, fun u hu => (by cases hu), World.ownsRow_nil _ _ _ _, bytesB_nil, by constructor <;> simp [LV.zero, Lt.zero], fun v hv => (by cases hv), fun v hv => (by cases hv)⟩
structure LVal.near (v : LVal) : Prop where
 us : v.us.length ≤ 1000000 ∧ ∀ u ∈ v.us, u.2.2.2.2.2.2.length ≤ 1000000
 vl : v.vs.length ≤ 1000000
 dl : v.ds.length ≤ 1000000
 nl : v.ns.length ≤ 1000000
theorem results_cell_row_tmp {P : Program} {fn : Func} {p u : Tmp} {ty : TypeId} (h : fn.results = #[.cell p ty, .tmp u]) (tmps : Array Value) (w : World) (g : Nat) (t : TypeId) (cs : Array Value) (fr : Nat × Nat) (d : TypeDesc) (q : Value)
  (hp : tmps.getD p undef = .pointer (some ⟨g, 0, none⟩)) (hg : w.heap[g]? = some (.cells cs t fr)) (hq : tmps.getD u undef = q)
  (hu : P.underlying ty = some d) (hd : (match d with | .struct _ | .array _ _ => true | _ => false) = true) (hi : (P.info? ty).map (·.size) = some cs.size) :
  (results fn tmps).run P w = .ok (.tuple #[.agg cs, q]) w := by
 have hp' : tmps[p]?.getD undef = .pointer (some ⟨g, 0, none⟩) := by simpa using hp
 have hq' : tmps[u]?.getD undef = q := by simpa using hq
 simp [results, h, hp', hq', asAddr, run_loadVar_row w g t ty cs fr d hg hu hd hi]
theorem step_store_row {P : Program} {ops : Array Oper} {o : Oper} {a : Act} {w : World} {K : Act → World → Prop} {Q : Exit → Act → World → Prop} {E : Prop} (hgd : o.guard = none) (ty : TypeId) (x y : Operand) (ho : o.op = .store ty x y)
  (g : Nat) (cells : Array Value) (hx : a.eval x = .pointer (some ⟨g, 0, none⟩)) (hy : a.eval y = .agg cells)
  (t : TypeId) (old : Array Value) (hg : w.heap[g]? = some (.cells old t (0, 0))) (hi : (P.info? ty).map (·.size) = some cells.size)
  (hold : old.size = cells.size) (h1 : cells.all (·.oneCell') = true)
  (h : K (a.put o.dst undef) (w.setRow g cells)) : if Region.wanted o (yielded ops a.tmps) = true then Oper.wp P o a w K Q else E := by
 have hw : Region.wanted o (yielded ops a.tmps) = true := by simp [Region.wanted, hgd]
 rw [if_pos hw]
 exact wp_store_row ty x y ho g cells hx hy t old hg hi hold h1 h
theorem lt_all (l : Lt) : l.cells.all (·.oneCell') = true := by simp [Lt.cells, Value.oneCell']
structure DecI (st : Nat → FI → LVal → FI × LVal) (s2 : FI) (v0 : LVal) (w : World) (cd : World → Prop) (g c rb gi B gl lo : Nat) (is : List Nat) (ps : List Pm) (pv : Value) (j : Nat) (x : LV) (W : World) : Prop where
 inn : InAt W gi B (stF st (is.take j) s2 v0).1
 lat : LAt W gl x
 val : x.val = (stF st (is.take j) s2 v0).2
 rbk : Blk W rb 37 Lt.zero.cells
 pm : ∀ (i k : Nat) (p : Pm), is[i]? = some k → ps[i]? = some p → PartM W k p
 row : W.ownsRow lo 123 3 pv ps.length (ps.flatMap Pm.row)
 chg : Chg w W (fun k => k = g ∨ k = c)
 cod : cd W
theorem DecI.below {st : Nat → FI → LVal → FI × LVal} {s2 : FI} {v0 : LVal} {w W W' : World} {cd : World → Prop} {g c rb gi B gl lo j : Nat} {is : List Nat} {ps : List Pm} {pv : Value} {x : LV} (h : DecI st s2 v0 w cd g c rb gi B gl lo is ps pv j x W) (hcd : ∀ W W', Below w.heap.size W W' → cd W → cd W') (hb : Below W.heap.size W W') : DecI st s2 v0 w cd g c rb gi B gl lo is ps pv j x W' :=
 ⟨h.inn.below (hb.mono h.inn.le), h.lat.below hb, h.val, h.rbk.below hb h.rbk.lt, fun i k p h1 h2 => PartM.below hb _ (h.pm i k p h1 h2), own_block_same h.row (fun k hk => hb.block k (h.row.lt k hk).2), h.chg.trans (Chg.of_below hb _) (fun _ _ e => e), hcd _ _ (hb.mono h.chg.size) h.cod⟩
theorem DecI.step {st : Nat → FI → LVal → FI × LVal} {s2 : FI} {v0 : LVal} {w W W' : World} {cd : World → Prop} {g c rb gi B gl lo j k : Nat} {is : List Nat} {ps : List Pm} {pv : Value} {x x' : LV} (h : DecI st s2 v0 w cd g c rb gi B gl lo is ps pv j x W) (hcd : ∀ W W', Below w.heap.size W W' → cd W → cd W') (hk : is[j]? = some k)
  (hrb : rb ≠ gi ∧ rb ≠ gl) (hw : w.heap.size ≤ gi ∧ w.heap.size ≤ gl)
  (h1 : InAt W' gi B (st k (stF st (is.take j) s2 v0).1 x.val).1) (h2 : LAt W' gl x') (h3 : x'.val = (st k (stF st (is.take j) s2 v0).1 x.val).2) (h4 : Chg W W' (fun k => k = gi ∨ k = gl)) : DecI st s2 v0 w cd g c rb gi B gl lo is ps pv (j + 1) x' W' := by
 obtain ⟨A0, c0, hbi, _⟩ := h.inn.mem
 refine ⟨?_, h2, ?_, h4.blk h.rbk (fun e => by rcases e with e | e <;> omega), fun i k p e1 e2 => PartM.chg hbi h.lat.blk h4 _ (h.pm i k p e1 e2), ?_, h.chg.trans h4 (fun i hi e => by rcases e with e | e <;> omega), hcd _ _ (h4.below h.chg.size (fun k hk e => by rcases e with e | e <;> omega)) h.cod⟩
 ·rw [stF_step _ _ _ _ _ _ hk, ← h.val]; exact h1
 ·rw [stF_step _ _ _ _ _ _ hk, ← h.val]; exact h3
 ·refine own_block_same h.row (fun q hq => ?_)
  rcases h.row.2 with hn | ⟨k', cap, cur, hv, _, hh, _⟩
  ·rw [hn.1] at hq; cases hq
  ·have hkk : q = k' := by rw [hv] at hq; injection hq with hq; exact hq.symm
   subst hkk
   refine h4.block q (Array.getElem?_eq_some_iff.1 hh).1 (fun e => ?_)
   rcases e with e | e
   ·subst e; exact Blk.ne_ (show Blk W q 123 _ from hh) hbi (by decide) rfl
   ·subst e; exact Blk.ne_ (show Blk W q 123 _ from hh) h.lat.blk (by decide) rfl
theorem wpList_load_rowG {P : Program} {ops : Array Oper} {rest : List Oper} {o : Oper} {a : Act} {w : World} {Q : Exit → Act → World → Prop} (hw : Region.wanted o (yielded ops a.tmps) = true) (ty : TypeId) (x : Operand) (ho : o.op = .load ty x)
  (g : Nat) (hx : a.eval x = .pointer (some ⟨g, 0, none⟩)) (t : TypeId) (cs : Array Value) (fr : Nat × Nat) (d : TypeDesc) (hg : w.heap[g]? = some (.cells cs t fr))
  (hu : P.underlying ty = some d) (hd : (match d with | .struct _ | .array _ _ => true | _ => false) = true) (hi : (P.info? ty).map (·.size) = some cs.size)
  (h : wpList P ops Q rest (a.put o.dst (.agg cs)) w) : wpList P ops Q (o :: rest) a w :=
 BigFrame.wpList_want hw fun _ hK => wp_load_row ty x ho g hx t cs fr d hg hu hd hi (hK _ _ h)
end Go.Proofs.YtmpedblelnpjdaaGreatDoor
