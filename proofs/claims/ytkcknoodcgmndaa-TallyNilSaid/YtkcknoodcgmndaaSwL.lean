/- tally.Sweep starts its workers: a round; all rounds. -/
import Derived.Test.YtkcknoodcgmndaaSwJ
import Derived.Conc.WgWords
namespace Go.Proofs.Ytkcknoodcgmndaa
open Go.Conc Go.RowKit Go.Conc.Lib Go.ConcR.Gen
open Go.ConcN (WgLive)
open Go.ConcR (KK wgBlock WgAt stA smA rd wr mk Payload)
set_option linter.unusedVariables false
set_option linter.unusedSimpArgs false
set_option linter.unusedSectionVars false
set_option maxRecDepth 100000
set_option maxHeartbeats 4000000















/-- what is asked of the starter where r workers are still to be started -/
theorem spawns_pre {P : Program} {c : Cfg} {Anch : Nat → Goroutine → World → Prop} {r lw : Nat} {g g' : Goroutine} {w : World} (h : Spawns P c Anch r lw g' w)
    (hs : ∀ (St : Goroutine → World → Prop) (m : Nat), Goes P true (R0 c lw) (D0 c lw) St m g' w → ∃ m', Goes P true (R0 c lw) (D0 c lw) St m' g w) : Spawns P c Anch r lw g w := by
  cases r with
  | zero => obtain ⟨m, hm⟩ := h; exact hs _ m hm
  | succ r => obtain ⟨m, hm⟩ := h; exact hs _ m hm
/-- what the starter knows where it has filled a box -/
structure SwB (s : SwP) (z : SwL) (lw C : Nat) (v : Value) (w : World) : Prop where
  f : SwF s z lw w
  box : w.heap[C]? = some (.cells #[v] 33)
  lo : lw ≤ C
theorem SwB.rely {s : SwP} {z : SwL} {lw C : Nat} {v : Value} {w w₁ : World} (k : SwSt s z) (r : R0 (swCfg s) lw w w₁) (h : SwB s z lw C v w) : SwB s z lw C v w₁ := by
  have h0 := h.f.h0
  have hC := h.lo
  obtain ⟨n1, n2, n3⟩ := k.hi C (by omega)
  exact ⟨h.f.rely k r, (r.same C (Array.getElem?_eq_some_iff.1 h.box).1 n1 n2 (.inl h.lo)).trans h.box, h.lo⟩
theorem SwB.setWg {s : SwP} {z : SwL} {lw C : Nat} {u : Value} {w : World} (k : SwSt s z) (a : Addr) (v : Value) (ha : a.block = s.Wg) (h : SwB s z lw C u w) : SwB s z lw C u (w.setCell a v) := by
  have h0 := h.f.h0
  have hC := h.lo
  obtain ⟨n1, n2, n3⟩ := k.hi C (by omega)
  exact ⟨h.f.setWg k a v ha, ((aside_setCell w a v).block C (fun e => n2 (e.trans ha))).trans h.box, h.lo⟩
theorem evS_read {s : SwP} {lw : Nat} {w : World} {a : Addr} (h : RdLow s a.block) : EvS (swCfg s) lw w ⟨.cell a, false, false⟩ := by
  refine ⟨fun x hx _ => ?_, by simp, by simp, by simp⟩
  simp only [ofEvent_cell0, MemAct.touch?, Option.some.injEq] at hx
  subst hx
  refine .inr ⟨?_, fun _ h => h, fun h => by cases h⟩
  rintro ⟨a', e, h'⟩
  injection e with e
  subst e
  rcases h' with h' | h' | h'
  · exact h.2.1 h'
  · exact h.2.2.1 h'
  · exact h.2.2.2 h'
theorem evS_box {s : SwP} {z : SwL} (k : SwSt s z) {lw C : Nat} {w : World} (h0 : s.H0 ≤ lw) (h : lw ≤ C) : EvS (swCfg s) lw w ⟨.cell ⟨C, 0, none⟩, true, false⟩ := by
  obtain ⟨n1, n2, n3⟩ := k.hi C (by omega)
  refine ⟨fun x hx _ => ?_, by simp, by simp, by simp⟩
  simp only [ofEvent_cell0, MemAct.touch?, Option.some.injEq] at hx
  subst hx
  refine .inr ⟨?_, fun _ h => h, fun _ => ⟨_, rfl, h, Nat.le_trans h0 h⟩⟩
  rintro ⟨a', e, h'⟩
  injection e with e
  subst e
  rcases h' with h' | h' | h'
  · exact n2 h'
  · exact n1 h'
  · exact n3 h'
theorem d0_evs {c : Cfg} {lw : Nat} {w : World} {es : Array Event} (h : ∀ e ∈ es, EvS c lw w e) : D0 c lw w w es := ⟨.refl w, Nat.le_refl _, fun _ _ _ => rfl, fun _ h => h, h⟩
theorem d0_alloc {c : Cfg} {lw : Nat} {w : World} {ob : Obj} {es : Array Event} (h : ∀ e ∈ es, False) : D0 c lw w (w.alloc ob) es := by
  refine ⟨⟨rfl, rfl, rfl⟩, by simp, fun b hb _ => Below.heap_alloc _ _ _ hb, fun b hb => ?_, fun e he => (h e he).elim⟩
  have hl := hb.lt
  exact hb.of_same (Below.heap_alloc _ _ _ hl)
theorem soft_set {w : World} {C : Nat} {v u : Value} (h : w.heap[C]? = some (.cells #[u] Payload.ety)) (b : Nat) (hb : Soft w b) : Soft (w.setCell ⟨C, 0, none⟩ v) b := by
  by_cases e : b = C
  · subst e
    exact ⟨v, by rw [setCell_eq_setRow w b 0 _ _ (0, 0) _ h, setRow_heap w b _ _ _ _ h]; rfl⟩
  · exact hb.of_same ((aside_setCell w ⟨C, 0, none⟩ v).block b e)
theorem d0_box {s : SwP} {z : SwL} (k : SwSt s z) {lw C : Nat} {w : World} {v u : Value} {es : Array Event} (h0 : s.H0 ≤ lw) (hC : lw ≤ C) (h : w.heap[C]? = some (.cells #[u] Payload.ety)) (he : ∀ e ∈ es, e = ⟨.cell ⟨C, 0, none⟩, true, false⟩) : D0 (swCfg s) lw w (w.setCell ⟨C, 0, none⟩ v) es := by
  have a := aside_setCell w ⟨C, 0, none⟩ v
  refine ⟨⟨a.tape, a.os, a.output⟩, Nat.le_of_eq a.size.symm, fun b hb hx => a.block b (fun e => ?_), fun b hb => soft_set h b hb, fun e hE => ?_⟩
  · have e : b = C := e
    subst e
    rcases hx with hx | hx | hx
    · omega
    · exact hx ⟨u, h⟩
    · exact absurd hx (by show ¬ b < s.H0; omega)
  · rw [he e hE]; exact evS_box k h0 hC
theorem SwF.alloc {s : SwP} {z : SwL} {lw : Nat} {w : World} (k : SwSt s z) (ob : Obj) (h : SwF s z lw w) : SwF s z lw (w.alloc ob) :=
  h.of k ⟨rfl, rfl, rfl⟩ (by simp) fun g ob' hg e => (Below.heap_alloc _ _ _ (Array.getElem?_eq_some_iff.1 e).1).trans e
theorem SwF.setBox {s : SwP} {z : SwL} {lw C : Nat} {w : World} (k : SwSt s z) (v : Value) (hC : lw ≤ C) (h : SwF s z lw w) : SwF s z lw (w.setCell ⟨C, 0, none⟩ v) :=
  h.of k (env_setCell w _ v) (Nat.le_of_eq (aside_setCell w ⟨C, 0, none⟩ v).size.symm) fun g ob hg e => ((aside_setCell w ⟨C, 0, none⟩ v).block g (fun e => by have := h.h0; have := hg.1; have e : g = C := e; omega)).trans e
theorem alloc_new (w : World) (ob : Obj) : (w.alloc ob).heap[w.heap.size]? = some ob := by
  show (w.heap.push ob)[w.heap.size]? = some ob
  exact Array.getElem?_push_size
theorem box_cell {w : World} {C : Nat} {u : Value} {T : TypeId} (h : w.heap[C]? = some (.cells #[u] T)) : w.cell? ⟨C, 0, none⟩ = some u := by simp [World.cell?, h]
theorem box_thaw {w : World} {C : Nat} {u : Value} {T : TypeId} (h : w.heap[C]? = some (.cells #[u] T)) : w.frozen? ⟨C, 0, none⟩ = false := by simp [World.frozen?, h]
theorem box_set {w : World} {C : Nat} {u v : Value} {T : TypeId} (h : w.heap[C]? = some (.cells #[u] T)) : (w.setCell ⟨C, 0, none⟩ v).heap[C]? = some (.cells #[v] T) := by
  rw [setCell_eq_setRow w C 0 _ _ (0, 0) _ h, setRow_heap w C _ _ _ _ h]; rfl
theorem live_alloc {w : World} {Wg : Nat} (ob : Obj) (h : WgLive 81 Wg w) : WgLive 81 Wg (w.alloc ob) := by
  obtain ⟨st, sm, h⟩ := h
  exact ⟨st, sm, (Below.heap_alloc _ _ _ (Array.getElem?_eq_some_iff.1 h).1).trans h⟩
theorem live_set {w : World} {Wg : Nat} {a : Addr} {v : Value} (hn : Wg ≠ a.block) (h : WgLive 81 Wg w) : WgLive 81 Wg (w.setCell a v) := by
  obtain ⟨st, sm, h⟩ := h
  exact ⟨st, sm, ((aside_setCell w a v).block _ hn).trans h⟩
noncomputable def ops6 : Array Oper := match blk16 with
  | .seq _ (.seq _ (.seq (.block _ (.seq _ (.seq (.region _ o _) _))) _)) => o
  | _ => #[]
noncomputable def tail6 : Code := match blk16 with
  | .seq _ (.seq _ (.seq (.block _ (.seq _ (.seq _ t))) _)) => t
  | _ => .skip
noncomputable def code8 : Code := match blk16 with
  | .seq _ (.seq _ (.seq _ t)) => t
  | _ => .skip
noncomputable def kk6 (kk : List Item) : List Item := .code tail6 :: .inBlock 1 :: .code code8 :: .inLoop blk16 :: .inBlock 0 :: .code rest16 :: kk
/-- from Add's return to the go -/
theorem goT {s : SwP} {z : SwL} (k : SwSt s z) {kk : List Item} {cs : List Frame} {r lw j C : Nat} (hj : j < s.l.length)
    (hN : ∀ (lw' : Nat) (w : World) (v3 v8 v9 v14 v15 v16 v17 v18 v19 v20 v21 v22 v23 v24 : Value), SwF s z lw' w ∧ WgLive 81 s.Wg w → Spawns Try.prog (swCfg s) (AnchS s z kk cs) r lw' (G ((base 16).at (act16 s z (j + 1) v3 v8 v9 v14 v15 v16 v17 v18 v19 v20 v21 v22 v23 v24) (.code blk16 :: .inLoop blk16 :: .inBlock 0 :: .code rest16 :: kk)) cs) w)
    (v3 v8 v14 v15 v16 v17 v18 v19 v20 v21 v22 v23 v24 : Value) (w : World) (hF : SwB s z lw C (.slice (z.pA j) (s.l.getD j []).length (z.pc j)) w ∧ WgLive 81 s.Wg w) :
    Goes Try.prog true (R0 (swCfg s) lw) (D0 (swCfg s) lw) (AtGoS Try.prog (swCfg s) lw j (Spawns Try.prog (swCfg s) (AnchS s z kk cs) r)) 60
      (G ((base 16).at (act16 s z j v3 v8 (.pointer (some ⟨C, 0, none⟩)) v14 v15 v16 v17 v18 v19 v20 v21 v22 v23 v24) (.inRegion ops6 [] :: kk6 kk)) cs) w := by
  have K := swOk k.K
  have hC := hF.1.lo
  obtain ⟨Lj, hLj⟩ : ∃ L, RowKit.Hid (L = s.l.getD j []) := ⟨_, rfl⟩
  rw [← hLj.out] at hF
  have rl9 : ∀ {v : Value} {w w₁ : World}, (SwB s z lw C v w ∧ WgLive 81 s.Wg w) → R0 (swCfg s) lw w w₁ → (SwB s z lw C v w₁ ∧ WgLive 81 s.Wg w₁) := fun h r => ⟨h.1.rely k r, r.live h.2⟩
  unfold kk6
  rw [show tail6 = _ from (by unfold tail6 blk16; simp only [Try.f16, Option.getD_some]; try rfl)]
  rw [show ops6 = _ from (by unfold ops6 blk16; simp only [Try.f16, Option.getD_some]; try rfl)]
  unfold act16
  refine Goes.step rfl (fun _ h₁ => ?_); replace hF := rl9 hF h₁; clear h₁
  ((first | rw [stepG_seq] | rw [stepG_region_end] | rw [stepG_skip] | rw [stepG_block] | rw [stepG_loop] | rw [stepG_inBlock] | rw [stepG_inLoop] | rw [stepG_ret'] | rw [stepG_end]); simp only [goes_go]; refine ⟨(by refine d0_none ?_; intro e he; simp at he), ?_⟩)
  refine Goes.step rfl (fun _ h₁ => ?_); replace hF := rl9 hF h₁; clear h₁
  (rw [stepG_region]; simp only [goes_go, List.size_toArray, List.length_cons, List.length_nil, Nat.reduceAdd, Nat.zero_add, List.range, List.range.loop]; refine ⟨(by refine d0_none ?_; intro e he; simp at he), ?_⟩)
  refine Goes.step rfl (fun _ h₁ => ?_); replace hF := rl9 hF h₁; clear h₁
  (refine goes_oper_k rfl rfl (by k_ne) (fun K hK => ?_); go_simp; refine hK _ _ ⟨?_, ?_⟩; (· refine d0_none ?_; intro e he; have hm := mem_listed he; simp [go_sem, *] at hm); clear hK K; try w_num)
  refine Goes.stop (fun xW h₁ => ?_)
  replace hF := rl9 hF h₁
  clear h₁
  have h0 := hF.1.f.h0
  have few := (hLj.out ▸ k.small j : Lj.length < 4611686018427387904)
  have hno : Lj ≠ [] → _ := (hLj.out ▸ k.data j)
  have ko : SwKo s C z.mB z.bB z.Mb (z.pd j) Lj := ⟨⟨.inl rfl, (k.hi C (by omega)).2.1, (k.hi C (by omega)).1, (k.hi C (by omega)).2.2⟩, k.mb.ok, k.bb.ok, fun hh => (k.row hh).ok, fun hn => (hno hn).1.ok⟩
  have hK : SwK s C z.mB z.bB z.Mb z.cap (z.pA j) (z.pd j) (z.po j) (z.pc j) Lj xW := ⟨hF.1.box, fun hn => (hno hn).2, hF.1.f.mbox, hF.1.f.bbox, hF.1.f.row, (hLj.out ▸ hF.1.f.data j), hF.2⟩
  have hS : Soft xW C := ⟨_, hF.1.box⟩
  refine ⟨rfl, _, born Try.prog (call35 s.Wg C z.mB z.bB), C, Eq.trans (stepG_spawn (f := .func 35) (c := #[.pointer (some ⟨s.Wg, 0, none⟩), .pointer (some ⟨C, 0, none⟩), .pointer (some ⟨z.mB, 0, none⟩), .pointer (some ⟨z.bB, 0, none⟩)]) rfl rfl ?_ (d := call35 s.Wg C z.mB z.bB) (w' := xW) (by simp [go_sem, call35, Deferred.ofValue]) rfl) rfl, rfl, hC, Nat.le_trans h0 hC, hS, ?_, ?_⟩
  · k_ne
  · intro N
    have := run35 (k := (swCfg s).N0 + j) k.K k.no ko few xW hK N
    rw [hLj.out] at this
    exact this
  · refine spawns_pre (hN xW.heap.size xW v3 v8 (.pointer (some ⟨C, 0, none⟩)) v14 v15 v16 v17 (.func (.func 35) #[] #[.pointer (some ⟨s.Wg, 0, none⟩), .pointer (some ⟨C, 0, none⟩), .pointer (some ⟨z.mB, 0, none⟩), .pointer (some ⟨z.bB, 0, none⟩)]) (.int .i64 (j + 1)) v20 v21 v22 v23 v24 ⟨hF.1.f.raise, hF.2⟩) ?_
    intro St m hG
    have fw := k.few
    replace hF : (SwF s z xW.heap.size xW ∧ WgLive 81 s.Wg xW) := ⟨hF.1.f.raise, hF.2⟩
    clear rl9 hS hK
    have c8 : code8 = _ := (by unfold code8 blk16; simp only [Try.f16, Option.getD_some]; try rfl)
    obtain ⟨C8, e8⟩ : ∃ C8, RowKit.Hid (C8 = code8) := ⟨_, rfl⟩
    obtain ⟨B8, b8⟩ : ∃ B8, RowKit.Hid (B8 = blk16) := ⟨_, rfl⟩
    rw [c8]
    refine ⟨m + 60, ?_⟩
    generalize hg9 : G _ _ = g9 at hG
    replace hF := And.intro hF hG
    clear hG
    replace hg9 : RowKit.Hid _ := hg9
    have rl9 : ∀ {g : Goroutine} {w w₁ : World}, ((SwF s z xW.heap.size w ∧ WgLive 81 s.Wg w) ∧ Goes Try.prog true (R0 (swCfg s) xW.heap.size) (D0 (swCfg s) xW.heap.size) St m g w) → R0 (swCfg s) xW.heap.size w w₁ → ((SwF s z xW.heap.size w₁ ∧ WgLive 81 s.Wg w₁) ∧ Goes Try.prog true (R0 (swCfg s) xW.heap.size) (D0 (swCfg s) xW.heap.size) St m g w₁) := fun h r => ⟨⟨h.1.1.rely k r, r.live h.1.2⟩, Goes.rely (fun _ _ _ a b => a.trans b) h.2 r⟩
    generalize xW.heap.size = lx at hF rl9 ⊢
    walk_nrm
    refine Goes.step rfl (fun _ h₁ => ?_); replace hF := rl9 hF h₁; clear h₁
    ((first | rw [stepG_seq] | rw [stepG_region_end] | rw [stepG_skip] | rw [stepG_block] | rw [stepG_loop] | rw [stepG_inBlock] | rw [stepG_inLoop] | rw [stepG_ret'] | rw [stepG_end]); simp only [goes_go]; refine ⟨(by refine d0_none ?_; intro e he; simp at he), ?_⟩)
    refine Goes.step rfl (fun _ h₁ => ?_); replace hF := rl9 hF h₁; clear h₁
    ((first | rw [stepG_seq] | rw [stepG_region_end] | rw [stepG_skip] | rw [stepG_block] | rw [stepG_loop] | rw [stepG_inBlock] | rw [stepG_inLoop] | rw [stepG_ret'] | rw [stepG_end]); simp only [goes_go]; refine ⟨(by refine d0_none ?_; intro e he; simp at he), ?_⟩)
    refine Goes.step rfl (fun _ h₁ => ?_); replace hF := rl9 hF h₁; clear h₁
    (rw [stepG_region]; simp only [goes_go, List.size_toArray, List.length_cons, List.length_nil, Nat.reduceAdd, Nat.zero_add, List.range, List.range.loop]; refine ⟨(by refine d0_none ?_; intro e he; simp at he), ?_⟩)
    refine Goes.step rfl (fun _ h₁ => ?_); replace hF := rl9 hF h₁; clear h₁
    (refine goes_oper_k rfl rfl (by k_ne) (fun K hK => ?_); go_simp; refine hK _ _ ⟨?_, ?_⟩; (· refine d0_none ?_; intro e he; have hm := mem_listed he; simp [go_sem, *] at hm); clear hK K; try w_num)
    refine Goes.step rfl (fun _ h₁ => ?_); replace hF := rl9 hF h₁; clear h₁
    (refine goes_oper_k rfl rfl (by k_ne) (fun K hK => ?_); go_simp; refine hK _ _ ⟨?_, ?_⟩; (· refine d0_none ?_; intro e he; have hm := mem_listed he; simp [go_sem, *] at hm); clear hK K; try w_num)
    refine Goes.step rfl (fun _ h₁ => ?_); replace hF := rl9 hF h₁; clear h₁
    ((first | rw [stepG_seq] | rw [stepG_region_end] | rw [stepG_skip] | rw [stepG_block] | rw [stepG_loop] | rw [stepG_inBlock] | rw [stepG_inLoop] | rw [stepG_ret'] | rw [stepG_end]); simp only [goes_go]; refine ⟨(by refine d0_none ?_; intro e he; simp at he), ?_⟩)
    refine Goes.step rfl (fun _ h₁ => ?_); replace hF := rl9 hF h₁; clear h₁
    ((first | rw [stepG_seq] | rw [stepG_region_end] | rw [stepG_skip] | rw [stepG_block] | rw [stepG_loop] | rw [stepG_inBlock] | rw [stepG_inLoop] | rw [stepG_ret'] | rw [stepG_end]); simp only [goes_go]; refine ⟨(by refine d0_none ?_; intro e he; simp at he), ?_⟩)
    have d7 : IntKind.i64.wrap ((j : Int) + 1) = (j : Int) + 1 := by
      rw [IntKind.wrap_i64]; omega
    rw [d7]
    have hG := hF.2
    rw [← hg9.out] at hG
    unfold act16 at hG
    rw [Int.natCast_add, Int.natCast_one] at hG
    exact hG.mono (by omega)
theorem spawnS {s : SwP} {z : SwL} (k : SwSt s z) {kk : List Item} {cs : List Frame} {r lw j : Nat} (hj : j < s.l.length) (hr : r + 1 + j = s.l.length)
    (hN : ∀ (lw' : Nat) (w : World) (v3 v8 v9 v14 v15 v16 v17 v18 v19 v20 v21 v22 v23 v24 : Value), SwF s z lw' w ∧ WgLive 81 s.Wg w → Spawns Try.prog (swCfg s) (AnchS s z kk cs) r lw' (G ((base 16).at (act16 s z (j + 1) v3 v8 v9 v14 v15 v16 v17 v18 v19 v20 v21 v22 v23 v24) (.code blk16 :: .inLoop blk16 :: .inBlock 0 :: .code rest16 :: kk)) cs) w)
    (v3 v8 v9 v14 v15 v16 v17 v18 v19 v20 v21 v22 v23 v24 : Value) (w : World) (hF : SwF s z lw w ∧ WgLive 81 s.Wg w) :
    ∃ m, Goes Try.prog true (R0 (swCfg s) lw) (D0 (swCfg s) lw) (AtKdS Try.prog (swCfg s) lw j (Spawns Try.prog (swCfg s) (AnchS s z kk cs) r)) m
      (G ((base 16).at (act16 s z j v3 v8 v9 v14 v15 v16 v17 v18 v19 v20 v21 v22 v23 v24) (.code blk16 :: .inLoop blk16 :: .inBlock 0 :: .code rest16 :: kk)) cs) w := by
  have K := swOk k.K
  have rl9 : ∀ {w w₁ : World}, (SwF s z lw w ∧ WgLive 81 s.Wg w) → R0 (swCfg s) lw w w₁ → (SwF s z lw w₁ ∧ WgLive 81 s.Wg w₁) := fun h r => ⟨h.1.rely k r, r.live h.2⟩
  have few := k.few
  have e9 : decide ((j : Int) < (s.l.length : Int)) = true := decide_eq_true (by omega)
  have q1 : (j : Int) < (s.l.length : Int) := by omega
  have hlA := k.lA (by omega)
  have ad9 : (if j = 0 then (⟨z.lb, z.lo, none⟩ : Addr) else ⟨z.lb, z.lo + j, none⟩) = ⟨z.lb, z.lo + j, none⟩ := by
    by_cases h : j = 0
    · subst h; rfl
    · exact if_neg h
  obtain ⟨Lj, hLj⟩ : ∃ L, RowKit.Hid (L = s.l.getD j []) := ⟨_, rfl⟩
  have hrd : RdLow s z.lb := k.list (by omega)
  refine ⟨500, ?_⟩
  rw [show blk16 = _ from (by unfold blk16; simp only [Try.f16, Option.getD_some]; try rfl)]
  unfold act16
  refine Goes.step rfl (fun _ h₁ => ?_); replace hF := rl9 hF h₁; clear h₁
  ((first | rw [stepG_seq] | rw [stepG_region_end] | rw [stepG_skip] | rw [stepG_block] | rw [stepG_loop] | rw [stepG_inBlock] | rw [stepG_inLoop] | rw [stepG_ret'] | rw [stepG_end]); simp only [goes_go]; refine ⟨(by refine d0_none ?_; intro e he; simp at he), ?_⟩)
  refine Goes.step rfl (fun _ h₁ => ?_); replace hF := rl9 hF h₁; clear h₁
  (rw [stepG_region]; simp only [goes_go, List.size_toArray, List.length_cons, List.length_nil, Nat.reduceAdd, Nat.zero_add, List.range, List.range.loop]; refine ⟨(by refine d0_none ?_; intro e he; simp at he), ?_⟩)
  refine Goes.step rfl (fun _ h₁ => ?_); replace hF := rl9 hF h₁; clear h₁
  (refine goes_oper_k rfl rfl (by k_ne) (fun K hK => ?_); go_simp; refine hK _ _ ⟨?_, ?_⟩; (· refine d0_none ?_; intro e he; have hm := mem_listed he; simp [go_sem, *] at hm); clear hK K; try w_num)
  refine Goes.step rfl (fun _ h₁ => ?_); replace hF := rl9 hF h₁; clear h₁
  ((first | rw [stepG_seq] | rw [stepG_region_end] | rw [stepG_skip] | rw [stepG_block] | rw [stepG_loop] | rw [stepG_inBlock] | rw [stepG_inLoop] | rw [stepG_ret'] | rw [stepG_end]); simp only [goes_go]; refine ⟨(by refine d0_none ?_; intro e he; simp at he), ?_⟩)
  refine Goes.step rfl (fun _ h₁ => ?_); replace hF := rl9 hF h₁; clear h₁
  ((first | rw [stepG_seq] | rw [stepG_region_end] | rw [stepG_skip] | rw [stepG_block] | rw [stepG_loop] | rw [stepG_inBlock] | rw [stepG_inLoop] | rw [stepG_ret'] | rw [stepG_end]); simp only [goes_go]; refine ⟨(by refine d0_none ?_; intro e he; simp at he), ?_⟩)
  refine Goes.step rfl (fun _ h₁ => ?_); replace hF := rl9 hF h₁; clear h₁
  ((first | rw [stepG_cond (t := true) rfl] | rw [stepG_cond (t := false) rfl] | rw [stepG_cond (t := false) (by simp [Act.eval]; omega)] | rw [stepG_cond (t := true) (by simp [Act.eval]; omega)]); simp only [goes_go, if_true, if_false, Bool.false_eq_true, ↓reduceIte]; refine ⟨(by refine d0_none ?_; intro e he; simp at he), ?_⟩)
  refine Goes.step rfl (fun _ h₁ => ?_); replace hF := rl9 hF h₁; clear h₁
  ((first | rw [stepG_seq] | rw [stepG_region_end] | rw [stepG_skip] | rw [stepG_block] | rw [stepG_loop] | rw [stepG_inBlock] | rw [stepG_inLoop] | rw [stepG_ret'] | rw [stepG_end]); simp only [goes_go]; refine ⟨(by refine d0_none ?_; intro e he; simp at he), ?_⟩)
  refine Goes.step rfl (fun _ h₁ => ?_); replace hF := rl9 hF h₁; clear h₁
  ((first | rw [stepG_seq] | rw [stepG_region_end] | rw [stepG_skip] | rw [stepG_block] | rw [stepG_loop] | rw [stepG_inBlock] | rw [stepG_inLoop] | rw [stepG_ret'] | rw [stepG_end]); simp only [goes_go]; refine ⟨(by refine d0_none ?_; intro e he; simp at he), ?_⟩)
  refine Goes.step rfl (fun _ h₁ => ?_); replace hF := rl9 hF h₁; clear h₁
  ((first | rw [stepG_seq] | rw [stepG_region_end] | rw [stepG_skip] | rw [stepG_block] | rw [stepG_loop] | rw [stepG_inBlock] | rw [stepG_inLoop] | rw [stepG_ret'] | rw [stepG_end]); simp only [goes_go]; refine ⟨(by refine d0_none ?_; intro e he; simp at he), ?_⟩)
  refine Goes.step rfl (fun _ h₁ => ?_); replace hF := rl9 hF h₁; clear h₁
  ((first | rw [stepG_seq] | rw [stepG_region_end] | rw [stepG_skip] | rw [stepG_block] | rw [stepG_loop] | rw [stepG_inBlock] | rw [stepG_inLoop] | rw [stepG_ret'] | rw [stepG_end]); simp only [goes_go]; refine ⟨(by refine d0_none ?_; intro e he; simp at he), ?_⟩)
  refine Goes.step rfl (fun _ h₁ => ?_); replace hF := rl9 hF h₁; clear h₁
  (rw [stepG_region]; simp only [goes_go, List.size_toArray, List.length_cons, List.length_nil, Nat.reduceAdd, Nat.zero_add, List.range, List.range.loop]; refine ⟨(by refine d0_none ?_; intro e he; simp at he), ?_⟩)
  refine Goes.step rfl (fun _ h₁ => ?_); replace hF := rl9 hF h₁; clear h₁
  (refine goes_oper_k rfl rfl (by k_ne) (fun K hK => ?_); go_simp; refine hK _ _ ⟨?_, ?_⟩; (· refine d0_none ?_; intro e he; have hm := mem_listed he; simp [go_sem, *] at hm); clear hK K; try w_num)
  refine Goes.step rfl (fun _ h₁ => ?_); replace hF := rl9 hF h₁; clear h₁
  have hl9 : World.cell? _ _ = _ := hF.1.list j hj
  rw [← hLj.out] at hl9
  (refine goes_oper_k rfl rfl (by k_ne) (fun K hK => ?_); go_simp; refine hK _ _ ⟨?_, ?_⟩; (· refine d0_evs ?_; intro e he; have hm := mem_listed he; simp [go_sem, hl9] at hm; rw [hm]; exact evS_read hrd); clear hK K; try w_num)
  clear hl9
  refine Goes.step rfl (fun xW h₁ => ?_); replace hF := rl9 hF h₁; clear h₁
  (refine goes_oper_k rfl rfl (by k_ne) (fun K hK => ?_); go_simp; refine hK _ _ ⟨?_, ?_⟩; (· refine d0_alloc ?_; intro e he; have hm := mem_listed he; simp [go_sem, *] at hm); clear hK K; try w_num)
  have hC : lw ≤ xW.heap.size := hF.1.lwle
  have hbx : (xW.alloc (Obj.cells #[Value.slice none 0 0] 33)).heap[xW.heap.size]? = some (.cells #[.slice none 0 0] 33) := alloc_new _ _
  have hWW : WgLive 81 s.Wg (xW.alloc (Obj.cells #[Value.slice none 0 0] 33)) := live_alloc _ hF.2
  have hF1 : SwF s z lw (xW.alloc (Obj.cells #[Value.slice none 0 0] 33)) := hF.1.alloc k _
  clear hF
  generalize hCC : xW.heap.size = C at hF1 hWW hbx hC ⊢
  clear hCC
  generalize xW.alloc (Obj.cells #[Value.slice none 0 0] 33) = w9 at hF1 hWW hbx ⊢
  have hF : SwB s z lw C (.slice none 0 0) w9 ∧ WgLive 81 s.Wg w9 := ⟨⟨hF1, hbx, hC⟩, hWW⟩
  clear hF1 hbx hWW rl9
  have rl9 : ∀ {v : Value} {w w₁ : World}, (SwB s z lw C v w ∧ WgLive 81 s.Wg w) → R0 (swCfg s) lw w w₁ → (SwB s z lw C v w₁ ∧ WgLive 81 s.Wg w₁) := fun h r => ⟨h.1.rely k r, r.live h.2⟩
  have hCW : s.Wg ≠ C := by
    have := hF.1.f.h0
    exact fun e => (k.hi C (by omega)).2.1 e.symm
  refine Goes.step rfl (fun xW h₁ => ?_); replace hF := rl9 hF h₁; clear h₁
  have hcl := box_cell hF.1.box
  have hfr := box_thaw hF.1.box
  (refine goes_oper_k rfl rfl (by k_ne) (fun K hK => ?_); go_simp; refine hK _ _ ⟨?_, ?_⟩; (· refine d0_box k hF.1.f.h0 hC hF.1.box ?_; intro e he; have hm := mem_listed he; simp [go_sem, storedEv, hcl] at hm; exact hm.2); clear hK K; try w_num)
  have hWW : WgLive 81 s.Wg (xW.setCell ⟨C, 0, none⟩ (.slice (z.pA j) Lj.length (z.pc j))) := live_set hCW hF.2
  have hF1 : SwB s z lw C (.slice (z.pA j) Lj.length (z.pc j)) (xW.setCell ⟨C, 0, none⟩ (.slice (z.pA j) Lj.length (z.pc j))) := ⟨hF.1.f.setBox k _ hC, box_set hF.1.box, hC⟩
  clear hF hcl hfr
  generalize xW.setCell ⟨C, 0, none⟩ (.slice (z.pA j) Lj.length (z.pc j)) = w8 at hF1 hWW ⊢
  have hF := And.intro hF1 hWW
  clear hF1 hWW
  refine Goes.step rfl (fun _ h₁ => ?_); replace hF := rl9 hF h₁; clear h₁
  ((first | rw [stepG_seq] | rw [stepG_region_end] | rw [stepG_skip] | rw [stepG_block] | rw [stepG_loop] | rw [stepG_inBlock] | rw [stepG_inLoop] | rw [stepG_ret'] | rw [stepG_end]); simp only [goes_go]; refine ⟨(by refine d0_none ?_; intro e he; simp at he), ?_⟩)
  refine Goes.step rfl (fun _ h₁ => ?_); replace hF := rl9 hF h₁; clear h₁
  ((first | rw [stepG_seq] | rw [stepG_region_end] | rw [stepG_skip] | rw [stepG_block] | rw [stepG_loop] | rw [stepG_inBlock] | rw [stepG_inLoop] | rw [stepG_ret'] | rw [stepG_end]); simp only [goes_go]; refine ⟨(by refine d0_none ?_; intro e he; simp at he), ?_⟩)
  refine Goes.step rfl (fun _ h₁ => ?_); replace hF := rl9 hF h₁; clear h₁
  (rw [stepG_region]; simp only [goes_go, List.size_toArray, List.length_cons, List.length_nil, Nat.reduceAdd, Nat.zero_add, List.range, List.range.loop]; refine ⟨(by refine d0_none ?_; intro e he; simp at he), ?_⟩)
  refine Goes.step rfl (fun _ h₁ => ?_); replace hF := rl9 hF h₁; clear h₁
  refine goes_call rfl rfl (by k_ne) rfl wgLib.f_add (nm_add lnk) rfl ⟨(by refine d0_none ?_; intro e he; simp at he), ?_⟩
  rw [hLj.out] at hF
  have hA := addPos (c := swCfg s) (lw := lw) (j := j) (Next := Spawns Try.prog (swCfg s) (AnchS s z kk cs) r) (F := SwB s z lw C (.slice (z.pA j) (s.l.getD j []).length (z.pc j))) (cs := cs) (b₀ := base 16) (a₀ := act16 s z j v3 v8 (.pointer (some ⟨C, 0, none⟩)) (.bool true) (.pointer (some ⟨z.lb, z.lo + j, none⟩)) (.slice (z.pA j) (s.l.getD j []).length (z.pc j)) v17 v18 v19 v20 v21 v22 v23 v24) (ops₀ := ops6) (i₀ := 0) (rest₀ := []) (k₀ := kk6 kk) wgLib K (fun w w' r h => h.rely k r) (fun w a v ha h => h.setWg k a v ha)
    (mT := 60) (fun w h1 h2 => by
      have o6 : ops6[0]?.bind (·.dst) = some 17 := (by unfold ops6 blk16; simp only [Try.f16, Option.getD_some]; try rfl)
      rw [o6]
      exact goT k hj hN _ _ _ _ _ _ _ _ _ _ _ _ _ w ⟨h1, h2⟩) _ hF
  unfold kk6 at hA
  rw [← hLj.out] at hA
  have o6 : ops6 = _ := (by unfold ops6 blk16; simp only [Try.f16, Option.getD_some]; try rfl)
  have t6 : tail6 = _ := (by unfold tail6 blk16; simp only [Try.f16, Option.getD_some]; try rfl)
  have c8 : code8 = _ := (by unfold code8 blk16; simp only [Try.f16, Option.getD_some]; try rfl)
  have b16 : blk16 = _ := (by unfold blk16; simp only [Try.f16, Option.getD_some]; try rfl)
  rw [o6, t6, c8, b16] at hA
  walk_nrmf addFn
  simp only [body_add, addFn, Option.getD_some, act16, Act.put, Act.eval, List.map_toArray, List.map_cons, List.map_nil, Array.getD_eq_getD_getElem?, List.getElem?_toArray, List.getElem?_cons_succ, List.getElem?_cons_zero, Option.bind_some, List.size_toArray, List.length_cons, List.length_nil, Nat.reduceAdd, Nat.reduceSub, Array.replicate_succ, Array.replicate_zero, List.push_toArray, List.append_toArray, List.nil_append, List.cons_append, hlA] at hA
  refine Goes.mono (?_ : Goes _ _ _ _ _ 200 _ _) (by omega)
  exact hA
/-- all rounds -/
theorem spawns16 {s : SwP} {z : SwL} (k : SwSt s z) {kk : List Item} {cs : List Frame} : ∀ (r j lw : Nat) (w : World) (v3 v8 v9 v14 v15 v16 v17 v18 v19 v20 v21 v22 v23 v24 : Value), r + j = s.l.length → SwF s z lw w ∧ WgLive 81 s.Wg w →
    Spawns Try.prog (swCfg s) (AnchS s z kk cs) r lw (G ((base 16).at (act16 s z j v3 v8 v9 v14 v15 v16 v17 v18 v19 v20 v21 v22 v23 v24) (.code blk16 :: .inLoop blk16 :: .inBlock 0 :: .code rest16 :: kk)) cs) w
  | 0, j, lw, w, v3, v8, v9, v14, v15, v16, v17, v18, v19, v20, v21, v22, v23, v24, hj, hF => by
    obtain rfl : j = s.l.length := by omega
    exact spawn0 k v3 v8 v9 v14 v15 v16 v17 v18 v19 v20 v21 v22 v23 v24 w hF
  | r + 1, j, lw, w, v3, v8, v9, v14, v15, v16, v17, v18, v19, v20, v21, v22, v23, v24, hj, hF => by
    have hr : (swCfg s).n - (r + 1) = j := by show s.l.length - (r + 1) = j; omega
    have := spawnS k (kk := kk) (cs := cs) (r := r) (by omega) (by omega) (fun lw' w v3 v8 v9 v14 v15 v16 v17 v18 v19 v20 v21 v22 v23 v24 h => spawns16 k r (j + 1) lw' w v3 v8 v9 v14 v15 v16 v17 v18 v19 v20 v21 v22 v23 v24 (by omega) h) v3 v8 v9 v14 v15 v16 v17 v18 v19 v20 v21 v22 v23 v24 w hF
    unfold Spawns
    rw [hr]
    exact this
end Go.Proofs.Ytkcknoodcgmndaa
