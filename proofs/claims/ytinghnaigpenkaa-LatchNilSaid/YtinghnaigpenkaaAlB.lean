/- Seat 05: all starts its workers: a round; all rounds. -/
import Derived.Test.YtinghnaigpenkaaAlA
namespace Go.Proofs.Ytinghnaigpenkaa
open Go.Conc Go.RowKit Go.Conc.Lib Go.ConcR.Gen
open Go.ConcN (WgLive)
open Go.ConcR (KK wgBlock WgAt stA smA rd wr mk Payload)
set_option linter.unusedVariables false
set_option linter.unusedSimpArgs false
set_option linter.unusedSectionVars false
set_option maxRecDepth 100000
set_option maxHeartbeats 4000000














/-- what is asked of the starter where r workers are still to be started -/
theorem spawns_pre {P : Program} {c : Cfg} {Anch : Nat → Goroutine → World → Prop} {r lw : Nat} {g g' : Goroutine} {w : World} (h : Spawns P c Anch r lw g' w)
    (hs : ∀ (St : Goroutine → World → Prop) (m : Nat), Goes P true (R0 c lw) (D0 c lw) St m g' w → ∃ m', Goes P true (R0 c lw) (D0 c lw) St m' g w) : Spawns P c Anch r lw g w := by
  cases r with
  | zero => obtain ⟨m, hm⟩ := h; exact hs _ m hm
  | succ r => obtain ⟨m, hm⟩ := h; exact hs _ m hm
/-- what the starter knows where it has filled a box -/
structure AlB (c : Cfg) (w0 : World) (lw C : Nat) (v : Value) (w : World) : Prop where
  f : AlF c w0 lw w
  box : w.heap[C]? = some (.cells #[v] 3)
  lo : lw ≤ C
section
variable {c : Cfg} {w0 : World} {doB : Nat} {fv : Value} {lw C : Nat} {v u : Value} {w w₁ : World}
theorem AlB.rely (k : AlSt c w0 doB fv) (r : R0 c lw w w₁) (h : AlB c w0 lw C v w) : AlB c w0 lw C v w₁ := by
  have h0 := h.f.h0
  have hC := h.lo
  obtain ⟨n1, n2⟩ := k.hi C (by omega)
  exact ⟨h.f.rely r, (r.same C (Array.getElem?_eq_some_iff.1 h.box).1 n1 n2 (.inl h.lo)).trans h.box, h.lo⟩
theorem AlB.setWg (k : AlSt c w0 doB fv) (a : Addr) (v : Value) (ha : a.block = c.Wg) (h : AlB c w0 lw C u w) : AlB c w0 lw C u (w.setCell a v) := by
  have h0 := h.f.h0
  have hC := h.lo
  obtain ⟨n1, n2⟩ := k.hi C (by omega)
  exact ⟨h.f.setWg a v ha, ((aside_setCell w a v).block C (fun e => n2 (e.trans ha))).trans h.box, h.lo⟩
theorem evS_box (k : AlSt c w0 doB fv) (h0 : c.H0 ≤ lw) (h : lw ≤ C) (hs : Soft w C) : EvS c lw w ⟨.cell ⟨C, 0, none⟩, true, false⟩ := by
  obtain ⟨n1, n2⟩ := k.pl ⟨C, 0, none⟩ (.inr (Nat.le_trans h0 h))
  refine ⟨fun x hx _ => ?_, by simp, by simp, by simp⟩
  simp only [ofEvent_cell0, MemAct.touch?, Option.some.injEq] at hx
  subst hx
  exact .inr ⟨n1, n2, fun _ => ⟨_, rfl, h, Nat.le_trans h0 h, hs⟩⟩
theorem d0_evs {es : Array Event} (h : ∀ e ∈ es, EvS c lw w e) : D0 c lw w w es := ⟨.refl w, Nat.le_refl _, fun _ _ _ => rfl, fun _ h => h, h⟩
theorem d0_alloc {ob : Obj} {es : Array Event} (h : ∀ e ∈ es, False) : D0 c lw w (w.alloc ob) es := by
  refine ⟨⟨rfl, rfl, rfl⟩, by simp, fun b hb _ => Below.heap_alloc _ _ _ hb, fun b hb => ?_, fun e he => (h e he).elim⟩
  have hl := hb.lt
  exact hb.of_same (Below.heap_alloc _ _ _ hl)
theorem soft_set {w : World} {C : Nat} {v u : Value} (h : w.heap[C]? = some (.cells #[u] Payload.ety)) (b : Nat) (hb : Soft w b) : Soft (w.setCell ⟨C, 0, none⟩ v) b := by
  by_cases e : b = C
  · subst e
    exact ⟨v, by rw [setCell_eq_setRow w b 0 _ _ (0, 0) _ h, setRow_heap w b _ _ _ _ h]; rfl⟩
  · exact hb.of_same ((aside_setCell w ⟨C, 0, none⟩ v).block b e)
theorem d0_box (k : AlSt c w0 doB fv) {es : Array Event} (h0 : c.H0 ≤ lw) (hC : lw ≤ C) (h : w.heap[C]? = some (.cells #[u] Payload.ety)) (he : ∀ e ∈ es, e = ⟨.cell ⟨C, 0, none⟩, true, false⟩) : D0 c lw w (w.setCell ⟨C, 0, none⟩ v) es := by
  have a := aside_setCell w ⟨C, 0, none⟩ v
  refine ⟨⟨a.tape, a.os, a.output⟩, Nat.le_of_eq a.size.symm, fun b hb hx => a.block b (fun e => ?_), fun b hb => soft_set h b hb, fun e hE => ?_⟩
  · have e : b = C := e
    subst e
    rcases hx with hx | hx | hx
    · omega
    · exact hx ⟨u, h⟩
    · exact absurd hx (by show ¬ b < c.H0; omega)
  · rw [he e hE]; exact evS_box k h0 hC (soft_set h C ⟨u, h⟩)
theorem AlF.alloc (ob : Obj) (h : AlF c w0 lw w) : AlF c w0 lw (w.alloc ob) :=
  h.of ⟨rfl, rfl, rfl⟩ (by simp) fun g ob' hg e => (Below.heap_alloc _ _ _ (Array.getElem?_eq_some_iff.1 e).1).trans e
theorem AlF.setBox (v : Value) (hC : lw ≤ C) (h : AlF c w0 lw w) : AlF c w0 lw (w.setCell ⟨C, 0, none⟩ v) :=
  h.of (env_setCell w _ v) (Nat.le_of_eq (aside_setCell w ⟨C, 0, none⟩ v).size.symm) fun g ob hg e => ((aside_setCell w ⟨C, 0, none⟩ v).block g (fun e => by have := h.h0; have := hg.1; have e : g = C := e; omega)).trans e
theorem alloc_new (w : World) (ob : Obj) : (w.alloc ob).heap[w.heap.size]? = some ob := by
  show (w.heap.push ob)[w.heap.size]? = some ob
  exact Array.getElem?_push_size
theorem box_cell {w : World} {C : Nat} {u : Value} {T : TypeId} (h : w.heap[C]? = some (.cells #[u] T)) : w.cell? ⟨C, 0, none⟩ = some u := by simp [World.cell?, h]
theorem box_thaw {w : World} {C : Nat} {u : Value} {T : TypeId} (h : w.heap[C]? = some (.cells #[u] T)) : w.frozen? ⟨C, 0, none⟩ = false := by simp [World.frozen?, h]
theorem box_set {w : World} {C : Nat} {u v : Value} {T : TypeId} (h : w.heap[C]? = some (.cells #[u] T)) : (w.setCell ⟨C, 0, none⟩ v).heap[C]? = some (.cells #[v] T) := by
  rw [setCell_eq_setRow w C 0 _ _ (0, 0) _ h, setRow_heap w C _ _ _ _ h]; rfl
theorem live_alloc {ty Wg : Nat} (ob : Obj) (h : WgLive ty Wg w) : WgLive ty Wg (w.alloc ob) := by
  obtain ⟨st, sm, h⟩ := h
  exact ⟨st, sm, (Below.heap_alloc _ _ _ (Array.getElem?_eq_some_iff.1 h).1).trans h⟩
theorem live_set {ty Wg : Nat} {a : Addr} {v : Value} (hn : Wg ≠ a.block) (h : WgLive ty Wg w) : WgLive ty Wg (w.setCell a v) := by
  obtain ⟨st, sm, h⟩ := h
  exact ⟨st, sm, ((aside_setCell w a v).block _ hn).trans h⟩
end
noncomputable def ops6 : Array Oper := match blk32 with
  | .seq _ (.seq _ (.seq (.block _ (.seq _ (.seq (.region _ o _) _))) _)) => o
  | _ => #[]
noncomputable def tail6 : Code := match blk32 with
  | .seq _ (.seq _ (.seq (.block _ (.seq _ (.seq _ t))) _)) => t
  | _ => .skip
noncomputable def code8 : Code := match blk32 with
  | .seq _ (.seq _ (.seq _ t)) => t
  | _ => .skip
noncomputable def kk6 (kk : List Item) : List Item := .code tail6 :: .inBlock 1 :: .code code8 :: .inLoop blk32 :: .inBlock 0 :: .code rest32 :: kk
/-- from Add's return to the go -/
theorem goT {c : Cfg} {w0 : World} {doB : Nat} {fv : Value} (k : AlSt c w0 doB fv) {kk : List Item} {cs : List Frame} {r lw j C : Nat} (hj : j < c.n)
    (hN : ∀ (lw' : Nat) (w : World) (v2 v5 v8 v9 v10 v11 v12 v13 : Value), AlF c w0 lw' w ∧ WgLive c.ty c.Wg w → Spawns Try.prog c (AnchA c w0 doB fv kk cs) r lw' (G ((base 32).at (act32 c doB fv (j + 1) v2 v5 v8 v9 v10 v11 v12 v13) (.code blk32 :: .inLoop blk32 :: .inBlock 0 :: .code rest32 :: kk)) cs) w)
    (v2 v8 v9 v10 v11 v12 v13 : Value) (w : World) (hF : AlB c w0 lw C (.int .i64 j) w ∧ WgLive c.ty c.Wg w) :
    Goes Try.prog true (R0 c lw) (D0 c lw) (AtGoS Try.prog c lw j (Spawns Try.prog c (AnchA c w0 doB fv kk cs) r)) 60
      (G ((base 32).at (act32 c doB fv j v2 (.pointer (some ⟨C, 0, none⟩)) v8 v9 v10 v11 v12 v13) (.inRegion ops6 [] :: kk6 kk)) cs) w := by
  have K := k.K
  have hC := hF.1.lo
  have rl9 : ∀ {v : Value} {w w₁ : World}, (AlB c w0 lw C v w ∧ WgLive c.ty c.Wg w) → R0 c lw w w₁ → (AlB c w0 lw C v w₁ ∧ WgLive c.ty c.Wg w₁) := fun h r => ⟨h.1.rely k r, r.live h.2⟩
  unfold kk6
  rw [show tail6 = _ from (by unfold tail6 blk32; simp only [Try.f32, Option.getD_some]; try rfl)]
  rw [show ops6 = _ from (by unfold ops6 blk32; simp only [Try.f32, Option.getD_some]; try rfl)]
  unfold act32
  refine Goes.step rfl (fun _ h₁ => ?_); replace hF := rl9 hF h₁; clear h₁
  ((first | rw [stepG_seq] | rw [stepG_region_end] | rw [stepG_skip] | rw [stepG_block] | rw [stepG_loop] | rw [stepG_inBlock] | rw [stepG_inLoop] | rw [stepG_ret'] | rw [stepG_end]); simp only [goes_go]; refine ⟨(by refine d0_none ?_; intro e he; simp at he), ?_⟩)
  refine Goes.step rfl (fun _ h₁ => ?_); replace hF := rl9 hF h₁; clear h₁
  (rw [stepG_region]; simp only [goes_go, List.size_toArray, List.length_cons, List.length_nil, Nat.reduceAdd, Nat.zero_add, List.range, List.range.loop]; refine ⟨(by refine d0_none ?_; intro e he; simp at he), ?_⟩)
  refine Goes.step rfl (fun _ h₁ => ?_); replace hF := rl9 hF h₁; clear h₁
  (refine goes_oper_k rfl rfl (by k_ne) (fun K hK => ?_); go_simp; refine hK _ _ ⟨?_, ?_⟩; (· refine d0_none ?_; intro e he; have hm := mem_listed he; simp [go_sem, *] at hm); clear hK K; try w_num)
  refine Goes.stop (fun xW h₁ => ?_)
  replace hF := rl9 hF h₁
  clear h₁
  have h0 := hF.1.f.h0
  have hS : Soft xW C := ⟨_, hF.1.box⟩
  refine ⟨rfl, _, born Try.prog (call43 c.Wg doB C), C, Eq.trans (stepG_spawn (f := .func 43) (c := #[.pointer (some ⟨c.Wg, 0, none⟩), .pointer (some ⟨doB, 0, none⟩), .pointer (some ⟨C, 0, none⟩)]) rfl rfl ?_ (d := call43 c.Wg doB C) (w' := xW) (by simp [go_sem, call43, Deferred.ofValue]) rfl) rfl, rfl, hC, Nat.le_trans h0 hC, hS, ?_, ?_⟩
  · k_ne
  · exact k.run j C xW hj (Nat.le_trans h0 hC) hF.1.box hF.2 hF.1.f.old
  · refine spawns_pre (hN xW.heap.size xW v2 (.pointer (some ⟨C, 0, none⟩)) v8 v9 v10 (.func (.func 43) #[] #[.pointer (some ⟨c.Wg, 0, none⟩), .pointer (some ⟨doB, 0, none⟩), .pointer (some ⟨C, 0, none⟩)]) (.int .i64 (j + 1)) v13 ⟨hF.1.f.raise, hF.2⟩) ?_
    intro St m hG
    have fw := k.K.hn
    replace hF : (AlF c w0 xW.heap.size xW ∧ WgLive c.ty c.Wg xW) := ⟨hF.1.f.raise, hF.2⟩
    clear rl9 hS
    have c8 : code8 = _ := (by unfold code8 blk32; simp only [Try.f32, Option.getD_some]; try rfl)
    rw [c8]
    refine ⟨m + 60, ?_⟩
    generalize hg9 : G _ _ = g9 at hG
    replace hF := And.intro hF hG
    clear hG
    replace hg9 : RowKit.Hid _ := hg9
    have rl9 : ∀ {g : Goroutine} {w w₁ : World}, ((AlF c w0 xW.heap.size w ∧ WgLive c.ty c.Wg w) ∧ Goes Try.prog true (R0 c xW.heap.size) (D0 c xW.heap.size) St m g w) → R0 c xW.heap.size w w₁ → ((AlF c w0 xW.heap.size w₁ ∧ WgLive c.ty c.Wg w₁) ∧ Goes Try.prog true (R0 c xW.heap.size) (D0 c xW.heap.size) St m g w₁) := fun h r => ⟨⟨h.1.1.rely r, r.live h.1.2⟩, Goes.rely (fun _ _ _ a b => a.trans b) h.2 r⟩
    generalize xW.heap.size = lx at hF rl9 ⊢
    walk_nrm
    refine Goes.step rfl (fun _ h₁ => ?_); replace hF := rl9 hF h₁; clear h₁
    ((first | rw [stepG_seq] | rw [stepG_region_end] | rw [stepG_skip] | rw [stepG_block] | rw [stepG_loop] | rw [stepG_inBlock] | rw [stepG_inLoop] | rw [stepG_ret'] | rw [stepG_end]); simp only [goes_go]; refine ⟨(by refine d0_none ?_; intro e he; simp at he), ?_⟩)
    refine Goes.step rfl (fun _ h₁ => ?_); replace hF := rl9 hF h₁; clear h₁
    ((first | rw [stepG_seq] | rw [stepG_region_end] | rw [stepG_skip] | rw [stepG_block] | rw [stepG_loop] | rw [stepG_inBlock] | rw [stepG_inLoop] | rw [stepG_ret'] | rw [stepG_end]); simp only [goes_go]; refine ⟨(by refine d0_none ?_; intro e he; simp at he), ?_⟩)
    refine Goes.step rfl (fun _ h₁ => ?_); replace hF := rl9 hF h₁; clear h₁
    (rw [stepG_region]; simp only [goes_go, List.size_toArray, List.length_cons, List.length_nil, Nat.reduceAdd, Nat.zero_add, List.range, List.range.loop]; refine ⟨(by refine d0_none ?_; intro e he; simp at he), ?_⟩)
    refine Goes.step rfl (fun _ h₁ => ?_); replace hF := rl9 hF h₁; clear h₁
    (refine goes_oper_k rfl rfl (by k_ne) (fun K hK => ?_); go_simp; refine hK _ _ ⟨?_, ?_⟩; (· refine d0_none ?_; intro e he; have hm := mem_listed he; simp [go_sem, *] at hm); clear hK K; try w_num)
    refine Goes.step rfl (fun _ h₁ => ?_); replace hF := rl9 hF h₁; clear h₁
    (refine goes_oper_k rfl rfl (by k_ne) (fun K hK => ?_); go_simp; refine hK _ _ ⟨?_, ?_⟩; (· refine d0_none ?_; intro e he; have hm := mem_listed he; simp [go_sem, *] at hm); clear hK K; try w_num)
    refine Goes.step rfl (fun _ h₁ => ?_); replace hF := rl9 hF h₁; clear h₁
    ((first | rw [stepG_seq] | rw [stepG_region_end] | rw [stepG_skip] | rw [stepG_block] | rw [stepG_loop] | rw [stepG_inBlock] | rw [stepG_inLoop] | rw [stepG_ret'] | rw [stepG_end]); simp only [goes_go]; refine ⟨(by refine d0_none ?_; intro e he; simp at he), ?_⟩)
    refine Goes.step rfl (fun _ h₁ => ?_); replace hF := rl9 hF h₁; clear h₁
    ((first | rw [stepG_seq] | rw [stepG_region_end] | rw [stepG_skip] | rw [stepG_block] | rw [stepG_loop] | rw [stepG_inBlock] | rw [stepG_inLoop] | rw [stepG_ret'] | rw [stepG_end]); simp only [goes_go]; refine ⟨(by refine d0_none ?_; intro e he; simp at he), ?_⟩)
    have d7 : IntKind.i64.wrap ((j : Int) + 1) = (j : Int) + 1 := by
      rw [IntKind.wrap_i64]; omega
    rw [d7]
    have hG := hF.2
    rw [← hg9.out] at hG
    unfold act32 at hG
    rw [Int.natCast_add, Int.natCast_one] at hG
    exact hG.mono (by omega)
theorem spawnS {c : Cfg} {w0 : World} {doB : Nat} {fv : Value} (k : AlSt c w0 doB fv) {kk : List Item} {cs : List Frame} {r lw j : Nat} (hj : j < c.n) (hr : r + 1 + j = c.n)
    (hN : ∀ (lw' : Nat) (w : World) (v2 v5 v8 v9 v10 v11 v12 v13 : Value), AlF c w0 lw' w ∧ WgLive c.ty c.Wg w → Spawns Try.prog c (AnchA c w0 doB fv kk cs) r lw' (G ((base 32).at (act32 c doB fv (j + 1) v2 v5 v8 v9 v10 v11 v12 v13) (.code blk32 :: .inLoop blk32 :: .inBlock 0 :: .code rest32 :: kk)) cs) w)
    (v2 v5 v8 v9 v10 v11 v12 v13 : Value) (w : World) (hF : AlF c w0 lw w ∧ WgLive c.ty c.Wg w) :
    ∃ m, Goes Try.prog true (R0 c lw) (D0 c lw) (AtKdS Try.prog c lw j (Spawns Try.prog c (AnchA c w0 doB fv kk cs) r)) m
      (G ((base 32).at (act32 c doB fv j v2 v5 v8 v9 v10 v11 v12 v13) (.code blk32 :: .inLoop blk32 :: .inBlock 0 :: .code rest32 :: kk)) cs) w := by
  have K := k.K
  have rl9 : ∀ {w w₁ : World}, (AlF c w0 lw w ∧ WgLive c.ty c.Wg w) → R0 c lw w w₁ → (AlF c w0 lw w₁ ∧ WgLive c.ty c.Wg w₁) := fun h r => ⟨h.1.rely r, r.live h.2⟩
  have few := k.K.hn
  have e9 : decide ((j : Int) < (c.n : Int)) = true := decide_eq_true (by omega)
  refine ⟨500, ?_⟩
  rw [show blk32 = _ from (by unfold blk32; simp only [Try.f32, Option.getD_some]; try rfl)]
  unfold act32
  refine Goes.step rfl (fun _ h₁ => ?_); replace hF := rl9 hF h₁; clear h₁
  ((first | rw [stepG_seq] | rw [stepG_region_end] | rw [stepG_skip] | rw [stepG_block] | rw [stepG_loop] | rw [stepG_inBlock] | rw [stepG_inLoop] | rw [stepG_ret'] | rw [stepG_end]); simp only [goes_go]; refine ⟨(by refine d0_none ?_; intro e he; simp at he), ?_⟩)
  refine Goes.step rfl (fun _ h₁ => ?_); replace hF := rl9 hF h₁; clear h₁
  (rw [stepG_region]; simp only [goes_go, List.size_toArray, List.length_cons, List.length_nil, Nat.reduceAdd, Nat.zero_add, List.range, List.range.loop]; refine ⟨(by refine d0_none ?_; intro e he; simp at he), ?_⟩)
  refine Goes.step rfl (fun _ h₁ => ?_); replace hF := rl9 hF h₁; clear h₁
  (refine goes_oper_k rfl rfl (by k_ne) (fun K hK => ?_); go_simp; refine hK _ _ ⟨?_, ?_⟩; (· refine d0_none ?_; intro e he; have hm := mem_listed he; simp [go_sem, *] at hm); clear hK K; try w_num)
  refine Goes.step rfl (fun _ h₁ => ?_); replace hF := rl9 hF h₁; clear h₁
  ((first | rw [stepG_seq] | rw [stepG_region_end] | rw [stepG_skip] | rw [stepG_block] | rw [stepG_loop] | rw [stepG_inBlock] | rw [stepG_inLoop] | rw [stepG_ret'] | rw [stepG_end]); simp only [goes_go]; refine ⟨(by refine d0_none ?_; intro e he; simp at he), ?_⟩)
  refine Goes.step rfl (fun _ h₁ => ?_); replace hF := rl9 hF h₁; clear h₁
  ((first | rw [stepG_seq] | rw [stepG_region_end] | rw [stepG_skip] | rw [stepG_block] | rw [stepG_loop] | rw [stepG_inBlock] | rw [stepG_inLoop] | rw [stepG_ret'] | rw [stepG_end]); simp only [goes_go]; refine ⟨(by refine d0_none ?_; intro e he; simp at he), ?_⟩)
  refine Goes.step rfl (fun _ h₁ => ?_); replace hF := rl9 hF h₁; clear h₁
  ((first | rw [stepG_cond (t := true) rfl] | rw [stepG_cond (t := false) rfl] | rw [stepG_cond (t := false) (by simp [Act.eval]; omega)] | rw [stepG_cond (t := true) (by simp [Act.eval]; omega)]); simp only [goes_go, if_true, if_false, Bool.false_eq_true, ↓reduceIte]; refine ⟨(by refine d0_none ?_; intro e he; simp at he), ?_⟩)
  refine Goes.step rfl (fun _ h₁ => ?_); replace hF := rl9 hF h₁; clear h₁
  ((first | rw [stepG_seq] | rw [stepG_region_end] | rw [stepG_skip] | rw [stepG_block] | rw [stepG_loop] | rw [stepG_inBlock] | rw [stepG_inLoop] | rw [stepG_ret'] | rw [stepG_end]); simp only [goes_go]; refine ⟨(by refine d0_none ?_; intro e he; simp at he), ?_⟩)
  refine Goes.step rfl (fun _ h₁ => ?_); replace hF := rl9 hF h₁; clear h₁
  ((first | rw [stepG_seq] | rw [stepG_region_end] | rw [stepG_skip] | rw [stepG_block] | rw [stepG_loop] | rw [stepG_inBlock] | rw [stepG_inLoop] | rw [stepG_ret'] | rw [stepG_end]); simp only [goes_go]; refine ⟨(by refine d0_none ?_; intro e he; simp at he), ?_⟩)
  refine Goes.step rfl (fun _ h₁ => ?_); replace hF := rl9 hF h₁; clear h₁
  ((first | rw [stepG_seq] | rw [stepG_region_end] | rw [stepG_skip] | rw [stepG_block] | rw [stepG_loop] | rw [stepG_inBlock] | rw [stepG_inLoop] | rw [stepG_ret'] | rw [stepG_end]); simp only [goes_go]; refine ⟨(by refine d0_none ?_; intro e he; simp at he), ?_⟩)
  refine Goes.step rfl (fun _ h₁ => ?_); replace hF := rl9 hF h₁; clear h₁
  ((first | rw [stepG_seq] | rw [stepG_region_end] | rw [stepG_skip] | rw [stepG_block] | rw [stepG_loop] | rw [stepG_inBlock] | rw [stepG_inLoop] | rw [stepG_ret'] | rw [stepG_end]); simp only [goes_go]; refine ⟨(by refine d0_none ?_; intro e he; simp at he), ?_⟩)
  refine Goes.step rfl (fun _ h₁ => ?_); replace hF := rl9 hF h₁; clear h₁
  (rw [stepG_region]; simp only [goes_go, List.size_toArray, List.length_cons, List.length_nil, Nat.reduceAdd, Nat.zero_add, List.range, List.range.loop]; refine ⟨(by refine d0_none ?_; intro e he; simp at he), ?_⟩)
  refine Goes.step rfl (fun _ h₁ => ?_); replace hF := rl9 hF h₁; clear h₁
  (refine goes_oper_k rfl rfl (by k_ne) (fun K hK => ?_); go_simp; refine hK _ _ ⟨?_, ?_⟩; (· refine d0_none ?_; intro e he; have hm := mem_listed he; simp [go_sem, *] at hm); clear hK K; try w_num)
  refine Goes.step rfl (fun xW h₁ => ?_); replace hF := rl9 hF h₁; clear h₁
  (refine goes_oper_k rfl rfl (by k_ne) (fun K hK => ?_); go_simp; refine hK _ _ ⟨?_, ?_⟩; (· refine d0_alloc ?_; intro e he; have hm := mem_listed he; simp [go_sem, *] at hm); clear hK K; try w_num)
  have hC : lw ≤ xW.heap.size := hF.1.lwle
  have hbx : (xW.alloc (Obj.cells #[Value.int .i64 0] 3)).heap[xW.heap.size]? = some (.cells #[.int .i64 0] 3) := alloc_new _ _
  have hWW : WgLive c.ty c.Wg (xW.alloc (Obj.cells #[Value.int .i64 0] 3)) := live_alloc _ hF.2
  have hF1 : AlF c w0 lw (xW.alloc (Obj.cells #[Value.int .i64 0] 3)) := hF.1.alloc _
  clear hF
  generalize hCC : xW.heap.size = C at hF1 hWW hbx hC ⊢
  clear hCC
  generalize xW.alloc (Obj.cells #[Value.int .i64 0] 3) = w9 at hF1 hWW hbx ⊢
  have hF : AlB c w0 lw C (.int .i64 0) w9 ∧ WgLive c.ty c.Wg w9 := ⟨⟨hF1, hbx, hC⟩, hWW⟩
  clear hF1 hbx hWW rl9
  have rl9 : ∀ {v : Value} {w w₁ : World}, (AlB c w0 lw C v w ∧ WgLive c.ty c.Wg w) → R0 c lw w w₁ → (AlB c w0 lw C v w₁ ∧ WgLive c.ty c.Wg w₁) := fun h r => ⟨h.1.rely k r, r.live h.2⟩
  have hCW : c.Wg ≠ C := by
    have := hF.1.f.h0
    exact fun e => (k.hi C (by omega)).2 e.symm
  refine Goes.step rfl (fun xW h₁ => ?_); replace hF := rl9 hF h₁; clear h₁
  have hcl := box_cell hF.1.box
  have hfr := box_thaw hF.1.box
  (refine goes_oper_k rfl rfl (by k_ne) (fun K hK => ?_); go_simp; refine hK _ _ ⟨?_, ?_⟩; (· refine d0_box k hF.1.f.h0 hC hF.1.box ?_; intro e he; have hm := mem_listed he; simp [go_sem, storedEv, hcl] at hm; exact hm.2); clear hK K; try w_num)
  have hWW : WgLive c.ty c.Wg (xW.setCell ⟨C, 0, none⟩ (.int .i64 (j : Int))) := live_set hCW hF.2
  have hF1 : AlB c w0 lw C (.int .i64 (j : Int)) (xW.setCell ⟨C, 0, none⟩ (.int .i64 (j : Int))) := ⟨hF.1.f.setBox _ hC, box_set hF.1.box, hC⟩
  clear hF hcl hfr
  generalize xW.setCell ⟨C, 0, none⟩ (.int .i64 (j : Int)) = w8 at hF1 hWW ⊢
  have hF := And.intro hF1 hWW
  clear hF1 hWW
  refine Goes.step rfl (fun _ h₁ => ?_); replace hF := rl9 hF h₁; clear h₁
  ((first | rw [stepG_seq] | rw [stepG_region_end] | rw [stepG_skip] | rw [stepG_block] | rw [stepG_loop] | rw [stepG_inBlock] | rw [stepG_inLoop] | rw [stepG_ret'] | rw [stepG_end]); simp only [goes_go]; refine ⟨(by refine d0_none ?_; intro e he; simp at he), ?_⟩)
  refine Goes.step rfl (fun _ h₁ => ?_); replace hF := rl9 hF h₁; clear h₁
  ((first | rw [stepG_seq] | rw [stepG_region_end] | rw [stepG_skip] | rw [stepG_block] | rw [stepG_loop] | rw [stepG_inBlock] | rw [stepG_inLoop] | rw [stepG_ret'] | rw [stepG_end]); simp only [goes_go]; refine ⟨(by refine d0_none ?_; intro e he; simp at he), ?_⟩)
  refine Goes.step rfl (fun _ h₁ => ?_); replace hF := rl9 hF h₁; clear h₁
  (rw [stepG_region]; simp only [goes_go, List.size_toArray, List.length_cons, List.length_nil, Nat.reduceAdd, Nat.zero_add, List.range, List.range.loop]; refine ⟨(by refine d0_none ?_; intro e he; simp at he), ?_⟩)
  refine Goes.step rfl (fun _ h₁ => ?_); replace hF := rl9 hF h₁; clear h₁
  refine goes_call rfl rfl (by k_ne) rfl wgLib.f_add (nm_add lnk) rfl ⟨(by refine d0_none ?_; intro e he; simp at he), ?_⟩
  have hA := addPos (c := c) (lw := lw) (j := j) (Next := Spawns Try.prog c (AnchA c w0 doB fv kk cs) r) (F := AlB c w0 lw C (.int .i64 (j : Int))) (cs := cs) (b₀ := base 32) (a₀ := act32 c doB fv j v2 (.pointer (some ⟨C, 0, none⟩)) (.bool true) (.int .i64 (j : Int)) v10 v11 v12 v13) (ops₀ := ops6) (i₀ := 0) (rest₀ := []) (k₀ := kk6 kk) wgLib K (fun w w' r h => h.rely k r) (fun w a v ha h => h.setWg k a v ha)
    (mT := 60) (fun w h1 h2 => by
      have o6 : ops6[0]?.bind (·.dst) = some 10 := (by unfold ops6 blk32; simp only [Try.f32, Option.getD_some]; try rfl)
      rw [o6]
      exact goT k hj hN _ _ _ _ _ _ _ w ⟨h1, h2⟩) _ hF
  unfold kk6 at hA
  have o6 : ops6 = _ := (by unfold ops6 blk32; simp only [Try.f32, Option.getD_some]; try rfl)
  have t6 : tail6 = _ := (by unfold tail6 blk32; simp only [Try.f32, Option.getD_some]; try rfl)
  have c8 : code8 = _ := (by unfold code8 blk32; simp only [Try.f32, Option.getD_some]; try rfl)
  have b16 : blk32 = _ := (by unfold blk32; simp only [Try.f32, Option.getD_some]; try rfl)
  rw [o6, t6, c8, b16] at hA
  walk_nrmf addFn
  simp only [body_add, addFn, Option.getD_some, act32, Act.put, Act.eval, List.map_toArray, List.map_cons, List.map_nil, Array.getD_eq_getD_getElem?, List.getElem?_toArray, List.getElem?_cons_succ, List.getElem?_cons_zero, Option.bind_some, List.size_toArray, List.length_cons, List.length_nil, Nat.reduceAdd, Nat.reduceSub, Array.replicate_succ, Array.replicate_zero, List.push_toArray, List.append_toArray, List.nil_append, List.cons_append] at hA
  refine Goes.mono (?_ : Goes _ _ _ _ _ 200 _ _) (by omega)
  exact hA
/-- all rounds -/
theorem spawns32 {c : Cfg} {w0 : World} {doB : Nat} {fv : Value} (k : AlSt c w0 doB fv) {kk : List Item} {cs : List Frame} : ∀ (r j lw : Nat) (w : World) (v2 v5 v8 v9 v10 v11 v12 v13 : Value), r + j = c.n → AlF c w0 lw w ∧ WgLive c.ty c.Wg w →
    Spawns Try.prog c (AnchA c w0 doB fv kk cs) r lw (G ((base 32).at (act32 c doB fv j v2 v5 v8 v9 v10 v11 v12 v13) (.code blk32 :: .inLoop blk32 :: .inBlock 0 :: .code rest32 :: kk)) cs) w
  | 0, j, lw, w, v2, v5, v8, v9, v10, v11, v12, v13, hj, hF => by
    obtain rfl : j = c.n := by omega
    exact spawn0 k v2 v5 v8 v9 v10 v11 v12 v13 w hF
  | r + 1, j, lw, w, v2, v5, v8, v9, v10, v11, v12, v13, hj, hF => by
    have hr : c.n - (r + 1) = j := by omega
    have := spawnS k (kk := kk) (cs := cs) (r := r) (by omega) (by omega) (fun lw' w v2 v5 v8 v9 v10 v11 v12 v13 h => spawns32 k r (j + 1) lw' w v2 v5 v8 v9 v10 v11 v12 v13 (by omega) h) v2 v5 v8 v9 v10 v11 v12 v13 w hF
    unfold Spawns
    rw [hr]
    exact this
end Go.Proofs.Ytinghnaigpenkaa
