/- Seat 05: a worker of all, from its birth to the group's Done. -/
import Derived.Test.YtinghnaigpenkaaAlB
import Derived.Test.YtinghnaigpenkaaLwA
import Derived.Conc.DeferLaws
import Derived.Conc.WgGenN2
namespace Go.Proofs.Ytinghnaigpenkaa
open Go.Conc Go.RowKit Go.Conc.Lib Go.ConcR.Gen
open Go.ConcN (WgLive Has)
open Go.ConcN.Gen (doneN)
open Go.ConcR (WgAt stA Payload)
set_option linter.unusedVariables false
set_option linter.unusedSimpArgs false
set_option maxRecDepth 100000
set_option maxHeartbeats 4000000



theorem opsV_defer {P : Program} {c : Cfg} {k C : Nat} {fn : FuncId} {N : Nat} {u : c.U} {Q : Nat → c.U → Exit → Act → World → Prop} {a : Act} {w : World} {ops : Array Oper} {i : Nat} {rest : List Nat} {o : Oper} {n : Nat} {f : FuncId} {as' : Array Operand} {ats : Array TypeId} (ho : ops[i]? = some o) (hw : Region.wanted o (yielded ops a.tmps) = true)
    (hop : o.op = .defer { callee := .value (.func f), args := as', argTypes := ats }) (h : OpsV P c k C fn ops rest n N u Q (Act.put ⟨a.tmps, dcall f (as'.map a.eval) :: a.defers⟩ o.dst undef) w) : OpsV P c k C fn ops (i :: rest) (n + 1) N u Q a w :=
  fun b kk cs m hb hk hc => Goes.step rfl fun w₁ h₁ => by rw [stepG_defer ho hw hk hop]; exact ⟨(termsW c C).idle _, (h b kk cs m hb hk hc).rely h₁⟩
theorem dw_read {c : Cfg} {C : Nat} {w : World} {es : Array Event} (h : ∀ e ∈ es, EvW c C w e) : DW c C w w es :=
  ⟨.refl w, Nat.le_refl _, fun _ _ => rfl, (DW.refl c C w).new, h⟩
theorem drawW (c : Cfg) (C : Nat) : LetsDraw (DW c C) := fun w => ⟨⟨rfl, rfl, rfl⟩, Nat.le_refl _, fun _ _ => rfl, fun b h hs => absurd (show Soft w b from hs).lt (Nat.not_lt.2 h), by simp⟩
theorem RW.at {c : Cfg} (K : c.Ok) {C : Nat} (w : World) : RW c C w { w with drawn := w.drawn + 1 } := ⟨⟨rfl, rfl, rfl⟩, Nat.le_refl _, fun _ _ _ _ _ => rfl, fun _ _ h => h, fun ⟨σ, h⟩ => ⟨σ, K.rep_same σ w _ h (fun _ _ => rfl)⟩, id⟩
theorem evW_cell {c : Cfg} {C : Nat} {w : World} {a : Addr} (h : a.block = C ∨ a.block < c.H0) (hp : ¬ c.sh (.cell a) ∧ ∀ k, ¬ c.own k (.cell a)) : EvW c C w ⟨.cell a, false, false⟩ := by
  refine ⟨fun x hx _ => ?_, by simp, by simp, by simp⟩
  simp only [ofEvent_cell0, MemAct.touch?, Option.some.injEq] at hx
  subst hx
  exact ⟨a, rfl, rfl, by simp, hp.1, hp.2, h.imp id .inl⟩
theorem evW_new {c : Cfg} {C : Nat} {w : World} {a : Addr} {cs : Array Value} {T : TypeId} (h0 : c.H0 ≤ a.block) (h : w.heap[a.block]? = some (.cells cs T)) (hT : T ≠ Payload.ety) (hp : ¬ c.sh (.cell a) ∧ ∀ k, ¬ c.own k (.cell a)) : EvW c C w ⟨.cell a, false, false⟩ := by
  refine ⟨fun x hx _ => ?_, by simp, by simp, by simp⟩
  simp only [ofEvent_cell0, MemAct.touch?, Option.some.injEq] at hx
  subst hx
  refine ⟨a, rfl, rfl, by simp, hp.1, hp.2, .inr (.inr ⟨h0, (Array.getElem?_eq_some_iff.1 h).1, ?_⟩)⟩
  rintro ⟨v, hv⟩
  rw [h] at hv
  injection hv with hv
  injection hv with _ hv
  exact hT hv
/-- what a worker of all knows of the memory -/
structure WK (c : Cfg) (wb : World) (H : Nat) (fv : Value) (j C : Nat) (w : World) : Prop where
  box : w.heap[C]? = some (.cells #[.int .i64 j] 3)
  doC : w.heap[H]? = some (.cells #[fv] 79)
  live : Live c.ty c.Wg w
  old : ∀ g ob, g < H → ¬ c.SB g → wb.heap[g]? = some ob → w.heap[g]? = some ob
/-- where things lie -/
structure AlO (c : Cfg) (H : Nat) : Prop where
  K : c.Ok
  ty : c.ty = 95
  wg : c.Wg = H + 1
  h0 : c.H0 = H + 2
  lo : ∀ b, c.SB b → b < H
  pl : ∀ a : Addr, (a.block = H ∨ H + 2 ≤ a.block) → ¬ c.sh (.cell a) ∧ ∀ k, ¬ c.own k (.cell a)
section
variable {c : Cfg} {wb : World} {H : Nat} {fv : Value} {j C : Nat} {w w₁ : World}
theorem WK.rely (A : AlO c H) (hC : c.H0 ≤ C) (h : WK c wb H fv j C w) (r : RW c C w w₁) : WK c wb H fv j C w₁ := by
  have nC : ¬ c.SB C := fun hb => by have := A.lo C hb; have := A.h0; omega
  have nH : ¬ c.SB H := fun hb => by have := A.lo H hb; omega
  refine ⟨(r.same C (Array.getElem?_eq_some_iff.1 h.box).1 nC (by have := A.wg; have := A.h0; omega) (.inl rfl)).trans h.box, (r.same H (Array.getElem?_eq_some_iff.1 h.doC).1 nH (by have := A.wg; omega) (.inr (.inr (by have := A.h0; omega)))).trans h.doC, r.live h.live, fun g ob hg hs e => ?_⟩
  have e1 := h.old g ob hg hs e
  exact (r.same g (Array.getElem?_eq_some_iff.1 e1).1 hs (by have := A.wg; omega) (.inr (.inr (by have := A.h0; omega)))).trans e1
theorem WK.only (A : AlO c H) (hC : c.H0 ≤ C) (h : WK c wb H fv j C w) (r : OnlySB c w w₁) : WK c wb H fv j C w₁ := by
  have nC : ¬ c.SB C := fun hb => by have := A.lo C hb; have := A.h0; omega
  have nH : ¬ c.SB H := fun hb => by have := A.lo H hb; omega
  have nW : ¬ c.SB c.Wg := A.K.sbWg
  exact ⟨(r.old C nC).trans h.box, (r.old H nH).trans h.doC, h.live.of_same (r.old _ nW), fun g ob hg hs e => (r.old g hs).trans (h.old g ob hg hs e)⟩
theorem WK.alloc (h : WK c wb H fv j C w) (ob : Obj) : WK c wb H fv j C (w.alloc ob) := by
  have up : ∀ {g : Nat} {o : Obj}, w.heap[g]? = some o → (w.alloc ob).heap[g]? = some o := fun e => (Below.heap_alloc _ _ _ (Array.getElem?_eq_some_iff.1 e).1).trans e
  refine ⟨up h.box, up h.doC, ?_, fun g o hg hs e => up (h.old g o hg hs e)⟩
  obtain ⟨st, sm, hl⟩ := h.live
  exact ⟨st, sm, up hl⟩
theorem WK.draw (h : WK c wb H fv j C w) (n : Nat) : WK c wb H fv j C { w with drawn := n } := ⟨h.box, h.doC, h.live, h.old⟩
end
def Q43 (c : Cfg) (wb : World) (H : Nat) (fv : Value) (j C : Nat) : Nat → c.U → Exit → Act → World → Prop :=
  fun N' u' e a' w' => (e = .normal ∨ e = .ret) ∧ c.fin u' ∧ WK c wb H fv j C w' ∧ a'.defers = [dcall 44 #[.pointer (some ⟨c.Wg, 0, none⟩)]]
theorem body43_V {c : Cfg} {wb : World} {H : Nat} {f : FuncId} {cap : Array Value} {j C k N nf : Nat} (A : AlO c H) (hC : c.H0 ≤ C)
    (hdo' : ∀ w, WK c wb H (.func (.func f) #[] cap) j C w → CallsV Try.prog c k C f (#[.int .i64 j] ++ cap) nf N (c.init j) w (fun N' u' v w' => c.fin u' ∧ WK c wb H (.func (.func f) #[] cap) j C w'))
    (w : World) (hF : WK c wb H (.func (.func f) #[] cap) j C w) :
    CodeV Try.prog c k C 43 (Try.f43.body.getD .skip) (nf + 60) N (c.init j) (Q43 c wb H (.func (.func f) #[] cap) j C)
      ⟨#[.pointer (some ⟨c.Wg, 0, none⟩), .pointer (some ⟨H, 0, none⟩), .pointer (some ⟨C, 0, none⟩)] ++ Array.replicate 3 undef, []⟩ w := by
  have rl9 : ∀ {w w₁ : World}, WK c wb H (.func (.func f) #[] cap) j C w → RW c C w w₁ → WK c wb H (.func (.func f) #[] cap) j C w₁ := fun h r => h.rely A hC r
  have hP1 : ∀ w, WK c wb H (.func (.func f) #[] cap) j C w → w.cell? ⟨H, 0, none⟩ = some (.func (.func f) #[] cap) := fun w h => by simp [World.cell?, h.doC]
  have hP2 : ∀ w, WK c wb H (.func (.func f) #[] cap) j C w → w.cell? ⟨C, 0, none⟩ = some (.int .i64 j) := fun w h => by simp [World.cell?, h.box]
  have hpl : ∀ a : Addr, (a.block = H ∨ c.H0 ≤ a.block) → _ := fun a h => A.pl a (by rw [← A.h0]; exact h)
  have hdo : H < c.H0 := by have := A.h0; omega
  have T9 := termsW c C
  co_apply codeV_more
  · simp only [Try.f43, Option.getD_some]
    walk_nrm
    co_apply codeV_seq
    (co_apply codeV_region; simp only [List.size_toArray, List.length_cons, List.length_nil, Nat.reduceAdd, Nat.zero_add, List.range, List.range.loop])
    co_apply opsV_defer rfl (by rfl) rfl
    walk_nrm
    co_apply opsV_nil
    simp only [ThenV]
    (co_apply codeV_region; simp only [List.size_toArray, List.length_cons, List.length_nil, Nat.reduceAdd, Nat.zero_add, List.range, List.range.loop])
    (co_apply opsV_cons_k rfl (by rfl); intro _ hR K' hK; replace hF := rl9 hF hR; clear hR; have c1 := hP1 _ hF; have c2 := hP2 _ hF; go_simp; refine hK _ _ ⟨?_, ?_⟩; (· refine dw_read (fun e he => ?_); have hm := mem_listed he; simp [go_sem, *] at hm; subst hm; first | exact evW_cell (.inl rfl) (hpl _ (.inr hC)) | exact evW_cell (.inr hdo) (hpl _ (.inl rfl))); clear hK K' c1 c2; try walk_nrm)
    (co_apply opsV_cons_k rfl (by rfl); intro _ hR K' hK; replace hF := rl9 hF hR; clear hR; have c1 := hP1 _ hF; have c2 := hP2 _ hF; go_simp; refine hK _ _ ⟨?_, ?_⟩; (· refine dw_read (fun e he => ?_); have hm := mem_listed he; simp [go_sem, *] at hm; subst hm; first | exact evW_cell (.inl rfl) (hpl _ (.inr hC)) | exact evW_cell (.inr hdo) (hpl _ (.inl rfl))); clear hK K' c1 c2; try walk_nrm)
    co_apply opsV_callV rfl (by rfl) rfl rfl
    · have := hdo' _ hF
      simpa [Act.eval] using this
    rintro N2 u2 v w2 ⟨hf2, hF2⟩
    clear hF
    have hF := hF2
    clear hF2
    walk_nrm
    co_apply opsV_nil
    exact ⟨.inl rfl, hf2, hF, rfl⟩
  · omega
def b43 : Frame := baseD 43
noncomputable def bot43 : Frame := { (default : Frame) with fn := (Program.funcs Try.prog).size, defers := [], mode := .panicking [goexitEntry] }
/-- Done has left: the literal leaves. -/
theorem quits43 (T : Array Value) (todo : List Item) : QuitsD Try.prog 2 0 (G { b43.at ⟨T, []⟩ todo with mode := .returning } [bot43]) := by
  refine QuitsD.ctl (g' := G bot43 []) rfl (fun w => ?_) ?_
  · simp [G, stepG, unwind, doReturn, results, Frame.at, b43, baseD, bot43, Try.func43, Try.f43, seen, GStep.after, goexitEntry]
  refine QuitsD.ctl (g' := { G bot43 [] with status := .finished }) rfl (fun w => ?_) ⟨rfl, rfl⟩
  simp [G, stepG, unwind, bot43, goexitEntry, Frame.catches]
  rfl
theorem born43_step (Wg doB C : Nat) (w : World) : stepG Try.prog false (born Try.prog (call43 Wg doB C)) w =
    .go (G (b43.at ⟨#[.pointer (some ⟨Wg, 0, none⟩), .pointer (some ⟨doB, 0, none⟩), .pointer (some ⟨C, 0, none⟩)] ++ Array.replicate 3 undef, []⟩ [.code (Try.f43.body.getD .skip)]) [bot43]) w #[] := by
  simp [born, call43, stepG, unwind, callDeferred, invoke, callFunc, Try.func43, Try.f43, seen, GStep.after, G, Frame.enter, Frame.at, b43, baseD, bot43]
theorem done43 {c : Cfg} {wb : World} {H : Nat} {fv : Value} {j C : Nat} {T : Array Value} {todo : List Item} {w : World} (hty : c.ty = 95) (hF : WK c wb H fv j C w) :
    DoneW Try.prog c C (G ((baseD lnk.done).at ⟨#[.pointer (some ⟨c.Wg, 0, none⟩), undef, undef, undef], []⟩ [.code (body_done lnk)]) [{ b43.at ⟨T, []⟩ todo with mode := .returning }, bot43]) w := by
  have hH : Has C 0 (.int .i64 j) w := by simp [Has, World.cell?, hF.box]
  have hl := hF.live
  rw [hty] at hl
  unfold DoneW
  rw [hty]
  exact ⟨23, _, doneN wgLib (Own := E0) (Rd := E0) (Wg := c.Wg) (C := C) (n := 1) (Low := 0) (k := 1) (qt := 2) rfl (quits43 T todo) w ⟨hl, hH⟩⟩
theorem run43 {c : Cfg} {wb : World} {H : Nat} {f : FuncId} {cap : Array Value} {j C k : Nat} {nf : Nat → Nat} (A : AlO c H) (hC : c.H0 ≤ C)
    (hdo' : ∀ N w, WK c wb H (.func (.func f) #[] cap) j C w → CallsV Try.prog c k C f (#[.int .i64 j] ++ cap) (nf N) N (c.init j) w (fun N' u' v w' => c.fin u' ∧ WK c wb H (.func (.func f) #[] cap) j C w'))
    (w : World) (hF : WK c wb H (.func (.func f) #[] cap) j C w) : ∀ N, RunU Try.prog c k C N (c.init j) (born Try.prog (call43 c.Wg H C)) w := by
  have rl : ∀ {w w₁ : World}, WK c wb H (.func (.func f) #[] cap) j C w → RW c C w w₁ → WK c wb H (.func (.func f) #[] cap) j C w₁ := fun h r => h.rely A hC r
  intro N
  cases N with
  | zero => trivial
  | succ N =>
    have hB := body43_V (k := k) (N := N) A hC (hdo' N)
    have ret : ∀ (N' : Nat) (u' : c.U) (a' : Act) (w' : World) (todo : List Item), c.fin u' → WK c wb H (.func (.func f) #[] cap) j C w' → a'.defers = [dcall 44 #[.pointer (some ⟨c.Wg, 0, none⟩)]] →
        GV Try.prog c k C N' u' 3 (G { b43.at a' todo with mode := .returning } [bot43]) w' := by
      intro N' u' a' w' todo ht hK hd
      refine Goes.step rfl fun w₁ h₁ => ?_
      replace hK := rl hK h₁
      clear h₁
      rw [stepG_unwind_enter hd Try.func44 (by kernel_rfl) rfl]
      refine ⟨DW.refl _ _ _, Goes.stop fun w₂ h₂ => .inl ⟨ht, rfl, ?_⟩⟩
      exact done43 A.ty (rl hK h₂)
    refine ⟨4 + (nf N + 60) + 1, Goes.step rfl fun w₁ h₁ => ?_⟩
    rw [born43_step]
    refine ⟨DW.refl _ _ _, ?_⟩
    refine hB w₁ (rl hF h₁) b43 [] [bot43] 4 rfl (by simp [b43, baseD]) ?_
    rintro N' u' e a' w' ⟨he, ht, hK, hd⟩
    rcases he with rfl | rfl
    · refine Goes.step rfl fun w₂ h₂ => ?_
      rw [stepG_end]
      exact ⟨DW.refl _ _ _, (ret N' u' a' w' [] ht hK hd).rely h₂⟩
    · exact fun todo => (ret N' u' a' w' todo ht hK hd).mono (by omega)
end Go.Proofs.Ytinghnaigpenkaa
