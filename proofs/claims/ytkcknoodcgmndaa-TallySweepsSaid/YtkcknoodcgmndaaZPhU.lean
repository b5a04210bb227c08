import Derived.Test.YtkcknoodcgmndaaZSwF
import Derived.Conc.DeferLaws
import Derived.Conc.WgGenN2
import Derived.Test.YtkcknoodcgmndaaZPhH
import Derived.Conc.WgGenN3
section
/- What a sweep's worker knows of the memory; a deferred call. -/
namespace Go.Proofs.Ytkcknoodcgmndaa
open Go.Conc Go.RowKit
open Go.ConcR (WgAt stA)
set_option linter.unusedVariables false
set_option linter.unusedSimpArgs false
set_option maxRecDepth 100000
set_option maxHeartbeats 4000000


theorem opsV_defer {P : Program} {c : Cfg} {k C : Nat} {fn : FuncId} {N : Nat} {u : c.U} {Q : Nat → c.U → Exit → Act → World → Prop} {a : Act} {w : World} {ops : Array Oper} {i : Nat} {rest : List Nat} {o : Oper} {n : Nat} {f : FuncId} {as' : Array Operand} {ats : Array TypeId} (ho : ops[i]? = some o) (hw : Region.wanted o (yielded ops a.tmps) = true)
    (hop : o.op = .defer { callee := .value (.func f), args := as', argTypes := ats }) (h : OpsV P c k C fn ops rest n N u Q (Act.put ⟨a.tmps, dcall f (as'.map a.eval) :: a.defers⟩ o.dst undef) w) : OpsV P c k C fn ops (i :: rest) (n + 1) N u Q a w :=
  fun b kk cs m hb hk hc => Goes.step rfl fun w₁ h₁ => by rw [stepG_defer ho hw hk hop]; exact ⟨(termsW c C).idle _, (h b kk cs m hb hk hc).rely h₁⟩
/-- what a worker knows of the memory -/
structure SwK (s : SwP) (C mB bB Mb cap : Nat) (A : Option Addr) (d o cap2 : Nat) (L : List Int) (w : World) : Prop where
  part : w.heap[C]? = some (.cells #[.slice A L.length cap2] 33)
  at_ : L ≠ [] → A = some ⟨d, o, none⟩
  mbox : w.heap[mB]? = some (.cells #[mkV s Mb] 35)
  bbox : w.heap[bB]? = some (.cells #[.pointer (some ⟨s.Bb, 0, none⟩)] 23)
  row : s.has = true → w.heap[Mb]? = some (.cells #[.int .i64 s.nn, .slice (some ⟨s.Wb, 0, none⟩) s.σ0.ws.length cap] 74)
  data : ∀ q x, L[q]? = some x → w.cell? ⟨d, o + q, none⟩ = some (.int .i64 x)
  live : Live 81 s.Wg w
structure SwKo (s : SwP) (C mB bB Mb d : Nat) (L : List Int) : Prop where
  part : RdOk s C C
  mbox : RdOk s C mB
  bbox : RdOk s C bB
  row : s.has = true → RdOk s C Mb
  data : L ≠ [] → RdOk s C d
theorem cell_same {w w₁ : World} {g : Nat} (h : w₁.heap[g]? = w.heap[g]?) (i : Nat) : w₁.cell? ⟨g, i, none⟩ = w.cell? ⟨g, i, none⟩ := by simp [World.cell?, h]
theorem cell_some {w : World} {g i : Nat} {v : Value} (h : w.cell? ⟨g, i, none⟩ = some v) : ∃ o, w.heap[g]? = some o := by
  cases e : w.heap[g]? with
  | none => simp [World.cell?, e] at h
  | some o => exact ⟨o, rfl⟩
theorem SwK.of {s : SwP} {C mB bB Mb cap d o cap2 : Nat} {A : Option Addr} {L : List Int} {w w₁ : World} (h : SwK s C mB bB Mb cap A d o cap2 L w) (k : SwKo s C mB bB Mb d L) (hl : Live 81 s.Wg w → Live 81 s.Wg w₁) (e : ∀ g ob, RdOk s C g → w.heap[g]? = some ob → w₁.heap[g]? = some ob) : SwK s C mB bB Mb cap A d o cap2 L w₁ := by
  refine ⟨e _ _ k.part h.part, h.at_, e _ _ k.mbox h.mbox, e _ _ k.bbox h.bbox, fun hh => e _ _ (k.row hh) (h.row hh), fun q x hx => ?_, hl h.live⟩
  have h1 := h.data q x hx
  obtain ⟨ob, hob⟩ := cell_some h1
  have h2 := e _ _ (k.data (fun hn => by rw [hn] at hx; simp at hx)) hob
  rw [cell_same (h2.trans hob.symm)]
  exact h1
end Go.Proofs.Ytkcknoodcgmndaa

end
section
/- A sweep's worker from its first step to its deferred call: the walk (UNDER WAY: does not build yet). -/
namespace Go.Proofs.Ytkcknoodcgmndaa
open Go.Conc Go.RowKit
open Go.ConcR (WgAt stA)
set_option linter.unusedVariables false
set_option linter.unusedSimpArgs false
set_option maxRecDepth 100000
set_option maxHeartbeats 4000000




def bN (N l : Nat) : Nat := (l + 1) * (tnN N + 1000) + 600
/-- the code of a round -/
noncomputable def cd35 : Code := match (Try.f35.body.getD .skip) with
  | .seq _ (.seq _ (.block _ (.loop c))) => c
  | .seq _ (.seq _ (.seq (.block _ (.loop c)) _)) => c
  | _ => .skip
def act35 (s : SwP) (C mB bB : Nat) (A : Option Addr) (cap2 l : Nat) (i : Nat) (v4 v5 v9 v10 v11 v12 v13 v14 v15 v16 v17 v18 v19 : Value) : Act := ⟨#[.pointer (some ⟨s.Wg, 0, none⟩), .pointer (some ⟨C, 0, none⟩), .pointer (some ⟨mB, 0, none⟩), .pointer (some ⟨bB, 0, none⟩), v4, v5, .slice A l cap2, .int .i64 (l : Int), .int .i64 (i : Int), v9, v10, v11, v12, v13, v14, v15, v16, v17, v18, v19], [dcall 36 #[.pointer (some ⟨s.Wg, 0, none⟩)]]⟩
def I35 (s : SwP) (C mB bB Mb cap : Nat) (A : Option Addr) (d o cap2 N : Nat) (L : List Int) (N' : Nat) (u' : SU) (a' : Act) (w' : World) : Prop :=
  N' ≤ N ∧ SwK s C mB bB Mb cap A d o cap2 L w' ∧ ∃ i : Nat, i ≤ L.length ∧ u' = mkU s.nn (L.drop i) ∧ ∃ v4 v5 v9 v10 v11 v12 v13 v14 v15 v16 v17 v18 v19 : Value, a' = act35 s C mB bB A cap2 L.length i v4 v5 v9 v10 v11 v12 v13 v14 v15 v16 v17 v18 v19
def Q35 (s : SwP) (C mB bB Mb cap : Nat) (A : Option Addr) (d o cap2 : Nat) (L : List Int) : Nat → SU → Exit → Act → World → Prop :=
  fun N' u' e a' w' => (e = .normal ∨ e = .ret) ∧ u'.todo = [] ∧ SwK s C mB bB Mb cap A d o cap2 L w' ∧ a'.defers = [dcall 36 #[.pointer (some ⟨s.Wg, 0, none⟩)]]
theorem round35_V {s : SwP} {k C mB bB Mb cap d o cap2 N : Nat} {A : Option Addr} {L : List Int} (K : s.Ok) (hno : s.has = false → s.nn = 0) (ko : SwKo s C mB bB Mb d L) (hLs : L.length < 4611686018427387904) (N1 i : Nat) (x : Int) (hN1 : N1 ≤ N) (hil : i < L.length) (hx : L[i]? = some x)
    (q1 : (i : Int) < (L.length : Int)) (ad9 : (if i = 0 then (⟨d, o, none⟩ : Addr) else ⟨d, o + i, none⟩) = ⟨d, o + i, none⟩) (htn : tnN N1 ≤ tnN N) (d7 : IntKind.i64.wrap ((i : Int) + 1) = (i : Int) + 1) (e9 : decide ((i : Int) < (L.length : Int)) = true)
    (v4 v5 v9 v10 v11 v12 v13 v14 v15 v16 v17 v18 v19 : Value) (w1 : World) (hF : SwK s C mB bB Mb cap A d o cap2 L w1) (Q : Nat → (swCfg s).U → Exit → Act → World → Prop) :
    CodeV Try.prog (swCfg s) k C 35 cd35 (tnN N + 900) N1 (mkU s.nn (x :: L.drop (i + 1)))
      (ThenV (swCfg s) (fun N' (u' : SU) a' w' => I35 s C mB bB Mb cap A d o cap2 N L N' u' a' w' ∧ u'.todo.length < (mkU s.nn (x :: L.drop (i + 1))).todo.length) Q)
      (act35 s C mB bB A cap2 L.length i v4 v5 v9 v10 v11 v12 v13 v14 v15 v16 v17 v18 v19) w1 := by
  have hFR : ∀ w w₁, RW (swCfg s) C w w₁ → SwK s C mB bB Mb cap A d o cap2 L w → SwK s C mB bB Mb cap A d o cap2 L w₁ := fun w w₁ r h => h.of ko r.live fun g ob hg => hg.keep r
  have hFS : ∀ w w₁, OnlySB (swCfg s) w w₁ → SwK s C mB bB Mb cap A d o cap2 L w → SwK s C mB bB Mb cap A d o cap2 L w₁ := fun w w₁ r h => h.of ko (fun hl => hl.of_same (r.old _ (swOk K).sbWg)) fun g ob hg => hg.keepS r
  have rl9 : ∀ {w w₁ : World}, SwK s C mB bB Mb cap A d o cap2 L w → RW (swCfg s) C w w₁ → SwK s C mB bB Mb cap A d o cap2 L w₁ := fun h r => hFR _ _ r h
  have hP1 : ∀ w, SwK s C mB bB Mb cap A d o cap2 L w → w.cell? ⟨C, 0, none⟩ = some (.slice A L.length cap2) := fun w h => by simp [World.cell?, h.part]
  have hP2 : ∀ w, SwK s C mB bB Mb cap A d o cap2 L w → w.cell? ⟨mB, 0, none⟩ = some (mkV s Mb) := fun w h => by simp [World.cell?, h.mbox]
  have hP3 : ∀ w, SwK s C mB bB Mb cap A d o cap2 L w → w.cell? ⟨bB, 0, none⟩ = some (.pointer (some ⟨s.Bb, 0, none⟩)) := fun w h => by simp [World.cell?, h.bbox]
  have T9 := termsW (swCfg s) C
  have hne : L ≠ [] := fun hn => by rw [hn] at hx; simp at hx
  obtain rfl := hF.at_ hne
  unfold act35
  refine codeV_more (n := tnN N1 + 850) ?_ (by omega)
  rw [show cd35 = _ from (by unfold cd35; simp only [Try.f35, Option.getD_some]; try rfl)]
  (try walk_nrm)
  co_apply codeV_more
  · co_apply codeV_seq
    (co_apply codeV_region; simp only [List.size_toArray, List.length_cons, List.length_nil, Nat.reduceAdd, Nat.zero_add, List.range, List.range.loop])
    (co_apply opsV_cons_k rfl (by rfl); intro _ hR K hK; replace hF := rl9 hF hR; clear hR; go_simp; refine hK _ _ ⟨?_, ?_⟩; (· rw [listed_nil (by simp [go_sem, *])]; exact DW.refl _ _ _); clear hK K; try walk_nrm)
    co_apply opsV_nil
    simp only [ThenV]
    co_apply codeV_seq
    co_apply codeV_cond (t := true)
    focus (exact rfl)
    (try simp only [if_true])
    refine codeV_of (wpC_skip T9 ?_)
    simp only [ThenV]
    co_apply codeV_seq
    co_apply codeV_block
    co_apply codeV_seq
    (co_apply codeV_region; simp only [List.size_toArray, List.length_cons, List.length_nil, Nat.reduceAdd, Nat.zero_add, List.range, List.range.loop])
    (co_apply opsV_cons_k rfl (by rfl); intro _ hR K hK; replace hF := rl9 hF hR; clear hR; go_simp; refine hK _ _ ⟨?_, ?_⟩; (· rw [listed_nil (by simp [go_sem, *])]; exact DW.refl _ _ _); clear hK K; try walk_nrm)
    (co_apply opsV_cons_k rfl (by rfl); intro _ hR K' hK; replace hF := rl9 hF hR; clear hR; have c4 := hF.data i x hx; go_simp; refine hK _ _ ⟨?_, ?_⟩; (· refine dw_read (fun e he => ?_); have hm := mem_listed he; simp [go_sem, *] at hm; subst hm; exact evW_cell (ko.data hne)); clear hK K' c4; try walk_nrm)
    (co_apply opsV_cons_k rfl (by rfl); intro _ hR K hK; replace hF := rl9 hF hR; clear hR; go_simp; refine hK _ _ ⟨?_, ?_⟩; (· rw [listed_nil (by simp [go_sem, *])]; exact DW.refl _ _ _); clear hK K; try walk_nrm)
    co_apply opsV_nil
    simp only [ThenV]
    co_apply codeV_seq
    (co_apply codeV_region; simp only [List.size_toArray, List.length_cons, List.length_nil, Nat.reduceAdd, Nat.zero_add, List.range, List.range.loop])
    (co_apply opsV_cons_k rfl (by rfl); intro _ hR K' hK; replace hF := rl9 hF hR; clear hR; have c1 := hP1 _ hF; have c2 := hP2 _ hF; have c3 := hP3 _ hF; go_simp; refine hK _ _ ⟨?_, ?_⟩; (· refine dw_read (fun e he => ?_); have hm := mem_listed he; simp [go_sem, *] at hm; subst hm; first | exact evW_cell ko.part | exact evW_cell ko.mbox | exact evW_cell ko.bbox); clear hK K' c1 c2 c3; try walk_nrm)
    (co_apply opsV_cons_k rfl (by rfl); intro _ hR K hK; replace hF := rl9 hF hR; clear hR; go_simp; refine hK _ _ ⟨?_, ?_⟩; (· rw [listed_nil (by simp [go_sem, *])]; exact DW.refl _ _ _); clear hK K; try walk_nrm)
    co_apply opsV_call rfl (by rfl) rfl
    · walk_nrm
      exact claim14_V hFR hFS K hno (fun w h => h.row) ko.row _ hF
    rintro N2 u2 v w2 ⟨hN2, hF2, b, rfl, rfl⟩
    clear hF
    have hF := hF2
    clear hF2
    walk_nrm
    co_apply opsV_nil
    simp only [ThenV]
    refine codeV_more (n := 450) ?_ (Nat.le_refl _)
    have hbb : b = true ∨ b = false := by cases b <;> simp
    rcases hbb with rfl | rfl
    · co_apply codeV_more
      · co_apply codeV_cond (t := true)
        focus (exact rfl)
        (try simp only [Bool.false_eq_true, if_false, if_true])
        (co_apply codeV_region; simp only [List.size_toArray, List.length_cons, List.length_nil, Nat.reduceAdd, Nat.zero_add, List.range, List.range.loop])
        (co_apply opsV_cons_k rfl (by rfl); intro _ hR K' hK; replace hF := rl9 hF hR; clear hR; have c1 := hP1 _ hF; have c2 := hP2 _ hF; have c3 := hP3 _ hF; go_simp; refine hK _ _ ⟨?_, ?_⟩; (· refine dw_read (fun e he => ?_); have hm := mem_listed he; simp [go_sem, *] at hm; subst hm; first | exact evW_cell ko.part | exact evW_cell ko.mbox | exact evW_cell ko.bbox); clear hK K' c1 c2 c3; try walk_nrm)
        co_apply opsV_call rfl (by rfl) rfl
        · walk_nrm
          exact add9_V (b := true) (x := x) (r := L.drop (i + 1)) hFR hFS K _ hF
        rintro N3 u3 v w3 ⟨hN3, hF3, rfl, z, rfl⟩
        clear hF
        have hF := hF3
        clear hF3
        walk_nrm
        co_apply opsV_nil
        simp only [InBlockV, Exit.inBlock, ThenV]
        (co_apply codeV_region; simp only [List.size_toArray, List.length_cons, List.length_nil, Nat.reduceAdd, Nat.zero_add, List.range, List.range.loop])
        (co_apply opsV_cons_k rfl (by rfl); intro _ hR K hK; replace hF := rl9 hF hR; clear hR; go_simp; refine hK _ _ ⟨?_, ?_⟩; (· rw [listed_nil (by simp [go_sem, *])]; exact DW.refl _ _ _); clear hK K; try walk_nrm)
        (co_apply opsV_cons_k rfl (by rfl); intro _ hR K hK; replace hF := rl9 hF hR; clear hR; go_simp; refine hK _ _ ⟨?_, ?_⟩; (· rw [listed_nil (by simp [go_sem, *])]; exact DW.refl _ _ _); clear hK K; try walk_nrm)
        co_apply opsV_nil
        simp only [ThenV]
        refine ⟨⟨by omega, hF, i + 1, by omega, rfl, _, _, _, _, _, _, _, _, _, _, _, _, _, rfl⟩, ?_⟩
        rw [todo_mkU, todo_mkU]
        simp
      · decide
    · co_apply codeV_more
      · co_apply codeV_cond (t := false)
        focus (exact rfl)
        (try simp only [Bool.false_eq_true, if_false, if_true])
        (co_apply codeV_region; simp only [List.size_toArray, List.length_cons, List.length_nil, Nat.reduceAdd, Nat.zero_add, List.range, List.range.loop])
        (co_apply opsV_cons_k rfl (by rfl); intro _ hR K' hK; replace hF := rl9 hF hR; clear hR; have c1 := hP1 _ hF; have c2 := hP2 _ hF; have c3 := hP3 _ hF; go_simp; refine hK _ _ ⟨?_, ?_⟩; (· refine dw_read (fun e he => ?_); have hm := mem_listed he; simp [go_sem, *] at hm; subst hm; first | exact evW_cell ko.part | exact evW_cell ko.mbox | exact evW_cell ko.bbox); clear hK K' c1 c2 c3; try walk_nrm)
        co_apply opsV_call rfl (by rfl) rfl
        · walk_nrm
          exact add9_V (b := false) (x := x) (r := L.drop (i + 1)) hFR hFS K _ hF
        rintro N3 u3 v w3 ⟨hN3, hF3, rfl, z, rfl⟩
        clear hF
        have hF := hF3
        clear hF3
        walk_nrm
        co_apply opsV_nil
        simp only [InBlockV, Exit.inBlock, ThenV]
        (co_apply codeV_region; simp only [List.size_toArray, List.length_cons, List.length_nil, Nat.reduceAdd, Nat.zero_add, List.range, List.range.loop])
        (co_apply opsV_cons_k rfl (by rfl); intro _ hR K hK; replace hF := rl9 hF hR; clear hR; go_simp; refine hK _ _ ⟨?_, ?_⟩; (· rw [listed_nil (by simp [go_sem, *])]; exact DW.refl _ _ _); clear hK K; try walk_nrm)
        (co_apply opsV_cons_k rfl (by rfl); intro _ hR K hK; replace hF := rl9 hF hR; clear hR; go_simp; refine hK _ _ ⟨?_, ?_⟩; (· rw [listed_nil (by simp [go_sem, *])]; exact DW.refl _ _ _); clear hK K; try walk_nrm)
        co_apply opsV_nil
        simp only [ThenV]
        refine ⟨⟨by omega, hF, i + 1, by omega, rfl, _, _, _, _, _, _, _, _, _, _, _, _, _, rfl⟩, ?_⟩
        rw [todo_mkU, todo_mkU]
        simp
      · decide
  · omega
theorem body35_V {s : SwP} {k C mB bB Mb cap d o cap2 N : Nat} {A : Option Addr} {L : List Int} (K : s.Ok) (hno : s.has = false → s.nn = 0) (ko : SwKo s C mB bB Mb d L) (hLs : L.length < 4611686018427387904) (w : World) (hF : SwK s C mB bB Mb cap A d o cap2 L w) :
    CodeV Try.prog (swCfg s) k C 35 (Try.f35.body.getD .skip) (bN N L.length) N (mkU s.nn L) (Q35 s C mB bB Mb cap A d o cap2 L)
      ⟨#[.pointer (some ⟨s.Wg, 0, none⟩), .pointer (some ⟨C, 0, none⟩), .pointer (some ⟨mB, 0, none⟩), .pointer (some ⟨bB, 0, none⟩)] ++ Array.replicate 16 undef, []⟩ w := by
  have hFR : ∀ w w₁, RW (swCfg s) C w w₁ → SwK s C mB bB Mb cap A d o cap2 L w → SwK s C mB bB Mb cap A d o cap2 L w₁ := fun w w₁ r h => h.of ko r.live fun g ob hg => hg.keep r
  have hFS : ∀ w w₁, OnlySB (swCfg s) w w₁ → SwK s C mB bB Mb cap A d o cap2 L w → SwK s C mB bB Mb cap A d o cap2 L w₁ := fun w w₁ r h => h.of ko (fun hl => hl.of_same (r.old _ (swOk K).sbWg)) fun g ob hg => hg.keepS r
  have rl9 : ∀ {w w₁ : World}, SwK s C mB bB Mb cap A d o cap2 L w → RW (swCfg s) C w w₁ → SwK s C mB bB Mb cap A d o cap2 L w₁ := fun h r => hFR _ _ r h
  have hP1 : ∀ w, SwK s C mB bB Mb cap A d o cap2 L w → w.cell? ⟨C, 0, none⟩ = some (.slice A L.length cap2) := fun w h => by simp [World.cell?, h.part]
  have hP2 : ∀ w, SwK s C mB bB Mb cap A d o cap2 L w → w.cell? ⟨mB, 0, none⟩ = some (mkV s Mb) := fun w h => by simp [World.cell?, h.mbox]
  have hP3 : ∀ w, SwK s C mB bB Mb cap A d o cap2 L w → w.cell? ⟨bB, 0, none⟩ = some (.pointer (some ⟨s.Bb, 0, none⟩)) := fun w h => by simp [World.cell?, h.bbox]
  have T9 := termsW (swCfg s) C
  have hR := fun N1 i x hN1 hil hx q1 ad9 htn d7 e9 v4 v5 v9 v10 v11 v12 v13 v14 v15 v16 v17 v18 v19 w1 hF Q => round35_V (k := k) (N := N) (cap2 := cap2) (cap := cap) (o := o) (A := A) K hno ko hLs N1 i x hN1 hil hx q1 ad9 htn d7 e9 v4 v5 v9 v10 v11 v12 v13 v14 v15 v16 v17 v18 v19 w1 hF Q
  co_apply codeV_more
  · simp only [Try.f35, Option.getD_some]
    walk_nrm
    co_apply codeV_seq
    (co_apply codeV_region; simp only [List.size_toArray, List.length_cons, List.length_nil, Nat.reduceAdd, Nat.zero_add, List.range, List.range.loop])
    co_apply opsV_defer rfl (by rfl) rfl
    walk_nrm
    co_apply opsV_nil
    simp only [ThenV]
    co_apply codeV_seq
    (co_apply codeV_region; simp only [List.size_toArray, List.length_cons, List.length_nil, Nat.reduceAdd, Nat.zero_add, List.range, List.range.loop])
    (co_apply opsV_cons_k rfl (by rfl); intro _ hR K' hK; replace hF := rl9 hF hR; clear hR; have c1 := hP1 _ hF; have c2 := hP2 _ hF; have c3 := hP3 _ hF; go_simp; refine hK _ _ ⟨?_, ?_⟩; (· refine dw_read (fun e he => ?_); have hm := mem_listed he; simp [go_sem, *] at hm; subst hm; first | exact evW_cell ko.part | exact evW_cell ko.mbox | exact evW_cell ko.bbox); clear hK K' c1 c2 c3; try walk_nrm)
    (co_apply opsV_cons_k rfl (by rfl); intro _ hR K hK; replace hF := rl9 hF hR; clear hR; go_simp; refine hK _ _ ⟨?_, ?_⟩; (· rw [listed_nil (by simp [go_sem, *])]; exact DW.refl _ _ _); clear hK K; try walk_nrm)
    (co_apply opsV_cons_k rfl (by rfl); intro _ hR K hK; replace hF := rl9 hF hR; clear hR; go_simp; refine hK _ _ ⟨?_, ?_⟩; (· rw [listed_nil (by simp [go_sem, *])]; exact DW.refl _ _ _); clear hK K; try walk_nrm)
    co_apply opsV_nil
    simp only [ThenV]
    co_apply codeV_block
    co_apply codeV_loop (I := I35 s C mB bB Mb cap A d o cap2 N L) (μ := fun _ (u' : SU) _ _ => u'.todo.length) (r := tnN N + 900) (M := L.length)
    · exact ⟨Nat.le_refl _, hF, 0, Nat.zero_le _, rfl, _, _, _, _, _, _, _, _, _, _, _, _, _, rfl⟩
    · exact Nat.le_of_eq (by rw [todo_mkU])
    · clear hF
      rintro N1 u1 a1 w1 ⟨hN1, hF, i, hi, rfl, v4, v5, v9, v10, v11, v12, v13, v14, v15, v16, v17, v18, v19, rfl⟩
      by_cases hil : i < L.length
      · obtain ⟨x, hx⟩ : ∃ x, L[i]? = some x := ⟨_, List.getElem?_eq_getElem hil⟩
        have hdr : L.drop i = x :: L.drop (i + 1) := by
          rw [List.drop_eq_getElem_cons hil]
          have := List.getElem?_eq_getElem hil
          rw [hx] at this
          rw [← Option.some.inj this]
        rw [hdr]
        exact hR N1 i x hN1 hil hx (by omega) (by
          by_cases h : i = 0
          · subst h; rfl
          · exact if_neg h) (by unfold tnN; omega) (by rw [IntKind.wrap_i64]; omega) (decide_eq_true (by omega)) _ _ _ _ _ _ _ _ _ _ _ _ _ w1 hF _
      · have e9 : decide ((i : Int) < (L.length : Int)) = false := decide_eq_false (by omega)
        have hdr : L.drop i = [] := List.drop_eq_nil_of_le (by omega)
        rw [hdr]
        unfold act35
        refine codeV_more (n := 60) ?_ (by omega)
        co_apply codeV_more
        · co_apply codeV_seq
          (co_apply codeV_region; simp only [List.size_toArray, List.length_cons, List.length_nil, Nat.reduceAdd, Nat.zero_add, List.range, List.range.loop])
          (co_apply opsV_cons_k rfl (by rfl); intro _ hR K hK; replace hF := rl9 hF hR; clear hR; go_simp; refine hK _ _ ⟨?_, ?_⟩; (· rw [listed_nil (by simp [go_sem, *])]; exact DW.refl _ _ _); clear hK K; try walk_nrm)
          co_apply opsV_nil
          simp only [ThenV]
          co_apply codeV_seq (n₂ := 0)
          co_apply codeV_cond (t := false)
          focus (exact rfl)
          (try simp only [Bool.false_eq_true, if_false])
          refine codeV_of (wpC_exit T9 ?_)
          simp only [ThenV, InBlockV, Exit.inBlock, if_true]
          refine ⟨?_, ?_, hF, ?_⟩ <;> first | trivial | rfl | exact .inl rfl | simp [mkU]
        · decide
  · unfold bN
    have := Nat.mul_le_mul_left (L.length + 1) (show tnN N + 900 + 1 ≤ tnN N + 1000 by omega)
    omega
end Go.Proofs.Ytkcknoodcgmndaa

end
section
/- A sweep's worker from its birth to the group's Done: as the phase asks. -/
namespace Go.Proofs.Ytkcknoodcgmndaa
open Go.Conc Go.RowKit Go.Conc.Lib Go.ConcR.Gen
open Go.ConcN (WgLive Has)
open Go.ConcN.Gen (doneN)
open Go.ConcR (WgAt stA)
set_option linter.unusedVariables false
set_option linter.unusedSimpArgs false
set_option maxRecDepth 100000
set_option maxHeartbeats 4000000
def b35 : Frame := baseD 35
noncomputable def bot35 : Frame := { (default : Frame) with fn := (Program.funcs Try.prog).size, defers := [], mode := .panicking [goexitEntry] }
def call35 (Wg C mB bB : Nat) : Deferred := { target := .fn (.func 35) #[.pointer (some ⟨Wg, 0, none⟩), .pointer (some ⟨C, 0, none⟩), .pointer (some ⟨mB, 0, none⟩), .pointer (some ⟨bB, 0, none⟩)], args := #[] }
/-- Done has left: the literal leaves. -/
theorem quits35 (T : Array Value) (todo : List Item) : QuitsD Try.prog 2 0 (G { b35.at ⟨T, []⟩ todo with mode := .returning } [bot35]) := by
  refine QuitsD.ctl (g' := G bot35 []) rfl (fun w => ?_) ?_
  · simp [G, stepG, unwind, doReturn, results, Frame.at, b35, baseD, bot35, Try.func35, Try.f35, seen, GStep.after, goexitEntry]
  refine QuitsD.ctl (g' := { G bot35 [] with status := .finished }) rfl (fun w => ?_) ⟨rfl, rfl⟩
  simp [G, stepG, unwind, bot35, goexitEntry, Frame.catches]
  rfl
theorem born35_step (Wg C mB bB : Nat) (w : World) : stepG Try.prog false (born Try.prog (call35 Wg C mB bB)) w =
    .go (G (b35.at ⟨#[.pointer (some ⟨Wg, 0, none⟩), .pointer (some ⟨C, 0, none⟩), .pointer (some ⟨mB, 0, none⟩), .pointer (some ⟨bB, 0, none⟩)] ++ Array.replicate 16 undef, []⟩ [.code (Try.f35.body.getD .skip)]) [bot35]) w #[] := by
  simp [born, call35, stepG, unwind, callDeferred, invoke, callFunc, Try.func35, Try.f35, seen, GStep.after, G, Frame.enter, Frame.at, b35, baseD, bot35]
theorem done35 {s : SwP} {C mB bB Mb cap d o cap2 : Nat} {A : Option Addr} {L : List Int} {T : Array Value} {todo : List Item} {w : World} (hF : SwK s C mB bB Mb cap A d o cap2 L w) :
    DoneW Try.prog (swCfg s) C (G ((baseD lnk.done).at ⟨#[.pointer (some ⟨s.Wg, 0, none⟩), undef, undef, undef], []⟩ [.code (body_done lnk)]) [{ b35.at ⟨T, []⟩ todo with mode := .returning }, bot35]) w := by
  have hH : Has C 0 (.slice A L.length cap2) w := by simp [Has, World.cell?, hF.part]
  exact ⟨23, _, doneN wgLib (Own := E0) (Rd := E0) (Wg := s.Wg) (C := C) (n := 1) (Low := 0) (k := 1) (qt := 2) rfl (quits35 T todo) w ⟨hF.live, hH⟩⟩
theorem run35 {s : SwP} {k C mB bB Mb cap d o cap2 : Nat} {A : Option Addr} {L : List Int} (K : s.Ok) (hno : s.has = false → s.nn = 0) (ko : SwKo s C mB bB Mb d L) (hLs : L.length < 4611686018427387904) (w : World) (hF : SwK s C mB bB Mb cap A d o cap2 L w) :
    ∀ N, RunU Try.prog (swCfg s) k C N (mkU s.nn L) (born Try.prog (call35 s.Wg C mB bB)) w := by
  have rl : ∀ {w w₁ : World}, SwK s C mB bB Mb cap A d o cap2 L w → RW (swCfg s) C w w₁ → SwK s C mB bB Mb cap A d o cap2 L w₁ := fun h r => h.of ko r.live fun g ob hg => hg.keep r
  intro N
  cases N with
  | zero => trivial
  | succ N =>
    have hB := body35_V (k := k) (N := N) (cap2 := cap2) (cap := cap) (o := o) (A := A) K hno ko hLs
    have ret : ∀ (N' : Nat) (u' : SU) (a' : Act) (w' : World) (todo : List Item), u'.todo = [] → SwK s C mB bB Mb cap A d o cap2 L w' → a'.defers = [dcall 36 #[.pointer (some ⟨s.Wg, 0, none⟩)]] →
        GV Try.prog (swCfg s) k C N' u' 3 (G { b35.at a' todo with mode := .returning } [bot35]) w' := by
      intro N' u' a' w' todo ht hK hd
      refine Goes.step rfl fun w₁ h₁ => ?_
      replace hK := rl hK h₁
      clear h₁
      rw [stepG_unwind_enter hd Try.func36 (by kernel_rfl) rfl]
      refine ⟨DW.refl _ _ _, Goes.stop fun w₂ h₂ => .inl ⟨ht, rfl, ?_⟩⟩
      exact done35 (rl hK h₂)
    refine ⟨4 + bN N L.length + 1, Goes.step rfl fun w₁ h₁ => ?_⟩
    rw [born35_step]
    refine ⟨DW.refl _ _ _, ?_⟩
    refine hB w₁ (rl hF h₁) b35 [] [bot35] 4 rfl (by simp [b35, baseD]) ?_
    rintro N' u' e a' w' ⟨he, ht, hK, hd⟩
    rcases he with rfl | rfl
    · refine Goes.step rfl fun w₂ h₂ => ?_
      rw [stepG_end]
      exact ⟨DW.refl _ _ _, (ret N' u' a' w' [] ht hK hd).rely h₂⟩
    · exact fun todo => (ret N' u' a' w' todo ht hK hd).mono (by omega)
end Go.Proofs.Ytkcknoodcgmndaa

end
section
/- The starter's idle steps. -/
namespace Go.Proofs.Ytkcknoodcgmndaa
open Go.Conc Go.RowKit Go.Conc.Lib Go.ConcR.Gen
open Go.ConcN (st_flag st_waiters)
open Go.ConcN.Gen (WgLive.cell0 WgLive.cell1)
open Go.ConcR (KK wgBlock WgAt stA smA rd wr mk Payload)
set_option linter.unusedVariables false
set_option linter.unusedSimpArgs false
set_option linter.unusedSectionVars false
variable [Payload] {L : WgLink}

theorem D0.refl (c : Cfg) (lw : Nat) (w : World) : D0 c lw w w #[] := ⟨.refl w, Nat.le_refl _, fun _ _ _ => rfl, fun _ h => h, by simp⟩
theorem d0_none {c : Cfg} {lw : Nat} {w : World} {es : Array Event} (h : ∀ e ∈ es, False) : D0 c lw w w es := ⟨.refl w, Nat.le_refl _, fun _ _ _ => rfl, fun _ h => h, fun e he => (h e he).elim⟩
theorem d0_said {c : Cfg} (K : c.Ok) {lw : Nat} {w : World} {m : Mark} (a : Addr) (ha : a.block = c.Wg) (hm : m = .read a ∨ m = .write a) : D0 c lw w w #[⟨.mark m, false, true⟩] := by
  refine ⟨.refl w, Nat.le_refl _, fun _ _ _ => rfl, fun _ h => h, fun e he => ?_⟩
  rw [Array.mem_singleton] at he
  subst he
  refine ⟨fun x hx _ => ?_, ?_⟩
  · rcases hm with rfl | rfl <;> simp only [MemAct.ofEvent, MemAct.touch?, Option.some.injEq] at hx <;> subst hx <;> exact .inl ⟨K.shWg a ha, by simp⟩
  · rcases hm with rfl | rfl <;> exact ⟨by simp, by simp, by simp⟩
end Go.Proofs.Ytkcknoodcgmndaa

end
