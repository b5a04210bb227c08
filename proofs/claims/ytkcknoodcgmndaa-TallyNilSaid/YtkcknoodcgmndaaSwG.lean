/- What a sweep's worker knows of the memory; a deferred call. -/
import Derived.Test.YtkcknoodcgmndaaSwF
import Derived.Conc.DeferLaws
namespace Go.Proofs.Ytkcknoodcgmndaa
open Go.Conc Go.RowKit
open Go.ConcR (WgAt stA)
set_option linter.unusedVariables false
set_option linter.unusedSimpArgs false
set_option maxRecDepth 100000
set_option maxHeartbeats 4000000


theorem opsV_defer {P : Program} {c : Cfg} {k C : Nat} {fn : FuncId} {N : Nat} {u : c.U} {Q : Nat → c.U → Exit → Act → World → Prop} {a : Act} {w : World} {ops : Array Oper} {i : Nat} {rest : List Nat} {o : Oper} {n : Nat} {f : FuncId} {as' : Array Operand} {ats : Array TypeId} (ho : ops[i]? = some o) (hw : Region.wanted o (yielded ops a.tmps) = true)
    (hop : o.op = .defer { callee := .value (.func f), args := as', argTypes := ats }) (h : OpsV P c k C fn ops rest n N u Q (Act.put ⟨a.tmps, dcall f (as'.map a.eval) :: a.defers⟩ o.dst undef) w) : OpsV P c k C fn ops (i :: rest) (n + 1) N u Q a w :=
  fun b kk cs m hb hk hc => Goes.step rfl fun w₁ h₁ => by rw [stepG_defer ho hw hk hop]; exact ⟨(termsW c C).idle _, (h b kk cs m hb hk hc).rely h₁⟩
/-- what a worker knows of the memory -/
structure SwK (s : SwP) (C mB bB Mb cap : Nat) (A : Option Addr) (d o cap2 : Nat) (L : List Int) (w : World) : Prop where
  part : w.heap[C]? = some (.cells #[.slice A L.length cap2] 33)
  at_ : L ≠ [] → A = some ⟨d, o, none⟩
  mbox : w.heap[mB]? = some (.cells #[mkV s Mb] 35)
  bbox : w.heap[bB]? = some (.cells #[.pointer (some ⟨s.Bb, 0, none⟩)] 23)
  row : s.has = true → w.heap[Mb]? = some (.cells #[.int .i64 s.nn, .slice (some ⟨s.Wb, 0, none⟩) s.σ0.ws.length cap] 74)
  data : ∀ q x, L[q]? = some x → w.cell? ⟨d, o + q, none⟩ = some (.int .i64 x)
  live : Live 81 s.Wg w
structure SwKo (s : SwP) (C mB bB Mb d : Nat) (L : List Int) : Prop where
  part : RdOk s C C
  mbox : RdOk s C mB
  bbox : RdOk s C bB
  row : s.has = true → RdOk s C Mb
  data : L ≠ [] → RdOk s C d
theorem cell_same {w w₁ : World} {g : Nat} (h : w₁.heap[g]? = w.heap[g]?) (i : Nat) : w₁.cell? ⟨g, i, none⟩ = w.cell? ⟨g, i, none⟩ := by simp [World.cell?, h]
theorem cell_some {w : World} {g i : Nat} {v : Value} (h : w.cell? ⟨g, i, none⟩ = some v) : ∃ o, w.heap[g]? = some o := by
  cases e : w.heap[g]? with
  | none => simp [World.cell?, e] at h
  | some o => exact ⟨o, rfl⟩
theorem SwK.of {s : SwP} {C mB bB Mb cap d o cap2 : Nat} {A : Option Addr} {L : List Int} {w w₁ : World} (h : SwK s C mB bB Mb cap A d o cap2 L w) (k : SwKo s C mB bB Mb d L) (hl : Live 81 s.Wg w → Live 81 s.Wg w₁) (e : ∀ g ob, RdOk s C g → w.heap[g]? = some ob → w₁.heap[g]? = some ob) : SwK s C mB bB Mb cap A d o cap2 L w₁ := by
  refine ⟨e _ _ k.part h.part, h.at_, e _ _ k.mbox h.mbox, e _ _ k.bbox h.bbox, fun hh => e _ _ (k.row hh) (h.row hh), fun q x hx => ?_, hl h.live⟩
  have h1 := h.data q x hx
  obtain ⟨ob, hob⟩ := cell_some h1
  have h2 := e _ _ (k.data (fun hn => by rw [hn] at hx; simp at hx)) hob
  rw [cell_same (h2.trans hob.symm)]
  exact h1
end Go.Proofs.Ytkcknoodcgmndaa
