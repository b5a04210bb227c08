/- Seat 05: what lies below stands, but one block; the clock may have passed. -/
import Derived.Test.YtinghnaigpenkaaZLwE
import Derived.Test.YtinghnaigpenkaaZAlE
namespace Go.Proofs.Ytinghnaigpenkaa
open Go.Conc Go.RowKit Go.ConcR.Gen
set_option linter.unusedVariables false
structure BelO (s g : Nat) (w w' : World) : Prop where
  env : Env w w'
  size : w.heap.size ≤ w'.heap.size
  block : ∀ k, k < s → k ≠ g → w'.heap[k]? = w.heap[k]?
theorem BelO.of_below {s g : Nat} {w w' : World} (h : Below s w w') : BelO s g w w' := ⟨⟨h.tape, by rw [h.os]; exact .refl _, h.output⟩, h.size, fun k hk _ => h.block k hk⟩
theorem BelO.trans {s s' g : Nat} {a b c : World} (h : BelO s g a b) (k : BelO s' g b c) (hs : s ≤ s') : BelO s g a c := ⟨h.env.trans k.env, Nat.le_trans h.size k.size, fun i hi hn => (k.block i (by omega) hn).trans (h.block i hi hn)⟩
theorem BelO.at {s g : Nat} {a b c : World} (h : BelO s g a b) (k : AtRel b c) : BelO s g a c := by
  obtain ⟨q, rfl⟩ := k
  exact ⟨h.env.trans (env_at b q), h.size, h.block⟩
end Go.Proofs.Ytinghnaigpenkaa
