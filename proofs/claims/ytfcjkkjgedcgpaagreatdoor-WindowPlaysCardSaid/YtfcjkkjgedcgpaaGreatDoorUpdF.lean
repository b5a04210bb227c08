/- Fits, Copy, Batch by contract; far, awake. -/
import Derived.Test.YtfcjkkjgedcgpaaGreatDoorUpdE
namespace Go.Proofs.YtfcjkkjgedcgpaaGreatDoor
open Go.RowKit
set_option linter.unusedSimpArgs false
set_option linter.unusedVariables false
set_option maxHeartbeats 4000000
attribute [local go_sem] Up.agg Up.cells

/-- what a pick has handed back: an owned row of updates -/
structure Picked (w : World) (r : List Up) (v : Value) (o : List Up) (W : World) : Prop where
  own : W.ownsRow w.heap.size 29 7 v o.length (o.flatMap Up.row)
  dat : ∀ u ∈ o, UpOwn W w.heap.size u
  val : o.map Up.val = r.map Up.val
  bel : Below w.heap.size w W
theorem Picked.of {σ : Type} {J : σ → World → Prop} {S : Nat → Prop} {s : σ} {r : List Up} {w w0 : World} {v : Value} {o : List Up} {W : World} (h : PickAt J S s r w v o W) (hb : Below w0.heap.size w0 w) (hS : ∀ k, S k → w0.heap.size ≤ k) : Picked w0 r v o W :=
  ⟨own_mono h.own hb.size, fun u hu => ⟨own_mono (h.dat u hu).1 hb.size, (h.dat u hu).2⟩, h.val, hb.trans (h.chg.below hb.size (fun k hk hs => by have := hS k hs; omega))⟩
theorem Picked.ups {w : World} {r : List Up} {v : Value} {o : List Up} {W : World} (h : Picked w r v o W) : ∃ A c, v = .slice A o.length c ∧ UpsIn W W.heap.size A o.length o ∧ o.length ≤ c ∧ c ≤ maxLen := by
  obtain ⟨A, c, hv, hr, hc, hm⟩ := own_slice h.own
  exact ⟨A, c, hv, ⟨hr, fun u hu => (h.dat u hu).in_⟩, hc, hm⟩
theorem Picked.len {w : World} {r : List Up} {v : Value} {o : List Up} {W : World} (h : Picked w r v o W) : o.length = r.length := by
  have := congrArg List.length h.val
  simpa using this

def farP (n : Nat) (l : List Up) : Prop := (∃ u ∈ l, 2100 < u.n) ∨ 40 < n
noncomputable def farB (n : Nat) (l : List Up) : Bool := @decide (farP n l) (Classical.propDecidable _)
theorem farB_no {n : Nat} {l : List Up} (h : farB n l = false) : n ≤ 40 ∧ ∀ u ∈ l, u.n ≤ 2100 := by
  have h' : ¬ farP n l := by simpa [farB] using h
  refine ⟨?_, fun u hu => ?_⟩
  · rcases Nat.lt_or_ge 40 n with h1 | h1
    · exact absurd (.inr h1) h'
    · exact h1
  · rcases Nat.lt_or_ge 2100 u.n with h1 | h1
    · exact absurd (.inl ⟨u, hu, h1⟩) h'
    · exact h1
def upK (k v : Int) : Up := ⟨0, 0, 0, k, 0, v, none, 0, 0, []⟩
end Go.Proofs.YtfcjkkjgedcgpaaGreatDoor
