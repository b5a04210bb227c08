/- A slice of rows that came in, as cells. -/
import Derived.Test.YtcmaekkfeilclaaSesB
import Derived.Test.YtcmaekkfeilclaaMemS
import Derived.OpenShut
import Derived.ProofKit
set_option linter.unusedVariables false
namespace Go.Proofs.Ytcmaekkfeilclaa
open Go.ChangeShapes Go.WideShapes Go.RowKit Go.Deep

def RowCells (w : World) (b o : Nat) (r : Rw) : Prop :=
  w.cell? ⟨b, o, none⟩ = some (.int .i64 r.c) ∧ w.cell? ⟨b, o + 1, none⟩ = some (.int .u64 r.n) ∧ w.cell? ⟨b, o + 2, none⟩ = some (.int .u64 r.s) ∧
    w.cell? ⟨b, o + 3, none⟩ = some (.int .i64 r.k) ∧ w.cell? ⟨b, o + 4, none⟩ = some (.int .u64 r.v)
def Rw.wf (r : Rw) : Prop := (-9223372036854775808 ≤ r.c ∧ r.c ≤ 9223372036854775807) ∧ (0 ≤ r.n ∧ r.n ≤ 18446744073709551615) ∧ (0 ≤ r.s ∧ r.s ≤ 18446744073709551615) ∧
  (-9223372036854775808 ≤ r.k ∧ r.k ≤ 9223372036854775807) ∧ (0 ≤ r.v ∧ r.v ≤ 18446744073709551615)
def RdRows (w : World) (B : Nat) (A : Option Addr) (n : Nat) (rs : Nat → Rw) : Prop :=
  0 < n → ∃ b off, A = some ⟨b, off, none⟩ ∧ b < B ∧ ∀ k, k < n → RowCells w b (off + k * 5) (rs k)
theorem RowCells.keep {w w' : World} {b o : Nat} {r : Rw} (h : RowCells w b o r) (hk : ∀ p : Addr, p.block = b → w'.cell? p = w.cell? p) : RowCells w' b o r := by
  unfold RowCells at *
  rw [hk _ rfl, hk _ rfl, hk _ rfl, hk _ rfl, hk _ rfl]
  exact h
theorem RdRows.below {w w' : World} {B : Nat} {A : Option Addr} {n : Nat} {rs : Nat → Rw} (h : RdRows w B A n rs) (hb : Below B w w') : RdRows w' B A n rs := fun hn => by
  obtain ⟨b, off, hA, hlt, hr⟩ := h hn
  exact ⟨b, off, hA, hlt, fun k hk => (hr k hk).keep fun p hp => hb.cell (by omega)⟩

theorem sesOpen_rows {H : Type} {enc : TypeId × Value → H} {W : World} {base : Nat} {v : Value} {d : DataW H} {p : List MemPlace}
    (hv : Value.okWide Try.prog W .any base 22 v) (h : DataW.Trod enc Try.prog W 0 (fun _ => true) true 22 v d p) :
    ∃ (A : Option Addr) (len cap : Nat) (rs : Nat → Rw), v = .slice A len cap ∧ len ≤ cap ∧ cap ≤ maxLen ∧ RdRows W W.heap.size A len rs ∧ ∀ k, k < len → (rs k).wf := by
  obtain ⟨a0, len0, cap0, rfl⟩ := okWide_slice Try.underlying22 hv
  obtain ⟨fuel, hf⟩ := h
  rcases open_slice_fields Try.underlying22 Try.underlying31 (by kernel_rfl) (by kernel_rfl) hf with ⟨hcs, _⟩ | ⟨a, len, cap, m, D, Pl, hcs, hb, hl, hm, hmm, hx, hi⟩
  · simp [Value.cells] at hcs
    obtain ⟨rfl, rfl, rfl⟩ := hcs
    exact ⟨none, 0, 0, fun _ => Rw.zero, rfl, Nat.le_refl _, by decide, fun h => absurd h (by omega), fun k hk => absurd hk (by omega)⟩
  · simp [Value.cells] at hcs
    obtain ⟨rfl, rfl, rfl⟩ := hcs
    simp only [if_true] at hmm
    subst hmm
    have key : ∀ k, k < len0 → ∃ r : Rw, r.wf ∧ W.cell? (a.add (k * 5 + 0)) = some (.int .i64 r.c) ∧ W.cell? (a.add (k * 5 + 1)) = some (.int .u64 r.n) ∧ W.cell? (a.add (k * 5 + 2)) = some (.int .u64 r.s) ∧
        W.cell? (a.add (k * 5 + 3)) = some (.int .i64 r.k) ∧ W.cell? (a.add (k * 5 + 4)) = some (.int .u64 r.v) := by
      intro k hk
      obtain ⟨ys, n, _, _, hyl, hfld⟩ := hi k (by omega)
      obtain ⟨v0, y0, c0, _, t0⟩ := hfld 0 _ rfl
      obtain ⟨v1, y1, c1, _, t1⟩ := hfld 1 _ rfl
      obtain ⟨v2, y2, c2, _, t2⟩ := hfld 2 _ rfl
      obtain ⟨v3, y3, c3, _, t3⟩ := hfld 3 _ rfl
      obtain ⟨v4, y4, c4, _, t4⟩ := hfld 4 _ rfl
      obtain ⟨z0, e0, _, w0⟩ := DataW.trod_int Try.underlying3 t0
      obtain ⟨z1, e1, _, w1⟩ := DataW.trod_int Try.underlying25 t1
      obtain ⟨z2, e2, _, w2⟩ := DataW.trod_int Try.underlying25 t2
      obtain ⟨z3, e3, _, w3⟩ := DataW.trod_int Try.underlying26 t3
      obtain ⟨z4, e4, _, w4⟩ := DataW.trod_int Try.underlying25 t4
      simp at e0 e1 e2 e3 e4
      subst e0 e1 e2 e3 e4
      exact ⟨⟨z0, z1, z2, z3, z4⟩, ⟨bounds_i64 w0, bounds_u64 w1, bounds_u64 w2, bounds_i64 w3, bounds_u64 w4⟩, c0, c1, c2, c3, c4⟩
    refine ⟨some a, len0, _, fun k => if h : k < len0 then (key k h).choose else Rw.zero, rfl, hl, hm, fun hn => ?_, fun k hk => ?_⟩
    · obtain ⟨b, off, spot⟩ := a
      have hspot : spot = none := by
        have := World.cell?_spot (key 0 hn).choose_spec.2.1
        simpa [Addr.add] using this
      subst hspot
      have hlt : b < W.heap.size := World.block_lt_of_cell? W _ (by have := (key 0 hn).choose_spec.2.1; simpa [Addr.add] using this)
      refine ⟨b, off, rfl, hlt, fun k hk => ?_⟩
      have hs := (key k hk).choose_spec.2
      simp only [dif_pos hk]
      generalize (key k hk).choose = r at *
      simp only [Go.WideShapes.add_plain, Nat.add_zero, ← Nat.add_assoc] at hs
      exact hs
    · simp only [dif_pos hk]
      exact (key k hk).choose_spec.1

end Go.Proofs.Ytcmaekkfeilclaa
