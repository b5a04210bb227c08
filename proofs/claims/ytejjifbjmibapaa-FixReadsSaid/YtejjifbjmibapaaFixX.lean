/- What is asked, opened. -/
import Derived.Test.YtejjifbjmibapaaFixW
import Derived.Test.YtejjifbjmibapaaFixS

namespace Go.Proofs.Ytejjifbjmibapaa
open Go.ChangeShapes Go.WideShapes Go.RowKit Go.Deep
set_option linter.unusedSimpArgs false
set_option linter.unusedVariables false
set_option maxHeartbeats 1000000

structure Ak where
  kd : Int
  wd : Int
  most : Nat
def Ak.zero : Ak := ⟨0, 0, 0⟩
def AkCells (w : World) (b o : Nat) (x : Ak) : Prop :=
  w.cell? ⟨b, o, none⟩ = some (.int .i64 x.kd) ∧ w.cell? ⟨b, o + 1, none⟩ = some (.int .i64 x.wd) ∧ w.cell? ⟨b, o + 2, none⟩ = some (.int .u64 x.most)
def RdAks (w : World) (B : Nat) (A : Option Addr) (n : Nat) (xs : Nat → Ak) : Prop :=
  0 < n → ∃ b off, A = some ⟨b, off, none⟩ ∧ b < B ∧ ∀ k, k < n → AkCells w b (off + k * 3) (xs k)
theorem AkCells.keep {w w' : World} {b o : Nat} {x : Ak} (h : AkCells w b o x) (hk : ∀ p : Addr, p.block = b → w'.cell? p = w.cell? p) : AkCells w' b o x := by
  unfold AkCells at *
  rw [hk _ rfl, hk _ rfl, hk _ rfl]
  exact h
theorem RdAks.below {w w' : World} {B : Nat} {A : Option Addr} {n : Nat} {xs : Nat → Ak} (h : RdAks w B A n xs) (hb : Below B w w') : RdAks w' B A n xs := fun hn => by
  obtain ⟨b, off, hA, hlt, hr⟩ := h hn
  exact ⟨b, off, hA, hlt, fun k hk => (hr k hk).keep fun p hp => hb.cell (by omega)⟩

theorem open_asks {H : Type} {enc : TypeId × Value → H} {W : World} {base : Nat} {v : Value} {d : DataW H} {p : List MemPlace}
    (hv : Value.okWide Try.prog W .any base 48 v) (h : DataW.Trod enc Try.prog W 0 (fun _ => true) true 48 v d p) :
    ∃ (A : Option Addr) (len cap : Nat) (xs : Nat → Ak), v = .slice A len cap ∧ len ≤ cap ∧ cap ≤ maxLen ∧ RdAks W W.heap.size A len xs ∧ ∀ k, k < len → (xs k).wd ≤ 9223372036854775807 := by
  obtain ⟨a0, len0, cap0, rfl⟩ := okWide_slice Try.underlying48 hv
  obtain ⟨fuel, hf⟩ := h
  rcases open_slice_fields Try.underlying48 Try.underlying52 (by kernel_rfl) (by kernel_rfl) hf with ⟨hcs, _⟩ | ⟨a, len, cap, m, D, Pl, hcs, hb, hl, hm, hmm, hx, hi⟩
  · simp [Value.cells] at hcs
    obtain ⟨rfl, rfl, rfl⟩ := hcs
    exact ⟨none, 0, 0, fun _ => Ak.zero, rfl, Nat.le_refl _, by decide, fun h => absurd h (by omega), fun k hk => absurd hk (by omega)⟩
  · simp [Value.cells] at hcs
    obtain ⟨rfl, rfl, rfl⟩ := hcs
    simp only [if_true] at hmm
    subst hmm
    have key : ∀ k, k < len0 → ∃ x : Ak, x.wd ≤ 9223372036854775807 ∧ W.cell? (a.add (k * 3 + 0)) = some (.int .i64 x.kd) ∧ W.cell? (a.add (k * 3 + 1)) = some (.int .i64 x.wd) ∧ W.cell? (a.add (k * 3 + 2)) = some (.int .u64 x.most) := by
      intro k hk
      obtain ⟨ys, n, _, _, hyl, hfld⟩ := hi k (by omega)
      obtain ⟨v0, y0, c0, _, t0⟩ := hfld 0 _ rfl
      obtain ⟨v1, y1, c1, _, t1⟩ := hfld 1 _ rfl
      obtain ⟨v2, y2, c2, _, t2⟩ := hfld 2 _ rfl
      obtain ⟨z0, e0, _, w0⟩ := DataW.trod_int Try.underlying3 t0
      obtain ⟨z1, e1, _, w1⟩ := DataW.trod_int Try.underlying3 t1
      obtain ⟨z2, e2, _, w2⟩ := DataW.trod_int Try.underlying29 t2
      simp at e0 e1 e2
      subst e0 e1 e2
      have b2 := bounds_u64 w2
      obtain ⟨n2, rfl⟩ := Int.eq_ofNat_of_zero_le b2.1
      exact ⟨⟨z0, z1, n2⟩, (bounds_i64 w1).2, c0, c1, c2⟩
    refine ⟨some a, len0, _, fun k => if h : k < len0 then (key k h).choose else Ak.zero, rfl, hl, hm, fun hn => ?_, fun k hk => ?_⟩
    · obtain ⟨b, off, spot⟩ := a
      have hspot : spot = none := by
        have := World.cell?_spot (key 0 hn).choose_spec.2.1
        simpa [Addr.add] using this
      subst hspot
      have hlt : b < W.heap.size := World.block_lt_of_cell? W _ (by have := (key 0 hn).choose_spec.2.1; simpa [Addr.add] using this)
      refine ⟨b, off, rfl, hlt, fun k hk => ?_⟩
      have hs := (key k hk).choose_spec.2
      simp only [dif_pos hk]
      generalize (key k hk).choose = r at *
      simp only [Go.WideShapes.add_plain, Nat.add_zero, ← Nat.add_assoc] at hs
      exact hs
    · simp only [dif_pos hk]
      exact (key k hk).choose_spec.1
end Go.Proofs.Ytejjifbjmibapaa
