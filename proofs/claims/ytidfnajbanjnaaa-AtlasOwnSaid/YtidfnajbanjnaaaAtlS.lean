/- An atlas behind the store of one row. -/
import Derived.Test.YtidfnajbanjnaaaAtlO
namespace Go.Proofs.Ytidfnajbanjnaaa
open Go.RowKit
set_option maxHeartbeats 2000000
theorem CfOwn.put {w : World} {q : Nat} {x : Cf} (h : CfOwn w (q + 1) x) (i : Nat) (u : Value) : CfOwn (w.setCell ⟨q, i, none⟩ u) (q + 1) x := by
  obtain ⟨hl, h0 | ⟨g, cap, cur, hv, hg, hb, r⟩⟩ := h
  · exact ⟨hl, Or.inl h0⟩
  · exact ⟨hl, Or.inr ⟨g, cap, cur, hv, hg, (Below.heap_setCell w ⟨q, i, none⟩ u g (by show g ≠ q; omega)).trans hb, r⟩⟩
theorem CfOwn.puts {w : World} {q k : Nat} {x : Cf} (h : CfOwn w (q + 1) x) (u0 u1 u2 u3 u4 : Value) :
    CfOwn (((((w.setCell ⟨q, k * 5, none⟩ u0).setCell ⟨q, k * 5 + 1, none⟩ u1).setCell ⟨q, k * 5 + 2, none⟩ u2).setCell ⟨q, k * 5 + 3, none⟩ u3).setCell ⟨q, k * 5 + 4, none⟩ u4) (q + 1) x :=
  ((((h.put _ u0).put _ u1).put _ u2).put _ u3).put _ u4
theorem Blk.fars {w : World} {g q k : Nat} {t : TypeId} {cs : Array Value} (h : Blk w g t cs) (hp : g ≠ q) (u0 u1 u2 u3 u4 : Value) :
    Blk (((((w.setCell ⟨q, k * 5, none⟩ u0).setCell ⟨q, k * 5 + 1, none⟩ u1).setCell ⟨q, k * 5 + 2, none⟩ u2).setCell ⟨q, k * 5 + 3, none⟩ u3).setCell ⟨q, k * 5 + 4, none⟩ u4) g t cs :=
  ((((Blk.far h (p := ⟨q, k * 5, none⟩) hp u0).far (p := ⟨q, k * 5 + 1, none⟩) hp u1).far (p := ⟨q, k * 5 + 2, none⟩) hp u2).far (p := ⟨q, k * 5 + 3, none⟩) hp u3).far (p := ⟨q, k * 5 + 4, none⟩) hp u4
theorem cell_fars {w : World} {b j q k : Nat} (hp : b ≠ q) (u0 u1 u2 u3 u4 : Value) :
    (((((w.setCell ⟨q, k * 5, none⟩ u0).setCell ⟨q, k * 5 + 1, none⟩ u1).setCell ⟨q, k * 5 + 2, none⟩ u2).setCell ⟨q, k * 5 + 3, none⟩ u3).setCell ⟨q, k * 5 + 4, none⟩ u4).cell? ⟨b, j, none⟩ = w.cell? ⟨b, j, none⟩ := by
  have hne : ∀ i, (⟨b, j, none⟩ : Addr) ≠ ⟨q, i, none⟩ := fun i e => by cases e; exact hp rfl
  rw [World.cell?_setCell_other _ _ _ _ (by first | exact hne _ | exact (hne _).symm), World.cell?_setCell_other _ _ _ _ (by first | exact hne _ | exact (hne _).symm), World.cell?_setCell_other _ _ _ _ (by first | exact hne _ | exact (hne _).symm), World.cell?_setCell_other _ _ _ _ (by first | exact hne _ | exact (hne _).symm), World.cell?_setCell_other _ _ _ _ (by first | exact hne _ | exact (hne _).symm)]
theorem AtX.put {w : World} {b0 G q h cB k : Nat} {o : List Cf} (a : AtX w b0 G q h cB o) (hk : k < o.length) (z : Cf) (hz : CfOwn w (q + 1) z) (hm : z.len ≤ 1000000) :
    AtX (((((w.setCell ⟨q, k * 5, none⟩ (.int .i64 z.ch)).setCell ⟨q, k * 5 + 1, none⟩ (.int .u64 z.ep)).setCell ⟨q, k * 5 + 2, none⟩ (.slice z.A z.len z.cap)).setCell ⟨q, k * 5 + 3, none⟩ (.bool z.fr)).setCell ⟨q, k * 5 + 4, none⟩ (.int .i64 z.jn)) b0 G q h cB (o.set k z) := by
  have hlt := a.lt
  have hl : (o.set k z).length = o.length := List.length_set
  have c := ((((a.conf.set_ (k * 5) (.int .i64 z.ch)).set_ (k * 5 + 1) (.int .u64 z.ep)).set_ (k * 5 + 2) (.slice z.A z.len z.cap)).set_ (k * 5 + 3) (.bool z.fr)).set_ (k * 5 + 4) (.int .i64 z.jn)
  simp only [List.setIfInBounds_toArray] at c
  rw [flat_set5 o k z hk] at c
  have b1 := a.blk.fars (k := k) (q := q) (by omega) (.int .i64 z.ch) (.int .u64 z.ep) (.slice z.A z.len z.cap) (.bool z.fr) (.int .i64 z.jn)
  have b2 := Blk.fars (k := k) (q := q) a.keys (by omega) (.int .i64 z.ch) (.int .u64 z.ep) (.slice z.A z.len z.cap) (.bool z.fr) (.int .i64 z.jn)
  have b3 := a.num.fars (k := k) (q := q) (by omega) (.int .i64 z.ch) (.int .u64 z.ep) (.slice z.A z.len z.cap) (.bool z.fr) (.int .i64 z.jn)
  refine ⟨by rw [hl]; exact b1, c, fun x hx => ?_, b2, by rw [hl]; exact b3, ⟨by rw [hl]; exact a.few.1, fun x hx => ?_⟩, a.b0, hlt⟩
  · rcases List.mem_or_eq_of_mem_set hx with hx | hx
    · exact (a.own x hx).puts _ _ _ _ _
    · subst hx
      exact hz.puts _ _ _ _ _
  · rcases List.mem_or_eq_of_mem_set hx with hx | hx
    · exact a.few.2 x hx
    · subst hx
      exact hm
end Go.Proofs.Ytidfnajbanjnaaa
