/- Put; slices.Delete of one; Take. -/
import Derived.Test.YtpkmbnmlepmceaaBagA
namespace Go.Proofs.Ytpkmbnmlepmceaa
open Go.RowKit
set_option linter.unusedSimpArgs false
set_option linter.unusedVariables false
set_option maxHeartbeats 8000000
set_option maxRecDepth 100000

def Bg.put (s : Bg) (x : Int) : Bg := if s.most ≤ s.l.length then s else ⟨s.most, s.last + 1, s.l ++ [(s.last + 1, x)]⟩
def Bg.putN (s : Bg) : Int := if s.most ≤ s.l.length then 0 else s.last + 1
def Bg.putE (s : Bg) : Int := if s.most ≤ s.l.length then 9 else 0
theorem BagAt.set_last {w : World} {g : Nat} {v : Value} {s : Bg} (h : BagAt w g v s) (z : Int) : BagAt (w.setCell ⟨g, 1, none⟩ (.int .i64 z)) g v { s with last := z } ∧ BStep w (w.setCell ⟨g, 1, none⟩ (.int .i64 z)) g v v := by
  refine ⟨⟨h.1.set_ 1 _, own_block_same h.2 (fun k hk => Below.heap_setCell _ _ _ k (by have := (h.2.lt k hk).1; simp; omega))⟩, ⟨⟨rfl, rfl, rfl, by simp [World.setCell], fun k hk hn => Below.heap_setCell _ _ _ k (fun e => hn (.inl e))⟩, fun k hk => .inl hk⟩⟩
theorem bag_append {W1 W2 w3 : World} {g : Nat} {v v' : Value} {s : Bg} {p : Int × Int} (h : BagAt W1 g v s) (hb : Below W1.heap.size W1 W2) (hown : w3.ownsRow (g + 1) 54 2 v' (s.l.length + 1) (s.l.flatMap itc ++ itc p)) (hg : W2.grownBy w3 v.ownBlock)
    (hat : v'.ownBlock = v.ownBlock ∨ v'.ownBlock = some W2.heap.size) : BagAt (w3.setCell ⟨g, 2, none⟩ v') g v' { s with l := s.l ++ [p] } ∧ BStep W1 (w3.setCell ⟨g, 2, none⟩ v') g v v' := by
  have hne : some g ≠ v.ownBlock := fun e => by have := (h.2.lt g e.symm).1; omega
  have hb3 : Blk w3 g 52 #[.int .i64 s.most, .int .i64 s.last, v] := (h.1.below hb h.1.lt).grown hg hne
  have hs3 := hg.size
  have hs2 := hb.size
  refine ⟨⟨hb3.set_ 2 _, ?_⟩, ⟨⟨hg.os.trans hb.os, hg.tape.trans hb.tape, hg.output.trans hb.output, by simp [World.setCell]; omega, fun k hk hn => ?_⟩, fun k hk => ?_⟩⟩
  · have := own_block_same (w' := w3.setCell ⟨g, 2, none⟩ v') hown (fun k hk => Below.heap_setCell _ _ _ k (by have := (hown.lt k hk).1; simp; omega))
    simpa [List.flatMap_append] using this
  · rw [Below.heap_setCell _ _ _ k (fun e => hn (.inl e))]
    exact (hg.block k (by omega) (fun e => hn (.inr e.symm))).trans (hb.block k hk)
  · rcases hat with e | e
    · exact .inl (by rw [← e]; exact hk)
    · rw [e] at hk; injection hk with hk; exact .inr (by omega)
theorem own_drew {w : World} {base : Nat} {e : TypeId} {size : Nat} {v : Value} {n : Nat} {xs : List Value} (h : w.ownsRow base e size v n xs) : w.drew.ownsRow base e size v n xs := h
theorem news_drew {w : World} {cs : Array Value} {t : TypeId} {xs : List Value} (hx : xs.length = 1 * 2) (hc : cs.toList = xs) : Reads (w.alloc (.cells cs t)).drew (w.heap.size + 1) 2 (some ⟨w.heap.size, 0, none⟩) 1 xs :=
  ⟨hx, fun _ => ⟨_, rfl, by simp, fun j u hu => by rw [World.cell?_drew]; exact cells_new _ _ _ j u (by rw [hc]; exact hu)⟩⟩
theorem put_any (g : Nat) (v : Value) (s : Bg) (x : Int) (w : World) (h : BagAt w g v s) (hl : s.l.length ≤ 1000000) (h0 : 0 ≤ s.last) (h1 : s.last ≤ 1000000) :
    Calls Try.prog 8 #[.pointer (some ⟨g, 0, none⟩), .int .i64 x] w fun e w' => e = .returned (.tuple #[.int .i64 s.putN, .int .i64 s.putE]) ∧ ∃ v', BagAt w' g v' (s.put x) ∧ BStep w w' g v v' := by
  obtain ⟨i0, hi, hz0, hz1, hz2⟩ := info_parts itInfo
  obtain ⟨A, c, rfl, _, _, _⟩ := h.form
  obtain ⟨c0, c1, c2⟩ := bag_cells h
  have f1 := h.1.frozen 1
  have H := Lib.hid h
  by_cases hm : s.most ≤ s.l.length
  · have hv : Hid (s.put x = s ∧ s.putN = 0 ∧ s.putE = 9) := Lib.hid (by simp [Bg.put, Bg.putN, Bg.putE, hm])
    rw [hv.out.1, hv.out.2.1, hv.out.2.2]
    clear h
    go_enter Try.func8, Try.ntmps8
    go_wp2_with (fail)
    go_quiet (fail)
    go_wp2_with (fail)
    go_ret2
    exact ⟨rfl, _, H.out.below (below_drewN (Below.refl _ _) _), BStep.of_below (below_drewN (Below.refl _ _) _) _ _⟩
  · have hv : Hid (s.put x = ⟨s.most, s.last + 1, s.l ++ [(s.last + 1, x)]⟩ ∧ s.putN = s.last + 1 ∧ s.putE = 0) := Lib.hid (by simp [Bg.put, Bg.putN, Bg.putE, hm])
    rw [hv.out.1, hv.out.2.1, hv.out.2.2]
    have hm' : (s.l.length : Int) < s.most := by omega
    have hw : IntKind.i64.wrap (s.last + 1) = s.last + 1 := by rw [IntKind.wrap_i64]; omega
    clear h hm
    go_enter Try.func8, Try.ntmps8
    go_wp2_with (fail)
    go_quiet (fail)
    go_wp2_with (fail)
    obtain ⟨hA, hS⟩ := (H.out.below (below_drewN (Below.refl w.heap.size w) nq)).set_last (s.last + 1)
    have HS := Lib.hid ((BStep.of_below (below_drewN (Below.refl w.heap.size w) nq) g (.slice A s.l.length c)).trans hS)
    have HA := Lib.hid hA
    clear hA hS
    generalize (w.drewN nq).setCell ⟨g, 1, none⟩ (.int .i64 (s.last + 1)) = W1 at *
    obtain ⟨d0, d1, d2⟩ := bag_cells HA.out
    have hgl := HA.out.1.lt
    have hOwn := Lib.hid HA.out.2
    have hBlk := Lib.hid HA.out.1
    simp only [] at d0 d1 d2
    clear c0 c1 c2 f1
    have q1 : s.l.length + 1 ≤ maxLen := by unfold maxLen; omega
    have q2 : (s.l.length + 1) * 16 ≤ 140737488355328 := by omega
    have q3 : g + 1 ≤ (W1.alloc (.cells #[.int .i64 (s.last + 1), .int .i64 x] 54)).drew.heap.size := by show _ ≤ (W1.alloc _).heap.size; simp; omega
    have q4 : Hid (∀ (v3 : Value) (w3 : World), w3.ownsRow (g + 1) 54 2 v3 (s.l.length + 1) (s.l.flatMap itc ++ itc (s.last + 1, x)) → (W1.alloc (.cells #[.int .i64 (s.last + 1), .int .i64 x] 54)).drew.grownBy w3 (Value.slice A s.l.length c).ownBlock →
        (v3.ownBlock = (Value.slice A s.l.length c).ownBlock ∨ v3.ownBlock = some (W1.alloc (.cells #[.int .i64 (s.last + 1), .int .i64 x] 54)).drew.heap.size) →
        ∃ A3 c3, v3 = .slice A3 (s.l.length + 1) c3 ∧ w3.cell? ⟨g, 1, none⟩ = some (.int .i64 (s.last + 1)) ∧ w3.cell? ⟨g, 2, none⟩ = some (.slice A s.l.length c) ∧ w3.frozen? ⟨g, 2, none⟩ = false ∧ g < w3.heap.size ∧
          Hid (BagAt (w3.setCell ⟨g, 2, none⟩ v3) g v3 ⟨s.most, s.last + 1, s.l ++ [(s.last + 1, x)]⟩ ∧ BStep W1 (w3.setCell ⟨g, 2, none⟩ v3) g (.slice A s.l.length c) v3)) := Lib.hid (fun v3 w3 hown hg hat => by
      have hfin := bag_append (p := (s.last + 1, x)) HA.out (((Below.refl _ _).alloc (Nat.le_refl _) _).drew) hown hg hat
      have hb3 := (hBlk.out.alloc (.cells #[.int .i64 (s.last + 1), .int .i64 x] 54)).drew.grown hg (fun e => by have := (hOwn.out.lt g e.symm).1; omega)
      obtain ⟨A3, c3, rfl, _, _, _⟩ := own_slice hown
      exact ⟨A3, c3, rfl, hb3.cell 1, hb3.cell 2, hb3.frozen 2, hb3.lt, Lib.hid hfin⟩)
    go_region_law (refine step_append_any _ rfl (.tmp 31) (.tmp 38) _ rfl (g + 1) 54 i0 _ 2 16 Try.underlying50 hi hz0 hz1 hz2 rfl (by omega) _ _ _ rfl (own_drew (hOwn.out.alloc _)) (W1.heap.size + 1) (some ⟨W1.heap.size, 0, none⟩) 1 1 (itc (s.last + 1, x)) rfl (news_drew rfl rfl) (itc_one _) q1 q2 q3 ?_; intro v3 w3 hown hg hat; obtain ⟨A3, c3, rfl, e1, e2, e3, e4, hfin⟩ := q4.out v3 w3 hown hg hat; clear hown hg hat d0 d1 d2)
    all_goals
      obtain ⟨hA, hS⟩ := hfin.out
      go_wp2_with (fail)
      go_ret2
      exact ⟨rfl, _, hA, HS.out.trans hS⟩
end Go.Proofs.Ytpkmbnmlepmceaa
