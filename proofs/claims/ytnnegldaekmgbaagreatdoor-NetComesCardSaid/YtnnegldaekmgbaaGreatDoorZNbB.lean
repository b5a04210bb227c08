/- Put; slices.Delete of one; Take. -/
import Derived.Test.YtnnegldaekmgbaaGreatDoorZNbA
namespace Go.Proofs.YtnnegldaekmgbaaGreatDoor
open Go.RowKit
set_option linter.unusedSimpArgs false
set_option linter.unusedVariables false
set_option maxHeartbeats 8000000
set_option maxRecDepth 100000

def NBg.put (s : NBg) (x : Sv) : NBg := if s.most ≤ s.l.length then s else ⟨s.most, s.last + 1, s.l ++ [(s.last + 1, x)]⟩
def NBg.putN (s : NBg) : Int := if s.most ≤ s.l.length then 0 else s.last + 1
def NBg.putE (s : NBg) : Int := if s.most ≤ s.l.length then 9 else 0
theorem NBagAt.set_last {w : World} {g : Nat} {v : Value} {s : NBg} (h : NBagAt w g v s) (z : Int) : NBagAt (w.setCell ⟨g, 1, none⟩ (.int .i64 z)) g v { s with last := z } ∧ NBStep w (w.setCell ⟨g, 1, none⟩ (.int .i64 z)) g v v := by
  refine ⟨⟨h.1.set_ 1 _, own_block_same h.2 (fun k hk => Below.heap_setCell _ _ _ k (by have := (h.2.lt k hk).1; simp; omega))⟩, ⟨⟨rfl, rfl, rfl, by simp [World.setCell], fun k hk hn => Below.heap_setCell _ _ _ k (fun e => hn (.inl e))⟩, fun k hk => .inl hk⟩⟩
theorem nb_bag_append {W1 W2 w3 : World} {g : Nat} {v v' : Value} {s : NBg} {p : Int × Sv} (h : NBagAt W1 g v s) (hb : Below W1.heap.size W1 W2) (hown : w3.ownsRow (g + 1) 232 2 v' (s.l.length + 1) (s.l.flatMap nb_itc ++ nb_itc p)) (hg : W2.grownBy w3 v.ownBlock)
    (hat : v'.ownBlock = v.ownBlock ∨ v'.ownBlock = some W2.heap.size) : NBagAt (w3.setCell ⟨g, 2, none⟩ v') g v' { s with l := s.l ++ [p] } ∧ NBStep W1 (w3.setCell ⟨g, 2, none⟩ v') g v v' := by
  have hne : some g ≠ v.ownBlock := fun e => by have := (h.2.lt g e.symm).1; omega
  have hb3 : Blk w3 g 218 #[.int .i64 s.most, .int .i64 s.last, v] := (h.1.below hb h.1.lt).grown hg hne
  have hs3 := hg.size
  have hs2 := hb.size
  refine ⟨⟨hb3.set_ 2 _, ?_⟩, ⟨⟨hg.os.trans hb.os, hg.tape.trans hb.tape, hg.output.trans hb.output, by simp [World.setCell]; omega, fun k hk hn => ?_⟩, fun k hk => ?_⟩⟩
  · have := own_block_same (w' := w3.setCell ⟨g, 2, none⟩ v') hown (fun k hk => Below.heap_setCell _ _ _ k (by have := (hown.lt k hk).1; simp; omega))
    simpa [List.flatMap_append] using this
  · rw [Below.heap_setCell _ _ _ k (fun e => hn (.inl e))]
    exact (hg.block k (by omega) (fun e => hn (.inr e.symm))).trans (hb.block k hk)
  · rcases hat with e | e
    · exact .inl (by rw [← e]; exact hk)
    · rw [e] at hk; injection hk with hk; exact .inr (by omega)
theorem nb_own_drew {w : World} {base : Nat} {e : TypeId} {size : Nat} {v : Value} {n : Nat} {xs : List Value} (h : w.ownsRow base e size v n xs) : w.drew.ownsRow base e size v n xs := h
theorem nb_news_drew {w : World} {cs : Array Value} {t : TypeId} {xs : List Value} (hx : xs.length = 1 * 2) (hc : cs.toList = xs) : Reads (w.alloc (.cells cs t)).drew (w.heap.size + 1) 2 (some ⟨w.heap.size, 0, none⟩) 1 xs :=
  ⟨hx, fun _ => ⟨_, rfl, by simp, fun j u hu => by rw [World.cell?_drew]; exact cells_new _ _ _ j u (by rw [hc]; exact hu)⟩⟩
theorem nb_put_any (g : Nat) (v : Value) (s : NBg) (x : Sv) (w : World) (h : NBagAt w g v s) (hl : s.l.length ≤ 1000000) (h0 : 0 ≤ s.last) (h1 : s.last ≤ 1000000) :
    Calls Tryz.prog 75 #[.pointer (some ⟨g, 0, none⟩), .slice x.A x.n x.c] w fun e w' => e = .returned (.tuple #[.int .i64 s.putN, .int .i64 s.putE]) ∧ ∃ v', NBagAt w' g v' (s.put x) ∧ NBStep w w' g v v' := by
  obtain ⟨i0, hi, hz0, hz1, hz2⟩ := info_parts nb_itInfo
  obtain ⟨A, c, rfl, _, _, _⟩ := h.form
  obtain ⟨c0, c1, c2⟩ := nb_bag_cells h
  have f1 := h.1.frozen 1
  have H := Lib.hid h
  by_cases hm : s.most ≤ s.l.length
  · have hv : Hid (s.put x = s ∧ s.putN = 0 ∧ s.putE = 9) := Lib.hid (by simp [NBg.put, NBg.putN, NBg.putE, hm])
    rw [hv.out.1, hv.out.2.1, hv.out.2.2]
    clear h
    go_enter Tryz.func75, Tryz.ntmps75
    go_wp2_with (fail)
    go_quiet (fail)
    go_wp2_with (fail)
    go_ret2
    exact ⟨rfl, _, H.out.below (below_drewN (Below.refl _ _) _), NBStep.of_below (below_drewN (Below.refl _ _) _) _ _⟩
  · have hv : Hid (s.put x = ⟨s.most, s.last + 1, s.l ++ [(s.last + 1, x)]⟩ ∧ s.putN = s.last + 1 ∧ s.putE = 0) := Lib.hid (by simp [NBg.put, NBg.putN, NBg.putE, hm])
    rw [hv.out.1, hv.out.2.1, hv.out.2.2]
    have hm' : (s.l.length : Int) < s.most := by omega
    have hw : IntKind.i64.wrap (s.last + 1) = s.last + 1 := by rw [IntKind.wrap_i64]; omega
    clear h hm
    go_enter Tryz.func75, Tryz.ntmps75
    go_wp2_with (fail)
    go_quiet (fail)
    go_wp2_with (fail)
    obtain ⟨hA, hS⟩ := (H.out.below (below_drewN (Below.refl w.heap.size w) nq)).set_last (s.last + 1)
    have HS := Lib.hid ((NBStep.of_below (below_drewN (Below.refl w.heap.size w) nq) g (.slice A s.l.length c)).trans hS)
    have HA := Lib.hid hA
    clear hA hS
    generalize (w.drewN nq).setCell ⟨g, 1, none⟩ (.int .i64 (s.last + 1)) = W1 at *
    obtain ⟨d0, d1, d2⟩ := nb_bag_cells HA.out
    have hgl := HA.out.1.lt
    have hOwn := Lib.hid HA.out.2
    have hBlk := Lib.hid HA.out.1
    simp only [] at d0 d1 d2
    clear c0 c1 c2 f1
    have q1 : s.l.length + 1 ≤ maxLen := by unfold maxLen; omega
    have q2 : (s.l.length + 1) * 32 ≤ 140737488355328 := by omega
    have q3 : g + 1 ≤ (W1.alloc (.cells #[.int .i64 (s.last + 1), .slice x.A x.n x.c] 232)).drew.heap.size := by show _ ≤ (W1.alloc _).heap.size; simp; omega
    have q4 : Hid (∀ (v3 : Value) (w3 : World), w3.ownsRow (g + 1) 232 2 v3 (s.l.length + 1) (s.l.flatMap nb_itc ++ nb_itc (s.last + 1, x)) → (W1.alloc (.cells #[.int .i64 (s.last + 1), .slice x.A x.n x.c] 232)).drew.grownBy w3 (Value.slice A s.l.length c).ownBlock →
        (v3.ownBlock = (Value.slice A s.l.length c).ownBlock ∨ v3.ownBlock = some (W1.alloc (.cells #[.int .i64 (s.last + 1), .slice x.A x.n x.c] 232)).drew.heap.size) →
        ∃ A3 c3, v3 = .slice A3 (s.l.length + 1) c3 ∧ w3.cell? ⟨g, 1, none⟩ = some (.int .i64 (s.last + 1)) ∧ w3.cell? ⟨g, 2, none⟩ = some (.slice A s.l.length c) ∧ w3.frozen? ⟨g, 2, none⟩ = false ∧ g < w3.heap.size ∧
          Hid (NBagAt (w3.setCell ⟨g, 2, none⟩ v3) g v3 ⟨s.most, s.last + 1, s.l ++ [(s.last + 1, x)]⟩ ∧ NBStep W1 (w3.setCell ⟨g, 2, none⟩ v3) g (.slice A s.l.length c) v3)) := Lib.hid (fun v3 w3 hown hg hat => by
      have hfin := nb_bag_append (p := (s.last + 1, x)) HA.out (((Below.refl _ _).alloc (Nat.le_refl _) _).drew) hown hg hat
      have hb3 := (hBlk.out.alloc (.cells #[.int .i64 (s.last + 1), .slice x.A x.n x.c] 232)).drew.grown hg (fun e => by have := (hOwn.out.lt g e.symm).1; omega)
      obtain ⟨A3, c3, rfl, _, _, _⟩ := own_slice hown
      exact ⟨A3, c3, rfl, hb3.cell 1, hb3.cell 2, hb3.frozen 2, hb3.lt, Lib.hid hfin⟩)
    go_region_law (refine step_append_any _ rfl (.tmp 31) (.tmp 38) _ rfl (g + 1) 232 i0 _ 2 32 Tryz.underlying216 hi hz0 hz1 hz2 rfl (by omega) _ _ _ rfl (nb_own_drew (hOwn.out.alloc _)) (W1.heap.size + 1) (some ⟨W1.heap.size, 0, none⟩) 1 1 (nb_itc (s.last + 1, x)) rfl (nb_news_drew rfl rfl) (nb_itc_one _) q1 q2 q3 ?_; intro v3 w3 hown hg hat; obtain ⟨A3, c3, rfl, e1, e2, e3, e4, hfin⟩ := q4.out v3 w3 hown hg hat; clear hown hg hat d0 d1 d2)
    all_goals
      obtain ⟨hA, hS⟩ := hfin.out
      go_wp2_with (fail)
      go_ret2
      exact ⟨rfl, _, hA, HS.out.trans hS⟩
end Go.Proofs.YtnnegldaekmgbaaGreatDoor
