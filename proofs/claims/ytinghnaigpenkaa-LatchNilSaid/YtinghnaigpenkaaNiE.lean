/- Seat 05: Rush of no lazy value, called. -/
import Derived.Test.YtinghnaigpenkaaNiD
import Derived.Conc.AppendWalk
import Derived.Laws.MakeOwn
namespace Go.Proofs.Ytinghnaigpenkaa
open Go.Conc Go.RowKit Go.ConcR.Gen
open Go.ConcR (WgAt stA Payload)
set_option linter.unusedVariables false
set_option linter.unusedSimpArgs false
set_option maxRecDepth 100000
set_option maxHeartbeats 4000000











theorem ev_store_slice (P : Program) (w : World) (es : Array Event) (a : Addr) (m : Mode) (A : Option Addr) (l c : Nat) : (store a (.slice A l c) m).events P w es = storedEv P w es a (.slice A l c) m := events_store P w es a _ m rfl
theorem info_parts {P : Program} {t : TypeId} {a : Option Value} {b c : Nat} (h : (P.info? t).map (fun i => (i.zero, i.size, i.bytes)) = some (a, b, c)) : ∃ i, P.info? t = some i ∧ i.zero = a ∧ i.size = b ∧ i.bytes = c := by
  obtain ⟨i, hi, e⟩ := Option.map_eq_some_iff.1 h
  simp only [Prod.mk.injEq] at e
  exact ⟨i, hi, e.1, e.2.1, e.2.2⟩
theorem u64Info : (Try.prog.info? 25).map (fun i => (i.zero, i.size, i.bytes)) = some (some (.int .u64 0), 1, 8) := by kernel_rfl
theorem ev_max (P : Program) (ts : Array TypeId) (t : TypeId) (k k' : IntKind) (x y : Int) (w : World) : Sem.events P (Builtin.max_ ts t #[.int k x, .int k' y]) w #[] = #[] := by
  simp [Builtin.max_, Builtin.max2, Sem.events_pure]
theorem ev_min (P : Program) (ts : Array TypeId) (t : TypeId) (k k' : IntKind) (x y : Int) (w : World) : Sem.events P (Builtin.min_ ts t #[.int k x, .int k' y]) w #[] = #[] := by
  simp [Builtin.min_, Builtin.min2, Sem.events_pure]
theorem rushNil_X {Post : Value → World → Prop} {d : Nat → Prop} {n : Nat} (nn : Int) (many : Nat) (hmany : (many : Int) = min (max nn 0) 64) (w : World) (hn : 0 < n) (hd : ∀ b, d b → b < w.heap.size) :
    CallX Try.prog Post 22 #[.pointer none, .int .i64 nn] w ⟨blkS d, n, 0⟩ (fun v w' x' => v = .slice (some ⟨w.heap.size + 1, 0, none⟩) many many ∧ x' = ⟨blkS fun b => b = w.heap.size + 4 ∨ d b, n + many, 0⟩ ∧ w'.heap[w.heap.size + 1]? = some (.cells (Array.replicate many (.int .u64 0)) 25) ∧ Below w.heap.size w w' ∧ w.heap.size + 5 ≤ w'.heap.size) := by
  obtain ⟨s, hs⟩ : ∃ s, s = w.heap.size := ⟨_, rfl⟩
  refine ⟨_, _, Try.func22, by kernel_rfl, rfl, ?_⟩
  simp only [Try.ntmps22]
  walk_nrm
  have hF := atRel_refl w
  have hm9 : (if 64 < (if nn < 0 then 0 else nn) then 64 else (if nn < 0 then 0 else nn)) = (many : Int) := by omega
  have hm8 : many ≤ 64 := by omega
  clear hmany
  replace hs := Lib.hid hs
  rw [← hs.out]
  rw [← hs.out] at hd
  (refine codeX_seq ?_)
  (refine codeX_region ?_; simp only [List.size_toArray, List.length_cons, List.length_nil, Nat.reduceAdd, Nat.zero_add, List.range, List.range.loop])
  (refine opsX_cons rfl (by rfl) ?_; intro _ hR K hK; replace hF := atRel_trans _ _ _ hF hR; clear hR; have hs9 := atRel_size hF; go_simp; refine hK _ _ ⟨?_, ?_⟩; (· rw [listed_nil (by simp [go_sem, ev_max, ev_min, *])]; exact dp0_nil); clear hK K hs9; try walk_nrm)
  replace hF := atRel_alloc hF (.cells #[.pointer none] 39)
  rw [← hs.out]
  (refine opsX_cons rfl (by rfl) ?_; intro _ hR K hK; replace hF := atRel_trans _ _ _ hF hR; clear hR; have hs9 := atRel_size hF; go_simp; refine hK _ _ ⟨?_, ?_⟩; (· rw [listed_nil (by simp [go_sem, ev_max, ev_min, *])]; exact dp0_nil); clear hK K hs9; try walk_nrm)
  (refine opsX_nil ?_; simp only [Exit.thenX])
  (refine codeX_seq ?_)
  (refine codeX_region ?_; simp only [List.size_toArray, List.length_cons, List.length_nil, Nat.reduceAdd, Nat.zero_add, List.range, List.range.loop])
  (refine opsX_cons rfl (by rfl) ?_; intro _ hR K hK; replace hF := atRel_trans _ _ _ hF hR; clear hR; have hs9 := atRel_size hF; go_simp; refine hK _ _ ⟨?_, ?_⟩; (· rw [listed_nil (by simp [go_sem, ev_max, ev_min, *])]; exact dp0_nil); clear hK K hs9; try walk_nrm)
  (refine opsX_cons rfl (by rfl) ?_; intro _ hR K hK; replace hF := atRel_trans _ _ _ hF hR; clear hR; have hs9 := atRel_size hF; go_simp; refine hK _ _ ⟨?_, ?_⟩; (· rw [listed_nil (by simp [go_sem, ev_max, ev_min, *])]; exact dp0_nil); clear hK K hs9; try walk_nrm)
  (refine opsX_cons rfl (by rfl) ?_; intro _ hR K hK; replace hF := atRel_trans _ _ _ hF hR; clear hR; have hs9 := atRel_size hF; go_simp; refine hK _ _ ⟨?_, ?_⟩; (· rw [listed_nil (by simp [go_sem, ev_max, ev_min, *])]; exact dp0_nil); clear hK K hs9; try walk_nrm)
  clear hm9
  obtain ⟨W1, hW1⟩ : ∃ W1, W1 = w.alloc (.cells #[.pointer none] 39) := ⟨_, rfl⟩
  obtain ⟨W2, hW2⟩ : ∃ W2, W2 = W1.alloc (.cells (Array.replicate many (.int .u64 0)) 25) := ⟨_, rfl⟩
  obtain ⟨W3, hW3⟩ : ∃ W3, W3 = W2.alloc (.cells #[.slice none 0 0] 44) := ⟨_, rfl⟩
  obtain ⟨W4, hW4⟩ : ∃ W4, W4 = W3.setCell ⟨s + 2, 0, none⟩ (.slice (some ⟨s + 1, 0, none⟩) many many) := ⟨_, rfl⟩
  have z1 : W1.heap.size = s + 1 := by rw [hW1, hs.out]; simp
  have z2 : W2.heap.size = s + 2 := by rw [hW2]; simp [z1]
  have z3 : W3.heap.size = s + 3 := by rw [hW3]; simp [z2]
  have z4 : W4.heap.size = s + 3 := by rw [hW4, (aside_setCell W3 _ _).size, z3]
  have B4 : Below s w W4 := by
    have hb : Below s w W3 := by
      rw [hW3, hW2, hW1, hs.out]
      exact (((Below.refl _ _).alloc (Nat.le_refl _) _).alloc (by simp) _).alloc (by simp <;> omega) _
    rw [hW4]
    exact hb.setCell (p := ⟨s + 2, 0, none⟩) (by show s ≤ s + 2; omega) _
  have l3 : Blk W4 s 39 #[.pointer none] := by
    have : Blk W3 s 39 #[.pointer none] := by
      rw [hW3, hW2, hW1, hs.out]
      exact ((Blk.new w _ _).alloc _).alloc _
    rw [hW4]
    exact this.far (p := ⟨s + 2, 0, none⟩) (by show s ≠ s + 2; omega) _
  have o3 : Blk W4 (s + 1) 25 (Array.replicate many (.int .u64 0)) := by
    have := (Blk.new W1 25 (Array.replicate many (.int .u64 0))).alloc (.cells #[.slice none 0 0] 44)
    rw [z1] at this
    have h3 : Blk W3 (s + 1) 25 (Array.replicate many (.int .u64 0)) := by rw [hW3, hW2]; exact this
    rw [hW4]
    exact h3.far (p := ⟨s + 2, 0, none⟩) (by show s + 1 ≠ s + 2; omega) _
  have b3 : Blk W3 (s + 2) 44 #[.slice none 0 0] := by
    have := Blk.new W2 44 #[.slice none 0 0]
    rw [z2] at this
    rw [hW3]
    exact this
  have b4 : Blk W4 (s + 2) 44 #[.slice (some ⟨s + 1, 0, none⟩) many many] := by rw [hW4]; exact b3.set_ 0 _
  replace hW1 := Lib.hid hW1
  replace hW2 := Lib.hid hW2
  replace hW3 := Lib.hid hW3
  replace hW4 := Lib.hid hW4
  replace z1 := Lib.hid z1
  replace z2 := Lib.hid z2
  replace z3 := Lib.hid z3
  replace z4 := Lib.hid z4
  rw [← hW1.out] at hF
  have hmk : ∀ W : World, (Instr.makeSlice 44 (.int .i64 (many : Int)) (.int .i64 (many : Int))).run Try.prog W = .ok (.slice (some ⟨W.heap.size, 0, none⟩) many many) (W.alloc (.cells (Array.replicate many (.int .u64 0)) 25)) := fun W => by
    obtain ⟨i0, hi, hz0, hz1, hz2⟩ := info_parts u64Info
    have := run_makeSlice (P := Try.prog) W _ _ i0 _ Try.underlying44 hi hz0 .i64 .i64 many many (by omega) (by omega) (by rw [hz1]; omega) (by rw [hz2]; omega) (by omega)
    rw [this]
    have hc : madeCells (Value.cells (.int .u64 0)) ((many : Int).toNat * i0.size) = Array.replicate many (Value.int .u64 0) := by
      rw [hz1, Int.toNat_natCast, Nat.mul_one]
      apply Array.ext
      · simp [madeCells]
      · intro q h1 h2
        simp [madeCells, Value.cells, Nat.mod_one]
    rw [hc]
    simp only [Int.toNat_natCast]
  have hme : ∀ W : World, (Instr.makeSlice 44 (.int .i64 (many : Int)) (.int .i64 (many : Int))).events Try.prog W #[] = #[] := fun W => by
    obtain ⟨i0, hi, hz0, hz1, hz2⟩ := info_parts u64Info
    exact events_make W _ _ i0 _ Try.underlying44 hi hz0 .i64 .i64 many many (by omega) (by omega) (by rw [hz2]; omega) (by omega) (by rw [hz2, Int.toNat_natCast]; omega) #[]
  (refine opsX_cons rfl (by rfl) ?_; intro _ hR K hK; replace hF := atRel_trans _ _ _ hF hR; clear hR; have hs9 := atRel_size hF; go_simp; refine hK _ _ ⟨?_, ?_⟩; (· rw [listed_nil (by simp [go_sem, ev_max, ev_min, *])]; exact dp0_nil); clear hK K hs9; try walk_nrm)
  replace hF := atRel_alloc hF (.cells (Array.replicate many (.int .u64 0)) 25)
  rw [← hW2.out] at hF
  rw [z1.out]
  clear hmk hme
  (refine opsX_cons rfl (by rfl) ?_; intro _ hR K hK; replace hF := atRel_trans _ _ _ hF hR; clear hR; have hs9 := atRel_size hF; go_simp; refine hK _ _ ⟨?_, ?_⟩; (· rw [listed_nil (by simp [go_sem, ev_max, ev_min, *])]; exact dp0_nil); clear hK K hs9; try walk_nrm)
  replace hF := atRel_alloc hF (.cells #[.slice none 0 0] 44)
  rw [← hW3.out] at hF
  rw [z2.out]
  have nS : ∀ g i, s ≤ g → ¬ blkS d (.cell ⟨g, i, none⟩) := by
    rintro g i hg ⟨a, e, h⟩
    injection e with e
    subst e
    have := hd _ h
    simp only at this
    omega
  (have hc9 : W3.cell? ⟨s + 2, 0, none⟩ = _ := b3.cell 0; have hz9 : W3.frozen? ⟨s + 2, 0, none⟩ = _ := b3.frozen 0; have hS9 := nS (s + 2) 0 (by omega); (refine opsX_cons rfl (by rfl) ?_; intro _ hR K hK; replace hF := atRel_trans _ _ _ hF hR; clear hR; have hl9 := (atRel_cell hF _).trans hc9; have hz9' := (atRel_frozen hF _).trans hz9; go_simp; refine hK _ _ ⟨?_, ?_⟩; (· intro e he; have hm := mem_listed he; simp [go_sem, ev_store_slice, storedEv, hl9] at hm; rw [hm.2]; exact evP_cell _ hS9); clear hK K hl9 hc9 hz9 hz9' hS9; try walk_nrm))
  replace hF := atRel_set hF ⟨s + 2, 0, none⟩ (.slice (some ⟨s + 1, 0, none⟩) many many)
  rw [← hW4.out] at hF
  (refine opsX_nil ?_; simp only [Exit.thenX])
  (refine codeX_seq ?_)
  (refine codeX_region ?_; simp only [List.size_toArray, List.length_cons, List.length_nil, Nat.reduceAdd, Nat.zero_add, List.range, List.range.loop])
  (have hc9 : W4.cell? ⟨s + 2, 0, none⟩ = _ := b4.cell 0; have hS9 := nS (s + 2) 0 (by omega); (refine opsX_cons rfl (by rfl) ?_; intro _ hR K hK; replace hF := atRel_trans _ _ _ hF hR; clear hR; have hl9 := (atRel_cell hF _).trans hc9; go_simp; refine hK _ _ ⟨?_, ?_⟩; (· intro e he; have hm := mem_listed he; simp [go_sem, hl9] at hm; rw [hm]; exact evP_cell _ hS9); clear hK K hl9 hc9 hS9; try walk_nrm))
  (refine opsX_cons rfl (by rfl) ?_; intro _ hR K hK; replace hF := atRel_trans _ _ _ hF hR; clear hR; have hs9 := atRel_size hF; go_simp; refine hK _ _ ⟨?_, ?_⟩; (· rw [listed_nil (by simp [go_sem, ev_max, ev_min, *])]; exact dp0_nil); clear hK K hs9; try walk_nrm)
  (refine opsX_cons rfl (by rfl) ?_; intro _ hR K hK; replace hF := atRel_trans _ _ _ hF hR; clear hR; have hs9 := atRel_size hF; go_simp; refine hK _ _ ⟨?_, ?_⟩; (· rw [listed_nil (by simp [go_sem, ev_max, ev_min, *])]; exact dp0_nil); clear hK K hs9; try walk_nrm)
  have A : AlO (nrC W4.heap.size many n (s + 1) d) W4.heap.size := nrO (by omega) hn (fun b hb => by have := hd b hb; rw [z4.out]; exact ⟨by omega, by omega⟩) (by rw [z4.out]; omega)
  have hcall := all_X (Post := Post) (S := blkS d) (f := 35) (cap := #[.pointer (some ⟨s, 0, none⟩), .pointer (some ⟨s + 2, 0, none⟩)]) (σ := ()) (us := fun _ => false) (nf := fun _ => 500) W4 A (fun x ⟨a, e, h⟩ => ⟨a, e, .inr h⟩) o3 (Nat.zero_le _) (fun j C N w1 hj hC hK =>
    rush1Nil_V A hC hj l3 b4 (by
      rintro g (rfl | rfl)
      · exact ⟨by rw [z4.out]; omega, by omega, fun h => by have := hd _ h; omega⟩
      · exact ⟨by rw [z4.out]; omega, by omega, fun h => by have := hd _ h; omega⟩) w1 hK)
  refine opsX_callB rfl (by rfl) rfl ?_ ?_ (Pos := AllOut (nrC W4.heap.size many n (s + 1) d) W4)
  · walk_nrm
    exact callB_rely hF hcall
  rintro v w5 x' ⟨σ, us, rfl, rfl, hrep, _, _, hold, henv, hsz⟩
  clear hF hcall
  have hF := atRel_refl w5
  have hw5 : w5.heap[s + 2]? = some (.cells #[.slice (some ⟨s + 1, 0, none⟩) many many] 44) := hold _ _ (by rw [z4.out]; omega) (fun h => by have h : s + 2 = s + 1 := h; omega) b4
  have hB5 : Below w.heap.size w w5 ∧ w.heap.size + 5 ≤ w5.heap.size := by
    rw [← hs.out]
    rw [z4.out] at hsz
    refine ⟨⟨henv.os.trans B4.os, henv.tape.trans B4.tape, henv.output.trans B4.output, by rw [hs.out] at hsz; omega, fun k hk => ?_⟩, by omega⟩
    have hk' : k < w.heap.size := by rw [← hs.out]; exact hk
    have e := Array.getElem?_eq_getElem hk'
    rw [e]
    exact hold _ _ (by rw [z4.out]; omega) (fun h => by have h : k = s + 1 := h; omega) ((B4.block k hk).trans e)
  have hx' : (⟨(nrC W4.heap.size many n (s + 1) d).sh, (nrC W4.heap.size many n (s + 1) d).N0 + (nrC W4.heap.size many n (s + 1) d).n, 0⟩ : XS) = ⟨blkS fun b => b = s + 4 ∨ d b, n + many, 0⟩ := by
    unfold nrC
    simp only [z4.out]
  have hr5 : w5.heap[s + 1]? = some (.cells (Array.replicate many (.int .u64 0)) 25) := hrep
  rw [hx']
  replace hB5 := Lib.hid hB5
  replace hr5 := Lib.hid hr5
  clear hold henv hsz A l3 o3 b3 b4 B4 hrep
  walk_nrm
  (refine opsX_nil ?_; simp only [Exit.thenX])
  (refine codeX_seq ?_)
  (refine codeX_region ?_; simp only [List.size_toArray, List.length_cons, List.length_nil, Nat.reduceAdd, Nat.zero_add, List.range, List.range.loop])
  (have hc9 : w5.cell? ⟨s + 2, 0, none⟩ = _ := box_cell hw5; have hS9 : ¬ blkS (fun b => b = s + 4 ∨ d b) (.cell ⟨s + 2, 0, none⟩) := (by
    rintro ⟨a, e, h⟩
    injection e with e
    subst e
    rcases h with h | h
    · simp only at h; omega
    · have := hd _ h; simp only at this; omega); (refine opsX_cons rfl (by rfl) ?_; intro _ hR K hK; replace hF := atRel_trans _ _ _ hF hR; clear hR; have hl9 := (atRel_cell hF _).trans hc9; go_simp; refine hK _ _ ⟨?_, ?_⟩; (· intro e he; have hm := mem_listed he; simp [go_sem, hl9] at hm; rw [hm]; exact evP_cell _ hS9); clear hK K hl9 hc9 hS9; try walk_nrm))
  (refine opsX_cons rfl (by rfl) ?_; intro _ hR K hK; replace hF := atRel_trans _ _ _ hF hR; clear hR; have hs9 := atRel_size hF; go_simp; refine hK _ _ ⟨?_, ?_⟩; (· rw [listed_nil (by simp [go_sem, ev_max, ev_min, *])]; exact dp0_nil); clear hK K hs9; try walk_nrm)
  (refine opsX_nil ?_; simp only [Exit.thenX])
  (refine codeX_of ?_; refine codeW_ret (termsP _) ?_)
  exact ⟨rfl, _, resultsC_tmp rfl _, rfl, rfl, by rw [atRel_heap hF]; exact hr5.out, by rw [hs.out]; exact atRel_below hF hB5.out.1, by rw [atRel_size hF, hs.out]; exact hB5.out.2⟩
end Go.Proofs.Ytinghnaigpenkaa
