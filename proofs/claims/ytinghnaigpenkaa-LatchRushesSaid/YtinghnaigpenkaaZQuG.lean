/- Seat 05: Rush of a lazy value, called. -/
import Derived.Test.YtinghnaigpenkaaZQuF
import Derived.Test.YtinghnaigpenkaaZBeO
import Derived.Conc.AppendWalk
import Derived.Laws.MakeOwn
namespace Go.Proofs.Ytinghnaigpenkaa
open Go.Conc Go.RowKit Go.ConcR.Gen
open Go.ConcR (WgAt stA Payload)
set_option linter.unusedVariables false
set_option linter.unusedSimpArgs false
set_option maxRecDepth 100000
set_option maxHeartbeats 4000000















theorem ev_store_slice (P : Program) (w : World) (es : Array Event) (a : Addr) (m : Mode) (A : Option Addr) (l c : Nat) : (store a (.slice A l c) m).events P w es = storedEv P w es a (.slice A l c) m := events_store P w es a _ m rfl
theorem info_parts {P : Program} {t : TypeId} {a : Option Value} {b c : Nat} (h : (P.info? t).map (fun i => (i.zero, i.size, i.bytes)) = some (a, b, c)) : ∃ i, P.info? t = some i ∧ i.zero = a ∧ i.size = b ∧ i.bytes = c := by
  obtain ⟨i, hi, e⟩ := Option.map_eq_some_iff.1 h
  simp only [Prod.mk.injEq] at e
  exact ⟨i, hi, e.1, e.2.1, e.2.2⟩
theorem u64Info : (Try.prog.info? 25).map (fun i => (i.zero, i.size, i.bytes)) = some (some (.int .u64 0), 1, 8) := by kernel_rfl
theorem ev_max (P : Program) (ts : Array TypeId) (t : TypeId) (k k' : IntKind) (x y : Int) (w : World) : Sem.events P (Builtin.max_ ts t #[.int k x, .int k' y]) w #[] = #[] := by
  simp [Builtin.max_, Builtin.max2, Sem.events_pure]
theorem ev_min (P : Program) (ts : Array TypeId) (t : TypeId) (k k' : IntKind) (x y : Int) (w : World) : Sem.events P (Builtin.min_ ts t #[.int k x, .int k' y]) w #[] = #[] := by
  simp [Builtin.min_, Builtin.min2, Sem.events_pure]
/-- the law's closure gives its value -/
theorem makes_21 {p : QuP} {wb : World} {dv : Value} {j C k vb : Nat} (h : p.Ok) (hC : p.H + 2 ≤ C) (hfv : p.fv = .func (.func 21) #[] #[.pointer (some ⟨vb, 0, none⟩)]) (hvb : wb.heap[vb]? = some (.cells #[.int .u64 p.x] 25)) (l1 : vb < p.H) (l2 : vb ≠ p.L) (l3 : vb ≠ p.Ob) : Makes p k C (FQu p wb dv j C) := by
  refine ⟨21, _, hfv, fun N u w hF => ?_⟩
  have hS : Stays (quC p) C (FQu p wb dv j C) := stays_qu h hC
  have rl9 : ∀ {w w₁ : World}, FQu p wb dv j C w → RW (quC p) C w w₁ → FQu p wb dv j C w₁ := fun h r => hS.rely _ _ r h
  have hmk : ∀ w, FQu p wb dv j C w → w.cell? ⟨vb, 0, none⟩ = some (.int .u64 p.x) := fun w h => box_cell (h.1.old _ _ l1 (fun e => e.elim l2 l3) hvb)
  have hlow : (⟨vb, 0, none⟩ : Addr).block < (quC p).H0 ∧ ¬ (quC p).sh (.cell ⟨vb, 0, none⟩) ∧ ¬ (quC p).sp (.cell ⟨vb, 0, none⟩) := by
    refine ⟨by show vb < p.H + 2; omega, ?_, ?_⟩
    · rintro ⟨a', e, h4⟩
      injection e with e
      subst e
      rcases h4 with h4 | h4
      · exact l2 h4.1
      · simp only at h4; omega
    · rintro (e | ⟨i, e⟩)
      · exact l2 (cell_inj e).1
      · exact l3 (cell_inj e).1
  refine ⟨_, _, Try.func21, by kernel_rfl, rfl, ?_⟩
  simp only [Try.ntmps21]
  walk_nrm
  co_apply codeV_more
  · co_apply codeV_seq
    (co_apply codeV_region; simp only [List.size_toArray, List.length_cons, List.length_nil, Nat.reduceAdd, Nat.zero_add, List.range, List.range.loop])
    (co_apply opsV_cons_k rfl (by rfl); intro _ hR K9 hK9; replace hF := rl9 hF hR; clear hR; go_simp; refine hK9 _ _ ⟨?_, ?_⟩; (· rw [listed_nil (by simp [go_sem, *])]; exact DW.refl _ _ _); clear hK9 K9; try walk_nrm)
    (co_apply opsV_nil; simp only [ThenV])
    co_apply codeV_seq
    (co_apply codeV_region; simp only [List.size_toArray, List.length_cons, List.length_nil, Nat.reduceAdd, Nat.zero_add, List.range, List.range.loop])
    (co_apply opsV_cons_k rfl (by rfl); intro _ hR K9 hK9; replace hF := rl9 hF hR; clear hR; have m1 := hmk _ hF; go_simp; refine hK9 _ _ ⟨?_, ?_⟩; (· refine dw_read (fun e he => ?_); have hm := mem_listed he; simp [go_sem, m1] at hm; subst hm; exact evW_cell (.inr hlow.1) hlow.2); clear hK9 K9 m1; try walk_nrm)
    (co_apply opsV_cons_k rfl (by rfl); intro _ hR K9 hK9; replace hF := rl9 hF hR; clear hR; go_simp; refine hK9 _ _ ⟨?_, ?_⟩; (· rw [listed_nil (by simp [go_sem, *])]; exact DW.refl _ _ _); clear hK9 K9; try walk_nrm)
    (co_apply opsV_nil; simp only [ThenV])
    refine codeV_of (wpC_ret (termsW _ _) ?_)
    exact ⟨rfl, _, resultsC_tmp rfl _, Nat.le_refl _, rfl, rfl, hF⟩
  · decide
theorem outs_new (p : QuP) (σ : QS) (h : ∀ i, σ.o i = 0) : outs p σ = Array.replicate p.n (.int .u64 0) := by
  apply Array.ext
  · simp [outs]
  · intro a h1 h2
    simp [outs, h]
/-- what Rush leaves -/
def RushPost (n g many : Nat) (x : Int) (w : World) (r : Value) (w' : World) (x' : XS) : Prop :=
  ∃ S : Loc → Prop, r = .slice (some ⟨w.heap.size + 1, 0, none⟩) many many ∧ x' = ⟨S, n + many, 0⟩ ∧ (∀ k i, w'.heap.size ≤ k → ¬ S (.cell ⟨k, i, none⟩)) ∧ (∀ k i, k < w.heap.size → k ≠ g → ¬ S (.cell ⟨k, i, none⟩)) ∧ (∀ i, ¬ S (.cell ⟨w.heap.size + 1, i, none⟩)) ∧
    (∀ i, i < many → w'.cell? ⟨w.heap.size + 1, i, none⟩ = some (.int .u64 x)) ∧ w'.cell? ⟨g, 4, none⟩ = some (.int .i32 (if many = 0 then 0 else 1)) ∧ BelO w.heap.size g w w' ∧ w.heap.size + 5 ≤ w'.heap.size
theorem rush_X {Post : Value → World → Prop} {n g vb : Nat} {x : Int} (nn : Int) (many : Nat) (hmany : (many : Int) = min (max nn 0) 64) (w : World) (hn : 0 < n)
    (hg : Blk w g 75 #[.int .u32 0, .int .i32 0, .int .u32 0, .func (.func 21) #[] #[.pointer (some ⟨vb, 0, none⟩)], .int .i32 0, .int .u64 0]) (hv : Blk w vb 25 #[.int .u64 x]) :
    CallX Try.prog Post 22 #[.pointer (some ⟨g, 0, none⟩), .int .i64 nn] w ⟨fun _ => False, n, 0⟩ (RushPost n g many x w) := by
  obtain ⟨s, hs⟩ : ∃ s, s = w.heap.size := ⟨_, rfl⟩
  have hgs : g < s := by rw [hs]; exact hg.lt
  have hvs : vb < s := by rw [hs]; exact hv.lt
  have hvg : vb ≠ g := Blk.ne_ hv hg (by decide)
  unfold RushPost
  refine ⟨_, _, Try.func22, by kernel_rfl, rfl, ?_⟩
  simp only [Try.ntmps22]
  walk_nrm
  have hF := atRel_refl w
  have hm9 : (if 64 < (if nn < 0 then 0 else nn) then 64 else (if nn < 0 then 0 else nn)) = (many : Int) := by omega
  have hm8 : many ≤ 64 := by omega
  clear hmany
  replace hs := Lib.hid hs
  replace hgs := Lib.hid hgs
  replace hvs := Lib.hid hvs
  replace hvg := Lib.hid hvg
  rw [← hs.out]
  (refine codeX_seq ?_)
  (refine codeX_region ?_; simp only [List.size_toArray, List.length_cons, List.length_nil, Nat.reduceAdd, Nat.zero_add, List.range, List.range.loop])
  (refine opsX_cons rfl (by rfl) ?_; intro _ hR K hK; replace hF := atRel_trans _ _ _ hF hR; clear hR; have hs9 := atRel_size hF; go_simp; refine hK _ _ ⟨?_, ?_⟩; (· rw [listed_nil (by simp [go_sem, ev_max, ev_min, *])]; exact dp0_nil); clear hK K hs9; try walk_nrm)
  replace hF := atRel_alloc hF (.cells #[.pointer (some ⟨g, 0, none⟩)] 39)
  rw [← hs.out]
  (refine opsX_cons rfl (by rfl) ?_; intro _ hR K hK; replace hF := atRel_trans _ _ _ hF hR; clear hR; have hs9 := atRel_size hF; go_simp; refine hK _ _ ⟨?_, ?_⟩; (· rw [listed_nil (by simp [go_sem, ev_max, ev_min, *])]; exact dp0_nil); clear hK K hs9; try walk_nrm)
  (refine opsX_nil ?_; simp only [Exit.thenX])
  (refine codeX_seq ?_)
  (refine codeX_region ?_; simp only [List.size_toArray, List.length_cons, List.length_nil, Nat.reduceAdd, Nat.zero_add, List.range, List.range.loop])
  (refine opsX_cons rfl (by rfl) ?_; intro _ hR K hK; replace hF := atRel_trans _ _ _ hF hR; clear hR; have hs9 := atRel_size hF; go_simp; refine hK _ _ ⟨?_, ?_⟩; (· rw [listed_nil (by simp [go_sem, ev_max, ev_min, *])]; exact dp0_nil); clear hK K hs9; try walk_nrm)
  (refine opsX_cons rfl (by rfl) ?_; intro _ hR K hK; replace hF := atRel_trans _ _ _ hF hR; clear hR; have hs9 := atRel_size hF; go_simp; refine hK _ _ ⟨?_, ?_⟩; (· rw [listed_nil (by simp [go_sem, ev_max, ev_min, *])]; exact dp0_nil); clear hK K hs9; try walk_nrm)
  (refine opsX_cons rfl (by rfl) ?_; intro _ hR K hK; replace hF := atRel_trans _ _ _ hF hR; clear hR; have hs9 := atRel_size hF; go_simp; refine hK _ _ ⟨?_, ?_⟩; (· rw [listed_nil (by simp [go_sem, ev_max, ev_min, *])]; exact dp0_nil); clear hK K hs9; try walk_nrm)
  clear hm9
  obtain ⟨W1, hW1⟩ : ∃ W1, W1 = w.alloc (.cells #[.pointer (some ⟨g, 0, none⟩)] 39) := ⟨_, rfl⟩
  obtain ⟨W2, hW2⟩ : ∃ W2, W2 = W1.alloc (.cells (Array.replicate many (.int .u64 0)) 25) := ⟨_, rfl⟩
  obtain ⟨W3, hW3⟩ : ∃ W3, W3 = W2.alloc (.cells #[.slice none 0 0] 44) := ⟨_, rfl⟩
  obtain ⟨W4, hW4⟩ : ∃ W4, W4 = W3.setCell ⟨s + 2, 0, none⟩ (.slice (some ⟨s + 1, 0, none⟩) many many) := ⟨_, rfl⟩
  have z1 : W1.heap.size = s + 1 := by rw [hW1, hs.out]; simp
  have z2 : W2.heap.size = s + 2 := by rw [hW2]; simp [z1]
  have z3 : W3.heap.size = s + 3 := by rw [hW3]; simp [z2]
  have z4 : W4.heap.size = s + 3 := by rw [hW4, (aside_setCell W3 _ _).size, z3]
  have B4 : Below s w W4 := by
    have hb : Below s w W3 := by
      rw [hW3, hW2, hW1, hs.out]
      exact (((Below.refl _ _).alloc (Nat.le_refl _) _).alloc (by simp) _).alloc (by simp <;> omega) _
    rw [hW4]
    exact hb.setCell (p := ⟨s + 2, 0, none⟩) (by show s ≤ s + 2; omega) _
  have l3 : Blk W4 s 39 #[.pointer (some ⟨g, 0, none⟩)] := by
    have : Blk W3 s 39 #[.pointer (some ⟨g, 0, none⟩)] := by
      rw [hW3, hW2, hW1, hs.out]
      exact ((Blk.new w _ _).alloc _).alloc _
    rw [hW4]
    exact this.far (p := ⟨s + 2, 0, none⟩) (by show s ≠ s + 2; omega) _
  have o3 : Blk W4 (s + 1) 25 (Array.replicate many (.int .u64 0)) := by
    have := (Blk.new W1 25 (Array.replicate many (.int .u64 0))).alloc (.cells #[.slice none 0 0] 44)
    rw [z1] at this
    have h3 : Blk W3 (s + 1) 25 (Array.replicate many (.int .u64 0)) := by rw [hW3, hW2]; exact this
    rw [hW4]
    exact h3.far (p := ⟨s + 2, 0, none⟩) (by show s + 1 ≠ s + 2; omega) _
  have b3 : Blk W3 (s + 2) 44 #[.slice none 0 0] := by
    have := Blk.new W2 44 #[.slice none 0 0]
    rw [z2] at this
    rw [hW3]
    exact this
  have b4 : Blk W4 (s + 2) 44 #[.slice (some ⟨s + 1, 0, none⟩) many many] := by rw [hW4]; exact b3.set_ 0 _
  have g4 : Blk W4 g 75 #[.int .u32 0, .int .i32 0, .int .u32 0, .func (.func 21) #[] #[.pointer (some ⟨vb, 0, none⟩)], .int .i32 0, .int .u64 0] := (B4.block g hgs.out).trans hg
  have x4 : Blk W4 vb 25 #[.int .u64 x] := (B4.block vb hvs.out).trans hv
  replace hW1 := Lib.hid hW1
  replace hW2 := Lib.hid hW2
  replace hW3 := Lib.hid hW3
  replace hW4 := Lib.hid hW4
  replace z1 := Lib.hid z1
  replace z2 := Lib.hid z2
  replace z3 := Lib.hid z3
  replace z4 := Lib.hid z4
  rw [← hW1.out] at hF
  have hmk : ∀ W : World, (Instr.makeSlice 44 (.int .i64 (many : Int)) (.int .i64 (many : Int))).run Try.prog W = .ok (.slice (some ⟨W.heap.size, 0, none⟩) many many) (W.alloc (.cells (Array.replicate many (.int .u64 0)) 25)) := fun W => by
    obtain ⟨i0, hi, hz0, hz1, hz2⟩ := info_parts u64Info
    have := run_makeSlice (P := Try.prog) W _ _ i0 _ Try.underlying44 hi hz0 .i64 .i64 many many (by omega) (by omega) (by rw [hz1]; omega) (by rw [hz2]; omega) (by omega)
    rw [this]
    have hc : madeCells (Value.cells (.int .u64 0)) ((many : Int).toNat * i0.size) = Array.replicate many (Value.int .u64 0) := by
      rw [hz1, Int.toNat_natCast, Nat.mul_one]
      apply Array.ext
      · simp [madeCells]
      · intro q h1 h2
        simp [madeCells, Value.cells, Nat.mod_one]
    rw [hc]
    simp only [Int.toNat_natCast]
  have hme : ∀ W : World, (Instr.makeSlice 44 (.int .i64 (many : Int)) (.int .i64 (many : Int))).events Try.prog W #[] = #[] := fun W => by
    obtain ⟨i0, hi, hz0, hz1, hz2⟩ := info_parts u64Info
    exact events_make W _ _ i0 _ Try.underlying44 hi hz0 .i64 .i64 many many (by omega) (by omega) (by rw [hz2]; omega) (by omega) (by rw [hz2, Int.toNat_natCast]; omega) #[]
  (refine opsX_cons rfl (by rfl) ?_; intro _ hR K hK; replace hF := atRel_trans _ _ _ hF hR; clear hR; have hs9 := atRel_size hF; go_simp; refine hK _ _ ⟨?_, ?_⟩; (· rw [listed_nil (by simp [go_sem, ev_max, ev_min, *])]; exact dp0_nil); clear hK K hs9; try walk_nrm)
  replace hF := atRel_alloc hF (.cells (Array.replicate many (.int .u64 0)) 25)
  rw [← hW2.out] at hF
  rw [z1.out]
  clear hmk hme
  (refine opsX_cons rfl (by rfl) ?_; intro _ hR K hK; replace hF := atRel_trans _ _ _ hF hR; clear hR; have hs9 := atRel_size hF; go_simp; refine hK _ _ ⟨?_, ?_⟩; (· rw [listed_nil (by simp [go_sem, ev_max, ev_min, *])]; exact dp0_nil); clear hK K hs9; try walk_nrm)
  replace hF := atRel_alloc hF (.cells #[.slice none 0 0] 44)
  rw [← hW3.out] at hF
  rw [z2.out]
  have nS : ∀ g i, s ≤ g → ¬ (fun _ : Loc => False) (.cell ⟨g, i, none⟩) := fun _ _ _ h => h
  (have hc9 : W3.cell? ⟨s + 2, 0, none⟩ = _ := b3.cell 0; have hz9 : W3.frozen? ⟨s + 2, 0, none⟩ = _ := b3.frozen 0; have hS9 := nS (s + 2) 0 (by omega); (refine opsX_cons rfl (by rfl) ?_; intro _ hR K hK; replace hF := atRel_trans _ _ _ hF hR; clear hR; have hl9 := (atRel_cell hF _).trans hc9; have hz9' := (atRel_frozen hF _).trans hz9; go_simp; refine hK _ _ ⟨?_, ?_⟩; (· intro e he; have hm := mem_listed he; simp [go_sem, ev_store_slice, storedEv, hl9] at hm; rw [hm.2]; exact evP_cell _ hS9); clear hK K hl9 hc9 hz9 hz9' hS9; try walk_nrm))
  replace hF := atRel_set hF ⟨s + 2, 0, none⟩ (.slice (some ⟨s + 1, 0, none⟩) many many)
  rw [← hW4.out] at hF
  (refine opsX_nil ?_; simp only [Exit.thenX])
  (refine codeX_seq ?_)
  (refine codeX_region ?_; simp only [List.size_toArray, List.length_cons, List.length_nil, Nat.reduceAdd, Nat.zero_add, List.range, List.range.loop])
  (have hc9 : W4.cell? ⟨s + 2, 0, none⟩ = _ := b4.cell 0; have hS9 := nS (s + 2) 0 (by omega); (refine opsX_cons rfl (by rfl) ?_; intro _ hR K hK; replace hF := atRel_trans _ _ _ hF hR; clear hR; have hl9 := (atRel_cell hF _).trans hc9; go_simp; refine hK _ _ ⟨?_, ?_⟩; (· intro e he; have hm := mem_listed he; simp [go_sem, hl9] at hm; rw [hm]; exact evP_cell _ hS9); clear hK K hl9 hc9 hS9; try walk_nrm))
  (refine opsX_cons rfl (by rfl) ?_; intro _ hR K hK; replace hF := atRel_trans _ _ _ hF hR; clear hR; have hs9 := atRel_size hF; go_simp; refine hK _ _ ⟨?_, ?_⟩; (· rw [listed_nil (by simp [go_sem, ev_max, ev_min, *])]; exact dp0_nil); clear hK K hs9; try walk_nrm)
  (refine opsX_cons rfl (by rfl) ?_; intro _ hR K hK; replace hF := atRel_trans _ _ _ hF hR; clear hR; have hs9 := atRel_size hF; go_simp; refine hK _ _ ⟨?_, ?_⟩; (· rw [listed_nil (by simp [go_sem, ev_max, ev_min, *])]; exact dp0_nil); clear hK K hs9; try walk_nrm)
  obtain ⟨p, hp⟩ : ∃ p : QuP, p = ⟨g, s + 1, W4.heap.size, many, n, x, .func (.func 21) #[] #[.pointer (some ⟨vb, 0, none⟩)]⟩ := ⟨_, rfl⟩
  have pL : p.L = g := by rw [hp]
  have pO : p.Ob = s + 1 := by rw [hp]
  have pH : p.H = W4.heap.size := by rw [hp]
  have pn : p.n = many := by rw [hp]
  have pN : p.N0 = n := by rw [hp]
  have px : p.x = x := by rw [hp]
  have pf : p.fv = .func (.func 21) #[] #[.pointer (some ⟨vb, 0, none⟩)] := by rw [hp]
  have hok : p.Ok := by
    have := hgs.out; have := z4.out
    exact ⟨by rw [pn]; omega, by rw [pN]; exact hn, by rw [pL, pH]; omega, by rw [pO, pH]; omega, by rw [pL, pO]; omega⟩
  have R : RuIn p W4 s (s + 2) := by
    have hg' := hgs.out; have hz := z4.out
    refine ⟨by rw [pL]; exact l3, by rw [pO, pn]; exact b4, ?_⟩
    rintro k (rfl | rfl) <;> rw [pH, pL, pO] <;> omega
  clear hp
  obtain ⟨σ0, hσ0⟩ : ∃ σ0 : QS, σ0 = ⟨⟨w0, 0⟩, false, 0, 0, false, fun _ => false, fun _ => 0⟩ := ⟨_, rfl⟩
  have hrep0 : ∀ W : World, W4.heap.size + 2 ≤ W.heap.size → (∀ k, k < W4.heap.size → W.heap[k]? = W4.heap[k]?) → (quC p).Rep σ0 W := by
    intro W hW hk
    have hg' := hgs.out; have hz := z4.out
    refine ⟨?_, ?_, ?_⟩
    · rw [pL, hσ0, hk _ (by omega)]
      unfold Blk at g4
      rw [g4]
      unfold lazO
      rw [pf]
      rfl
    · rw [pO, hk _ (by omega)]
      unfold outO
      rw [outs_new p σ0 (by rw [hσ0]; intro i; rfl), pn]
      exact o3
    · rw [pH]; exact hW
  have hju0 : (quC p).JU σ0 (fun _ => (⟨.a0, .pre, 0⟩ : QU)) 0 :=
    ⟨qj_none (by rw [hσ0]; exact minv_none) (by rw [hσ0]) (by rw [hσ0]) (by rw [hσ0]) (by rw [hσ0]; intro i; rfl), Nat.zero_le _⟩
  clear hσ0
  have A : AlO (quC p) W4.heap.size := by rw [← pH]; exact alo_qu hok
  have hcall := all_X (Post := Post) (c := quC p) (S := fun _ => False) (f := 35) (cap := #[.pointer (some ⟨s, 0, none⟩), .pointer (some ⟨s + 2, 0, none⟩)]) (σ := σ0) (us := fun _ => (⟨.a0, .pre, 0⟩ : QU)) (nf := fun N => (N + 1) * 42012 + 190000) W4 A (fun x h => h.elim) hrep0 hju0 (fun j C N w1 hj hC hK => by
    have hj' : j < p.n := hj
    rw [← pH] at hK
    have hz := z4.out; have hg' := hvs.out
    have hm := makes_21 (k := (quC p).N0 + j) (j := j) (dv := .func (.func 35) #[] #[.pointer (some ⟨s, 0, none⟩), .pointer (some ⟨s + 2, 0, none⟩)]) (wb := W4) hok hC pf (by rw [px]; exact x4) (by rw [pH]; omega) (by rw [pL]; exact hvg.out) (by rw [pO]; omega)
    have := rush1_V (k := (quC p).N0 + j) (N := N) hok hC R hm hj' w1 hK
    rw [pH] at this
    exact this)
  rw [show (quC p).N0 = n from pN, show (quC p).n = many from pn] at hcall
  refine opsX_callB rfl (by rfl) rfl ?_ ?_ (Pos := AllOut (quC p) W4)
  · walk_nrm
    exact callB_rely hF hcall
  rintro r w5 x' ⟨σ, us, rfl, rfl, hR, hJ, hfin, hold, henv, hsz⟩
  clear hF hcall hrep0 hju0
  have hF := atRel_refl w5
  have hE := qj_end (x := p.x) (σ := σ) (us := us) (j := p.n) hJ.1 hfin
  obtain ⟨hL, hO, _⟩ := hR
  have c4 : w5.cell? ⟨g, 4, none⟩ = some (.int .i32 (if many = 0 then 0 else 1)) := by
    rw [pL] at hL
    have h1 := hE.1
    rw [pn] at h1
    simp only [World.cell?, hL, lazO, h1]
    by_cases hm0 : many = 0
    · subst hm0; rfl
    · simp [hm0]
  have cO : ∀ i, i < many → w5.cell? ⟨s + 1, i, none⟩ = some (.int .u64 x) := fun i hi => by
    rw [pO] at hO
    have h1 := outs_get p σ (i := i) (by rw [pn]; exact hi)
    rw [hE.2 i (by rw [pn]; exact hi), px] at h1
    unfold outO at hO
    simp [World.cell?, hO, h1]
  have hsh : ∀ a : Addr, (quC p).sh (.cell a) → a.block = g ∨ a.block = s + 4 := by
    rintro a ⟨a', e, h⟩
    injection e with e
    subst e
    rw [pL, pH, z4.out] at h
    rcases h with h | h
    · exact .inl h.1
    · exact .inr h
  have hw5 : w5.heap[s + 2]? = some (.cells #[.slice (some ⟨s + 1, 0, none⟩) many many] 44) := hold _ _ (by rw [z4.out]; omega) (by have := hgs.out; rintro (e | e) <;> (first | rw [pL] at e | rw [pO] at e) <;> omega) b4
  have hB5 : BelO s g w w5 ∧ s + 5 ≤ w5.heap.size := by
    have hz := z4.out; have hg' := hgs.out
    have hz0 := hs.out
    refine ⟨⟨(⟨B4.tape, by rw [B4.os]; exact .refl _, B4.output⟩ : Env w W4).trans henv, by omega, fun k hk hkg => ?_⟩, by omega⟩
    have hk' : k < w.heap.size := by omega
    have e := Array.getElem?_eq_getElem hk'
    rw [e]
    exact hold _ _ (by omega) (by rintro (e | e) <;> (first | rw [pL] at e | rw [pO] at e) <;> omega) ((B4.block k hk).trans e)
  have hn9 : (quC p).N0 + (quC p).n = n + many := by show p.N0 + p.n = _; rw [pN, pn]
  rw [hn9]
  clear hL hO hE hJ hfin hold henv hsz A R hok pL pO pH pn pN px pf l3 o3 b3 b4 g4 x4 B4
  generalize (quC p).sh = S at hsh ⊢
  replace hB5 := Lib.hid hB5
  replace c4 := Lib.hid c4
  replace cO := Lib.hid cO
  replace hsh := Lib.hid hsh
  walk_nrm
  (refine opsX_nil ?_; simp only [Exit.thenX])
  (refine codeX_seq ?_)
  (refine codeX_region ?_; simp only [List.size_toArray, List.length_cons, List.length_nil, Nat.reduceAdd, Nat.zero_add, List.range, List.range.loop])
  (have hc9 : w5.cell? ⟨s + 2, 0, none⟩ = _ := box_cell hw5; have hS9 : ¬ S (.cell ⟨s + 2, 0, none⟩) := (fun h => by have h1 := hsh.out _ h; have h2 := hgs.out; simp only at h1; omega); (refine opsX_cons rfl (by rfl) ?_; intro _ hR K hK; replace hF := atRel_trans _ _ _ hF hR; clear hR; have hl9 := (atRel_cell hF _).trans hc9; go_simp; refine hK _ _ ⟨?_, ?_⟩; (· intro e he; have hm := mem_listed he; simp [go_sem, hl9] at hm; rw [hm]; exact evP_cell _ hS9); clear hK K hl9 hc9 hS9; try walk_nrm))
  (refine opsX_cons rfl (by rfl) ?_; intro _ hR K hK; replace hF := atRel_trans _ _ _ hF hR; clear hR; have hs9 := atRel_size hF; go_simp; refine hK _ _ ⟨?_, ?_⟩; (· rw [listed_nil (by simp [go_sem, ev_max, ev_min, *])]; exact dp0_nil); clear hK K hs9; try walk_nrm)
  (refine opsX_nil ?_; simp only [Exit.thenX])
  (refine codeX_of ?_; refine codeW_ret (termsP _) ?_)
  have hz := z4.out; have hg' := hgs.out; have hz0 := hs.out
  have hB := hB5.out
  have hsz := atRel_size hF
  refine ⟨rfl, _, resultsC_tmp rfl _, S, rfl, rfl, fun k i hk h => ?_, fun k i hk hkg h => ?_, fun i h => ?_, fun i hi => (atRel_cell hF _).trans (cO.out i hi), (atRel_cell hF _).trans c4.out, hB.1.at hF, by rw [hsz]; exact hB.2⟩
  · have := hsh.out _ h; simp only at this; omega
  · have := hsh.out _ h; simp only at this; omega
  · have := hsh.out _ h; simp only at this; omega
end Go.Proofs.Ytinghnaigpenkaa
