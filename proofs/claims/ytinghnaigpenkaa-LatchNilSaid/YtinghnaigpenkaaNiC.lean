/- Seat 05: Race of no latch, called. -/
import Derived.Test.YtinghnaigpenkaaNiB
import Derived.Test.YtinghnaigpenkaaAlE
import Derived.Test.YtinghnaigpenkaaLwE
namespace Go.Proofs.Ytinghnaigpenkaa
open Go.Conc Go.RowKit Go.ConcR.Gen
open Go.ConcR (WgAt stA Payload)
set_option linter.unusedVariables false
set_option linter.unusedSimpArgs false
set_option maxRecDepth 100000
set_option maxHeartbeats 4000000











def blkS (d : Nat → Prop) : Loc → Prop := fun l => ∃ a : Addr, l = .cell a ∧ d a.block
/-- workers that share nothing -/
def niC (H n N0 : Nat) (d : Nat → Prop) : Cfg where
  ty := 95
  Wg := H + 1
  n := n
  N0 := N0
  H0 := H + 2
  SB := fun _ => False
  sh := blkS fun b => b = H + 1 ∨ d b
  own := fun _ _ => False
  U := Unit
  S := Unit
  Rep := fun _ _ => True
  Pre := fun _ _ => True
  Tr := fun _ _ _ _ => True
  fin := fun _ => True
  init := fun _ => ()
  JU := fun _ _ _ => True
  mu := fun _ _ _ => 0
theorem niO {H n N0 : Nat} {d : Nat → Prop} (hn : n < 2147483648) (hN : 0 < N0) (hd : ∀ b, d b → b < H) : AlO (niC H n N0 d) H where
  K := {
    hn := hn
    hN := hN
    rep_same := fun _ _ _ _ _ => trivial
    sb_hard := fun _ _ _ _ h => h.elim
    sb_lt := fun _ _ _ _ h => h.elim
    sbWg := fun h => h
    shWg := fun a ha => ⟨a, rfl, .inl ha⟩
    own_sh := fun _ _ h => h.elim
    own_one := fun _ _ _ h => h.elim
    own_mem := fun _ _ h => h.elim
    spawn := fun _ _ _ _ _ => ⟨trivial, Nat.le_refl _⟩
    step := fun _ _ _ _ _ _ _ _ hf => absurd trivial hf
    pre := fun _ _ _ _ _ _ _ => trivial }
  ty := rfl
  wg := rfl
  h0 := rfl
  lo := fun _ h => h.elim
  pl := fun a ha => ⟨by
    rintro ⟨a', e, h⟩
    injection e with e
    subst e
    rcases h with h | h
    · omega
    · have := hd _ h; omega, fun _ h => h⟩
theorem raceNil_X {Post : Value → World → Prop} {d : Nat → Prop} {n : Nat} {l : List Int} {db off cap : Nat} {Al : Option Addr} (w : World) (hn : 0 < n) (hl : l.length < 2147483648) (hd : ∀ b, d b → b < w.heap.size)
    (hat : 0 < l.length → Al = some ⟨db, off, none⟩ ∧ ¬ d db) (hdata : ∀ q x, l[q]? = some x → w.cell? ⟨db, off + q, none⟩ = some (.int .u64 x)) :
    CallX Try.prog Post 19 #[.pointer none, .slice Al l.length cap] w ⟨blkS d, n, 0⟩ (fun v w' x' => v = .int .i64 0 ∧ x' = ⟨blkS fun b => b = w.heap.size + 4 ∨ d b, n + l.length, 0⟩ ∧ Below w.heap.size w w' ∧ w.heap.size + 5 ≤ w'.heap.size) := by
  obtain ⟨s, hs⟩ : ∃ s, s = w.heap.size := ⟨_, rfl⟩
  refine ⟨_, _, Try.func19, by kernel_rfl, rfl, ?_⟩
  simp only [Try.ntmps19]
  walk_nrm
  have hF := atRel_refl w
  obtain ⟨len, hlen⟩ : ∃ len, len = l.length := ⟨_, rfl⟩
  rw [← hlen]
  replace hlen := Lib.hid hlen
  replace hs := Lib.hid hs
  rw [← hs.out]
  rw [← hs.out] at hd
  obtain ⟨W1, hW1⟩ : ∃ W1, W1 = w.alloc (.cells #[.pointer none] 23) := ⟨_, rfl⟩
  obtain ⟨W2, hW2⟩ : ∃ W2, W2 = W1.alloc (.cells #[.slice Al len cap] 44) := ⟨_, rfl⟩
  obtain ⟨W3, hW3⟩ : ∃ W3, W3 = W2.alloc (.cells #[.int .i32 0] 73) := ⟨_, rfl⟩
  have z1 : W1.heap.size = s + 1 := by rw [hW1, hs.out]; simp
  have z2 : W2.heap.size = s + 2 := by rw [hW2]; simp [z1]
  have z3 : W3.heap.size = s + 3 := by rw [hW3]; simp [z2]
  have B3 : Below s w W3 := by
    rw [hW3, hW2, hW1, hs.out]
    exact (((Below.refl _ _).alloc (Nat.le_refl _) _).alloc (by simp) _).alloc (by simp <;> omega) _
  have l3 : Blk W3 s 23 #[.pointer none] := by
    rw [hW3, hW2, hW1, hs.out]
    exact ((Blk.new w _ _).alloc _).alloc _
  have v3 : Blk W3 (s + 1) 44 #[.slice Al len cap] := by
    have := (Blk.new W1 44 #[.slice Al len cap]).alloc (.cells #[.int .i32 0] 73)
    rw [z1] at this
    rw [hW3, hW2]
    exact this
  have w3 : Blk W3 (s + 2) 73 #[.int .i32 0] := by
    have := Blk.new W2 73 #[.int .i32 0]
    rw [z2] at this
    rw [hW3]
    exact this
  replace hW1 := Lib.hid hW1
  replace hW2 := Lib.hid hW2
  replace hW3 := Lib.hid hW3
  replace z1 := Lib.hid z1
  replace z2 := Lib.hid z2
  replace z3 := Lib.hid z3
  (refine codeX_seq ?_)
  (refine codeX_region ?_; simp only [List.size_toArray, List.length_cons, List.length_nil, Nat.reduceAdd, Nat.zero_add, List.range, List.range.loop])
  (refine opsX_cons rfl (by rfl) ?_; intro _ hR K hK; replace hF := atRel_trans _ _ _ hF hR; clear hR; have hs9 := atRel_size hF; go_simp; refine hK _ _ ⟨?_, ?_⟩; (· rw [listed_nil (by simp [go_sem, *])]; exact dp0_nil); clear hK K hs9; try walk_nrm)
  replace hF := atRel_alloc hF (.cells #[.pointer none] 23)
  rw [← hW1.out] at hF
  rw [← hs.out]
  (refine opsX_cons rfl (by rfl) ?_; intro _ hR K hK; replace hF := atRel_trans _ _ _ hF hR; clear hR; have hs9 := atRel_size hF; go_simp; refine hK _ _ ⟨?_, ?_⟩; (· rw [listed_nil (by simp [go_sem, *])]; exact dp0_nil); clear hK K hs9; try walk_nrm)
  replace hF := atRel_alloc hF (.cells #[.slice Al len cap] 44)
  rw [← hW2.out] at hF
  rw [z1.out]
  (refine opsX_cons rfl (by rfl) ?_; intro _ hR K hK; replace hF := atRel_trans _ _ _ hF hR; clear hR; have hs9 := atRel_size hF; go_simp; refine hK _ _ ⟨?_, ?_⟩; (· rw [listed_nil (by simp [go_sem, *])]; exact dp0_nil); clear hK K hs9; try walk_nrm)
  (refine opsX_nil ?_; simp only [Exit.thenX])
  (refine codeX_seq ?_)
  (refine codeX_region ?_; simp only [List.size_toArray, List.length_cons, List.length_nil, Nat.reduceAdd, Nat.zero_add, List.range, List.range.loop])
  (refine opsX_cons rfl (by rfl) ?_; intro _ hR K hK; replace hF := atRel_trans _ _ _ hF hR; clear hR; have hs9 := atRel_size hF; go_simp; refine hK _ _ ⟨?_, ?_⟩; (· rw [listed_nil (by simp [go_sem, *])]; exact dp0_nil); clear hK K hs9; try walk_nrm)
  replace hF := atRel_alloc hF (.cells #[.int .i32 0] 73)
  rw [← hW3.out] at hF
  rw [z2.out]
  (refine opsX_nil ?_; simp only [Exit.thenX])
  (refine codeX_seq ?_)
  (refine codeX_region ?_; simp only [List.size_toArray, List.length_cons, List.length_nil, Nat.reduceAdd, Nat.zero_add, List.range, List.range.loop])
  have nS : ∀ g i, s ≤ g → ¬ blkS d (.cell ⟨g, i, none⟩) := by
    rintro g i hg ⟨a, e, h⟩
    injection e with e
    subst e
    have := hd _ h
    simp only at this
    omega
  (have hc9 : W3.cell? ⟨s + 1, 0, none⟩ = _ := v3.cell 0; have hS9 := nS (s + 1) 0 (by omega); (refine opsX_cons rfl (by rfl) ?_; intro _ hR K hK; replace hF := atRel_trans _ _ _ hF hR; clear hR; have hl9 := (atRel_cell hF _).trans hc9; go_simp; refine hK _ _ ⟨?_, ?_⟩; (· intro e he; have hm := mem_listed he; simp [go_sem, hl9] at hm; rw [hm]; exact evP_cell _ hS9); clear hK K hl9 hc9 hS9; try walk_nrm))
  (refine opsX_cons rfl (by rfl) ?_; intro _ hR K hK; replace hF := atRel_trans _ _ _ hF hR; clear hR; have hs9 := atRel_size hF; go_simp; refine hK _ _ ⟨?_, ?_⟩; (· rw [listed_nil (by simp [go_sem, *])]; exact dp0_nil); clear hK K hs9; try walk_nrm)
  (refine opsX_cons rfl (by rfl) ?_; intro _ hR K hK; replace hF := atRel_trans _ _ _ hF hR; clear hR; have hs9 := atRel_size hF; go_simp; refine hK _ _ ⟨?_, ?_⟩; (· rw [listed_nil (by simp [go_sem, *])]; exact dp0_nil); clear hK K hs9; try walk_nrm)
  have A : AlO (niC W3.heap.size len n d) W3.heap.size := niO (by rw [hlen.out]; exact hl) hn (fun b hb => by have := hd b hb; rw [z3.out]; omega)
  have hcall := all_X (Post := Post) (S := blkS d) (f := 33) (cap := #[.pointer (some ⟨s, 0, none⟩), .pointer (some ⟨s + 1, 0, none⟩), .pointer (some ⟨s + 2, 0, none⟩)]) (σ := ()) (us := fun _ => ()) (nf := fun _ => 500) W3 A (fun x ⟨a, e, h⟩ => ⟨a, e, .inr h⟩) trivial trivial (fun j C N w1 hj hC hK => by
    have R : RcIn (niC W3.heap.size len n d) W3 W3.heap.size l s (s + 1) db off cap Al (.pointer none) := by
      refine ⟨l3, by rw [← hlen.out]; exact v3, fun hp => (hat hp).1, fun q x hx => ?_, ?_⟩
      · have hx' := hdata q x hx
        have hlt : db < s := by rw [hs.out]; exact World.block_lt_of_cell? w _ hx'
        rw [B3.cell (p := ⟨db, off + q, none⟩) hlt]
        exact hx'
      · have nsh : ∀ g i, g < W3.heap.size → ¬ d g → ¬ (niC W3.heap.size len n d).sh (.cell ⟨g, i, none⟩) := by
          rintro g i hg hdg ⟨a, e, h⟩
          injection e with e
          subst e
          rcases h with h | h
          · simp only at h; omega
          · exact hdg h
        rintro g (rfl | rfl | ⟨hp, rfl⟩)
        · exact ⟨by rw [z3.out]; omega, fun h => h, fun i => ⟨nsh _ _ (by rw [z3.out]; omega) (fun h => by have := hd _ h; omega), fun _ h => h⟩⟩
        · exact ⟨by rw [z3.out]; omega, fun h => h, fun i => ⟨nsh _ _ (by rw [z3.out]; omega) (fun h => by have := hd _ h; omega), fun _ h => h⟩⟩
        · have hx : ∃ x, l[0]? = some x := ⟨_, List.getElem?_eq_getElem hp⟩
          obtain ⟨x, hx⟩ := hx
          have hlt : g < s := by rw [hs.out]; exact World.block_lt_of_cell? w _ (hdata 0 x hx)
          exact ⟨by rw [z3.out]; omega, fun h => h, fun i => ⟨nsh _ _ (by rw [z3.out]; omega) (hat hp).2, fun _ h => h⟩⟩
    exact race1Nil_V A hC R (by rw [← hlen.out]; exact hj) _ trivial w1 hK)
  refine opsX_callB rfl (by rfl) rfl ?_ ?_ (Pos := AllOut (niC W3.heap.size len n d) W3)
  · walk_nrm
    exact callB_rely hF hcall
  rintro v w4 x' ⟨σ, us, rfl, rfl, _, _, _, hold, henv, hsz⟩
  clear hF hcall
  have hF := atRel_refl w4
  have hw4 : w4.heap[s + 2]? = some (.cells #[.int .i32 0] 73) := hold _ _ (by rw [z3.out]; omega) (fun h => h) w3
  have hB4 : Below w.heap.size w w4 ∧ w.heap.size + 5 ≤ w4.heap.size := by
    rw [← hs.out]
    rw [z3.out] at hsz
    refine ⟨⟨henv.os.trans B3.os, henv.tape.trans B3.tape, henv.output.trans B3.output, by rw [hs.out] at hsz; omega, fun k hk => ?_⟩, by omega⟩
    have hk' : k < w.heap.size := by rw [← hs.out]; exact hk
    have e := Array.getElem?_eq_getElem hk'
    rw [e]
    exact hold _ _ (by rw [z3.out]; omega) (fun h => h) ((B3.block k hk).trans e)
  have hx' : (⟨(niC W3.heap.size len n d).sh, (niC W3.heap.size len n d).N0 + (niC W3.heap.size len n d).n, 0⟩ : XS) = ⟨blkS fun b => b = s + 4 ∨ d b, n + len, 0⟩ := by
    unfold niC
    simp only [z3.out]
  rw [hx']
  replace hB4 := Lib.hid hB4
  clear hold henv hsz A l3 v3 w3 B3
  walk_nrm
  (refine opsX_nil ?_; simp only [Exit.thenX])
  (refine codeX_seq ?_)
  (refine codeX_region ?_; simp only [List.size_toArray, List.length_cons, List.length_nil, Nat.reduceAdd, Nat.zero_add, List.range, List.range.loop])
  refine opsX_callW rfl (by rfl) rfl ?_ ?_ (Pos := fun r w' => r = .int .i32 0 ∧ AtRel w4 w')
  · walk_nrm
    exact CallsW.rely (termsP _) (iload_W (s + 2) 0 0 w4 (box_cell hw4)) hF
  rintro v w' ⟨rfl, hF'⟩
  clear hF
  have hF := hF'
  clear hF'
  walk_nrm
  (repeat (refine opsX_cons rfl (by rfl) ?_; intro _ hR K hK; replace hF := atRel_trans _ _ _ hF hR; clear hR; have hs9 := atRel_size hF; go_simp; refine hK _ _ ⟨?_, ?_⟩; (· rw [listed_nil (by simp [go_sem, *])]; exact dp0_nil); clear hK K hs9; try walk_nrm))
  (refine opsX_nil ?_; simp only [Exit.thenX])
  (refine codeX_of ?_; refine codeW_ret (termsP _) ?_)
  exact ⟨rfl, _, resultsC_tmp rfl _, rfl, by rw [hlen.out], by rw [hs.out]; exact atRel_below hF hB4.out.1, by rw [atRel_size hF, hs.out]; exact hB4.out.2⟩
end Go.Proofs.Ytinghnaigpenkaa
