/- Seat 05: Race of a latch, called. -/
import Derived.Test.YtinghnaigpenkaaZRaF
import Derived.Test.YtinghnaigpenkaaZRaG
namespace Go.Proofs.Ytinghnaigpenkaa
open Go.Conc Go.RowKit Go.ConcR.Gen
open Go.ConcR (WgAt stA Payload)
set_option linter.unusedVariables false
set_option linter.unusedSimpArgs false
set_option maxRecDepth 100000
set_option maxHeartbeats 4000000











/-- what lies below stands, but one block; the clock may have passed -/
structure BelO (s g : Nat) (w w' : World) : Prop where
  env : Env w w'
  size : w.heap.size ≤ w'.heap.size
  block : ∀ k, k < s → k ≠ g → w'.heap[k]? = w.heap[k]?
def RaceEnd (b : Bool) (v : Int) (l : List Int) (wn : Int) (b' : Bool) (z : Int) : Prop :=
  (b = true → wn = 0 ∧ b' = true ∧ z = v) ∧ (b = false → (l.length = 0 → wn = 0 ∧ b' = false ∧ z = 0) ∧ (l.length ≠ 0 → wn = 1 ∧ b' = true ∧ z ∈ l))
def RacePost (n : Nat) (l : List Int) (g : Nat) (b : Bool) (v : Int) (w : World) (r : Value) (w' : World) (x' : XS) : Prop := ∃ (wn : Int) (b' : Bool) (z : Int) (S : Loc → Prop), r = .int .i64 wn ∧ RaceEnd b v l wn b' z ∧ x' = ⟨S, n + l.length, 0⟩ ∧
      (∀ k i, w'.heap.size ≤ k → ¬ S (.cell ⟨k, i, none⟩)) ∧ (∀ k i, k < w.heap.size → k ≠ g → ¬ S (.cell ⟨k, i, none⟩)) ∧ ¬ S (.cell ⟨g, 4, none⟩) ∧ w'.cell? ⟨g, 3, none⟩ = some (.int .u32 (if b' then 1 else 0)) ∧ w'.cell? ⟨g, 4, none⟩ = some (.int .u64 z) ∧ BelO w.heap.size g w w'
theorem race_X {Post : Value → World → Prop} {n : Nat} {l : List Int} {db off cap g : Nat} {Al : Option Addr} {b : Bool} {v : Int} (w : World) (hn : 0 < n) (hl : l.length ≤ 60) (hg : LatU w g b v) (hbv : b = false → v = 0)
    (hat : 0 < l.length → Al = some ⟨db, off, none⟩ ∧ db ≠ g) (hdata : ∀ q x, l[q]? = some x → w.cell? ⟨db, off + q, none⟩ = some (.int .u64 x)) :
    CallX Try.prog Post 19 #[.pointer (some ⟨g, 0, none⟩), .slice Al l.length cap] w ⟨fun _ => False, n, 0⟩ (RacePost n l g b v w) := by
  unfold RacePost
  obtain ⟨s, hs⟩ : ∃ s, s = w.heap.size := ⟨_, rfl⟩
  have hgs : g < s := by rw [hs]; exact hg.lt
  refine ⟨_, _, Try.func19, by kernel_rfl, rfl, ?_⟩
  simp only [Try.ntmps19]
  walk_nrm
  have hF := atRel_refl w
  obtain ⟨len, hlen⟩ : ∃ len, len = l.length := ⟨_, rfl⟩
  rw [← hlen]
  replace hlen := Lib.hid hlen
  replace hs := Lib.hid hs
  rw [← hs.out]
  obtain ⟨W1, hW1⟩ : ∃ W1, W1 = w.alloc (.cells #[.pointer (some ⟨g, 0, none⟩)] 23) := ⟨_, rfl⟩
  obtain ⟨W2, hW2⟩ : ∃ W2, W2 = W1.alloc (.cells #[.slice Al len cap] 44) := ⟨_, rfl⟩
  obtain ⟨W3, hW3⟩ : ∃ W3, W3 = W2.alloc (.cells #[.int .i32 0] 73) := ⟨_, rfl⟩
  have z1 : W1.heap.size = s + 1 := by rw [hW1, hs.out]; simp
  have z2 : W2.heap.size = s + 2 := by rw [hW2]; simp [z1]
  have z3 : W3.heap.size = s + 3 := by rw [hW3]; simp [z2]
  have B3 : Below s w W3 := by
    rw [hW3, hW2, hW1, hs.out]
    exact (((Below.refl _ _).alloc (Nat.le_refl _) _).alloc (by simp) _).alloc (by simp <;> omega) _
  have l3 : Blk W3 s 23 #[.pointer (some ⟨g, 0, none⟩)] := by
    rw [hW3, hW2, hW1, hs.out]
    exact ((Blk.new w _ _).alloc _).alloc _
  have v3 : Blk W3 (s + 1) 44 #[.slice Al len cap] := by
    have := (Blk.new W1 44 #[.slice Al len cap]).alloc (.cells #[.int .i32 0] 73)
    rw [z1] at this
    rw [hW3, hW2]
    exact this
  have w3 : Blk W3 (s + 2) 73 #[.int .i32 0] := by
    have := Blk.new W2 73 #[.int .i32 0]
    rw [z2] at this
    rw [hW3]
    exact this
  have g3 : LatU W3 g b v := (B3.block g hgs).trans hg
  replace hW1 := Lib.hid hW1
  replace hW2 := Lib.hid hW2
  replace hW3 := Lib.hid hW3
  replace z1 := Lib.hid z1
  replace z2 := Lib.hid z2
  replace z3 := Lib.hid z3
  replace hgs := Lib.hid hgs
  (refine codeX_seq ?_)
  (refine codeX_region ?_; simp only [List.size_toArray, List.length_cons, List.length_nil, Nat.reduceAdd, Nat.zero_add, List.range, List.range.loop])
  (refine opsX_cons rfl (by rfl) ?_; intro _ hR K hK; replace hF := atRel_trans _ _ _ hF hR; clear hR; have hs9 := atRel_size hF; go_simp; refine hK _ _ ⟨?_, ?_⟩; (· rw [listed_nil (by simp [go_sem, *])]; exact dp0_nil); clear hK K hs9; try walk_nrm)
  replace hF := atRel_alloc hF (.cells #[.pointer (some ⟨g, 0, none⟩)] 23)
  rw [← hW1.out] at hF
  rw [← hs.out]
  (refine opsX_cons rfl (by rfl) ?_; intro _ hR K hK; replace hF := atRel_trans _ _ _ hF hR; clear hR; have hs9 := atRel_size hF; go_simp; refine hK _ _ ⟨?_, ?_⟩; (· rw [listed_nil (by simp [go_sem, *])]; exact dp0_nil); clear hK K hs9; try walk_nrm)
  replace hF := atRel_alloc hF (.cells #[.slice Al len cap] 44)
  rw [← hW2.out] at hF
  rw [z1.out]
  (refine opsX_cons rfl (by rfl) ?_; intro _ hR K hK; replace hF := atRel_trans _ _ _ hF hR; clear hR; have hs9 := atRel_size hF; go_simp; refine hK _ _ ⟨?_, ?_⟩; (· rw [listed_nil (by simp [go_sem, *])]; exact dp0_nil); clear hK K hs9; try walk_nrm)
  (refine opsX_nil ?_; simp only [Exit.thenX])
  (refine codeX_seq ?_)
  (refine codeX_region ?_; simp only [List.size_toArray, List.length_cons, List.length_nil, Nat.reduceAdd, Nat.zero_add, List.range, List.range.loop])
  (refine opsX_cons rfl (by rfl) ?_; intro _ hR K hK; replace hF := atRel_trans _ _ _ hF hR; clear hR; have hs9 := atRel_size hF; go_simp; refine hK _ _ ⟨?_, ?_⟩; (· rw [listed_nil (by simp [go_sem, *])]; exact dp0_nil); clear hK K hs9; try walk_nrm)
  replace hF := atRel_alloc hF (.cells #[.int .i32 0] 73)
  rw [← hW3.out] at hF
  rw [z2.out]
  (refine opsX_nil ?_; simp only [Exit.thenX])
  (refine codeX_seq ?_)
  (refine codeX_region ?_; simp only [List.size_toArray, List.length_cons, List.length_nil, Nat.reduceAdd, Nat.zero_add, List.range, List.range.loop])
  (have hc9 : W3.cell? ⟨s + 1, 0, none⟩ = _ := v3.cell 0; have hS9 : ¬ (fun _ : Loc => False) (.cell ⟨s + 1, 0, none⟩) := fun h => h; (refine opsX_cons rfl (by rfl) ?_; intro _ hR K hK; replace hF := atRel_trans _ _ _ hF hR; clear hR; have hl9 := (atRel_cell hF _).trans hc9; go_simp; refine hK _ _ ⟨?_, ?_⟩; (· intro e he; have hm := mem_listed he; simp [go_sem, hl9] at hm; rw [hm]; exact evP_cell _ hS9); clear hK K hl9 hc9 hS9; try walk_nrm))
  (refine opsX_cons rfl (by rfl) ?_; intro _ hR K hK; replace hF := atRel_trans _ _ _ hF hR; clear hR; have hs9 := atRel_size hF; go_simp; refine hK _ _ ⟨?_, ?_⟩; (· rw [listed_nil (by simp [go_sem, *])]; exact dp0_nil); clear hK K hs9; try walk_nrm)
  (refine opsX_cons rfl (by rfl) ?_; intro _ hR K hK; replace hF := atRel_trans _ _ _ hF hR; clear hR; have hs9 := atRel_size hF; go_simp; refine hK _ _ ⟨?_, ?_⟩; (· rw [listed_nil (by simp [go_sem, *])]; exact dp0_nil); clear hK K hs9; try walk_nrm)
  obtain ⟨p, hp⟩ : ∃ p : RaP, p = ⟨g, s + 2, W3.heap.size, len, n, fun j => l.getD j 0, b, v⟩ := ⟨_, rfl⟩
  have pL : p.L = g := by rw [hp]
  have pW : p.Wn = s + 2 := by rw [hp]
  have pH : p.H = W3.heap.size := by rw [hp]
  have pn : p.n = len := by rw [hp]
  have pN : p.N0 = n := by rw [hp]
  have pv : ∀ q x, l[q]? = some x → p.vals q = x := fun q x hx => by rw [hp]; simp [List.getD, hx]
  have pb : p.b0 = b := by rw [hp]
  have pv0 : p.v0 = v := by rw [hp]
  have hok : p.Ok := by
    have := hgs.out; have := z3.out; have := hlen.out
    exact ⟨by rw [pn]; omega, by rw [pN]; exact hn, by rw [pL, pH]; omega, by rw [pW, pH]; omega, by rw [pL, pW]; omega⟩
  have R : RcIn p W3 l s (s + 1) db off cap Al := by
    have hg' := hgs.out; have hz := z3.out
    refine ⟨by rw [pL]; exact l3, by rw [← hlen.out]; exact v3, fun hq => (hat hq).1, fun q x hx => ⟨?_, pv q x hx⟩, ?_⟩
    · have hx' := hdata q x hx
      have hlt : db < s := by rw [hs.out]; exact World.block_lt_of_cell? w _ hx'
      rw [B3.cell (p := ⟨db, off + q, none⟩) hlt]
      exact hx'
    · rintro k (rfl | rfl | ⟨hq, rfl⟩)
      · rw [pH, pL, pW]; omega
      · rw [pH, pL, pW]; omega
      · have hx : ∃ x, l[0]? = some x := ⟨_, List.getElem?_eq_getElem hq⟩
        obtain ⟨x, hx⟩ := hx
        have hlt : k < s := by rw [hs.out]; exact World.block_lt_of_cell? w _ (hdata 0 x hx)
        have := (hat hq).2
        rw [pH, pL, pW]; omega
  clear hp
  obtain ⟨σ0, hσ0⟩ : ∃ σ0 : RS, σ0 = ⟨⟨w0, 0⟩, b, b, v, 0, fun _ => none, b⟩ := ⟨_, rfl⟩
  have hrep0 : ∀ W : World, W3.heap.size + 2 ≤ W.heap.size → (∀ k, k < W3.heap.size → W.heap[k]? = W3.heap[k]?) → (raC p).Rep σ0 W := by
    intro W hW hk
    have hg' := hgs.out; have hz := z3.out
    refine ⟨?_, ?_, fun k z e => ?_, ?_⟩
    · rw [pL, hσ0, hk _ (by omega)]
      have : LatU W3 g b v := g3
      unfold LatU Blk at this
      rw [this]
      cases b <;> rfl
    · rw [pW, hσ0, hk _ (by omega)]
      exact w3
    · rw [hσ0] at e; cases e
    · rw [pH]; exact hW
  have hju0 : (raC p).JU σ0 (fun _ => (⟨.a0, .pre, 0, false, 0⟩ : RU)) 0 := by
    refine ⟨rj_none (by rw [hσ0]; exact minv_none) (by rw [hσ0]) (by rw [hσ0]) (fun hb => ?_) (fun hb => ?_), Nat.zero_le _⟩
    · rw [pb] at hb; rw [hσ0, pv0]; exact ⟨hb, hb, rfl⟩
    · rw [pb] at hb; rw [hσ0]; exact ⟨hb, hb, hbv hb⟩
  clear hσ0
  have A : AlO (raC p) W3.heap.size := by rw [← pH]; exact alo_ra hok
  have hcall := all_X (Post := Post) (c := raC p) (S := fun _ => False) (f := 33) (cap := #[.pointer (some ⟨s, 0, none⟩), .pointer (some ⟨s + 1, 0, none⟩), .pointer (some ⟨s + 2, 0, none⟩)]) (σ := σ0) (us := fun _ => (⟨.a0, .pre, 0, false, 0⟩ : RU)) (nf := fun N => (N + 1) * 49014 + 190000) W3 A (fun x h => h.elim) hrep0 hju0 (fun j C N w1 hj hC hK => by
    have hj' : j < p.n := hj
    rw [pn, hlen.out] at hj'
    rw [← pH] at hK
    have := race1_V (k := (raC p).N0 + j) (N := N) hok hC R hj' w1 hK
    rw [pW, pH] at this
    exact this)
  rw [show (raC p).N0 = n from pN, show (raC p).n = len from pn] at hcall
  refine opsX_callB rfl (by rfl) rfl ?_ ?_ (Pos := AllOut (raC p) W3)
  · walk_nrm
    exact callB_rely hF hcall
  rintro r w4 x' ⟨σ, us, rfl, rfl, hR, hJ, hfin, hold, henv, hsz⟩
  clear hF hcall hrep0 hju0
  have hF := atRel_refl w4
  have hE := rj_end (vals := p.vals) (b0 := p.b0) (v0 := p.v0) (σ := σ) (us := us) (j := p.n) hJ.1 hfin
  obtain ⟨hL, hW, _, _⟩ := hR
  have hend : RaceEnd b v l (RS.won σ : Int) (RS.set σ) (RS.v σ) ∧ ((RS.won σ : Int) = 0 ∨ (RS.won σ : Int) = 1) := by
    rw [pb, pv0, pn, hlen.out] at hE
    refine ⟨⟨fun hb => ?_, fun hb => ⟨fun hn0 => ?_, fun hn0 => ?_⟩⟩, ?_⟩
    · have := hE.1 hb
      exact ⟨by rw [this.1]; rfl, this.2⟩
    · have := (hE.2 hb).1 hn0
      exact ⟨by rw [this.1]; rfl, this.2⟩
    · obtain ⟨h1, h2, i, hi, h3⟩ := (hE.2 hb).2 hn0
      refine ⟨by rw [h1]; rfl, h2, ?_⟩
      have hx : l[i]? = some l[i] := List.getElem?_eq_getElem hi
      rw [h3, pv i _ hx]
      exact List.getElem_mem hi
    · cases hb : b with
      | true => exact .inl (by rw [(hE.1 hb).1]; rfl)
      | false =>
        by_cases hn0 : l.length = 0
        · exact .inl (by rw [((hE.2 hb).1 hn0).1]; rfl)
        · exact .inr (by rw [((hE.2 hb).2 hn0).1]; rfl)
  have c3 : w4.cell? ⟨g, 3, none⟩ = some (.int .u32 (if RS.set σ then 1 else 0)) := by
    rw [pL] at hL
    simp [World.cell?, hL, latO, b01]
  have c4 : w4.cell? ⟨g, 4, none⟩ = some (.int .u64 (RS.v σ)) := by
    rw [pL] at hL
    simp [World.cell?, hL, latO]
  have cW : w4.cell? ⟨s + 2, 0, none⟩ = some (.int .i32 (RS.won σ : Int)) := by
    rw [pW] at hW
    exact box_cell hW
  have hsh : ∀ a : Addr, (raC p).sh (.cell a) → (a.block = g ∧ a.off ≠ 4) ∨ a.block = s + 2 ∨ a.block = s + 4 := by
    rintro a ⟨a', e, h⟩
    injection e with e
    subst e
    rw [pL, pW, pH, z3.out] at h
    exact h
  have hB4 : BelO s g w w4 ∧ s + 5 ≤ w4.heap.size := by
    have hz := z3.out; have hg' := hgs.out
    have hz0 := hs.out
    refine ⟨⟨(⟨B3.tape, by rw [B3.os]; exact .refl _, B3.output⟩ : Env w W3).trans henv, by omega, fun k hk hkg => ?_⟩, by omega⟩
    have hk' : k < w.heap.size := by omega
    have e := Array.getElem?_eq_getElem hk'
    rw [e]
    exact hold _ _ (by omega) (by rintro (e | e) <;> (first | rw [pL] at e | rw [pW] at e) <;> omega) ((B3.block k hk).trans e)
  have hn9 : (raC p).N0 + (raC p).n = n + len := by show p.N0 + p.n = _; rw [pN, pn]
  rw [hn9]
  clear hL hW hE hJ hfin hold henv hsz A R hok pL pW pH pn pN pv pb pv0 l3 v3 w3 g3 B3 hat hdata
  generalize (raC p).sh = S at hsh ⊢
  generalize (RS.won σ : Int) = wn at hend cW ⊢
  generalize RS.set σ = b' at hend c3 ⊢
  generalize RS.v σ = z at hend c4 ⊢
  have d9 : IntKind.i64.wrap wn = wn := by rcases hend.2 with e | e <;> rw [e] <;> rfl
  replace hend := Lib.hid hend
  replace hB4 := Lib.hid hB4
  replace c3 := Lib.hid c3
  replace c4 := Lib.hid c4
  replace hsh := Lib.hid hsh
  walk_nrm
  (refine opsX_nil ?_; simp only [Exit.thenX])
  (refine codeX_seq ?_)
  (refine codeX_region ?_; simp only [List.size_toArray, List.length_cons, List.length_nil, Nat.reduceAdd, Nat.zero_add, List.range, List.range.loop])
  refine opsX_callW rfl (by rfl) rfl ?_ ?_ (Pos := fun r w' => r = .int .i32 wn ∧ AtRel w4 w')
  · walk_nrm
    exact CallsW.rely (termsP _) (iload_W (s + 2) 0 wn w4 cW) hF
  rintro v w' ⟨rfl, hF'⟩
  clear hF cW
  have hF := hF'
  clear hF'
  walk_nrm
  (repeat (refine opsX_cons rfl (by rfl) ?_; intro _ hR K hK; replace hF := atRel_trans _ _ _ hF hR; clear hR; have hs9 := atRel_size hF; go_simp; refine hK _ _ ⟨?_, ?_⟩; (· rw [listed_nil (by simp [go_sem, *])]; exact dp0_nil); clear hK K hs9; try walk_nrm))
  (refine opsX_nil ?_; simp only [Exit.thenX])
  (refine codeX_of ?_; refine codeW_ret (termsP _) ?_)
  have hz := z3.out; have hg' := hgs.out; have hz0 := hs.out; have hl9 := hlen.out
  have hB := hB4.out
  have hsz := atRel_size hF
  refine ⟨rfl, _, resultsC_tmp rfl _, wn, b', z, S, rfl, hend.out.1, by rw [hlen.out], fun k i hk h => ?_, fun k i hk hkg h => ?_, fun h => ?_, (atRel_cell hF _).trans c3.out, (atRel_cell hF _).trans c4.out, ?_⟩
  · have := hsh.out _ h; simp only at this; omega
  · have := hsh.out _ h; simp only at this; omega
  · have := hsh.out _ h; simp only at this; omega
  · obtain ⟨q, rfl⟩ := hF
    exact ⟨hB.1.env.trans (env_at w4 q), hB.1.size, hB.1.block⟩
end Go.Proofs.Ytinghnaigpenkaa
