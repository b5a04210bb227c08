/- tally.Sweep as a phase. -/
import Derived.Test.YtkcknoodcgmndaaSwA
import Derived.Test.YtkcknoodcgmndaaPhB
import Derived.Test.YtkcknoodcgmndaaWgK
namespace Go.Proofs.Ytkcknoodcgmndaa
open Go.Conc
open Go.ConcN (sumTo upd)
open Go.ConcR (WgAt stA)
set_option linter.unusedVariables false
set_option linter.unusedSimpArgs false

structure SwP where
  Wg : Nat
  Bb : Nat
  Wb : Nat
  has : Bool
  N0 : Nat
  H0 : Nat
  nn : Nat
  l : List (List Int)
  σ0 : SS
  dead : Nat → Prop
def boardC (a b : Nat) : Array Value := #[.int .i64 a, .int .i64 b, .int .i64 0, .int .i64 0, .int .i64 0, .int .i64 0, .int .i64 0, .int .i64 0, .int .i64 0, .int .i64 0, .int .i64 0, .int .i64 0, .int .i64 0, .int .i64 0, .int .i64 0, .int .i64 0]
structure SwRep (s : SwP) (σ : SS) (w : World) : Prop where
  b : w.heap[s.Bb]? = some (.cells (boardC σ.won σ.lost) 70)
  m : s.has = true → w.heap[s.Wb]? = some (.cells (σ.ws.map (fun v : Nat => Value.int .u64 v)).toArray 78)
def SwP.SB (s : SwP) (b : Nat) : Prop := b = s.Bb ∨ (s.has = true ∧ b = s.Wb)
def swCfg (s : SwP) : Cfg where
  ty := 81
  Wg := s.Wg
  n := s.l.length
  N0 := s.N0
  H0 := s.H0
  SB := s.SB
  sh := fun l => ∃ a : Addr, l = .cell a ∧ (a.block = s.Wg ∨ s.SB a.block ∨ s.dead a.block)
  own := fun _ _ => False
  U := SU
  S := SS
  Rep := SwRep s
  Pre := fun u σ => σ.won + σ.lost < 2 ^ 62 ∧ σ.ws.length = s.σ0.ws.length ∧ (∀ v ∈ σ.ws, v < 2 ^ 64) ∧ okSt s.nn σ.ws u
  Tr := fun u σ u' σ' => nxt s.nn u σ = (u', σ')
  fin := fun u => u.todo = []
  init := fun j => mkU s.nn (s.l.getD j [])
  JU := SJ s.nn s.l s.σ0
  mu := muS s.l
structure SwP.Ok (s : SwP) : Prop where
  few : s.l.length < 2147483648
  N0 : 0 < s.N0
  room : s.nn ≤ 64 * s.σ0.ws.length
  few2 : s.nn ≤ 65536
  small : s.σ0.won + s.σ0.lost + sumTo s.l.length (fun i => (s.l.getD i []).length) < 2 ^ 62
  bw : s.Bb ≠ s.Wg
  mw : s.has = true → s.Wb ≠ s.Wg
  mb : s.has = true → s.Wb ≠ s.Bb
theorem SwRep.same {s : SwP} {σ : SS} {w w' : World} (h : SwRep s σ w) (e : ∀ b, s.SB b → w'.heap[b]? = w.heap[b]?) : SwRep s σ w' :=
  ⟨(e _ (.inl rfl)).trans h.b, fun hh => (e _ (.inr ⟨hh, rfl⟩)).trans (h.m hh)⟩
theorem SwRep.lt {s : SwP} {σ : SS} {w : World} (h : SwRep s σ w) {b : Nat} (hb : s.SB b) : b < w.heap.size := by
  rcases hb with rfl | ⟨hh, rfl⟩
  · exact (Array.getElem?_eq_some_iff.1 h.b).1
  · exact (Array.getElem?_eq_some_iff.1 (h.m hh)).1
theorem SwRep.hard {s : SwP} {σ : SS} {w : World} (h : SwRep s σ w) {b : Nat} (hb : s.SB b) : ¬ Soft w b := by
  rintro ⟨v, hv⟩
  rcases hb with rfl | ⟨hh, rfl⟩
  · rw [h.b] at hv
    have := congrArg (fun o => match o with | some (Obj.cells _ t _) => t | _ => 0) hv
    have h7 : (70 : Nat) = 33 := this
    exact absurd h7 (by decide)
  · rw [h.m hh] at hv
    have := congrArg (fun o => match o with | some (Obj.cells _ t _) => t | _ => 0) hv
    have h7 : (78 : Nat) = 33 := this
    exact absurd h7 (by decide)
theorem swOk {s : SwP} (K : s.Ok) : (swCfg s).Ok where
  hn := K.few
  hN := K.N0
  rep_same := fun σ w w' h e => SwRep.same h e
  sb_hard := fun σ w b h hb => SwRep.hard h hb
  sb_lt := fun σ w b h hb => SwRep.lt h hb
  sbWg := fun hb => by
    rcases hb with h | ⟨hh, h⟩
    · exact K.bw h.symm
    · exact K.mw hh h.symm
  shWg := fun a ha => ⟨a, rfl, .inl ha⟩
  own_sh := fun _ _ h => h.elim
  own_one := fun _ _ _ h => h.elim
  own_mem := fun _ _ h => h.elim
  spawn := fun σ us j hj h => SJ.spawn h hj
  step := fun σ us j i u' σ' hi h hf ht => by
    have := SJ.step h K.room hi hf
    rw [show nxt s.nn (us i) σ = (u', σ') from ht] at this
    exact this
  pre := fun σ us j i hi h hf => by
    refine ⟨?_, h.len, h.rng, h.stv i hi⟩
    have h1 := h.tot
    have h2 := sumTo_mono (f := fun i => (s.l.getD i []).length) h.jl
    have h3 := K.small
    omega
end Go.Proofs.Ytkcknoodcgmndaa
