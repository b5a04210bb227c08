/- pick: those of which a function tells true, in new memory. -/
import Derived.Test.YthmokochlpbokaaGreatDoorUpdD
namespace Go.Proofs.YthmokochlpbokaaGreatDoor
open Go.RowKit
set_option linter.unusedSimpArgs false
set_option linter.unusedVariables false
set_option maxHeartbeats 4000000
attribute [local go_sem] Up.agg Up.cells

theorem upInfo : (Tryz.prog.info? 26).map (fun i => (i.zero, i.size, i.bytes)) = some (some (.agg #[.int .u64 0, .int .i64 0, .int .u64 0, .int .i64 0, .int .u32 0, .int .u64 0, .slice none 0 0]), 7, 72) := by kernel_rfl
theorem up_one (u : Up) : ∀ v ∈ u.row, v.oneCell' = true := by
  intro v hv; simp [Up.row] at hv; rcases hv with rfl | rfl | rfl | rfl | rfl | rfl | rfl <;> rfl
/-- an update whose bytes lie in memory of the call's own -/
def UpOwn (w : World) (base : Nat) (u : Up) : Prop := w.ownsRow base 5 1 (.slice u.A u.n u.c) u.n (u.bs.map (Value.int .u8)) ∧ u.wf
theorem UpOwn.in_ {w : World} {base : Nat} {u : Up} (h : UpOwn w base u) : UpIn w w.heap.size u := by
  obtain ⟨A, c, hv, hr, hn, hm⟩ := own_slice h.1
  injection hv with h1 h2 h3
  subst h1 h3
  exact ⟨hr, hn, hm, h.2⟩
theorem own_ne_own {w : World} {b1 b2 : Nat} {e1 e2 : TypeId} {s1 s2 n1 n2 : Nat} {v1 v2 : Value} {x1 x2 : List Value} (h1 : w.ownsRow b1 e1 s1 v1 n1 x1) (h2 : w.ownsRow b2 e2 s2 v2 n2 x2) (hne : e1 ≠ e2) (k : Nat) (hk1 : v1.ownBlock = some k) (hk2 : v2.ownBlock = some k) : False := by
  rcases h2.2 with ⟨rfl, _⟩ | ⟨g', cap, cur, rfl, _, hh, _⟩
  · simp [Value.ownBlock] at hk2
  · have : g' = k := by simpa [Value.ownBlock] using hk2
    subst this
    exact own_blk_ne h1 (show Blk w g' e2 cur from hh) hne hk1
structure PickAt {σ : Type} (J : σ → World → Prop) (S : Nat → Prop) (s : σ) (r : List Up) (w : World) (v : Value) (o : List Up) (W : World) : Prop where
  own : W.ownsRow w.heap.size 26 7 v o.length (o.flatMap Up.row)
  dat : ∀ u ∈ o, UpOwn W w.heap.size u
  val : o.map Up.val = r.map Up.val
  st : J s W
  chg : Chg w W S
section
variable {σ : Type} {J : σ → World → Prop} {S : Nat → Prop} {s s' : σ} {r : List Up} {w W W' : World} {v : Value} {o : List Up}
theorem PickAt.step (h : PickAt J S s r w v o W) (hc : Chg W W' S) (hj : J s' W') (hS : ∀ k, S k → k < w.heap.size) : PickAt J S s' r w v o W' := by
  refine ⟨hc.own h.own (fun k hk hs => ?_), fun u hu => ⟨hc.own (h.dat u hu).1 (fun k hk hs => ?_), (h.dat u hu).2⟩, h.val, hj, h.chg.trans hc (fun _ _ x => x)⟩
  · have := (h.own.lt k hk).1; have := hS k hs; omega
  · have := ((h.dat u hu).1.lt k hk).1; have := hS k hs; omega
theorem own_mono {w : World} {base base' : Nat} {e : TypeId} {size : Nat} {v : Value} {n : Nat} {xs : List Value} (h : w.ownsRow base e size v n xs) (hb : base' ≤ base) : w.ownsRow base' e size v n xs := by
  refine ⟨h.1, ?_⟩
  rcases h.2 with h0 | ⟨g, cap, cur, hv, hg, hr⟩
  · exact .inl h0
  · exact .inr ⟨g, cap, cur, hv, by omega, hr⟩
theorem PickAt.below (h : PickAt J S s r w v o W) (hb : Below W.heap.size W W') (hJ : ∀ s W W', J s W → Below w.heap.size W W' → J s W') (hS : ∀ k, S k → k < w.heap.size) : PickAt J S s r w v o W' :=
  h.step (Chg.of_below hb S) (hJ _ _ _ h.st (hb.mono h.chg.size)) hS
theorem PickAt.set {W3 : World} {s3 : σ} {r3 : List Up} {p : Addr} (h : PickAt J S s r w v o W) (h3 : PickAt J S s3 r3 w v o W3) (hp : W.heap.size ≤ p.block) (x : Value) (hJ : ∀ s W W', J s W → Below w.heap.size W W' → J s W') :
    PickAt J S s3 r3 w v o (W3.setCell p x) := by
  have hw : w.heap.size ≤ p.block := Nat.le_trans h.chg.size hp
  have hb : Below w.heap.size W3 (W3.setCell p x) := (Below.refl _ _).setCell hw x
  refine ⟨own_block_same h3.own (fun k hk => Below.heap_setCell _ _ _ k ?_), fun u hu => ⟨own_block_same (h3.dat u hu).1 (fun k hk => Below.heap_setCell _ _ _ k ?_), (h3.dat u hu).2⟩, h3.val, hJ _ _ _ h3.st hb, h3.chg.trans ⟨hb.os, hb.tape, hb.output, by simp [World.setCell], fun k hk hn => Below.heap_setCell _ _ _ k ?_⟩ (fun k hk (hs : S k ∨ k = p.block) => ?_)⟩
  · have := (h.own.lt k hk).2; omega
  · have := ((h.dat u hu).1.lt k hk).2; omega
  · exact fun e => hn (.inr e)
  · rcases hs with hs | hs
    · exact hs
    · omega
theorem PickAt.app {W6 : World} {v' : Value} {u u' : Up} (h : PickAt J S s r w v o W) (hu : UpOwn W w.heap.size u') (he : u'.val = u.val) (hJ : ∀ s W W', J s W → Below w.heap.size W W' → J s W')
    (hown : W6.ownsRow w.heap.size 26 7 v' (o.length + 1) (o.flatMap Up.row ++ u'.row)) (hg : W.grownBy W6 v.ownBlock) : PickAt J S s (r ++ [u]) w v' (o ++ [u']) W6 := by
  have hbl : ∀ k, v.ownBlock = some k → w.heap.size ≤ k := fun k hk => (h.own.lt k hk).1
  have hb : Below w.heap.size W W6 := (Below.refl _ _).grown hg h.chg.size hbl
  have hd : ∀ x : Up, UpOwn W w.heap.size x → UpOwn W6 w.heap.size x := fun x hx => ⟨own_block_same hx.1 (fun k hk => hg.block k (hx.1.lt k hk).2 (fun e => own_ne_own h.own hx.1 (by decide) k e.symm hk)), hx.2⟩
  refine ⟨by simpa [List.flatMap_append] using hown, fun x hx => ?_, by simp [h.val, he], hJ _ _ _ h.st hb, h.chg.trans (Chg.of_grown hg) (fun k hk (e : some k = v.ownBlock) => ?_)⟩
  · rw [List.mem_append] at hx
    rcases hx with hx | hx
    · exact hd x (h.dat x hx)
    · simp at hx; subst hx; exact hd _ hu
  · have := hbl k e.symm; omega
theorem up_cells {g : Nat} {t : TypeId} {u : Up} (h : Blk w g t u.cells) : w.cell? ⟨g, 0, none⟩ = some (.int .u64 u.seq) ∧ w.cell? ⟨g, 1, none⟩ = some (.int .i64 u.cl) ∧ w.cell? ⟨g, 2, none⟩ = some (.int .u64 u.num) ∧
    w.cell? ⟨g, 3, none⟩ = some (.int .i64 u.kd) ∧ w.cell? ⟨g, 4, none⟩ = some (.int .u32 u.key) ∧ w.cell? ⟨g, 5, none⟩ = some (.int .u64 u.ver) ∧ w.cell? ⟨g, 6, none⟩ = some (.slice u.A u.n u.c) :=
  ⟨h.cell 0, h.cell 1, h.cell 2, h.cell 3, h.cell 4, h.cell 5, h.cell 6⟩
end
end Go.Proofs.YthmokochlpbokaaGreatDoor
