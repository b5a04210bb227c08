/- The law of WindowPlays: its memory. -/
import Derived.Test.YtfcjkkjgedcgpaaGreatDoorWinS
namespace Go.Proofs.YtfcjkkjgedcgpaaGreatDoor
open Go.RowKit
set_option linter.unusedSimpArgs false
set_option linter.unusedVariables false
set_option maxHeartbeats 8000000
set_option maxRecDepth 100000

/-- the rows of the reference's window: read, and apart from the window's own blocks and from the variable's -/
structure RRow (w W : World) (gr : Nat) (v : Value) (r : RW) : Prop where
  rd : Reads W W.heap.size 7 r.A r.l.length (r.l.flatMap Up.row)
  dat : ∀ u ∈ r.l, UpIn w w.heap.size u
  sep : ∀ ad : Addr, 0 < r.l.length → r.A = some ad → ad.block ≠ w.heap.size ∧ ad.block ≠ gr ∧ v.ownBlock ≠ some ad.block
structure PS (w W : World) (gr : Nat) (v : Value) (s : Wn) (r : RW) : Prop where
  win : WinL w W v s
  box : Blk W gr 42 r.cells
  row : RRow w W gr v r
  hge : w.heap.size ≤ gr
theorem RRow.below {w W W' : World} {gr : Nat} {v : Value} {r : RW} (h : RRow w W gr v r) (hb : Below W.heap.size W W') : RRow w W' gr v r :=
  ⟨(h.rd.below hb).more hb.size, h.dat, h.sep⟩
theorem PS.below {w W W' : World} {gr : Nat} {v : Value} {s : Wn} {r : RW} (h : PS w W gr v s r) (hb : Below W.heap.size W W') : PS w W' gr v s r :=
  ⟨h.win.below hb, h.box.below hb h.box.lt, h.row.below hb, h.hge⟩
theorem RRow.win {w W W' : World} {gr : Nat} {v v' : Value} {s : Wn} {r : RW} (h : RRow w W gr v r) (hw : WinL w W v s) (hc : Chg W W' (isW w.heap.size v)) (hn : NewV W v v') : RRow w W' gr v' r := by
  refine ⟨(hc.reads h.rd (Nat.le_refl _) (fun ad h0 hA e => ?_)).more hc.size, h.dat, fun ad h0 hA => ?_⟩
  · obtain ⟨h1, h2, h3⟩ := h.sep ad h0 hA
    rcases e with e | e
    · exact h1 e
    · exact h3 e
  · obtain ⟨h1, h2, h3⟩ := h.sep ad h0 hA
    refine ⟨h1, h2, fun e => ?_⟩
    rcases hn with h4 | h4
    · exact h3 (by rw [← h4]; exact e)
    · obtain ⟨ad', hA', hb, _⟩ := h.rd.2 h0
      rw [hA] at hA'
      injection hA' with hA'
      subst hA'
      have := h4 _ e
      omega
theorem WinL.gr_ne {w W : World} {v : Value} {s : Wn} (h : WinL w W v s) {g : Nat} {cs : Array Value} {t : TypeId} (hb : Blk W g t cs) (h1 : t ≠ 56) (h2 : t ≠ 29) : ¬ isW w.heap.size v g := by
  rintro (e | e)
  · subst e; exact Blk.ne_ hb h.win.box h1 rfl
  · exact own_blk_ne h.win.own hb (fun e => h2 e.symm) e
theorem rw_inn {w W : World} {gr : Nat} {v : Value} {s : Wn} {r : RW} (h : PS w W gr v s r) (hr : Rel s r) : RW.inn W W.heap.size r :=
  ⟨⟨h.row.rd, fun u hu => ((h.row.dat u hu).below h.win.bel).more h.win.bel.size⟩, by rw [hr.len]; exact h.win.win.ok.len, by rw [hr.low]; exact h.win.win.ok.low, by rw [hr.low, hr.done]; exact h.win.win.ok.ld, by rw [hr.done, hr.fin]; exact h.win.win.ok.de, by rw [hr.fin]; exact h.win.win.ok.big⟩
theorem keptL_sub (r : RW) : ∀ u ∈ r.keptL, u ∈ r.l := by
  intro u hu
  unfold RW.keptL at hu
  split at hu
  · exact hu
  · exact (List.mem_filter.1 hu).1
/-- rows that come of a call of the reference's: the elder ones, or new ones -/
theorem RRow.step {w W Wc W' : World} {gr : Nat} {v : Value} {s : Wn} {r r' : RW} (h : RRow w W gr v r) (hw : WinL w W v s) (hgr : gr < W.heap.size) (hb : Below W.heap.size W Wc) (hrd : Reads W' W'.heap.size 7 r'.A r'.l.length (r'.l.flatMap Up.row)) (hdat : ∀ u ∈ r'.l, UpIn w w.heap.size u) 
    (hs : (r'.A = r.A ∧ (0 < r'.l.length → 0 < r.l.length)) ∨ ∀ ad, r'.A = some ad → Wc.heap.size ≤ ad.block) : RRow w W' gr v r' ∧ ∀ (g : Nat), W.heap.size ≤ g → g < Wc.heap.size → ∀ ad : Addr, 0 < r'.l.length → r'.A = some ad → ad.block ≠ g := by
  have hsz := hb.size
  have hws : w.heap.size < W.heap.size := hw.win.box.lt
  refine ⟨⟨hrd, hdat, fun ad h0 hA => ?_⟩, fun g hg1 hg2 ad h0 hA e => ?_⟩
  · rcases hs with ⟨h1, hle⟩ | h1
    · exact h.sep ad (hle h0) (by rw [← h1]; exact hA)
    · have h2 := h1 ad hA
      refine ⟨by omega, by omega, fun e => ?_⟩
      have := (hw.win.own.lt _ e).2
      omega
  · rcases hs with ⟨h1, hle⟩ | h1
    · obtain ⟨ad', hA', hb', _⟩ := h.rd.2 (hle h0)
      rw [← h1, hA] at hA'
      injection hA' with hA'
      subst hA'
      omega
    · have h2 := h1 ad hA
      omega
theorem RRow.set {w W W' : World} {gr g : Nat} {v : Value} {r : RW} (h : RRow w W gr v r) (hc : Chg W W' (isB g)) (hs : ∀ ad : Addr, 0 < r.l.length → r.A = some ad → ad.block ≠ g) : RRow w W' gr v r :=
  ⟨(hc.reads h.rd (Nat.le_refl _) (fun ad h0 hA e => hs ad h0 hA (by simpa [isB] using e))).more hc.size, h.dat, h.sep⟩
theorem radds_sub {r r' : RW} {u : Up} (h : RAddS r u r') : ∀ x ∈ r'.l, x ∈ r.l ∨ x = u := by
  intro x hx
  rcases h with ⟨_, rfl⟩ | ⟨_, _, _, _, h4⟩
  · exact .inl hx
  · rw [h4] at hx
    have := keptL_sub _ x hx
    simp only [RW.grown, List.mem_append, List.mem_singleton] at this
    exact this
/-- the window behind a store of the reference's into the law's variable -/
theorem PS.put {w W : World} {gr : Nat} {v : Value} {s : Wn} {r r' : RW} (h : WinL w W v s) (hb : Blk W gr 42 r.cells) (hrow : RRow w W gr v r') (hge : w.heap.size ≤ gr) (a b c d : Value) (hr : #[a, b, c, d] = r'.cells) :
    PS w ((((W.setCell ⟨gr, 0, none⟩ a).setCell ⟨gr, 1, none⟩ b).setCell ⟨gr, 2, none⟩ c).setCell ⟨gr, 3, none⟩ d) gr v s r' := by
  have hc := chg_set4 W gr a b c d
  have hgw := h.gr_ne hb (by decide) (by decide)
  refine ⟨⟨⟨hc.blk h.win.box (fun e => ?_), hc.own h.win.own (fun k hk e => ?_), fun u hu => (h.win.dat u hu).chg hc (fun k hk e => ?_), h.win.hg, h.win.ok⟩, h.bel.trans (hc.below h.bel.size (fun k hk e => ?_))⟩, ?_, hrow.set hc (fun ad h0 hA => (hrow.sep ad h0 hA).2.1), hge⟩
  · simp only [isB] at e; exact hgw (.inl e.symm)
  · simp only [isB] at e; subst e; exact hgw (.inr hk)
  · simp only [isB] at e; subst e
    exact own_blk_ne (h.win.dat u hu).1 hb (by decide) hk
  · simp only [isB] at e; omega
  · have := blk_set4 hb a b c d
    rw [hr] at this
    exact this
end Go.Proofs.YtfcjkkjgedcgpaaGreatDoor
