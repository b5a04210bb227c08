/- The law's same: the contract. -/
import Derived.Test.YtpkmbnmlepmceaaBagP
import Derived.Test.YtpkmbnmlepmceaaBagF
import Derived.Test.YtpkmbnmlepmceaaBagG
import Derived.Test.YtpkmbnmlepmceaaBagJ

namespace Go.Proofs.Ytpkmbnmlepmceaa
open Go.RowKit Go.Shelf
attribute [local go_sem] Oper.semAt_some
set_option linter.unusedSimpArgs false
set_option linter.unusedVariables false
set_option maxHeartbeats 8000000
set_option maxRecDepth 100000
attribute [local go_sem] RB.agg RB.cells RB.zero

/-- the memory of same -/
structure SM (w : World) (bB rB tB g : Nat) (x : RB) (v : Value) (s : Bg) (W : World) : Prop where
  bbx : Blk W bB 23 #[.pointer (some ⟨g, 0, none⟩)]
  rbx : Blk W rB 45 #[.int .i64 x.most, .int .i64 x.last, .slice x.A x.l.length x.cap]
  tbx : Blk W tB 4 #[.bool false]
  bag : BagAt W g v s
  bel : Below w.heap.size w W
section
variable {w W W' : World} {bB rB tB g : Nat} {x : RB} {v v' : Value} {s s' : Bg}
theorem SM.below (h : SM w bB rB tB g x v s W) (hb : Below W.heap.size W W') : SM w bB rB tB g x v s W' :=
  ⟨h.bbx.below hb h.bbx.lt, h.rbx.below hb h.rbx.lt, h.tbx.below hb h.tbx.lt, h.bag.below hb, h.bel.trans (hb.mono h.bel.size)⟩
theorem SM.turned {row : Option Nat} (h : SM w bB rB tB g x v s W) (hg : W.grownBy W' row) (hr : ∀ r, row = some r → w.heap.size ≤ r ∧ ∃ o : Obj, W.heap[r]? = some o ∧ o.isCells = false) : SM w bB rB tB g x v s W' :=
  have hr' := fun r e => (hr r e).2
  ⟨h.bbx.turned hg hr', h.rbx.turned hg hr', h.tbx.turned hg hr', h.bag.turned hg hr', h.bel.grown hg h.bel.size (fun k hk => (hr k hk).1)⟩
theorem SM.seti {iB : Nat} {cs : Array Value} (h : SM w bB rB tB g x v s W) (hi : Blk W iB 3 cs) (hw : w.heap.size ≤ iB) (u : Value) : SM w bB rB tB g x v s (W.setCell ⟨iB, 0, none⟩ u) :=
  ⟨h.bbx.far (p := ⟨iB, 0, none⟩) (Blk.ne_ h.bbx hi (by decide)) _, h.rbx.far (p := ⟨iB, 0, none⟩) (Blk.ne_ h.rbx hi (by decide)) _, h.tbx.far (p := ⟨iB, 0, none⟩) (Blk.ne_ h.tbx hi (by decide)) _,
    ⟨h.bag.1.far (p := ⟨iB, 0, none⟩) (Blk.ne_ h.bag.1 hi (by decide)) _, own_block_same h.bag.2 (fun k hk => Below.heap_setCell _ _ _ k (fun e => own_blk_ne h.bag.2 hi (by decide) (by rw [hk, e])))⟩, h.bel.setCell (p := ⟨iB, 0, none⟩) hw _⟩
end
theorem same_any (g : Nat) (v : Value) (s : Bg) (x : RB) (w : World) (hA : BagAt w g v s) (hx : RBn w x) (hl : x.l = s.l) (hla : x.last = s.last) (hn : s.l.length ≤ 1000000) :
    Calls Try.prog 20 #[.pointer (some ⟨g, 0, none⟩), x.agg] w fun e w' => e = .returned (.bool true) ∧ Below w.heap.size w w' := by
  have hmf : ∀ (fn : Fn) (first cap : Array Value) (w : World), (Instr.makeFunc fn first cap).run Try.prog w = .ok (.func fn first cap) w := fun _ _ _ _ => rfl
  have hfn := func_nil
  obtain ⟨xm, xl, xA, xc, ll⟩ := x
  simp only at hl hla
  subst hl hla
  have HAG := Lib.hid hA
  have HRX := Lib.hid hx.rd
  clear hA hx
  obtain ⟨sm, sl, ss⟩ := s
  simp only at hn HRX
  have hgl : g < w.heap.size := HAG.out.1.lt
  refine callsIn_wide.1 (callsIn_of_wp_marks (F := Fence.wide) (n := 9) Try.func20 rfl trivial (wpIn_wide.2 ?_) rfl)
  simp only [Try.ntmps20, List.size_toArray, List.length_cons, List.length_nil, Nat.reduceAdd, Nat.reduceSub, Array.replicate_succ, Array.replicate_zero, List.push_toArray, List.append_toArray, List.nil_append, List.cons_append]
  go_wp2_with (first | (go_at_call 9; refine (all_any (some ⟨g, 0, none⟩) _).mono ?_; rintro e w' ⟨rfl, rfl⟩) | fail)
  obtain ⟨W0, hW0⟩ : ∃ W0, W0 = (((w.alloc (.cells #[.pointer (some ⟨g, 0, none⟩)] 23)).alloc (.cells #[.int .i64 xm, .int .i64 sl, .slice xA ss.length xc] 45)).alloc (.cells #[.bool false] 4)).alloc (.cells #[.pointer (some ⟨g, 0, none⟩)] 23) := ⟨_, rfl⟩
  rw [← hW0]
  have HBW : Hid (Below w.heap.size w W0) := Lib.hid (by rw [hW0]; repeat (first | with_reducible exact Below.refl _ _ | with_reducible refine Below.setCell ?_ (by first | omega | (simp <;> omega)) _ | with_reducible refine Below.alloc ?_ (by first | omega | (simp <;> omega)) _ | with_reducible refine below_drewN ?_ _ | with_reducible refine Below.drew ?_))
  have hsz0 : W0.heap.size = w.heap.size + 1 + 1 + 1 + 1 := by rw [hW0]; simp
  have HM0 : Hid (SM w w.heap.size (w.heap.size + 1) (w.heap.size + 1 + 1) g ⟨xm, sl, xA, xc, ss⟩ v ⟨sm, sl, ss⟩ W0) := Lib.hid ⟨by rw [hW0]; exact (((Blk.new w _ _).alloc _).alloc _).alloc _, by rw [hW0]; exact ((blk_at6 _ _ _ _ (by simp)).alloc _).alloc _, by rw [hW0]; exact (blk_at6 _ _ _ _ (by simp)).alloc _, HAG.out.below HBW.out, HBW.out⟩
  have HBx : Hid (W0.cell? ⟨w.heap.size + 1 + 1 + 1, 0, none⟩ = some (.pointer (some ⟨g, 0, none⟩))) := Lib.hid (by rw [hW0]; exact (blk_at6 _ 23 #[.pointer (some ⟨g, 0, none⟩)] _ (by simp)).cell 0)
  have c0 : W0.cell? ⟨w.heap.size, 0, none⟩ = some (.pointer (some ⟨g, 0, none⟩)) := HM0.out.bbx.cell 0
  have c1 : W0.cell? ⟨w.heap.size + 1, 1, none⟩ = some (.int .i64 sl) := HM0.out.rbx.cell 1
  have c2 : W0.cell? ⟨w.heap.size + 1, 2, none⟩ = some (.slice xA ss.length xc) := HM0.out.rbx.cell 2
  clear hW0
  go_quiet (first
    | (go_at_call 11; exact Calls.quiet_of_same ((len_any g v ⟨sm, sl, ss⟩ _ (HM0.out.below (below_drewN (Below.refl _ _) _)).bag).mono fun _ _ h => ⟨h.1, h.2.symm⟩))
    | (go_at_call 12; exact Calls.quiet_of_same ((last_any g v ⟨sm, sl, ss⟩ _ (HM0.out.below (below_drewN (Below.refl _ _) _)).bag).mono fun _ _ h => ⟨h.1, h.2.symm⟩)))
  go_wp2_with (fail)
  have HM1 : Hid (SM w w.heap.size (w.heap.size + 1) (w.heap.size + 1 + 1) g ⟨xm, sl, xA, xc, ss⟩ v ⟨sm, sl, ss⟩ ((W0.drewN nq).alloc (.cells #[.int .i64 0] 3))) := Lib.hid (HM0.out.below ((below_drewN (Below.refl _ _) _).alloc (Nat.le_refl _) _))
  have HI1 : Hid (Blk ((W0.drewN nq).alloc (.cells #[.int .i64 0] 3)) (w.heap.size + 1 + 1 + 1 + 1) 3 #[.int .i64 ((0 : Nat) : Int)]) := Lib.hid (blk_at6 _ _ _ _ (by show _ = W0.heap.size; rw [hsz0]))
  have HB1 : Hid (((W0.drewN nq).alloc (.cells #[.int .i64 0] 3)).cell? ⟨w.heap.size + 1 + 1 + 1, 0, none⟩ = some (.pointer (some ⟨g, 0, none⟩))) := Lib.hid ((World.cell?_alloc_lt _ _ _ (by show _ < W0.heap.size; rw [hsz0]; show w.heap.size + 1 + 1 + 1 < _; omega)).trans HBx.out)
  have hsz1 : ((W0.drewN nq).alloc (.cells #[.int .i64 0] 3)).heap.size = w.heap.size + 1 + 1 + 1 + 1 + 1 := by rw [World.size_alloc]; show W0.heap.size + 1 = _; rw [hsz0]
  clear HM0 HBx c0 c1 c2 hsz0 HBW HAG
  generalize (W0.drewN nq).alloc (.cells #[.int .i64 0] 3) = W1 at *
  obtain ⟨bB, hbB⟩ : ∃ bB, bB = w.heap.size := ⟨_, rfl⟩
  obtain ⟨rB, hrB⟩ : ∃ rB, rB = w.heap.size + 1 := ⟨_, rfl⟩
  obtain ⟨tB, htB⟩ : ∃ tB, tB = w.heap.size + 1 + 1 := ⟨_, rfl⟩
  obtain ⟨Bs, hBs⟩ : ∃ Bs, Bs = w.heap.size + 1 + 1 + 1 := ⟨_, rfl⟩
  obtain ⟨iB, hiB⟩ : ∃ iB, iB = w.heap.size + 1 + 1 + 1 + 1 := ⟨_, rfl⟩
  rw [← hiB] at HI1 hsz1 ⊢
  rw [← hBs] at HB1 ⊢
  rw [← htB] at HM1 ⊢
  rw [← hrB] at HM1 ⊢
  have HM2 : Hid (SM w bB rB tB g ⟨xm, sl, xA, xc, ss⟩ v ⟨sm, sl, ss⟩ W1) := Lib.hid (by rw [hbB]; exact HM1.out)
  rw [show (w.heap.size : Nat) = bB from hbB.symm]
  have hBsW : Bs < W1.heap.size := by omega
  have hiBW : iB < W1.heap.size := by omega
  have hiw : w.heap.size ≤ iB := by omega
  have htw : w.heap.size ≤ tB := by omega
  have hgi : g ≠ iB := by omega
  have hgW : g < W1.heap.size := by omega
  clear HM1 hbB hrB htB hBs hiB
  have hlenG : (⟨sm, sl, ss⟩ : Bg).l.length ≤ 1000000 := hn
  refine wpIn_wide.1 (wpIn_rangeFunc_ownG (F := Fence.wide) (n := 9) rfl (by omega) (gf := 23) (lb := #[.pointer (some ⟨Bs, 0, none⟩)]) rfl trivial (enters_of Try.func23 (by kernel_rfl) rfl)
    (all_stops 8 (by omega) Bs g W1.heap.size ⟨g, 2, none⟩ v ⟨sm, sl, ss⟩ hlenG W1 hBsW HB1.out HM2.out.bag (show g < W1.heap.size from hgW) (fun j hj => by
      unfold rowOf at hj
      rw [(bag_cells HM2.out.bag).2.2] at hj
      exact (HM2.out.bag.2.lt j hj).2) (Nat.le_refl _))
    (fun h1 h2 => h1.trans h2) (fun W l o o' hl h hc _ => BKp.putObj o' h hc (show g ≠ l by omega)) (Below.refl _ _) (fun _ => rfl)
    (fun pre W => SM w bB rB tB g ⟨xm, sl, xA, xc, ss⟩ v ⟨sm, sl, ss⟩ W ∧ Blk W iB 3 #[.int .i64 (pre.length : Nat)])
    (fun e pre W => (e = .ret ∧ ∃ q y, pre = q ++ [y] ∧ ss[q.length]? ≠ some y))
    ?hI ?hIx ⟨HM2.out, HI1.out⟩ ?a1 ?assign ?body ?done ?stop)
  case hI =>
    rintro pre W W' row ⟨h1, h5⟩ hg hr
    exact ⟨h1.turned hg (fun r e => ⟨by have := (hr r e).1; have := HM2.out.bel.size; omega, (hr r e).2⟩), h5.turned hg (fun r e => (hr r e).2)⟩
  case hIx =>
    rintro e pre W W' row h hg hr
    exact h
  case assign =>
    intro l y W K hK
    simp only [encI]
    gi_wp2
    exact hK
  case body =>
    rintro l pre y W ⟨hM, h5⟩ hlen
    have hlen' : pre.length < ss.length := hlen
    have HM := Lib.hid hM
    have HI := Lib.hid h5
    obtain ⟨b, off, p, hA, hb, hp, e0, e1⟩ := it_at HRX.out hlen'
    subst hA
    have s0 := (HM.out.bel.cell (p := ⟨b, off + pre.length * 2, none⟩) hb).trans e0
    have s1 := (HM.out.bel.cell (p := ⟨b, off + pre.length * 2 + 1, none⟩) hb).trans e1
    have d0 : W.cell? ⟨bB, 0, none⟩ = some (.pointer (some ⟨g, 0, none⟩)) := HM.out.bbx.cell 0
    have d1 : W.cell? ⟨rB, 2, none⟩ = some (.slice (some ⟨b, off, none⟩) ss.length xc) := HM.out.rbx.cell 2
    have d2 : W.cell? ⟨iB, 0, none⟩ = some (.int .i64 (pre.length : Nat)) := HI.out.cell 0
    have d4 : W.cell? ⟨tB, 0, none⟩ = some (.bool false) := HM.out.tbx.cell 0
    have f4 := HM.out.tbx.frozen 0
    have f2 := HI.out.frozen 0
    have hpn : (pre.length : Int) < ss.length := by omega
    have hpg : ¬ (ss.length : Int) ≤ (pre.length : Int) := by omega
    have hpd : decide (ss.length ≤ pre.length) = false := decide_eq_false (by omega)
    have hpw : IntKind.i64.wrap ((pre.length : Int) + 1) = (pre.length : Int) + 1 := by rw [IntKind.wrap_i64]; omega
    have HP := Lib.hid hp
    have hno : Hid ((⟨sm, sl, ss⟩ : Bg).no (pre.length : Int) = p.1) := Lib.hid (no_at (s := ⟨sm, sl, ss⟩) hp)
    clear hM h5 e0 e1 hp HI1 HB1 HM2
    by_cases hx1 : p.1 = y.1
    · by_cases hx2 : p.2 = y.2
      · have e1 : (p.1 != y.1) = false := by simp [hx1]
        have e2 : (p.2 != y.2) = false := by simp [hx2]
        have e3 : ((⟨sm, sl, ss⟩ : Bg).no (pre.length : Int) != y.1) = false := by rw [hno.out]; exact e1
        clear hx1 hx2
        gi_wp2_with (first
          | (refine ⟨trivial, ?_⟩; gi_at_call 17; refine (CallsIn.inRound l (callsIn_wide.2 (no_any g v ⟨sm, sl, ss⟩ (pre.length : Int) W HM.out.bag))).mono ?_; rintro e W2 ⟨rfl, rfl⟩)
          | fail)
        have hM4 := HM.out.seti HI.out hiw (.int .i64 ((pre.length : Int) + 1))
        have hI4 : Blk (W.setCell ⟨iB, 0, none⟩ (.int .i64 ((pre.length : Int) + 1))) iB 3 #[.int .i64 ((pre ++ [y]).length : Nat)] := by
          have := HI.out.set_ 0 (.int .i64 ((pre.length : Int) + 1))
          rw [show ((pre ++ [y]).length : Nat) = pre.length + 1 from by simp]
          exact this
        exact ⟨(KeepsOthers.setCell _ _ _).from _, BKp.setCell _ _ (by show iB < W1.heap.size; omega) (by show iB ≠ g; omega), hM4, hI4⟩
      · have e1 : (p.1 != y.1) = false := by simp [hx1]
        have e2 : (p.2 != y.2) = true := by simp [hx2]
        have hne : Hid (ss[pre.length]? ≠ some y) := Lib.hid (by rw [HP.out]; intro e; injection e with e; exact hx2 (by rw [e]))
        clear hx1 hx2
        gi_wp2
        refine ⟨trivial, ?_⟩
        gi_wp2
        exact ⟨(KeepsOthers.setCell _ _ _).from _, ⟨rfl, pre, y, rfl, hne.out⟩⟩
    · have e1 : (p.1 != y.1) = true := by simp [hx1]
      have hne : Hid (ss[pre.length]? ≠ some y) := Lib.hid (by rw [HP.out]; intro e; injection e with e; exact hx1 (by rw [e]))
      clear hx1
      gi_wp2
      refine ⟨trivial, ?_⟩
      gi_wp2
      exact ⟨(KeepsOthers.setCell _ _ _).from _, ⟨rfl, pre, y, rfl, hne.out⟩⟩
  case done =>
    rintro D ys W hD hys ⟨hM, h5⟩ hK
    have hys' : ys = ss := hys
    rw [hys'] at h5
    clear hys hys'
    have HM := Lib.hid hM
    have HI := Lib.hid h5
    have HK := Lib.hid hK
    have d1 : W.cell? ⟨rB, 2, none⟩ = some (.slice xA ss.length xc) := HM.out.rbx.cell 2
    have d2 : W.cell? ⟨iB, 0, none⟩ = some (.int .i64 (ss.length : Nat)) := HI.out.cell 0
    have d4 : W.cell? ⟨tB, 0, none⟩ = some (.bool false) := HM.out.tbx.cell 0
    have f4 := HM.out.tbx.frozen 0
    clear hM h5 hK HI1 HB1 HM2
    go_wp2_with (fail)
    have hKD : Hid ((W.setCell ⟨tB, 0, none⟩ (.bool true)).heap[D]? = some (.deferred (some []))) := Lib.hid ((KeepsOthers.setCell _ _ _).same D _ HK.out rfl)
    have hR9 : Hid ((W.setCell ⟨tB, 0, none⟩ (.bool true)).cell? ⟨tB, 0, none⟩ = some (.bool true)) := Lib.hid (World.cell?_setCell_same _ _ _ d4)
    have hB9 : Hid (Below w.heap.size w (W.setCell ⟨tB, 0, none⟩ (.bool true))) := Lib.hid (HM.out.bel.setCell (p := ⟨tB, 0, none⟩) htw _)
    refine ⟨by simp, .inl ⟨_, _, rfl, run_takeDeferred hKD.out, ?_⟩⟩
    have hc9 := cell_kept hR9.out (grownBy_putObj' _ D (.deferred none)) (fun r e => by cases e; exact ⟨_, hKD.out, rfl⟩)
    exact ⟨.bool true, by simp [results, Try.results20, go_sem, hc9], rfl, hB9.out.trans (belowK_b (w := w) (Nat.le_refl _) _ D _ _ (by omega) hKD.out rfl rfl)⟩
  case stop =>
    rintro D e pre W hD hpre ⟨rfl, q, y, rfl, hne⟩ hK
    exfalso
    obtain ⟨r, hr⟩ := hpre
    apply hne
    have hr' : q ++ [y] ++ r = ss := hr
    rw [← hr', List.append_assoc, List.getElem?_append_right (Nat.le_refl _)]; simp
end Go.Proofs.Ytpkmbnmlepmceaa
