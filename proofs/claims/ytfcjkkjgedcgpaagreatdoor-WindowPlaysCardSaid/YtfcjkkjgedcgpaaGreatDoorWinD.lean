/- Reach, From. -/
import Derived.Test.YtfcjkkjgedcgpaaGreatDoorWinC

namespace Go.Proofs.YtfcjkkjgedcgpaaGreatDoor
open Go.RowKit
set_option linter.unusedSimpArgs false
set_option linter.unusedVariables false
set_option maxHeartbeats 8000000
set_option maxRecDepth 100000

/-- updates handed out -/
structure Out (w : World) (r : List Up) (v : Value) (o : List Up) (W : World) : Prop where
  own : W.ownsRow w.heap.size 29 7 v o.length (o.flatMap Up.row)
  dat : ∀ u ∈ o, UpOwn W w.heap.size u
  val : o.map Up.val = r.map Up.val
theorem Out.of {w w0 W : World} {r : List Up} {v : Value} {o : List Up} (h : Picked w r v o W) (hb : w0.heap.size ≤ w.heap.size) : Out w0 r v o W :=
  ⟨own_mono h.own hb, fun u hu => ⟨own_mono (h.dat u hu).1 hb, (h.dat u hu).2⟩, h.val⟩
theorem Out.chg {w W W' : World} {r : List Up} {v : Value} {o : List Up} {S : Nat → Prop} (h : Out w r v o W) (hc : Chg W W' S) (hS : ∀ k, S k → k < w.heap.size) : Out w r v o W' :=
  ⟨hc.own h.own (fun k hk e => by have := (h.own.lt k hk).1; have := hS k e; omega), fun u hu => (h.dat u hu).chg hc (fun k hk e => by have := ((h.dat u hu).1.lt k hk).1; have := hS k e; omega), h.val⟩
theorem Out.below {w W W' : World} {r : List Up} {v : Value} {o : List Up} (h : Out w r v o W) (hb : Below W.heap.size W W') : Out w r v o W' := h.chg (Chg.of_below hb (fun _ => False)) (fun _ x => x.elim)
theorem Out.ups {w : World} {r : List Up} {v : Value} {o : List Up} {W : World} (h : Out w r v o W) : ∃ A c, v = .slice A o.length c ∧ UpsIn W W.heap.size A o.length o ∧ o.length ≤ c ∧ c ≤ maxLen := by
  obtain ⟨A, c, hv, hr, hc, hm⟩ := own_slice h.own
  exact ⟨A, c, hv, ⟨hr, fun u hu => (h.dat u hu).in_⟩, hc, hm⟩
theorem Out.len {w : World} {r : List Up} {v : Value} {o : List Up} {W : World} (h : Out w r v o W) : o.length = r.length := by
  have := congrArg List.length h.val
  simpa using this
def Wn.upTo (s : Wn) (d : Int) : Int := max s.done (min d s.lend)
def Wn.reach (s : Wn) (d : Int) : Wn := (Wn.mk s.low (s.upTo d) s.l).trim
def Wn.told (s : Wn) (d : Int) : List Up := pickL (batchStep s.done) (s.upTo d - s.done) s.l
theorem Wn.upTo_bounds {s : Wn} (h : s.ok) (d : Int) : s.done ≤ s.upTo d ∧ s.upTo d ≤ s.lend := by
  have := h.de
  unfold Wn.upTo
  omega
theorem Wn.reach_ok0 {s : Wn} (h : s.ok) (d : Int) : (Wn.mk s.low (s.upTo d) s.l).ok := by
  obtain ⟨h1, h2⟩ := Wn.upTo_bounds h d
  exact ⟨h.low, by have := h.ld; show s.low ≤ s.upTo d; omega, h2, h.big, h.row, h.len, h.dat⟩
theorem WinAt.setDone {b0 : Nat} {W : World} {g : Nat} {v : Value} {s : Wn} (h : WinAt b0 W g v s) {d : Int} (hok : (Wn.mk s.low d s.l).ok) : WinAt b0 (W.setCell ⟨g, 1, none⟩ (.int .u64 d)) g v ⟨s.low, d, s.l⟩ := by
  have hc := chg_setB W g (.int .u64 d) 1
  refine ⟨h.box.set_ 1 (.int .u64 d), hc.own h.own (fun k hk e => ?_), fun u hu => (h.dat u hu).chg hc (fun k hk e => ?_), h.hg, hok⟩
  · simp only [isB] at e
    exact own_blk_ne h.own h.box (by decide) (by rw [hk, e])
  · simp only [isB] at e
    exact own_blk_ne (h.dat u hu).1 h.box (by decide) (by rw [hk, e])
def ReachP (b0 g : Nat) (v : Value) (s : Wn) (d : Int) (W : World) (e : Ending) (W' : World) : Prop :=
  ∃ v' vo o, e = .returned vo ∧ Out W (s.told d) vo o W' ∧ WinAt b0 W' g v' (s.reach d) ∧ Chg W W' (isW g v) ∧ NewV W v v'
theorem reach_any (b0 : Nat) (W : World) (g : Nat) (v : Value) (s : Wn) (d : Int) (h : WinAt b0 W g v s) (hd0 : 0 ≤ d) (hd1 : d ≤ 18446744073709551615) :
    Calls Tryz.prog 10 #[.pointer (some ⟨g, 0, none⟩), .int .u64 d] W (ReachP b0 g v s d W) := by
  have H := Lib.hid h
  obtain ⟨A, c, rfl, _, hlc, hcm⟩ := h.ups
  obtain ⟨c0, c1, c2⟩ := win_cells h
  have f1 := h.box.frozen 1
  have lg := h.box.lt
  obtain ⟨q, hq⟩ : ∃ q, max s.done (min d s.lend) = q := ⟨_, rfl⟩
  have HQ : Hid (q = s.upTo d) := Lib.hid (by rw [← hq]; rfl)
  obtain ⟨k1, k2⟩ := Wn.upTo_bounds h.ok d
  have hok := Wn.reach_ok0 h.ok d
  rw [← HQ.out] at k1 k2 hok
  have HOK := Lib.hid hok
  have k5 := h.ok.big
  have k6 := h.ok.ld
  have k7 := h.ok.low
  have hw1 : IntKind.u64.wrap (q - s.done) = q - s.done := by rw [IntKind.wrap_u64]; omega
  have hw2 : IntKind.i64.wrap (q - s.done) = q - s.done := by rw [IntKind.wrap_i64]; omega
  have HMB : Hid (-9223372036854775808 ≤ q - s.done ∧ q - s.done ≤ 9223372036854775807) := Lib.hid (by omega)
  clear h hok k1 k2 k5 k6 k7 hd0 hd1
  go_enter Tryz.func10, Tryz.ntmps10
  go_wp2_with (fail)
  refine (wend_any b0 W g _ s H.out).mono ?_
  rintro e w1 ⟨rfl, h1⟩
  have H1 := Lib.hid h1
  have HW1 := Lib.hid (H.out.below h1)
  have e1 := (HW1.out.box.cell 1).trans (show _ = some (.int .u64 s.done) from rfl)
  have g1 := HW1.out.box.frozen 1
  clear h1 c0 c1 c2 f1
  go_wp2_with (fail)
  have HW2 := Lib.hid (HW1.out.setDone HOK.out)
  have HC2 : Hid (Chg W (w1.setCell ⟨g, 1, none⟩ (.int .u64 q)) (isW g (.slice A s.l.length c))) := Lib.hid ((Chg.of_below H1.out _).trans ((chg_setB w1 g (.int .u64 q) 1).mono (T := isW g (.slice A s.l.length c)) (fun i _ hi => .inl hi)) (fun _ _ x => x))
  obtain ⟨W5, hW5⟩ : ∃ W5, W5 = w1.setCell ⟨g, 1, none⟩ (.int .u64 q) := ⟨_, rfl⟩
  rw [← hW5] at HW2 HC2 ⊢
  have d1 := (HW2.out.box.cell 1).trans (show _ = some (.int .u64 q) from rfl)
  have d2 := (HW2.out.box.cell 2).trans (show _ = some (.slice A s.l.length c) from rfl)
  have l5 := HW2.out.box.lt
  have BT := Lib.hid (fun (x : Unit) => batch_any A s.l.length c W5.heap.size s.l s.done (q - s.done) W5.drew (by obtain ⟨A', c', hv, hu, _, _⟩ := HW2.out.ups; injection hv with hv1 hv2 hv3; subst hv1; exact ⟨hu.rd.drew, fun u hu' => by have := hu.mem u hu'; exact ⟨this.rd.drew, this.hc, this.hm, this.wf⟩⟩) (Nat.le_refl _) (by have := H.out.ok.len; omega) (fun u hu => Nat.le_trans (H.out.ok.dat u hu) (by omega)) HMB.out)
  clear hW5 e1 g1
  go_region_held3 (fun w' => w'.cell? ⟨g, 1, none⟩ = some (.int .u64 q) ∧ w'.cell? ⟨g, 2, none⟩ = some (.slice A s.l.length c)) (go_keep) (first
    | (go_at_call 27; refine (BT.out ()).mono ?_; rintro e w6 ⟨vo, o, rfl, hp⟩; have h6 := (show Below W5.heap.size W5 w6 from (show Below W5.heap.size W5 W5.drew from (Below.refl _ _).drew).trans hp.bel); replace d1 := (h6.cell (p := ⟨g, 1, none⟩) l5).trans d1; replace d2 := (h6.cell (p := ⟨g, 2, none⟩) l5).trans d2; have H6 := Lib.hid h6; have HP := Lib.hid hp; clear h6 hp)
    | fail)
  go_wp2_with (fail)
  refine (trim_any b0 _ g _ _ (HW2.out.below H6.out)).mono ?_
  rintro e w10 ⟨v10, rfl, hA, hC, hN⟩
  have H10 := Lib.hid hA
  have HCC := Lib.hid hC
  have HC := Lib.hid ((HC2.out.trans (Chg.of_below H6.out (isW g (.slice A s.l.length c))) (fun _ _ x => x)).trans (hC.mono (T := isW g (.slice A s.l.length c)) (fun i _ hi => .inl hi)) (fun _ _ x => x))
  have HN : Hid (NewV W (.slice A s.l.length c) v10) := Lib.hid (by
    rcases hN with rfl | hN
    · exact .inl rfl
    · exact .inr (fun k hk => Nat.le_trans HC2.out.size (Nat.le_trans H6.out.size (hN k hk))))
  have HOUT : Hid (Out W (s.told d) vo o w10) := Lib.hid (by
    have h1 : Out W (pickL (batchStep s.done) (q - s.done) s.l) vo o w6 := Out.of HP.out HC2.out.size
    rw [HQ.out] at h1
    exact h1.chg hC (fun k hk => by simp only [isB] at hk; omega))
  clear hA hC hN d1 d2
  go_wp2_with (fail)
  go_ret
  refine ⟨v10, vo, o, rfl, HOUT.out, ?_, HC.out, HN.out⟩
  unfold Wn.reach
  rw [← HQ.out]
  exact H10.out
def Wn.has (s : Wn) (got : Int) : Bool := decide (s.low ≤ got ∧ got ≤ s.lend)
def Wn.behind (s : Wn) (got most : Int) : List Up := if s.has got = true then pickL (batchStep got) most s.l else []
def FromP (s : Wn) (got most : Int) (W : World) (e : Ending) (W' : World) : Prop :=
  ∃ vo o, e = .returned (.tuple #[vo, .bool (s.has got)]) ∧ Out W (s.behind got most) vo o W' ∧ Below W.heap.size W W'
theorem Out.nil (w W : World) : Out w [] (.slice none 0 0) [] W := ⟨World.ownsRow_nil _ _ _ _, by simp, rfl⟩
theorem from_any (b0 : Nat) (W : World) (g : Nat) (v : Value) (s : Wn) (got most : Int) (h : WinAt b0 W g v s) (hm : -9223372036854775808 ≤ most ∧ most ≤ 9223372036854775807) :
    Calls Tryz.prog 20 #[.pointer (some ⟨g, 0, none⟩), .int .u64 got, .int .i64 most] W (FromP s got most W) := by
  have H := Lib.hid h
  have HM := Lib.hid hm
  obtain ⟨A, c, rfl, _, hlc, hcm⟩ := h.ups
  obtain ⟨c0, c1, c2⟩ := win_cells h
  clear h hm
  by_cases hl : got < s.low
  · have HX : Hid (s.has got = false ∧ s.behind got most = []) := Lib.hid (by
      have : s.has got = false := by unfold Wn.has; rw [decide_eq_false_iff_not]; omega
      exact ⟨this, by unfold Wn.behind; rw [this]; rfl⟩)
    go_enter Tryz.func20, Tryz.ntmps20
    go_wp2_with (fail)
    go_ret2
    exact ⟨.slice none 0 0, [], by rw [HX.out.1]; rfl, by rw [HX.out.2]; exact Out.nil _ _, by repeat (first | with_reducible exact Below.refl _ _ | with_reducible refine Below.setCell ?_ (by first | omega | (simp <;> omega)) _ | with_reducible refine Below.alloc ?_ (by first | omega | (simp <;> omega)) _ | with_reducible refine below_drewN ?_ _ | with_reducible refine Below.drew ?_)⟩
  have hl' : s.low ≤ got := by omega
  by_cases hh : s.lend < got
  · have HX : Hid (s.has got = false ∧ s.behind got most = []) := Lib.hid (by
      have : s.has got = false := by unfold Wn.has; rw [decide_eq_false_iff_not]; omega
      exact ⟨this, by unfold Wn.behind; rw [this]; rfl⟩)
    clear hl
    go_enter Tryz.func20, Tryz.ntmps20
    go_wp2_with (fail)
    refine (wend_any b0 W g _ s H.out).mono ?_
    rintro e w1 ⟨rfl, h1⟩
    have H1 := Lib.hid h1
    clear h1
    go_wp2_with (fail)
    go_ret2
    exact ⟨.slice none 0 0, [], by rw [HX.out.1]; rfl, by rw [HX.out.2]; exact Out.nil _ _, H1.out⟩
  have hh' : got ≤ s.lend := by omega
  have HX : Hid (s.has got = true ∧ s.behind got most = pickL (batchStep got) most s.l) := Lib.hid (by
    have : s.has got = true := by unfold Wn.has; rw [decide_eq_true_eq]; omega
    exact ⟨this, by unfold Wn.behind; rw [this]; rfl⟩)
  clear hl hh
  go_enter Tryz.func20, Tryz.ntmps20
  go_wp2_with (fail)
  refine (wend_any b0 W g _ s H.out).mono ?_
  rintro e w1 ⟨rfl, h1⟩
  have H1 := Lib.hid h1
  have HW1 := Lib.hid (H.out.below h1)
  obtain ⟨d0, d1, d2⟩ := win_cells HW1.out
  clear h1 c0 c1 c2
  go_wp2_with (fail)
  have HUP : Hid (UpsIn w1 w1.heap.size A s.l.length s.l) := Lib.hid (by obtain ⟨A', c', hv, hu, _, _⟩ := HW1.out.ups; injection hv with hv1 hv2 hv3; subst hv1; exact hu)
  refine (batch_any A s.l.length c w1.heap.size s.l got most w1 HUP.out (Nat.le_refl _) (by have := H.out.ok.len; omega) (fun u hu => Nat.le_trans (H.out.ok.dat u hu) (by omega)) HM.out).mono ?_
  rintro e w2 ⟨vo, o, rfl, hp⟩
  have HP := Lib.hid hp
  obtain ⟨A8, c8, rfl, _, _, _⟩ := hp.ups
  clear hp d0 d1 d2
  go_wp2_with (fail)
  go_ret2
  exact ⟨_, o, by rw [HX.out.1]; rfl, by rw [HX.out.2]; exact Out.of HP.out H1.out.size, H1.out.trans (HP.out.bel.mono H1.out.size)⟩
end Go.Proofs.YtfcjkkjgedcgpaaGreatDoor
