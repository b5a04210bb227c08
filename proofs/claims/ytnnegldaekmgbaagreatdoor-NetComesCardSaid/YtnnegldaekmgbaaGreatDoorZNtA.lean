/- A net in memory; New, bag, Len. -/
import Derived.Test.YtnnegldaekmgbaaGreatDoorZCeG
import Derived.Test.YtnnegldaekmgbaaGreatDoorZNbC
import Derived.Test.YtnnegldaekmgbaaGreatDoorZNtB
import Derived.Test.YtnnegldaekmgbaaGreatDoorZGD
namespace Go.Proofs.YtnnegldaekmgbaaGreatDoor
open Go.RowKit
set_option linter.unusedSimpArgs false
set_option linter.unusedVariables false
set_option maxHeartbeats 4000000
set_option maxRecDepth 100000

/-- a net: how many may be under way, the last number, the frames by their numbers, the counts -/
structure Nv where
  most : Int
  last : Int
  l : List (Int × List Nat)
  b : Bd
def Nv.new (m : Int) : Nv := ⟨max m 0, 0, [], ⟨0, 0, 0, 0⟩⟩
structure NetAt (W : World) (lo g cd gt bg bd : Nat) (v : Value) (s : NBg) (n : Nv) (m : Int) : Prop where
  box : Blk W g 139 #[.pointer (some ⟨cd, 0, none⟩), .pointer (some ⟨bg, 0, none⟩), .pointer (some ⟨bd, 0, none⟩)]
  cod : ∃ d x y, Cd W cd gt d x y ∧ (0 ≤ x ∧ x ≤ m) ∧ (0 ≤ y ∧ y ≤ m)
  bag : NBagAt W bg v s
  brd : BdAt W bd n.b
  most : s.most = n.most
  last : s.last = n.last
  no : s.l.map Prod.fst = n.l.map Prod.fst
  byt : ∀ (k : Nat) (p : Int × Sv) (q : Int × List Nat), s.l[k]? = some p → n.l[k]? = some q → W.ownsRow lo 5 1 (.slice p.2.A p.2.n p.2.c) p.2.n ((bI q.2).map (Value.int .u8)) ∧ isBs q.2
  low : lo ≤ g ∧ lo ≤ cd ∧ lo ≤ gt ∧ lo ≤ bg ∧ lo ≤ bd
/-- the blocks that a net may change -/
def NetS (cd gt bg bd : Nat) (v : Value) : Nat → Prop := fun k => k = cd ∨ k = gt ∨ k = bg ∨ k = bd ∨ v.ownBlock = some k
section
variable {W W' : World} {lo g cd gt bg bd : Nat} {v v' : Value} {s s' : NBg} {n n' : Nv} {m m' : Int}
theorem NetAt.len (h : NetAt W lo g cd gt bg bd v s n m) : s.l.length = n.l.length := by have := congrArg List.length h.no; simpa using this
theorem tb_blk {w : World} {g : Nat} {d : Bool} (h : Tb w g d) : ∃ cs, Blk w g 215 cs := by obtain ⟨cs, b, _⟩ := h; exact ⟨cs, b⟩
/-- a block of another type is none of those that a net may change -/
theorem NetAt.out (h : NetAt W lo g cd gt bg bd v s n m) {k : Nat} {t : TypeId} {cs : Array Value} (hb : Blk W k t cs) (h1 : t ≠ 210) (h2 : t ≠ 215) (h3 : t ≠ 218) (h4 : t ≠ 223) (h5 : 232 ≠ t) : ¬ NetS cd gt bg bd v k := by
  obtain ⟨d, x, y, hc, _⟩ := h.cod
  obtain ⟨cs2, htb⟩ := tb_blk hc.2
  rintro (e | e | e | e | e)
  · exact Blk.ne_ hb hc.1 h1 e
  · exact Blk.ne_ hb htb h2 e
  · exact Blk.ne_ hb h.bag.1 h3 e
  · exact Blk.ne_ hb h.brd h4 e
  · exact own_blk_ne h.bag.2 hb h5 e
theorem NetAt.outO (h : NetAt W lo g cd gt bg bd v s n m) {b sz q k : Nat} {t : TypeId} {u : Value} {xs : List Value} (ho : W.ownsRow b t sz u q xs) (h1 : t ≠ 210) (h2 : t ≠ 215) (h3 : t ≠ 218) (h4 : t ≠ 223) (h5 : t ≠ 232) (hk : u.ownBlock = some k) : ¬ NetS cd gt bg bd v k := by
  obtain ⟨d, x, y, hc, _⟩ := h.cod
  obtain ⟨cs2, htb⟩ := tb_blk hc.2
  rintro (e | e | e | e | e)
  · exact own_blk_ne ho hc.1 h1 (by rw [hk, e])
  · exact own_blk_ne ho htb h2 (by rw [hk, e])
  · exact own_blk_ne ho h.bag.1 h3 (by rw [hk, e])
  · exact own_blk_ne ho h.brd h4 (by rw [hk, e])
  · exact own_ne_ownC ho h.bag.2 h5 k hk e
theorem NetAt.below (h : NetAt W lo g cd gt bg bd v s n m) (hb : Below W.heap.size W W') : NetAt W' lo g cd gt bg bd v s n m := by
  obtain ⟨d, x, y, hc, hx, hy⟩ := h.cod
  exact ⟨h.box.below hb h.box.lt, ⟨d, x, y, hc.below hb hc.1.lt hc.2.lt, hx, hy⟩, h.bag.below hb, Blk.below h.brd hb (Blk.lt h.brd), h.most, h.last, h.no, fun k p q h1 h2 => ⟨(Chg.of_below hb (fun _ => False)).own (h.byt k p q h1 h2).1 (fun _ _ e => e), (h.byt k p q h1 h2).2⟩, h.low⟩
/-- behind the codec's work -/
theorem NetAt.move (h : NetAt W lo g cd gt bg bd v s n m) (hc : Chg W W' (fun k => k = gt ∨ k = cd)) (hcod : ∃ d x y, Cd W' cd gt d x y ∧ (0 ≤ x ∧ x ≤ m') ∧ (0 ≤ y ∧ y ≤ m')) : NetAt W' lo g cd gt bg bd v s n m' := by
  have hS : ∀ k, (k = gt ∨ k = cd) → NetS cd gt bg bd v k := fun k e => by rcases e with e | e; exact .inr (.inl e); exact .inl e
  obtain ⟨d, x, y, hcd, _, _⟩ := h.cod
  obtain ⟨cs2, htb⟩ := tb_blk hcd.2
  refine ⟨hc.blk h.box (fun e => h.out h.box (by decide) (by decide) (by decide) (by decide) (by decide) (hS _ e)), hcod, ⟨hc.blk h.bag.1 ?_, ?_⟩, hc.blk h.brd ?_, h.most, h.last, h.no, fun k p q h1 h2 => ⟨hc.own (h.byt k p q h1 h2).1 (fun j hj e => h.outO (h.byt k p q h1 h2).1 (by decide) (by decide) (by decide) (by decide) (by decide) hj (hS _ e)), (h.byt k p q h1 h2).2⟩, h.low⟩
  · rintro (e | e)
    · exact Blk.ne_ h.bag.1 htb (by decide) e
    · exact Blk.ne_ h.bag.1 hcd.1 (by decide) e
  · refine hc.own h.bag.2 (fun j hj e => ?_)
    rcases e with e | e
    · exact own_blk_ne h.bag.2 htb (by decide) (by rw [hj, e])
    · exact own_blk_ne h.bag.2 hcd.1 (by decide) (by rw [hj, e])
  · rintro (e | e)
    · exact Blk.ne_ h.brd htb (by decide) e
    · exact Blk.ne_ h.brd hcd.1 (by decide) e
/-- behind a step of the bag -/
theorem NetAt.bagged (h : NetAt W lo g cd gt bg bd v s n m) (hs : NBStep W W' bg v v') (ha : NBagAt W' bg v' s') (hb : n'.b = n.b) (h1 : s'.most = n'.most) (h2 : s'.last = n'.last) (h3 : s'.l.map Prod.fst = n'.l.map Prod.fst)
    (h4 : ∀ (k : Nat) (p : Int × Sv) (q : Int × List Nat), s'.l[k]? = some p → n'.l[k]? = some q → W.ownsRow lo 5 1 (.slice p.2.A p.2.n p.2.c) p.2.n ((bI q.2).map (Value.int .u8)) ∧ isBs q.2) : NetAt W' lo g cd gt bg bd v' s' n' m := by
  have hc := hs.chg
  have hS : ∀ k, (k = bg ∨ v.ownBlock = some k) → NetS cd gt bg bd v k := fun k e => by rcases e with e | e; exact .inr (.inr (.inl e)); exact .inr (.inr (.inr (.inr e)))
  obtain ⟨d, x, y, hcd, hx, hy⟩ := h.cod
  obtain ⟨cs2, htb⟩ := tb_blk hcd.2
  refine ⟨hc.blk h.box (fun e => h.out h.box (by decide) (by decide) (by decide) (by decide) (by decide) (hS _ e)), ⟨d, x, y, ⟨hc.blk hcd.1 ?_, TabC.chg hcd.2 hc ?_⟩, hx, hy⟩, ha, ?_, h1, h2, h3, fun k p q e1 e2 => ⟨hc.own (h4 k p q e1 e2).1 (fun j hj e => h.outO (h4 k p q e1 e2).1 (by decide) (by decide) (by decide) (by decide) (by decide) hj (hS _ e)), (h4 k p q e1 e2).2⟩, h.low⟩
  · rintro (e | e)
    · exact Blk.ne_ hcd.1 h.bag.1 (by decide) e
    · exact own_blk_ne h.bag.2 hcd.1 (by decide) e
  · rintro (e | e)
    · exact Blk.ne_ htb h.bag.1 (by decide) e
    · exact own_blk_ne h.bag.2 htb (by decide) e
  · rw [hb]
    refine hc.blk h.brd ?_
    rintro (e | e)
    · exact Blk.ne_ h.brd h.bag.1 (by decide) e
    · exact own_blk_ne h.bag.2 h.brd (by decide) e
/-- behind a step of the board -/
theorem NetAt.board (h : NetAt W lo g cd gt bg bd v s n m) {b' : Bd} (hc : Chg W W' (fun k => k = bd)) (hb : BdAt W' bd b') : NetAt W' lo g cd gt bg bd v s { n with b := b' } m := by
  have hS : ∀ k, k = bd → NetS cd gt bg bd v k := fun k e => .inr (.inr (.inr (.inl e)))
  obtain ⟨d, x, y, hcd, hx, hy⟩ := h.cod
  obtain ⟨cs2, htb⟩ := tb_blk hcd.2
  exact ⟨hc.blk h.box (fun e => h.out h.box (by decide) (by decide) (by decide) (by decide) (by decide) (hS _ e)), ⟨d, x, y, ⟨hc.blk hcd.1 (fun e => Blk.ne_ hcd.1 h.brd (by decide) e), TabC.chg hcd.2 hc (fun e => Blk.ne_ htb h.brd (by decide) e)⟩, hx, hy⟩,
    ⟨hc.blk h.bag.1 (fun e => Blk.ne_ h.bag.1 h.brd (by decide) e), hc.own h.bag.2 (fun j hj e => own_blk_ne h.bag.2 h.brd (by decide) (by rw [hj, e]))⟩, hb, h.most, h.last, h.no, fun k p q h1 h2 => ⟨hc.own (h.byt k p q h1 h2).1 (fun j hj e => h.outO (h.byt k p q h1 h2).1 (by decide) (by decide) (by decide) (by decide) (by decide) hj (hS _ e)), (h.byt k p q h1 h2).2⟩, h.low⟩
/-- the changes of a step of the net -/
structure NStep (W W' : World) (cd gt bg bd : Nat) (v v' : Value) : Prop where
  chg : Chg W W' (NetS cd gt bg bd v)
  row : ∀ k, v'.ownBlock = some k → v.ownBlock = some k ∨ W.heap.size ≤ k
theorem NStep.of_below (hb : Below W.heap.size W W') (cd gt bg bd : Nat) (v : Value) : NStep W W' cd gt bg bd v v := ⟨Chg.of_below hb _, fun k h => .inl h⟩
theorem NStep.trans {W'' : World} {v'' : Value} (h : NStep W W' cd gt bg bd v v') (k : NStep W' W'' cd gt bg bd v' v'') : NStep W W'' cd gt bg bd v v'' :=
  ⟨h.chg.trans k.chg (fun i hi hs => by
    rcases hs with hs | hs | hs | hs | hs
    · exact .inl hs
    · exact .inr (.inl hs)
    · exact .inr (.inr (.inl hs))
    · exact .inr (.inr (.inr (.inl hs)))
    · rcases h.row i hs with h1 | h1
      · exact .inr (.inr (.inr (.inr h1)))
      · omega), fun i hi => by
    rcases k.row i hi with h1 | h1
    · exact h.row i h1
    · exact .inr (Nat.le_trans h.chg.size h1)⟩
theorem NStep.codec (hc : Chg W W' (fun k => k = gt ∨ k = cd)) (bg bd : Nat) (v : Value) : NStep W W' cd gt bg bd v v := ⟨hc.mono (fun k _ e => by rcases e with e | e; exact .inr (.inl e); exact .inl e), fun k h => .inl h⟩
theorem NStep.bag (hs : NBStep W W' bg v v') (cd gt bd : Nat) : NStep W W' cd gt bg bd v v' := ⟨hs.chg.mono (fun k _ e => by rcases e with e | e; exact .inr (.inr (.inl e)); exact .inr (.inr (.inr (.inr e)))), hs.row⟩
theorem NStep.board (hc : Chg W W' (fun k => k = bd)) (cd gt bg : Nat) (v : Value) : NStep W W' cd gt bg bd v v := ⟨hc.mono (fun k _ e => .inr (.inr (.inr (.inl e)))), fun k h => .inl h⟩
theorem NStep.bel (h : NStep W W' cd gt bg bd v v') (hn : NetAt W lo g cd gt bg bd v s n m) : Below lo W W' :=
  h.chg.below (by have := hn.box.lt; have := hn.low.1; omega) (fun k hk e => by
    obtain ⟨_, l1, l2, l3, l4⟩ := hn.low
    rcases e with e | e | e | e | e
    · omega
    · omega
    · omega
    · omega
    · have := (hn.bag.2.lt k e).1; omega)
end
def NewP (lo : Nat) (mo : Int) (w : World) (e : Ending) (w' : World) : Prop :=
  ∃ g cd gt bg bd, e = .returned (.pointer (some ⟨g, 0, none⟩)) ∧ NetAt w' w.heap.size g cd gt bg bd (.slice none 0 0) ⟨max mo 0, 0, []⟩ (Nv.new mo) 0 ∧ Below w.heap.size w w'
theorem netNew_any (mo : Int) (w : World) : Calls Tryz.prog 32 #[.int .i64 mo] w (NewP w.heap.size mo w) := by
  have T := Lib.hid (crcNew_any w)
  go_enter Tryz.func32, Tryz.ntmps32
  go_wp2_with (fail)
  refine T.out.mono ?_
  rintro e w1 ⟨rfl, t1, h1⟩
  have T1 := Lib.hid t1
  have H1 := Lib.hid h1
  clear t1 h1 T
  go_wp2_with (fail)
  refine (frNew_any w.heap.size false w1 T1.out).mono ?_
  rintro e w2 ⟨rfl, c2, h2⟩
  have C2 := Lib.hid c2
  have H2 := Lib.hid h2
  clear c2 h2
  go_wp2_with (fail)
  refine (nb_new_any mo w2).mono ?_
  rintro e w3 ⟨rfl, b3, h3⟩
  have B3 := Lib.hid b3
  have H3 := Lib.hid h3
  clear b3 h3
  go_wp2_with (fail)
  refine (bdNew_any w3).mono ?_
  rintro e w4 ⟨rfl, d4, h4⟩
  have D4 := Lib.hid d4
  have H4 := Lib.hid h4
  have s1 := H1.out.size
  have s2 := H2.out.size
  have s3 := H3.out.size
  have s4 := H4.out.size
  have l0 := T1.out.lt
  have l1 := C2.out.1.lt
  have l2 := B3.out.1.lt
  have l3 := Blk.lt D4.out
  clear d4 h4
  go_wp2_with (fail)
  go_ret
  have hb : Below w4.heap.size w4 (w4.alloc (.cells #[.pointer (some ⟨w1.heap.size, 0, none⟩), .pointer (some ⟨w2.heap.size, 0, none⟩), .pointer (some ⟨w3.heap.size, 0, none⟩)] 139)) := (Below.refl _ _).alloc (Nat.le_refl _) _
  refine ⟨_, w1.heap.size, w.heap.size, w2.heap.size, w3.heap.size, rfl, ⟨Blk.new _ _ _, ⟨false, 0, 0, ((C2.out.below H3.out (by omega) (by omega)).below H4.out (by omega) (by omega)).below hb (by omega) (by omega), by omega, by omega⟩, ((B3.out.below H4.out).below hb), Blk.below D4.out hb l3, rfl, rfl, rfl, fun k p q h1 => by simp at h1, by omega⟩, ?_⟩
  exact (((H1.out.trans (H2.out.mono s1)).trans (H3.out.mono (by omega))).trans (H4.out.mono (by omega))).trans (hb.mono (by omega))
theorem netBag_any {lo g cd gt bg bd : Nat} {v : Value} {s : NBg} {n : Nv} {m : Int} (w : World) (h : NetAt w lo g cd gt bg bd v s n m) :
    Calls Tryz.prog 77 #[.pointer (some ⟨g, 0, none⟩)] w fun e w' => e = .returned (.pointer (some ⟨bg, 0, none⟩)) ∧ w = w' := by
  have c1 : w.cell? ⟨g, 1, none⟩ = some (.pointer (some ⟨bg, 0, none⟩)) := h.box.cell 1
  clear h
  go_enter Tryz.func77, Tryz.ntmps77
  go_wp2_with (fail)
  go_ret
  exact ⟨rfl, rfl⟩
theorem netLen_any {lo g cd gt bg bd : Nat} {v : Value} {s : NBg} {n : Nv} {m : Int} (w : World) (h : NetAt w lo g cd gt bg bd v s n m) :
    Calls Tryz.prog 34 #[.pointer (some ⟨g, 0, none⟩)] w fun e w' => e = .returned (.int .i64 n.l.length) ∧ w = w' := by
  have BG := Lib.hid (netBag_any w h)
  have LN := Lib.hid (nb_len_any bg v s w h.bag)
  rw [h.len] at LN
  clear h
  go_enter Tryz.func34, Tryz.ntmps34
  go_wp2_with (fail)
  refine BG.out.mono ?_
  rintro e w1 ⟨rfl, rfl⟩
  go_wp2_with (fail)
  refine LN.out.mono ?_
  rintro e w1 ⟨rfl, rfl⟩
  go_wp2_with (fail)
  go_ret
  exact ⟨rfl, rfl⟩
end Go.Proofs.YtnnegldaekmgbaaGreatDoor
