/- awake; what BagGoes keeps. -/
import Derived.Test.YtpkmbnmlepmceaaBagD
namespace Go.Proofs.Ytpkmbnmlepmceaa
open Go.RowKit Go.Shelf
set_option linter.unusedSimpArgs false
set_option linter.unusedVariables false
set_option maxHeartbeats 8000000
set_option maxRecDepth 100000

theorem awake_any (w : World) : Calls Try.prog 13 #[] w fun e w' => e = .returned (.bool true) ∧ Below w.heap.size w w' := by
  go_enter Try.func13, Try.ntmps13
  go_wp2_with (fail)
  refine (new_any 9 _).mono ?_
  rintro e w1 ⟨rfl, hA, hb⟩
  have HA := Lib.hid hA
  have H1 := Lib.hid hb
  clear hA hb
  go_wp2_with (fail)
  refine (put_any w.heap.size _ ⟨9, 0, []⟩ 7 _ HA.out (by simp) (by simp) (by simp)).mono ?_
  rintro e w2 ⟨rfl, v2, hA, hS⟩
  have H2 := Lib.hid (H1.out.trans (hS.below HA.out (Nat.le_refl _)))
  have HA2 : Hid (BagAt w2 w.heap.size v2 ⟨9, 1, [(1, 7)]⟩) := Lib.hid hA
  clear hA hS
  go_wp2_with (fail)
  refine (put_any w.heap.size _ ⟨9, 1, [(1, 7)]⟩ 8 _ HA2.out (by simp) (by simp) (by simp)).mono ?_
  rintro e w3 ⟨rfl, v3, hA, hS⟩
  have H3 := Lib.hid (H2.out.trans (hS.below HA2.out (Nat.le_refl _)))
  have HA3 : Hid (BagAt w3 w.heap.size v3 ⟨9, 2, [(1, 7), (2, 8)]⟩) := Lib.hid hA
  clear hA hS
  go_wp2_with (fail)
  refine (put_any w.heap.size _ ⟨9, 2, [(1, 7), (2, 8)]⟩ 9 _ HA3.out (by simp) (by simp) (by simp)).mono ?_
  rintro e w4 ⟨rfl, v4, hA, hS⟩
  have H4 := Lib.hid (H3.out.trans (hS.below HA3.out (Nat.le_refl _)))
  have HA4 : Hid (BagAt w4 w.heap.size v4 ⟨9, 3, [(1, 7), (2, 8), (3, 9)]⟩) := Lib.hid hA
  clear hA hS
  go_wp2_with (fail)
  refine (take_any w.heap.size _ ⟨9, 3, [(1, 7), (2, 8), (3, 9)]⟩ 1 _ HA4.out).mono ?_
  rintro e w5 ⟨rfl, v5, hA, hS⟩
  have H5 := Lib.hid (H4.out.trans (hS.below HA4.out (Nat.le_refl _)))
  have HA5 : Hid (BagAt w5 w.heap.size v5 ⟨9, 3, [(1, 7), (3, 9)]⟩) := Lib.hid hA
  have e1 : (Bg.at_ ⟨9, 3, [(1, 7), (2, 8), (3, 9)]⟩ 1).1 = 8 := by decide
  have e2 : (Bg.at_ ⟨9, 3, [(1, 7), (2, 8), (3, 9)]⟩ 1).2 = true := by decide
  rw [e1, e2]
  have L5 := fun w h => len_any w.heap.size v5 ⟨9, 3, [(1, 7), (3, 9)]⟩ w h
  clear hA hS
  go_wp2_with (fail)
  refine (len_any w.heap.size v5 ⟨9, 3, [(1, 7), (3, 9)]⟩ _ HA5.out).mono ?_
  rintro e w6 ⟨rfl, rfl⟩
  go_wp2_with (fail)
  refine (no_any w.heap.size v5 ⟨9, 3, [(1, 7), (3, 9)]⟩ 0 _ HA5.out).mono ?_
  rintro e w6 ⟨rfl, rfl⟩
  rw [show Bg.no ⟨9, 3, [(1, 7), (3, 9)]⟩ 0 = 1 from by decide]
  go_wp2_with (fail)
  refine (no_any w.heap.size v5 ⟨9, 3, [(1, 7), (3, 9)]⟩ 1 _ HA5.out).mono ?_
  rintro e w6 ⟨rfl, rfl⟩
  rw [show Bg.no ⟨9, 3, [(1, 7), (3, 9)]⟩ 1 = 3 from by decide]
  go_wp2_with (fail)
  go_ret
  exact ⟨rfl, H5.out⟩

def goesL (zs : List Int) (k : Nat) : List (Int × Int) := (List.range k).map fun (j : Nat) => ((j : Int) + 1, zs.getD j 0)
def goesB (zs : List Int) (k : Nat) : Bg := ⟨100, k, goesL zs k⟩
theorem goes_len (zs : List Int) (k : Nat) : (goesL zs k).length = k := by simp [goesL]
theorem goes_put (zs : List Int) (k : Nat) (z : Int) (hz : zs[k]? = some z) (hk : k < 100) : (goesB zs k).put z = goesB zs (k + 1) := by
  have h1 : ¬ ((100 : Int) ≤ (goesL zs k).length) := by rw [goes_len]; omega
  show (if (100 : Int) ≤ (goesL zs k).length then goesB zs k else ⟨100, (k : Int) + 1, goesL zs k ++ [((k : Int) + 1, z)]⟩) = _
  rw [if_neg h1]
  have h2 : goesL zs (k + 1) = goesL zs k ++ [((k : Int) + 1, z)] := by
    simp [goesL, List.range_succ, List.getD_eq_getElem?_getD, hz]
  unfold goesB
  rw [h2]
  rfl
/-- the memory of BagGoes -/
structure GM (w : World) (lB sB rB g pB : Nat) (A : Option Addr) (n c : Nat) (st : Int) (v : Value) (s : Bg) (W : World) : Prop where
  lbx : Blk W lB 22 #[.slice A n c]
  sbx : Blk W sB 5 #[.int .u8 st]
  rbx : Blk W rB 4 #[.bool false]
  pbx : Blk W pB 23 #[.pointer (some ⟨g, 0, none⟩)]
  bag : BagAt W g v s
  bel : Below w.heap.size w W
  gw : w.heap.size ≤ g
section
variable {w W W' : World} {lB sB rB g pB n c : Nat} {A : Option Addr} {st : Int} {v v' : Value} {s s' : Bg}
theorem GM.below (h : GM w lB sB rB g pB A n c st v s W) (hb : Below W.heap.size W W') : GM w lB sB rB g pB A n c st v s W' :=
  ⟨h.lbx.below hb h.lbx.lt, h.sbx.below hb h.sbx.lt, h.rbx.below hb h.rbx.lt, h.pbx.below hb h.pbx.lt, h.bag.below hb, h.bel.trans (hb.mono h.bel.size), h.gw⟩
theorem BStep.blk {k : Nat} {t : TypeId} {cs : Array Value} (h : BStep W W' g v v') (ha : BagAt W g v s) (hk : Blk W k t cs) (h1 : t ≠ 52) (h2 : 54 ≠ t) : Blk W' k t cs :=
  h.chg.blk hk (fun hs => by
    rcases hs with hs | hs
    · exact Blk.ne_ hk ha.1 h1 hs
    · exact own_blk_ne ha.2 hk h2 hs)
theorem GM.step (h : GM w lB sB rB g pB A n c st v s W) (hs : BStep W W' g v v') (ha : BagAt W' g v' s') : GM w lB sB rB g pB A n c st v' s' W' :=
  ⟨hs.blk h.bag h.lbx (by decide) (by decide), hs.blk h.bag h.sbx (by decide) (by decide), hs.blk h.bag h.rbx (by decide) (by decide), hs.blk h.bag h.pbx (by decide) (by decide), ha, h.bel.trans (hs.below h.bag h.gw), h.gw⟩
/-- a block of cells behind a turn of what is no cells -/
theorem Blk.turned {k : Nat} {t : TypeId} {cs : Array Value} {row : Option Nat} (h : Blk W k t cs) (hg : W.grownBy W' row) (hr : ∀ r, row = some r → ∃ o : Obj, W.heap[r]? = some o ∧ o.isCells = false) : Blk W' k t cs :=
  h.grown hg (fun e => by
    obtain ⟨o, h1, h2⟩ := hr k e.symm
    rw [show W.heap[k]? = _ from h] at h1
    injection h1 with h1
    subst h1
    cases h2)
theorem BagAt.turned {row : Option Nat} (h : BagAt W g v s) (hg : W.grownBy W' row) (hr : ∀ r, row = some r → ∃ o : Obj, W.heap[r]? = some o ∧ o.isCells = false) : BagAt W' g v s := by
  refine ⟨h.1.turned hg hr, own_block_same h.2 (fun k hk => hg.block k (h.2.lt k hk).2 (fun e => ?_))⟩
  rcases h.2.2 with ⟨h0, _⟩ | ⟨g', cap, cur, hv, _, hb, _⟩
  · rw [h0] at hk; cases hk
  · have : g' = k := by rw [hv] at hk; injection hk
    subst this
    obtain ⟨o, h1, h2⟩ := hr g' e.symm
    rw [hb] at h1
    injection h1 with h1
    subst h1
    cases h2
theorem GM.turned {row : Option Nat} (h : GM w lB sB rB g pB A n c st v s W) (hg : W.grownBy W' row) (hr : ∀ r, row = some r → w.heap.size ≤ r ∧ ∃ o : Obj, W.heap[r]? = some o ∧ o.isCells = false) : GM w lB sB rB g pB A n c st v s W' :=
  have hr' := fun r e => (hr r e).2
  ⟨h.lbx.turned hg hr', h.sbx.turned hg hr', h.rbx.turned hg hr', h.pbx.turned hg hr', h.bag.turned hg hr', h.bel.grown hg h.bel.size (fun k hk => (hr k hk).1), h.gw⟩
end
/-- what is no cells stays where a bag is changed -/
theorem BStep.keeps {W W' : World} {g : Nat} {v v' : Value} {s : Bg} (h : BStep W W' g v v') (ha : BagAt W g v s) (B : Nat) : KeepsFrom B W W' := by
  refine ⟨h.chg.size, fun k o _ hk ho => ?_⟩
  rw [h.chg.block k (Array.getElem?_eq_some_iff.1 hk).1 (fun hs => ?_)]
  · exact hk
  · rcases hs with hs | hs
    · subst hs
      rw [show W.heap[k]? = _ from ha.1] at hk
      injection hk with hk
      subst hk
      cases ho
    · rcases ha.2.2 with ⟨h0, _⟩ | ⟨g', cap, cur, hv, _, hb, _⟩
      · rw [h0] at hs; cases hs
      · have : g' = k := by rw [hv] at hs; injection hs
        subst this
        rw [hb] at hk
        injection hk with hk
        subst hk
        cases ho
end Go.Proofs.Ytpkmbnmlepmceaa
