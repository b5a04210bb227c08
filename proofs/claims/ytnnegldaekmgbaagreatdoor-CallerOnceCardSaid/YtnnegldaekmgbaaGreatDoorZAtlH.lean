/- The page's example. -/
import Derived.Test.YtnnegldaekmgbaaGreatDoorZAtlG
namespace Go.Proofs.YtnnegldaekmgbaaGreatDoor
open Go.RowKit
set_option linter.unusedSimpArgs false
set_option linter.unusedVariables false
set_option maxHeartbeats 8000000
set_option maxRecDepth 100000

theorem BgRel.cfs {w W : World} {per m : Nat} {A : Option Addr} {n c : Nat} {l : List Cf} (h : BgRel w per m (.slice A n c) l W) : CfsIn W W.heap.size A l.length l := by
  obtain ⟨A1, c1, e, hr, _, _⟩ := own_slice h.own
  injection e with e1 e2 e3
  subst e1 e2 e3
  exact ⟨hr, fun x hx => (h.mem x hx).in_⟩
theorem val_cf {y : Cf} {i ep : Nat} {zs : List Int} (h : ((i : Int), (ep : Int), zs, false, (0 : Int)) = y.val) (hl : y.zs.length = y.len) : y.ch = i ∧ y.ep = ep ∧ y.zs = zs ∧ y.fr = false ∧ y.jn = 0 ∧ y.len = zs.length := by
  unfold Cf.val at h
  simp only [Prod.mk.injEq] at h
  obtain ⟨h1, h2, h3, h4, h5⟩ := h
  exact ⟨h1.symm, by omega, h3.symm, h4.symm, h5.symm, by rw [← hl, h3]⟩
theorem right_of {y : Cf} {i : Nat} {zs : List Int} (h : ((i : Int), ((1 : Nat) : Int), zs, false, (0 : Int)) = y.val) (hl : y.zs.length = y.len) (hi : i < 4) (h1 : 1 ≤ zs.length ∧ zs.length ≤ 5) (hu : Unl zs) : y.right = true ∧ y.stands = zs := by
  obtain ⟨a, b, c, d, e, f⟩ := val_cf h hl
  have hs : y.stands = zs := by unfold Cf.stands; rw [c, e, if_pos rfl, List.append_nil]
  refine ⟨?_, hs⟩
  unfold Cf.right
  rw [Bool.and_eq_true, decide_eq_true_eq, unlikeB_iff, hs]
  refine ⟨?_, hu⟩
  unfold Cf.fine
  rw [a, b, d, e, f]
  exact ⟨⟨by omega, by omega⟩, by omega, h1, by simp⟩
theorem nodesI_get {a k j : Nat} {z : Int} (h : (nodesI a k)[j]? = some z) : j < k ∧ z = ((a + j + 1 : Nat) : Int) := by
  unfold nodesI at h
  rw [List.getElem?_map] at h
  rcases Nat.lt_or_ge j k with hj | hj
  · rw [List.getElem?_range hj] at h
    injection h with h
    exact ⟨hj, h.symm⟩
  · rw [List.getElem?_eq_none (by simpa using hj)] at h
    cases h
theorem unl_nodesI (a k : Nat) (h : a + k ≤ 24) : Unl (nodesI a k) := by
  intro j z hz
  obtain ⟨hj, rfl⟩ := nodesI_get hz
  refine ⟨(nodeB_iff _).2 (by omega), fun hm => ?_⟩
  obtain ⟨i, hi, he⟩ := List.getElem_of_mem hm
  have h1 : ((nodesI a k).take j)[i]? = some (((a + j + 1 : Nat) : Int)) := by rw [List.getElem?_eq_getElem hi, he]
  have hij : i < j := by rw [List.length_take] at hi; omega
  rw [List.getElem?_take_of_lt hij] at h1
  have := (nodesI_get h1).2
  omega
theorem nodesI_app (a b c : Nat) {k : Nat} (h : b = a + k) : nodesI a k ++ nodesI b c = nodesI a (k + c) := by
  subst h
  induction c with
  | zero => simp [nodesI]
  | succ c ih => rw [nodesI_succ, ← List.append_assoc, ih, ← Nat.add_assoc, nodesI_succ]; congr 3; omega
theorem flat_nodesI (per : Nat) : ∀ m, (List.range m).flatMap (fun i => nodesI (i * per) per) = nodesI 0 (m * per)
  | 0 => by simp [nodesI]
  | m + 1 => by rw [List.range_succ, List.flatMap_append, flat_nodesI per m, List.flatMap_singleton, nodesI_app 0 (m * per) per (by omega), Nat.succ_mul]
theorem beg_at {l : List Cf} {per m j : Nat} {x : Cf} (hv : l.map Cf.val = (List.range m).map (begV per)) (hx : l[j]? = some x) : j < m ∧ begV per j = x.val := by
  have h : (l.map Cf.val)[j]? = some x.val := by rw [List.getElem?_map, hx]; rfl
  rw [hv, List.getElem?_map] at h
  rcases Nat.lt_or_ge j m with hj | hj
  · rw [List.getElem?_range hj] at h
    injection h with h
    exact ⟨hj, h⟩
  · rw [List.getElem?_eq_none (by simpa using hj)] at h
    cases h
/-- configurations whose values are Begin's may be -/
theorem beg_right {l : List Cf} {per m j : Nat} {x : Cf} (hv : l.map Cf.val = (List.range m).map (begV per)) (hl : ∀ x ∈ l, x.zs.length = x.len) (h2 : m ≤ 4) (h3 : 1 ≤ per) (h4 : per ≤ 5) (hx : l[j]? = some x) :
    x.ch = j ∧ x.right = true ∧ x.stands = nodesI (j * per) per := by
  obtain ⟨hj, he⟩ := beg_at hv hx
  have hz := hl x (List.mem_of_getElem? hx)
  have he' : ((j : Int), ((1 : Nat) : Int), nodesI (j * per) per, false, (0 : Int)) = x.val := he
  have h5 := Nat.mul_le_mul (show j + 1 ≤ 4 by omega) h4
  have h6 : (j + 1) * per = j * per + per := Nat.succ_mul j per
  obtain ⟨hr, hs⟩ := right_of he' hz (by omega) (by rw [nodesI_len]; omega) (unl_nodesI _ _ (by omega))
  exact ⟨(val_cf he' hz).1, hr, hs⟩
theorem beg_all {l : List Cf} {per m : Nat} (hv : l.map Cf.val = (List.range m).map (begV per)) (hl : ∀ x ∈ l, x.zs.length = x.len) (h1 : 1 ≤ m) (h2 : m ≤ 4) (h3 : 1 ≤ per) (h4 : per ≤ 5) : allB l = true := by
  have hn : l.length = m := by have := congrArg List.length hv; simpa using this
  refine allB_iff.2 ⟨by omega, ?_, ?_⟩
  · intro j x _ hx
    obtain ⟨a, b, _⟩ := beg_right hv hl h2 h3 h4 hx
    exact ⟨a, b⟩
  · have hs : l.map Cf.stands = (List.range m).map (fun i => nodesI (i * per) per) := by
      apply List.ext_getElem?
      intro j
      rw [List.getElem?_map, List.getElem?_map]
      rcases hx : l[j]? with _ | x
      · rw [List.getElem?_eq_none (by rw [List.length_range]; have := List.getElem?_eq_none_iff.1 hx; omega)]; rfl
      · obtain ⟨_, _, c⟩ := beg_right hv hl h2 h3 h4 hx
        rw [List.getElem?_range (beg_at hv hx).1]
        simp [c]
    have h5 := Nat.mul_le_mul h2 h4
    rw [List.flatMap_def, hs, ← List.flatMap_def, flat_nodesI]
    exact unl_nodesI _ _ (by omega)
theorem one_beg {per m k : Nat} {y : Cf} (h : OneOf ((List.range m).map (begV per)) k y) : begV per (chainV k m).toNat = y.val := by
  have h1 := h.1
  rw [List.length_map, List.length_range, List.getElem?_map] at h1
  rcases Nat.lt_or_ge (chainV k m).toNat m with hj | hj
  · rw [List.getElem?_range hj] at h1
    injection h1
  · rw [List.getElem?_eq_none (by simpa using hj)] at h1
    cases h1
end Go.Proofs.YtnnegldaekmgbaaGreatDoor
