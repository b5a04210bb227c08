/- TallyNil's and TallySweeps' lists of lists, opened. -/
import Derived.Test.YtkcknoodcgmndaaZTcO
import Derived.Test.YtkcknoodcgmndaaZSwO
import Derived.WalkKit
import Derived.WideShapes
import Derived.Deep.Slices
import Derived.Deep.Fields
namespace Go.Proofs.Ytkcknoodcgmndaa
open Go.ChangeShapes Go.WideShapes Go.RowKit Go.Deep
set_option linter.unusedSimpArgs false
set_option linter.unusedVariables false
set_option maxHeartbeats 8000000
set_option maxRecDepth 100000
structure LsIn (w : World) (l : List (List Int)) (A : Option Addr) (lb lo : Nat) (pA : Nat → Option Addr) (pd po pc : Nat → Nat) : Prop where
  lA : 0 < l.length → A = some ⟨lb, lo, none⟩ ∧ lb < w.heap.size
  list : ∀ j, j < l.length → w.cell? ⟨lb, lo + j, none⟩ = some (.slice (pA j) (l.getD j []).length (pc j))
  part : ∀ j, l.getD j [] ≠ [] → pd j < w.heap.size ∧ pA j = some ⟨pd j, po j, none⟩
  data : ∀ j q x, (l.getD j [])[q]? = some x → w.cell? ⟨pd j, po j + q, none⟩ = some (.int .i64 x)
  small : ∀ j, (l.getD j []).length ≤ 17592186044416
section
variable {H : Type} {enc : TypeId × Value → H}
theorem weightsAll_mem {P : Program} {e : TypeId} {x : Nat} {d : DataW H} : ∀ {ds : List (DataW H)}, d ∈ ds → x ∈ d.weights P e → x ∈ DataW.weightsAll P e ds
  | y :: r, h, hx => by
    rw [DataW.weightsAll]
    rcases List.mem_cons.1 h with rfl | h
    · exact List.mem_append.2 (.inl hx)
    · exact List.mem_append.2 (.inr (weightsAll_mem h hx))
theorem open_ints9 {w : World} {base fuel : Nat} {cs : List Value} {x : DataW H × List MemPlace} (h : DataW.trod enc Try.prog w base (fun _ => true) true fuel 33 cs = some x) (hw : ∀ y ∈ x.1.weights Try.prog 33, y ≤ reachBytes) :
    ∃ (L : List Int) (pA : Option Addr) (pd po pc : Nat), cs = [.slice pA L.length pc] ∧ L.length ≤ 17592186044416 ∧ (L ≠ [] → pd < w.heap.size ∧ pA = some ⟨pd, po, none⟩) ∧ ∀ q z, L[q]? = some z → w.cell? ⟨pd, po + q, none⟩ = some (.int .i64 z) := by
  rcases open_slice Try.underlying33 h with ⟨rfl, _⟩ | ⟨a, len, cap, m, n, D, Pl, rfl, hb, hl, hm, hmm, rfl, hi⟩
  · exact ⟨[], none, 0, 0, 0, rfl, by simp, fun h => absurd rfl h, fun q z hq => by simp at hq⟩
  · have hwe : len ≤ 17592186044416 := by
      have h1 := hw ((((List.range len).map D).length + (((List.range (m - len)).map fun j => D (len + j))).length) * Try.prog.bytesOf 3) (by
        simp only [DataW.weights, Try.underlying33]
        exact List.mem_cons_self ..)
      rw [show Try.prog.bytesOf 3 = 8 from by kernel_rfl] at h1
      simp [reachBytes] at h1
      omega
    simp only [if_true] at hmm
    subst hmm
    have key : ∀ q, q < len → ∃ z : Int, w.cell? (a.add q) = some (.int .i64 z) := by
      intro q hq
      obtain ⟨cs', hc, ht⟩ := hi q (by omega)
      have hC : Try.prog.cellsOf 3 = 1 := by kernel_rfl
      rw [hC, Nat.mul_one] at hc
      obtain ⟨z, e, _, _⟩ := DataW.trod_int Try.underlying3 ht
      subst e
      obtain ⟨_, _, hat⟩ := World.cells?_some hc
      have := hat 0 (by omega)
      rw [add_zero9] at this
      exact ⟨z, this⟩
    by_cases hz : 0 < len
    · have sp := World.cell?_spot (key 0 hz).choose_spec
      obtain ⟨b, off, spot⟩ := a
      have sp : spot = none := by simpa [Addr.add] using sp
      subst sp
      have hk : ∀ q, q < len → w.cell? ⟨b, off + q, none⟩ = some (.int .i64 (if h : q < len then (key q h).choose else 0)) := by
        intro q hq
        rw [dif_pos hq, ← add_none b off q]
        exact (key q hq).choose_spec
      refine ⟨(List.range len).map fun q => if h : q < len then (key q h).choose else 0, some ⟨b, off, none⟩, b, off, m, by simp, by simpa using hwe, fun _ => ⟨World.block_lt_of_cell? w _ (hk 0 hz), rfl⟩, fun q z hq => ?_⟩
      have hq' : q < len := by
        have := (List.getElem?_eq_some_iff.1 hq).1
        simpa using this
      rw [hk q hq']
      simp only [List.getElem?_map, List.getElem?_range hq', Option.map_some, Option.some.injEq] at hq
      rw [hq]
    · obtain rfl : len = 0 := by omega
      exact ⟨[], some a, 0, 0, m, rfl, by simp, fun h => absurd rfl h, fun q z hq => by simp at hq⟩
where add_zero9 {a : Addr} : a.add 0 = a := by obtain ⟨b, o, s⟩ := a; cases s <;> simp [Addr.add]
theorem open_lists {W : World} {base : Nat} {v : Value} {d : DataW H} {p : List MemPlace}
    (hv : Value.okWide Try.prog W .any base 34 v) (h : DataW.Trod enc Try.prog W 0 (fun _ => true) true 34 v d p) (hw : ∀ y ∈ d.weights Try.prog 34, y ≤ reachBytes) :
    ∃ (l : List (List Int)) (A : Option Addr) (cap lb lo : Nat) (pA : Nat → Option Addr) (pd po pc : Nat → Nat), v = .slice A l.length cap ∧ l.length ≤ 17592186044416 ∧ LsIn W l A lb lo pA pd po pc := by
  obtain ⟨a0, len0, cap0, rfl⟩ := okWide_slice Try.underlying34 hv
  obtain ⟨fuel, hf⟩ := h
  rcases open_slice Try.underlying34 hf with ⟨hcs, _⟩ | ⟨a, len, cap, m, n, D, Pl, hcs, hb, hl, hm, hmm, hx, hi⟩
  · simp [Value.cells] at hcs
    obtain ⟨rfl, rfl, rfl⟩ := hcs
    exact ⟨[], none, 0, 0, 0, fun _ => none, fun _ => 0, fun _ => 0, fun _ => 0, rfl, by simp, ⟨fun h => absurd h (by simp), fun j h => absurd h (by simp), fun j h => absurd (by simp) h, fun j q x h => by simp at h, fun j => by simp⟩⟩
  · simp [Value.cells] at hcs
    obtain ⟨rfl, rfl, rfl⟩ := hcs
    simp only [if_true] at hmm
    subst hmm
    have hd : d = .slice ((List.range len0).map D) ((List.range (m - len0)).map fun j => D (len0 + j)) := by injection hx
    subst hd
    have hwe : len0 ≤ 17592186044416 := by
      have h1 := hw ((((List.range len0).map D).length + (((List.range (m - len0)).map fun j => D (len0 + j))).length) * Try.prog.bytesOf 33) (by
        simp only [DataW.weights, Try.underlying34]
        exact List.mem_cons_self ..)
      rw [show Try.prog.bytesOf 33 = 24 from by kernel_rfl] at h1
      simp [reachBytes] at h1
      omega
    have hwD : ∀ j, j < len0 → ∀ y ∈ (D j).weights Try.prog 33, y ≤ reachBytes := by
      intro j hj y hy
      refine hw y ?_
      simp only [DataW.weights, Try.underlying34]
      exact List.mem_cons_of_mem _ (List.mem_append.2 (.inl (weightsAll_mem (List.mem_map.2 ⟨j, List.mem_range.2 hj, rfl⟩) hy)))
    have key : ∀ j, j < len0 → ∃ z : List Int × Option Addr × Nat × Nat × Nat, W.cell? (a.add j) = some (.slice z.2.1 z.1.length z.2.2.2.2) ∧ z.1.length ≤ 17592186044416 ∧ (z.1 ≠ [] → z.2.2.1 < W.heap.size ∧ z.2.1 = some ⟨z.2.2.1, z.2.2.2.1, none⟩) ∧ ∀ q x, z.1[q]? = some x → W.cell? ⟨z.2.2.1, z.2.2.2.1 + q, none⟩ = some (.int .i64 x) := by
      intro j hj
      obtain ⟨cs', hc, ht⟩ := hi j (by omega)
      have hC : Try.prog.cellsOf 33 = 1 := by kernel_rfl
      rw [hC, Nat.mul_one] at hc
      obtain ⟨L, pA, pd, po, pc, e, h1, h2, h3⟩ := open_ints9 ht (hwD j hj)
      subst e
      obtain ⟨_, _, hat⟩ := World.cells?_some hc
      have := hat 0 (by omega)
      rw [open_ints9.add_zero9] at this
      exact ⟨(L, pA, pd, po, pc), this, h1, h2, h3⟩
    let Z : Nat → List Int × Option Addr × Nat × Nat × Nat := fun j => if h : j < len0 then (key j h).choose else ([], none, 0, 0, 0)
    have hZ : ∀ j, j < len0 → W.cell? (a.add j) = some (.slice (Z j).2.1 (Z j).1.length (Z j).2.2.2.2) ∧ (Z j).1.length ≤ 17592186044416 ∧ ((Z j).1 ≠ [] → (Z j).2.2.1 < W.heap.size ∧ (Z j).2.1 = some ⟨(Z j).2.2.1, (Z j).2.2.2.1, none⟩) ∧ ∀ q x, (Z j).1[q]? = some x → W.cell? ⟨(Z j).2.2.1, (Z j).2.2.2.1 + q, none⟩ = some (.int .i64 x) := by
      intro j hj
      have : Z j = (key j hj).choose := dif_pos hj
      rw [this]
      exact (key j hj).choose_spec
    have hget : ∀ j, ((List.range len0).map fun j => (Z j).1).getD j [] = if j < len0 then (Z j).1 else [] := by
      intro j
      by_cases hj : j < len0
      · rw [if_pos hj, List.getD_eq_getElem?_getD, List.getElem?_map, List.getElem?_range hj]
        rfl
      · rw [if_neg hj, List.getD_eq_getElem?_getD, List.getElem?_eq_none (by simpa using hj)]
        rfl
    have hlen : ((List.range len0).map fun j => (Z j).1).length = len0 := by simp
    clear_value Z
    by_cases hz : 0 < len0
    · have sp := World.cell?_spot (hZ 0 hz).1
      obtain ⟨b, off, spot⟩ := a
      have sp : spot = none := by simpa [Addr.add] using sp
      subst sp
      have hbl := World.block_lt_of_cell? W _ (hZ 0 hz).1
      refine ⟨(List.range len0).map fun j => (Z j).1, some ⟨b, off, none⟩, m, b, off, fun j => (Z j).2.1, fun j => (Z j).2.2.1, fun j => (Z j).2.2.2.1, fun j => (Z j).2.2.2.2, by rw [hlen], by rw [hlen]; exact hwe, ⟨fun _ => ⟨rfl, by simpa [Addr.add] using hbl⟩, fun j hj => ?_, fun j hj => ?_, fun j q x hq => ?_, fun j => ?_⟩⟩
      · rw [hlen] at hj
        rw [hget j, if_pos hj, ← add_none b off j]
        exact (hZ j hj).1
      · rw [hget j] at hj
        by_cases h : j < len0
        · rw [if_pos h] at hj
          exact (hZ j h).2.2.1 hj
        · rw [if_neg h] at hj
          exact absurd rfl hj
      · rw [hget j] at hq
        by_cases h : j < len0
        · rw [if_pos h] at hq
          exact (hZ j h).2.2.2 q x hq
        · rw [if_neg h] at hq
          simp at hq
      · rw [hget j]
        by_cases h : j < len0
        · rw [if_pos h]
          exact (hZ j h).2.1
        · rw [if_neg h]
          simp
    · obtain rfl : len0 = 0 := by omega
      exact ⟨[], some a, m, 0, 0, fun _ => none, fun _ => 0, fun _ => 0, fun _ => 0, rfl, by simp, ⟨fun h => absurd h (by simp), fun j h => absurd h (by simp), fun j h => absurd (by simp) h, fun j q x h => by simp at h, fun j => by simp⟩⟩
end
end Go.Proofs.Ytkcknoodcgmndaa
