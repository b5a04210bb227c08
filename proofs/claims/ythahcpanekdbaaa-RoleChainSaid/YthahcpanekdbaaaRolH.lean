/- What each node of a right configuration is, in plain Lean. -/
import Derived.Test.YthahcpanekdbaaaRolF
namespace Go.Proofs.Ythahcpanekdbaaa
open Go.RowKit
set_option linter.unusedSimpArgs false
set_option linter.unusedVariables false
set_option maxHeartbeats 1000000

theorem unl_at {x : Cf} (h : Unl x.stands) {i : Nat} (hi : i < x.zs.length) : nodeB (x.zs.getD i 0) = true := by
  refine (h i _ ?_).1
  rw [Cf.stands, List.getElem?_append_left hi, List.getD_eq_getElem?_getD, List.getElem?_eq_getElem hi]; rfl
theorem getD_some (l : List Int) {i : Nat} (hi : i < l.length) : l[i]? = some (l.getD i 0) := by
  rw [List.getD_eq_getElem?_getD, List.getElem?_eq_getElem hi]; rfl
theorem unl_idx {x : Cf} (h : Unl x.stands) {i : Nat} (hi : i < x.zs.length) : x.zs.getD i 0 ∈ x.zs ∧ x.zs.idxOf (x.zs.getD i 0) = i := by
  have hm : x.zs.getD i 0 ∈ x.zs := by rw [List.mem_iff_getElem?]; exact ⟨i, getD_some _ hi⟩
  refine ⟨hm, ?_⟩
  obtain ⟨h1, h2⟩ := idx_get hm
  rcases Nat.lt_trichotomy (x.zs.idxOf (x.zs.getD i 0)) i with hlt | heq | hgt
  · exact absurd rfl (unl_zs h h1 (getD_some _ hi) hlt)
  · exact heq
  · exact absurd rfl (unl_zs h (getD_some _ hi) h1 hgt)
theorem unl_jn {x : Cf} (h : Unl x.stands) {i : Nat} (hi : i < x.zs.length) : x.zs.getD i 0 ≠ x.jn := by
  intro e
  have hn := (nodeB_iff _).1 (unl_at h hi)
  have hj : x.jn ≠ 0 := by omega
  have hs : x.stands = x.zs ++ [x.jn] := by rw [Cf.stands, if_neg hj]
  have := (h x.zs.length x.jn (by rw [hs]; simp)).2
  apply this
  rw [hs, List.take_left, ← e]
  exact (unl_idx h hi).1
/-- the role of the i-th node -/
theorem role_zs {x : Cf} (hR : x.right = true) {i : Nat} (hi : i < x.zs.length) : x.role (x.zs.getD i 0) = x.roleAt i := by
  have hf := Cf.right_fine hR
  have hn := (nodeB_iff _).1 (unl_at hf.2 hi)
  rw [Cf.role, if_pos ⟨hR, by omega⟩, if_neg (unl_jn hf.2 hi), if_pos (unl_idx hf.2 hi).1, (unl_idx hf.2 hi).2]
theorem role_jn {x : Cf} (hR : x.right = true) (h : x.jn ≠ 0) : x.role x.jn = ⟨false, true, false, false, true, 0, x.last, 0⟩ := by
  rw [Cf.role, if_pos ⟨hR, h⟩, if_pos rfl]
/-- who has a role: nobody, who joins, or the i-th -/
theorem role_cases {x : Cf} (hR : x.right = true) (hl : x.zs.length = x.len) (n : Int) (hn : n ≠ 0) :
    (n ∉ x.zs ∧ n ≠ x.jn ∧ x.role n = Rl.zero) ∨ (n ∉ x.zs ∧ n = x.jn ∧ x.role n = ⟨false, true, false, false, true, 0, x.last, 0⟩ ∧ x.last ≠ 0 ∧ (x.role x.last).succ = n) ∨
      ∃ (i : Nat) (p s : Int), i < x.len ∧ n = x.zs.getD i 0 ∧ x.role n = ⟨true, false, decide (i = 0), decide (i + 1 = x.len), decide (i + 1 = x.len) && x.fr, i, p, s⟩ ∧ (p = 0 ↔ i = 0) ∧ (s = x.jn ↔ i + 1 = x.len) ∧
        (p ≠ 0 → (x.role p).succ = n) ∧ (s ≠ 0 → (x.role s).pred = n) := by
  have hf := Cf.right_fine hR
  have h1 : 1 ≤ x.len := hf.1.2.2.1.1
  by_cases hj : n = x.jn
  · subst hj
    have hlast : x.last = x.zs.getD (x.len - 1) 0 := rfl
    have hlt : x.len - 1 < x.zs.length := by omega
    have hnz : x.jn ∉ x.zs := by
      intro hm
      obtain ⟨a, b⟩ := idx_get hm
      have := unl_jn hf.2 b
      apply this
      rw [List.getD_eq_getElem?_getD, a]; rfl
    refine .inr (.inl ⟨hnz, rfl, role_jn hR hn, ?_, ?_⟩)
    · have := (nodeB_iff _).1 (unl_at hf.2 hlt); omega
    · rw [hlast, role_zs hR hlt, Cf.roleAt]
      simp only
      rw [if_pos (by omega)]
  by_cases hm : n ∈ x.zs
  · refine .inr (.inr ?_)
    obtain ⟨hg, hgl⟩ := idx_get hm
    generalize x.zs.idxOf n = i at hg hgl
    have hn' : n = x.zs.getD i 0 := by rw [List.getD_eq_getElem?_getD, hg]; rfl
    refine ⟨i, if i = 0 then 0 else x.zs.getD (i - 1) 0, if i + 1 = x.len then x.jn else x.zs.getD (i + 1) 0, by omega, hn', ?_, ?_, ?_, ?_, ?_⟩
    · rw [hn', role_zs hR hgl]; rfl
    · by_cases h0 : i = 0
      · simp [h0]
      · rw [if_neg h0]
        have := (nodeB_iff _).1 (unl_at hf.2 (show i - 1 < x.zs.length by omega))
        constructor
        · intro e; omega
        · intro e; exact absurd e h0
    · by_cases h0 : i + 1 = x.len
      · simp [h0]
      · rw [if_neg h0]
        have := unl_jn hf.2 (show i + 1 < x.zs.length by omega)
        constructor
        · intro e; exact absurd e this
        · intro e; exact absurd e h0
    · intro hp
      by_cases h0 : i = 0
      · rw [if_pos h0] at hp; exact absurd rfl hp
      · rw [if_neg h0, role_zs hR (show i - 1 < x.zs.length by omega), Cf.roleAt]
        simp only
        rw [if_neg (by omega), hn', show i - 1 + 1 = i by omega]
    · intro hs
      by_cases h0 : i + 1 = x.len
      · rw [if_pos h0] at hs ⊢
        rw [role_jn hR hs, hn']
        show x.zs.getD (x.len - 1) 0 = _
        rw [show x.len - 1 = i by omega]
      · rw [if_neg h0, role_zs hR (show i + 1 < x.zs.length by omega), Cf.roleAt]
        simp only
        rw [if_neg (by omega), hn', Nat.add_sub_cancel]
  · exact .inl ⟨hm, hj, by rw [Cf.role, if_pos ⟨hR, hn⟩, if_neg hj, if_neg hm]⟩

/-- how many of the numbers are at most k -/
def cntI (l : List Int) (k : Nat) : Nat := (l.filter (fun z => decide (z ≤ (k : Int)))).length
theorem cnt_step (l : List Int) (k : Nat) (hd : l.Nodup) : cntI l (k + 1) = cntI l k + if ((k : Int) + 1) ∈ l then 1 else 0 := by
  induction l with
  | nil => rfl
  | cons z l ih =>
    have hd' := List.nodup_cons.1 hd
    have ih := ih hd'.2
    unfold cntI at *
    by_cases h1 : z ≤ (k : Int)
    · have h2 : z ≤ ((k + 1 : Nat) : Int) := by omega
      have h3 : ((k : Int) + 1 ∈ z :: l) ↔ ((k : Int) + 1 ∈ l) := by
        rw [List.mem_cons]
        constructor
        · rintro (e | e)
          · omega
          · exact e
        · exact .inr
      rw [List.filter_cons_of_pos (by simpa using h2), List.filter_cons_of_pos (by simpa using h1), List.length_cons, List.length_cons, ih]
      simp only [h3]; omega
    · have e0 : (z :: l).filter (fun z => decide (z ≤ (k : Int))) = l.filter (fun z => decide (z ≤ (k : Int))) := List.filter_cons_of_neg (by simpa using h1)
      rw [e0]
      by_cases h2 : z = (k : Int) + 1
      · have h3 : ((k : Int) + 1) ∉ l := by rw [← h2]; exact hd'.1
        have e1 : (z :: l).filter (fun z => decide (z ≤ ((k + 1 : Nat) : Int))) = z :: l.filter (fun z => decide (z ≤ ((k + 1 : Nat) : Int))) := List.filter_cons_of_pos (by simp; omega)
        rw [e1, List.length_cons, ih, if_neg h3, if_pos (by rw [h2]; simp)]
      · have h3 : ((k : Int) + 1 ∈ z :: l) ↔ ((k : Int) + 1 ∈ l) := by
          rw [List.mem_cons]
          constructor
          · rintro (e | e)
            · exact absurd e.symm h2
            · exact e
          · exact .inr
        have e1 : (z :: l).filter (fun z => decide (z ≤ ((k + 1 : Nat) : Int))) = l.filter (fun z => decide (z ≤ ((k + 1 : Nat) : Int))) := List.filter_cons_of_neg (by simp; omega)
        rw [e1, ih]
        simp only [h3]
theorem cnt_all (l : List Int) (h : ∀ z ∈ l, z ≤ 24) : cntI l 24 = l.length := by
  unfold cntI
  rw [List.filter_eq_self.2 (fun z hz => by simpa using h z hz)]
theorem cnt_zero (l : List Int) (h : ∀ z ∈ l, 1 ≤ z) : cntI l 0 = 0 := by
  unfold cntI
  rw [List.filter_eq_nil_iff.2 (fun z hz => by have := h z hz; simp; omega)]; rfl
theorem cnt_le (l : List Int) (k : Nat) : cntI l k ≤ l.length := List.length_filter_le _ _
theorem unl_nodup {x : Cf} (h : Unl x.stands) : x.zs.Nodup := by
  unfold List.Nodup
  rw [List.pairwise_iff_getElem]
  intro i j hi hj hij
  exact unl_zs h (List.getElem?_eq_getElem hi) (List.getElem?_eq_getElem hj) hij
theorem unl_mem {x : Cf} (h : Unl x.stands) {z : Int} (hz : z ∈ x.zs) : 1 ≤ z ∧ z ≤ 24 := by
  obtain ⟨a, b⟩ := idx_get hz
  have := (nodeB_iff _).1 (unl_at h b)
  rw [List.getD_eq_getElem?_getD, a] at this
  exact this
def cnt1 (z : Int) (k : Nat) : Nat := if z ≤ (k : Int) then 1 else 0
theorem cnt1_step (z : Int) (k : Nat) : cnt1 z (k + 1) = cnt1 z k + if (k : Int) + 1 = z then 1 else 0 := by
  unfold cnt1
  split <;> split <;> split <;> omega
end Go.Proofs.Ythahcpanekdbaaa
