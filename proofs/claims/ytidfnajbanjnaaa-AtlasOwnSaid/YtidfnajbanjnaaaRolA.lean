/- Configurations as data; contracts of packages conf and ref09: node, Index, Contains, Has, unlike. -/
import Derived.Test.YtidfnajbanjnaaaMemC
import Derived.Test.YtidfnajbanjnaaaRows
namespace Go.Proofs.Ytidfnajbanjnaaa
open Go.RowKit
set_option linter.unusedSimpArgs false
set_option linter.unusedVariables false
set_option maxHeartbeats 1000000

theorem Reads.take {w : World} {B n : Nat} {A : Option Addr} {xs : List Value} (h : Reads w B 1 A n xs) {k : Nat} (hk : k ≤ n) : Reads w B 1 A k (xs.take k) := by
  refine ⟨by rw [List.length_take, h.1]; omega, fun h0 => ?_⟩
  obtain ⟨ad, hA, hb, hc⟩ := h.2 (by omega)
  refine ⟨ad, hA, hb, fun j u hu => hc j u ?_⟩
  by_cases hj : j < k
  · rwa [List.getElem?_take_of_lt hj] at hu
  · rw [List.getElem?_eq_none (by rw [List.length_take]; omega)] at hu; cases hu
theorem i64Info : (Try.prog.info? 3).map (fun i => (i.zero, i.size, i.bytes)) = some (some (.int .i64 0), 1, 8) := by kernel_rfl
theorem i64_one (l : List Int) : ∀ u ∈ l.map (Value.int .i64), u.oneCell' = true := by
  intro u hu; obtain ⟨z, _, rfl⟩ := List.mem_map.1 hu; rfl

def nodeB (n : Int) : Bool := decide (1 ≤ n) && decide (n ≤ 24)
theorem nodeB_iff (n : Int) : nodeB n = true ↔ 1 ≤ n ∧ n ≤ 24 := by simp [nodeB]
theorem node_any (n : Int) (w : World) : Calls Try.prog 50 #[.int .i64 n] w fun e w' => e = .returned (.bool (nodeB n)) ∧ w = w' := by
  unfold nodeB
  by_cases h1 : 1 ≤ n
  all_goals by_cases h2 : n ≤ 24
  all_goals
    go_enter Try.func50, Try.ntmps50
    go_wp2
    go_ret
    exact ⟨by simp; omega, rfl⟩

def idxOf (l : List Int) (x : Int) : Int := if x ∈ l then ((l.idxOf x : Nat) : Int) else -1
theorem idx_step (l : List Int) (k : Nat) (z x : Int) (h : l[k]? = some z) (hn : x ∉ l.take k) (hne : z ≠ x) : x ∉ l.take (k + 1) := by
  rw [List.take_add_one, h]
  simp only [Option.toList_some, List.mem_append, List.mem_singleton]
  rintro (h1 | h1)
  · exact hn h1
  · exact hne h1.symm
theorem idx_found (l : List Int) (k : Nat) (x : Int) (h : l[k]? = some x) (hn : x ∉ l.take k) : idxOf l x = k := by
  have hk := (List.getElem?_eq_some_iff.1 h).1
  have hm : x ∈ l := by rw [List.mem_iff_getElem?]; exact ⟨k, h⟩
  rw [idxOf, if_pos hm]
  have hsp : l = l.take k ++ (x :: l.drop (k + 1)) := by
    rw [← (List.getElem?_eq_some_iff.1 h).2, List.getElem_cons_drop, List.take_append_drop]
  have : l.idxOf x = k := by
    conv => lhs; rw [hsp]
    rw [List.idxOf_append, if_neg hn, List.idxOf_cons_self, List.length_take]
    omega
  rw [this]
theorem idx_none (l : List Int) (x : Int) (h : x ∉ l) : idxOf l x = -1 := by rw [idxOf, if_neg h]

theorem index_any (A : Option Addr) (n c B : Nat) (zs : List Int) (x : Int) (w : World) (hr : Reads w B 1 A n (zs.map (Value.int .i64))) (hn : n ≤ maxLen) :
    Calls Try.prog 56 #[.slice A n c, .int .i64 x] w fun e w' => e = .returned (.int .i64 (idxOf zs x)) ∧ w = w' := by
  unfold maxLen at hn
  have HR := Lib.hid hr
  have HL : Hid (zs.length = n) := Lib.hid (by have := hr.1; simpa using this)
  clear hr
  go_enter Try.func56, Try.ntmps56
  go_wp2
  go_loop [5, 8] (fun _ i => ∃ k : Nat, k ≤ n ∧ i = .int .i64 k ∧ Hid (x ∉ zs.take k)) (fun _ i => n - (intOf i).toNat)
  case atStart => exact ⟨0, by omega, rfl, Lib.hid (by simp)⟩
  case round =>
    obtain ⟨k, hk, rfl, hno⟩ := hrel
    by_cases hlt : k < n
    · obtain ⟨ad, z, rfl, _, hz, hc⟩ := reads_int HR.out hlt
      have HZ := Lib.hid hz
      clear hz
      have hlt' : (k : Int) < n := by omega
      by_cases he : x = z
      · have he' : (x == z) = true := by simp [he]
        have hi : Hid (idxOf zs x = k) := Lib.hid (idx_found zs k x (by rw [HZ.out, he]) hno.out)
        clear he
        go_wp2
        go_ret
        exact ⟨ret_int hi.out.symm, rfl⟩
      · have he' : (x == z) = false := by simp [he]
        have hs := Lib.hid (idx_step zs k z x HZ.out hno.out (fun e => he e.symm))
        clear he
        go_wp2
        go_round
        case rel => exact ⟨k + 1, by omega, by go_num, hs⟩
        case measure => simp [intOf]; omega
    · have hs : Hid (-1 = idxOf zs x) := Lib.hid (by
        have := hno.out
        rw [List.take_of_length_le (by rw [HL.out]; omega)] at this
        exact (idx_none zs x this).symm)
      go_wp2
      go_ret
      exact ⟨ret_int hs.out, rfl⟩

theorem contains_any (A : Option Addr) (n c B : Nat) (zs : List Int) (x : Int) (w : World) (hr : Reads w B 1 A n (zs.map (Value.int .i64))) (hn : n ≤ maxLen) :
    Calls Try.prog 51 #[.slice A n c, .int .i64 x] w fun e w' => e = .returned (.bool (decide (x ∈ zs))) ∧ w = w' := by
  by_cases hx : x ∈ zs
  · have h1 : 0 ≤ idxOf zs x := by rw [idxOf, if_pos hx]; omega
    have h2 : Hid (true = decide (x ∈ zs)) := Lib.hid (by simp [hx])
    have H := Lib.hid hr
    clear hx hr
    go_enter Try.func51, Try.ntmps51
    go_wp2_with (first | (go_at_call 56; refine (index_any A n c B zs x _ H.out hn).mono ?_; rintro e w' ⟨rfl, rfl⟩) | fail)
    go_ret
    exact ⟨ret_bool (by rw [← h2.out]), rfl⟩
  · have h1 : idxOf zs x = -1 := by rw [idxOf, if_neg hx]
    have h2 : Hid (false = decide (x ∈ zs)) := Lib.hid (by simp [hx])
    have I := fun w hr => index_any A n c B zs x w hr hn
    rw [h1] at I
    have H := Lib.hid hr
    clear hx hr h1
    go_enter Try.func51, Try.ntmps51
    go_wp2_with (first | (go_at_call 56; refine (I _ H.out).mono ?_; rintro e w' ⟨rfl, rfl⟩) | fail)
    go_ret
    exact ⟨ret_bool h2.out, rfl⟩

theorem refHas_any (A : Option Addr) (n c B : Nat) (zs : List Int) (x : Int) (w : World) (hr : Reads w B 1 A n (zs.map (Value.int .i64))) (hn : n ≤ maxLen) :
    Calls Try.prog 46 #[.slice A n c, .int .i64 x] w fun e w' => e = .returned (.bool (decide (x ∈ zs))) ∧ w = w' := by
  unfold maxLen at hn
  have HR := Lib.hid hr
  have HL : Hid (zs.length = n) := Lib.hid (by have := hr.1; simpa using this)
  clear hr
  go_enter Try.func46, Try.ntmps46
  go_wp2
  go_loop [5] (fun i => ∃ k : Nat, k ≤ n ∧ i = .int .i64 k ∧ Hid (x ∉ zs.take k)) (fun i => n - (intOf i).toNat)
  case atStart => exact ⟨0, by omega, rfl, Lib.hid (by simp)⟩
  case round =>
    obtain ⟨k, hk, rfl, hno⟩ := hrel
    by_cases hlt : k < n
    · obtain ⟨ad, z, rfl, _, hz, hc⟩ := reads_int HR.out hlt
      have HZ := Lib.hid hz
      clear hz
      have hlt' : (k : Int) < n := by omega
      by_cases he : x = z
      · have he' : (z == x) = true := by simp [he]
        have hi : Hid (true = decide (x ∈ zs)) := Lib.hid (by
          symm; rw [decide_eq_true_eq, List.mem_iff_getElem?]; exact ⟨k, by rw [HZ.out, he]⟩)
        clear he
        go_wp2
        go_ret
        exact ⟨ret_bool hi.out, rfl⟩
      · have he' : (z == x) = false := by simp; exact fun e => he e.symm
        have hs := Lib.hid (idx_step zs k z x HZ.out hno.out (fun e => he e.symm))
        clear he
        go_wp2
        go_round
        case rel => exact ⟨k + 1, by omega, by go_num, hs⟩
        case measure => simp [intOf]; omega
    · have hs : Hid (false = decide (x ∈ zs)) := Lib.hid (by
        have := hno.out
        rw [List.take_of_length_le (by rw [HL.out]; omega)] at this
        symm; simpa using this)
      go_wp2
      go_ret
      exact ⟨ret_bool hs.out, rfl⟩

/-- nodes, none of them twice -/
def Unl (l : List Int) : Prop := ∀ k z, l[k]? = some z → nodeB z = true ∧ z ∉ l.take k
theorem unl_nil : Unl [] := fun k z h => by simp at h
theorem unl_step {l : List Int} {k : Nat} {z : Int} (h : Unl (l.take k)) (hz : l[k]? = some z) (h1 : nodeB z = true) (h2 : z ∉ l.take k) : Unl (l.take (k + 1)) := by
  intro j u hu
  have hj : j < k + 1 := by
    have := (List.getElem?_eq_some_iff.1 hu).1
    rw [List.length_take] at this; omega
  rw [List.getElem?_take_of_lt hj] at hu
  rw [List.take_take, Nat.min_eq_left (by omega)]
  rcases Nat.lt_or_ge j k with hlt | hge
  · have := h j u (by rw [List.getElem?_take_of_lt hlt]; exact hu)
    rw [List.take_take, Nat.min_eq_left (by omega)] at this
    exact this
  · obtain rfl : j = k := by omega
    rw [hz] at hu
    injection hu with hu
    subst hu
    exact ⟨h1, h2⟩
theorem unl_not_node {l : List Int} {k : Nat} {z : Int} (hz : l[k]? = some z) (h1 : nodeB z = false) : ¬ Unl l := fun h => by
  rw [(h k z hz).1] at h1; cases h1
theorem unl_not_twice {l : List Int} {k : Nat} {z : Int} (hz : l[k]? = some z) (h1 : z ∈ l.take k) : ¬ Unl l := fun h => (h k z hz).2 h1

open Classical in
noncomputable def unlikeB (l : List Int) : Bool := decide (Unl l)
theorem unlikeB_iff (l : List Int) : unlikeB l = true ↔ Unl l := by unfold unlikeB; simp
theorem unlikeB_no {l : List Int} (h : ¬ Unl l) : false = unlikeB l := by unfold unlikeB; simp [h]

theorem unlike_any (A : Option Addr) (n c B : Nat) (zs : List Int) (w : World) (hr : Reads w B 1 A n (zs.map (Value.int .i64))) (hn : n ≤ c) (hc : c ≤ maxLen) :
    Calls Try.prog 44 #[.slice A n c] w fun e w' => e = .returned (.bool (unlikeB zs)) ∧ w = w' := by
  unfold maxLen at hc
  have HR := Lib.hid hr
  have HL : Hid (zs.length = n) := Lib.hid (by have := hr.1; simpa using this)
  clear hr
  go_enter Try.func44, Try.ntmps44
  go_wp2
  go_loop [3, 4, 7] (fun _ _ i => ∃ k : Nat, k ≤ n ∧ i = .int .i64 k ∧ Hid (Unl (zs.take k))) (fun _ _ i => n - (intOf i).toNat)
  case atStart => exact ⟨0, by omega, rfl, Lib.hid (by simpa using unl_nil)⟩
  case round =>
    obtain ⟨k, hk, rfl, hno⟩ := hrel
    by_cases hlt : k < n
    · obtain ⟨ad, z, rfl, _, hz, hcell⟩ := reads_int HR.out hlt
      have HZ := Lib.hid hz
      clear hz
      have hlt' : (k : Int) < n := by omega
      cases hN : nodeB z
      · have hi := Lib.hid (unlikeB_no (unl_not_node HZ.out hN))
        have HN := Lib.hid hN
        go_wp2_with (first | (go_at_call 50; refine (node_any z _).mono ?_; rintro e w' ⟨rfl, rfl⟩) | fail)
        go_ret
        exact ⟨ret_bool hi.out, rfl⟩
      · have HN := Lib.hid hN
        have HT : Hid (Reads w B 1 (some ad) k ((zs.take k).map (Value.int .i64))) := Lib.hid (by
          have := HR.out.take (k := k) (by omega)
          rwa [← List.map_take] at this)
        by_cases hm : z ∈ zs.take k
        · have hd : decide (z ∈ zs.take k) = true := by simp [hm]
          have hi := Lib.hid (unlikeB_no (unl_not_twice HZ.out hm))
          clear hm
          go_wp2_with (first | (go_at_call 50; refine (node_any z _).mono ?_; rintro e w' ⟨rfl, rfl⟩) | (go_at_call 51; refine (contains_any (some ad) k c B (zs.take k) z _ HT.out (by unfold maxLen; omega)).mono ?_; rintro e w' ⟨rfl, rfl⟩) | fail)
          go_ret
          exact ⟨ret_bool hi.out, rfl⟩
        · have hd : decide (z ∈ zs.take k) = false := by simp [hm]
          have hi := Lib.hid (unl_step hno.out HZ.out HN.out hm)
          clear hm
          go_wp2_with (first | (go_at_call 50; refine (node_any z _).mono ?_; rintro e w' ⟨rfl, rfl⟩) | (go_at_call 51; refine (contains_any (some ad) k c B (zs.take k) z _ HT.out (by unfold maxLen; omega)).mono ?_; rintro e w' ⟨rfl, rfl⟩) | fail)
          go_round
          case rel => exact ⟨k + 1, by omega, by go_num, hi⟩
          case measure => simp [intOf]; omega
    · have hs : Hid (true = unlikeB zs) := Lib.hid (by
        have := hno.out
        rw [List.take_of_length_le (by rw [HL.out]; omega)] at this
        exact ((unlikeB_iff zs).2 this).symm)
      go_wp2
      go_ret
      exact ⟨ret_bool hs.out, rfl⟩
end Go.Proofs.Ytidfnajbanjnaaa
