/- Contracts of List of packages ballot and catenaryref07. -/
import Derived.Test.YtckfjkpcebklnaaBalD
import Derived.Deep.RegionWith
namespace Go.Proofs.Ytckfjkpcebklnaa
open Go.RowKit
set_option linter.unusedSimpArgs false
set_option linter.unusedVariables false

def listTo (n : Nat) : Nat → List Int
  | 0 => []
  | k + 1 => if hasB n k then listTo n k ++ [(k : Int)] else listTo n k
theorem listTo_len (n k : Nat) : (listTo n k).length ≤ k := by
  induction k with
  | zero => simp [listTo]
  | succ k ih => unfold listTo; split <;> (try simp) <;> omega
theorem listTo_yes (n k : Nat) (h : hasB n k = true) : listTo n (k + 1) = listTo n k ++ [(k : Int)] := by rw [listTo, if_pos h]
theorem listTo_no (n k : Nat) (h : hasB n k = false) : listTo n (k + 1) = listTo n k := by rw [listTo, if_neg (by simp [h])]
theorem intInfo : (Try.prog.info? 3).map (fun i => (i.zero, i.size, i.bytes)) = some (some (.int .i64 0), 1, 8) := by kernel_rfl

/-- what the loops of List hold -/
def ListRel (w : World) (n k : Nat) (v : Value) (wr : World) : Prop :=
  wr.ownsRow w.heap.size 3 1 v (listTo n k).length ((listTo n k).map (Value.int .i64)) ∧ Below w.heap.size w wr
theorem ListRel.own {w wr : World} {n k : Nat} {v : Value} (h : ListRel w n k v wr) : wr.ownsRow w.heap.size 3 1 v (listTo n k).length ((listTo n k).map (Value.int .i64)) := h.1
theorem ListRel.no {w wr : World} {n k : Nat} {v : Value} (h : ListRel w n k v wr) (hh : hasB n k = false) : ListRel w n (k + 1) v wr := by
  unfold ListRel; rw [listTo_no n k hh]; exact h
theorem ListRel.yes {w wr w1 : World} {n k : Nat} {v v1 : Value} (h : ListRel w n k v wr) (hh : hasB n k = true) (o : Obj)
    (hown : w1.ownsRow w.heap.size 3 1 v1 ((listTo n k).length + 1) ((listTo n k).map (Value.int .i64) ++ [Value.int .i64 k])) (hg : (wr.alloc o).grownBy w1 v.ownBlock) : ListRel w n (k + 1) v1 w1 := by
  unfold ListRel; rw [listTo_yes n k hh]
  refine ⟨by simpa using hown, (h.2.alloc h.2.size o).grown hg (by have := h.2.size; simp; omega) (fun g hg' => (h.1.lt g hg').1)⟩

theorem list_any (n : Nat) (hn : n < 18446744073709551616) (w : World) :
    Calls Try.prog 25 #[.int .u64 n] w fun e w' => ∃ v, e = .returned v ∧ ListRel w n 64 v w' := by
  obtain ⟨i0, hi, hz0, hz1, hz2⟩ := info_parts intInfo
  go_enter Try.func25, Try.ntmps25
  go_wp2
  go_loopw [3, 5] (fun v i wr => ∃ k : Nat, k ≤ 64 ∧ i = .int .i64 k ∧ ListRel w n k v wr) (fun _ i _ => 64 - (intOf i).toNat)
  case atStart => exact ⟨0, by omega, rfl, ⟨World.ownsRow_nil _ _ _ _, Below.refl _ _⟩⟩
  case round =>
    obtain ⟨k, hk, rfl, hrel⟩ := hrel
    have HR := Lib.hid hrel
    clear hrel
    have hl := listTo_len n k
    by_cases hlt : k < 64
    · cases hh : hasB n k
      · have hh' := Lib.hid hh
        go_wp2_with (go_at_call 22; refine (has_any n hn _ _).mono ?_; rintro e w' ⟨rfl, rfl⟩)
        go_roundw
        case rel => exact ⟨k + 1, by omega, by go_num, HR.out.no hh'.out⟩
        case measure => simp [intOf]; omega
      · have hh' := Lib.hid hh
        go_wp2_with (first | (go_at_call 22; refine (has_any n hn _ _).mono ?_; rintro e w' ⟨rfl, rfl⟩) | (at_builtin; refine wpList_append_own _ rfl (.tmp 11) (.tmp 13) _ rfl w.heap.size 3 i0 _ 1 8 Try.underlying33 hi hz0 hz1 hz2 rfl (by omega) _ _ _ rfl (HR.out.own.alloc _) ⟨wr.heap.size, 0, none⟩ 1 1 [.int .i64 k] rfl rfl ?c1 ?c2 ?c3 ?c4 ?c5 ?_))
        case c1 => exact cell_one_new _ _ _
        case c2 => simp [Value.oneCell']
        case c3 => unfold maxLen; omega
        case c4 => omega
        case c5 => have := HR.out.2.size; simp; omega
        intro v1 w1 hown1 hg1 _
        have H1 := Lib.hid (HR.out.yes hh'.out _ hown1 hg1)
        clear hown1 hg1
        go_wp2
        go_roundw
        case rel => exact ⟨k + 1, by omega, by go_num, H1.out⟩
        case measure => simp [intOf]; omega
    · obtain rfl : k = 64 := by omega
      go_wp2
      go_ret
      exact ⟨_, rfl, HR.out⟩

theorem refList_any (n : Nat) (hn : n < 18446744073709551616) (w : World) :
    Calls Try.prog 26 #[.int .u64 n] w fun e w' => ∃ v, e = .returned v ∧ ListRel w n 64 v w' := by
  obtain ⟨i0, hi, hz0, hz1, hz2⟩ := info_parts intInfo
  go_enter Try.func26, Try.ntmps26
  go_wp2
  go_loopw [3, 4] (fun v i wr => ∃ k : Nat, 1 ≤ k ∧ k ≤ 64 ∧ i = .int .i64 k ∧ ListRel w n k v wr) (fun _ i _ => 64 - (intOf i).toNat)
  case atStart => exact ⟨1, by omega, by omega, rfl, ListRel.no ⟨World.ownsRow_nil _ _ _ _, Below.refl _ _⟩ (hasB_out n 0 (by omega))⟩
  case round =>
    obtain ⟨k, hk0, hk, rfl, hrel⟩ := hrel
    have HR := Lib.hid hrel
    clear hrel
    have hl := listTo_len n k
    by_cases hlt : k < 64
    · cases hh : hasB n k
      · have hh' := Lib.hid hh
        go_wp2_with (go_at_call 23; refine (refHas_any n hn _ _).mono ?_; rintro e w' ⟨rfl, rfl⟩)
        go_roundw
        case rel => exact ⟨k + 1, by omega, by omega, by go_num, HR.out.no hh'.out⟩
        case measure => simp [intOf]; omega
      · have hh' := Lib.hid hh
        go_wp2_with (first | (go_at_call 23; refine (refHas_any n hn _ _).mono ?_; rintro e w' ⟨rfl, rfl⟩) | (at_builtin; refine wpList_append_own _ rfl (.tmp 12) (.tmp 14) _ rfl w.heap.size 3 i0 _ 1 8 Try.underlying33 hi hz0 hz1 hz2 rfl (by omega) _ _ _ rfl (HR.out.own.alloc _) ⟨wr.heap.size, 0, none⟩ 1 1 [.int .i64 k] rfl rfl ?c1 ?c2 ?c3 ?c4 ?c5 ?_))
        case c1 => exact cell_one_new _ _ _
        case c2 => simp [Value.oneCell']
        case c3 => unfold maxLen; omega
        case c4 => omega
        case c5 => have := HR.out.2.size; simp; omega
        intro v1 w1 hown1 hg1 _
        have H1 := Lib.hid (HR.out.yes hh'.out _ hown1 hg1)
        clear hown1 hg1
        go_wp2
        go_roundw
        case rel => exact ⟨k + 1, by omega, by omega, by go_num, H1.out⟩
        case measure => simp [intOf]; omega
    · obtain rfl : k = 64 := by omega
      go_wp2
      go_ret
      exact ⟨_, rfl, HR.out⟩

theorem hasB_and (a b : Nat) (i : Int) : hasB (a &&& b) i = (hasB a i && hasB b i) := by
  unfold hasB; rw [Nat.testBit_and]; cases memberB i <;> simp

theorem meet_any (a b : Nat) (ha : a < 18446744073709551616) (hb : b < 18446744073709551616) (w : World) :
    Calls Try.prog 19 #[.int .u64 a, .int .u64 b] w fun e w' => ∃ v, e = .returned v ∧ ListRel w (a &&& b) 64 v w' := by
  have hx := u64_and_nat a b ha hb
  have hlt : a &&& b < 18446744073709551616 := Nat.lt_of_le_of_lt Nat.and_le_left ha
  go_enter Try.func19, Try.ntmps19
  go_wp2_with (go_at_call 25; refine (list_any (a &&& b) hlt _).mono ?_; rintro e w' ⟨v, rfl, hv⟩)
  go_ret
  exact ⟨_, rfl, hv⟩

theorem refMeet_any (a b : Nat) (ha : a < 18446744073709551616) (hb : b < 18446744073709551616) (w : World) :
    Calls Try.prog 31 #[.int .u64 a, .int .u64 b] w fun e w' => ∃ v, e = .returned v ∧ ListRel w (a &&& b) 64 v w' := by
  obtain ⟨i0, hi, hz0, hz1, hz2⟩ := info_parts intInfo
  go_enter Try.func31, Try.ntmps31
  go_wp2
  go_loopw [5, 6] (fun v i wr => ∃ k : Nat, 1 ≤ k ∧ k ≤ 64 ∧ i = .int .i64 k ∧ ListRel w (a &&& b) k v wr) (fun _ i _ => 64 - (intOf i).toNat)
  case atStart => exact ⟨1, by omega, by omega, rfl, ListRel.no ⟨World.ownsRow_nil _ _ _ _, Below.refl _ _⟩ (hasB_out _ 0 (by omega))⟩
  case round =>
    obtain ⟨k, hk0, hk, rfl, hrel⟩ := hrel
    have HR := Lib.hid hrel
    clear hrel
    have hl := listTo_len (a &&& b) k
    by_cases hlt : k < 64
    · cases hh : hasB a k
      · have hh' := Lib.hid (show hasB (a &&& b) k = false by rw [hasB_and, hh]; rfl)
        go_wp2_with (first | (go_at_call 23; refine (refHas_any a ha _ _).mono ?_; rintro e w' ⟨rfl, rfl⟩))
        go_roundw
        case rel => exact ⟨k + 1, by omega, by omega, by go_num, HR.out.no hh'.out⟩
        case measure => simp [intOf]; omega
      · cases hg : hasB b k
        · have hh' := Lib.hid (show hasB (a &&& b) k = false by rw [hasB_and, hg]; simp)
          go_wp2_with (first | (go_at_call_of 23 a; refine (refHas_any a ha _ _).mono ?_; rintro e w' ⟨rfl, rfl⟩) | (go_at_call 23; refine (refHas_any b hb _ _).mono ?_; rintro e w' ⟨rfl, rfl⟩))
          go_roundw
          case rel => exact ⟨k + 1, by omega, by omega, by go_num, HR.out.no hh'.out⟩
          case measure => simp [intOf]; omega
        · have hh' := Lib.hid (show hasB (a &&& b) k = true by rw [hasB_and, hh, hg]; rfl)
          go_wp2_with (first | (go_at_call_of 23 a; refine (refHas_any a ha _ _).mono ?_; rintro e w' ⟨rfl, rfl⟩) | (go_at_call 23; refine (refHas_any b hb _ _).mono ?_; rintro e w' ⟨rfl, rfl⟩) | (at_builtin; refine wpList_append_own _ rfl (.tmp 19) (.tmp 21) _ rfl w.heap.size 3 i0 _ 1 8 Try.underlying33 hi hz0 hz1 hz2 rfl (by omega) _ _ _ rfl (HR.out.own.alloc _) ⟨wr.heap.size, 0, none⟩ 1 1 [.int .i64 k] rfl rfl ?c1 ?c2 ?c3 ?c4 ?c5 ?_))
          case c1 => exact cell_one_new _ _ _
          case c2 => simp [Value.oneCell']
          case c3 => unfold maxLen; omega
          case c4 => omega
          case c5 => have := HR.out.2.size; simp; omega
          intro v1 w1 hown1 hg1 _
          have H1 := Lib.hid (HR.out.yes hh'.out _ hown1 hg1)
          clear hown1 hg1
          go_wp2
          go_roundw
          case rel => exact ⟨k + 1, by omega, by omega, by go_num, H1.out⟩
          case measure => simp [intOf]; omega
    · obtain rfl : k = 64 := by omega
      go_wp2
      go_ret
      exact ⟨_, rfl, HR.out⟩

end Go.Proofs.Ytckfjkpcebklnaa
