/- Bytes: bytes.Equal, bytes.Clone; the reference's Num; counters of uint64. -/
import Derived.Test.YtoifaeabieojbaaFixH
import Derived.Test.YtoifaeabieojbaaCrcE
import Derived.Laws.BytesArg
import Derived.Shelf.Bytes.SlSmallAll
namespace Go.Proofs.Ytoifaeabieojbaa
open Go.RowKit
set_option linter.unusedSimpArgs false
set_option linter.unusedVariables false
set_option maxRecDepth 100000
set_option maxHeartbeats 1000000

theorem conv_reads {w : World} {B n c : Nat} {A : Option Addr} {l : List Nat} (h : Reads w B 1 A n ((bI l).map (Value.int .u8))) :
    (convert 22 9 (.slice A n c)).run Try.prog w = .ok (.string (strOfNums (bI l))) w := by
  have hl := reads_len h
  rcases Nat.eq_zero_or_pos n with hn | hn
  · subst hn
    obtain rfl : l = [] := List.eq_nil_of_length_eq_zero hl
    exact run_convert_bytes_zero (P := Try.prog) w 22 5 Try.underlying22 Try.underlying5 A c 9 Try.underlying9
  · obtain ⟨ad, hA, _, hc⟩ := h.2 hn
    subst hA
    obtain ⟨b, o, spot⟩ := ad
    have h0 : spot = none := by
      have h00 : ((bI l).map (Value.int .u8))[0]? = some (((bI l).map (Value.int .u8))[0]'(by simp [bI]; omega)) := List.getElem?_eq_getElem _
      have := World.cell?_spot (hc 0 _ h00)
      simpa [Addr.add] using this
    subst h0
    refine run_convert_bytes_arg (P := Try.prog) w 22 5 Try.underlying22 Try.underlying5 b o n c (bI l) (by rw [bI_len]; exact hl) (fun i hi => ?_) 9 Try.underlying9
    have hli : i < (bI l).length := by rw [bI_len]; omega
    have := hc i (.int .u8 (bI l)[i]) (by rw [List.getElem?_map, List.getElem?_eq_getElem hli]; rfl)
    rw [Go.WideShapes.add_plain] at this
    rw [this, List.getD_eq_getElem?_getD, List.getElem?_eq_getElem hli]; rfl
theorem u8_inj (x y : List Nat) (hx : isBs x) (hy : isBs y) (h : x.map (fun n => UInt8.ofNat n) = y.map (fun n => UInt8.ofNat n)) : x = y := by
  induction x generalizing y with
  | nil => cases y with
    | nil => rfl
    | cons b y => simp at h
  | cons a x ih =>
    cases y with
    | nil => simp at h
    | cons b y =>
      simp only [List.map_cons, List.cons.injEq] at h
      have ha := hx a (by simp)
      have hb := hy b (by simp)
      have e1 : a = b := by
        have h2 := congrArg UInt8.toNat h.1
        simp only [UInt8.toNat_ofNat'] at h2
        omega
      rw [e1, ih y (fun z hz => hx z (by simp [hz])) (fun z hz => hy z (by simp [hz])) h.2]
theorem str_list (x : List Nat) : (strOfNums (bI x)).toList = x.map fun n => UInt8.ofNat n := by
  rw [Lib.strOfNums_toList]
  simp [Lib.bytesOf, bI]
theorem str_eq (x y : List Nat) (hx : isBs x) (hy : isBs y) : ((strOfNums (bI x)).toList == (strOfNums (bI y)).toList) = decide (x = y) := by
  rw [str_list, str_list, Bool.eq_iff_iff, beq_iff_eq, decide_eq_true_eq]
  exact ⟨u8_inj x y hx hy, fun h => by rw [h]⟩
theorem bytesEqual_any (A C : Option Addr) (n m c d B D : Nat) (x y : List Nat) (w : World) (hx : Reads w B 1 A n ((bI x).map (Value.int .u8))) (hy : Reads w D 1 C m ((bI y).map (Value.int .u8))) (bx : isBs x) (by' : isBs y) :
    Calls Try.prog 35 #[.slice A n c, .slice C m d] w fun e w' => e = .returned (.bool (decide (x = y))) ∧ w = w' := by
  have h1 := conv_reads (c := c) hx
  have h2 := conv_reads (c := d) hy
  have HI := Lib.hid (str_eq x y bx by')
  generalize strOfNums (bI x) = sx at *
  generalize strOfNums (bI y) = sy at *
  clear hx hy
  go_enter Try.func35, Try.ntmps35
  go_wp2
  go_ret
  exact ⟨ret_bool HI.out, rfl⟩
theorem bytesClone_any (A : Option Addr) (n c B : Nat) (b : List Int) (w : World) (hB : B ≤ w.heap.size) (hr : Reads w B 1 A n (b.map (Value.int .u8))) (hn : n ≤ 1000000000) :
    Calls Try.prog 55 #[.slice A n c] w fun e w' => ∃ v, e = .returned v ∧ w'.ownsRow w.heap.size 5 1 v n (b.map (Value.int .u8)) ∧ Below w.heap.size w w' := by
  obtain ⟨i0, hi, hz0, hz1, hz2⟩ := info_parts byteInfo
  have HR := Lib.hid hr
  have hnil := fun w => Lib.run_eql_slice_nil (P := Try.prog) w 22 5 A n c 0 0 Try.underlying22
  rcases A with _ | ad
  · have h0 : n = 0 := by
      rcases Nat.eq_zero_or_pos n with h | h
      · exact h
      · obtain ⟨ad, h, _⟩ := hr.2 h; cases h
    subst h0
    have hb0 : b = [] := by have := hr.1; simpa using this
    subst hb0
    clear hr
    go_enter Try.func55, Try.ntmps55
    go_wp2
    go_ret
    exact ⟨_, rfl, World.ownsRow_nil _ _ _ _, Below.refl _ _⟩
  · clear hr
    go_enter Try.func55, Try.ntmps55
    go_wp2_with (at_builtin; go_must (refine wpList_append_any _ rfl (.tmp 5) (.tmp 6) _ rfl w.heap.size 5 i0 _ 1 1 Try.underlying22 hi hz0 hz1 hz2 rfl (by omega) _ _ _ rfl (World.ownsRow_made w #[] 0 (Nat.le_refl _) (by decide) rfl) B (some ad) n c (b.map (Value.int .u8)) rfl (Reads.alloc HR.out hB _) ?c1 ?c2 ?c3 ?c4 ?_))
    case c1 => exact u8_one b
    case c2 => unfold maxLen; omega
    case c3 => omega
    case c4 => simp
    intro v1 w1 hown hg hat
    have HO := Lib.hid hown
    have HG := Lib.hid hg
    clear hown hg hat hnil
    go_wp2
    go_ret
    refine ⟨_, rfl, by simpa using HO.out, ((Below.refl _ _).alloc (Nat.le_refl _) _).grown HG.out (by simp) (fun k hk => ?_)⟩
    simp [Value.ownBlock] at hk
    omega
/-- the number that bytes are, the first the highest -/
def numN (l : List Nat) : Nat := l.foldl (fun n c => n * 256 + c) 0
theorem numN_take (l : List Nat) (k z : Nat) (hz : l[k]? = some z) : numN (l.take (k + 1)) = numN (l.take k) * 256 + z := by
  unfold numN
  rw [List.take_add_one, hz, Option.toList_some, List.foldl_append]; rfl
theorem foldN_lt (l : List Nat) (h : isBs l) (a : Nat) : l.foldl (fun n c => n * 256 + c) a < (a + 1) * 256 ^ l.length := by
  induction l generalizing a with
  | nil => simp
  | cons z l ih =>
    have hz := h z (by simp)
    have h1 := ih (fun b hb => h b (by simp [hb])) (a * 256 + z)
    simp only [List.foldl_cons, List.length_cons]
    have h2 : (a * 256 + z + 1) * 256 ^ l.length ≤ ((a + 1) * 256) * 256 ^ l.length := Nat.mul_le_mul_right _ (by omega)
    rw [Nat.pow_succ, Nat.mul_comm (256 ^ l.length) 256, ← Nat.mul_assoc]
    omega
theorem numN_lt (l : List Nat) (h : isBs l) : numN l < 256 ^ l.length := by
  have := foldN_lt l h 0
  simpa [numN] using this
theorem refNum_any (A : Option Addr) (n c B : Nat) (l : List Nat) (w : World) (hr : Reads w B 1 A n ((bI l).map (Value.int .u8))) (hl : isBs l) (hn : n ≤ 8) :
    Calls Try.prog 38 #[.slice A n c] w fun e w' => e = .returned (.int .u64 ((numN l : Nat) : Int)) ∧ w = w' := by
  have HL := Lib.hid hl
  have HR := Lib.hid hr
  have LN := Lib.hid (reads_len hr)
  clear hl hr
  go_enter Try.func38, Try.ntmps38
  go_wp2
  go_loop [3, 4] (fun v i => ∃ k q : Nat, k ≤ n ∧ i = .int .i64 k ∧ v = .int .u64 (q : Int) ∧ Hid (q = numN (l.take k))) (fun _ i => n - (intOf i).toNat)
  case atStart => exact ⟨0, 0, by omega, rfl, rfl, Lib.hid rfl⟩
  case round =>
    obtain ⟨k, q, hk, rfl, rfl, HQ⟩ := hrel
    by_cases hlt : k < n
    · obtain ⟨ad, z, rfl, _, hz, hc⟩ := reads_nat HR.out hlt
      have hz8 := isBs_get HL.out hz
      have hq : q < 72057594037927936 := by
        have h1 := numN_lt (l.take k) (isBs_take HL.out k)
        have h2 : 256 ^ (l.take k).length ≤ 256 ^ 7 := Nat.pow_le_pow_right (by decide) (by rw [List.length_take]; omega)
        rw [HQ.out]
        omega
      have HZ := Lib.hid hz
      clear hz
      go_wp2
      go_round
      case rel => exact ⟨k + 1, q * 256 + z, by omega, by go_num, by go_num, Lib.hid (by rw [numN_take _ _ _ HZ.out, HQ.out])⟩
      case measure => simp [intOf]; omega
    · obtain rfl : k = n := by omega
      go_wp2
      go_ret
      exact ⟨ret_int (by rw [HQ.out, List.take_of_length_le (by have := LN.out; omega)]), rfl⟩
theorem load64_any (a : Addr) (x : Int) (w : World) (hc : w.cell? a = some (.int .u64 x)) : Calls Try.prog 40 #[.pointer (some a)] w fun e w' => e = .returned (.int .u64 x) ∧ w = w' := by
  have hl := run_call_load (P := Try.prog) Try.func57 (by kernel_rfl) (by kernel_rfl) (by kernel_rfl) .u64 (by kernel_rfl) hc
  go_enter Try.func40, Try.ntmps40
  go_wp2
  go_ret
  exact ⟨rfl, rfl⟩
theorem add64_any (a : Addr) (x y s : Int) (w : World) (hs : IntKind.u64.wrap (x + y) = s) (hc : w.cell? a = some (.int .u64 x)) (hz : w.frozen? a = false) :
    Calls Try.prog 56 #[.pointer (some a), .int .u64 y] w fun e w' => e = .returned (.int .u64 s) ∧ w' = w.setCell a (.int .u64 s) := by
  have hadd := run_call_add (P := Try.prog) Try.func65 (by kernel_rfl) (by kernel_rfl) (by kernel_rfl) .u64 (by kernel_rfl) (y := y) (s := s) hc hz (by simp [go_sem, hs])
  go_enter Try.func56, Try.ntmps56
  go_wp2
  go_ret
  exact ⟨rfl, rfl⟩
end Go.Proofs.Ytoifaeabieojbaa
