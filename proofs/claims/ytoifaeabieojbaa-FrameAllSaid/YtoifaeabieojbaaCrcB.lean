/- Package crc: the reference's On; a table in memory: New, fill, ready. -/
import Derived.Test.YtoifaeabieojbaaCrcA
namespace Go.Proofs.Ytoifaeabieojbaa
open Go.RowKit
set_option linter.unusedSimpArgs false
set_option linter.unusedVariables false
set_option maxRecDepth 100000
set_option maxHeartbeats 4000000

/-- bytes as the fix contracts take them -/
def bI (l : List Nat) : List Int := l.map fun (x : Nat) => (x : Int)
def isBs (l : List Nat) : Prop := ∀ b ∈ l, b < 256
theorem reads_nat {w : World} {B n k : Nat} {A : Option Addr} {l : List Nat} (h : Reads w B 1 A n ((bI l).map (Value.int .u8))) (hk : k < n) :
    ∃ ad z, A = some ad ∧ ad.block < B ∧ l[k]? = some z ∧ w.cell? (ad.add k) = some (.int .u8 (z : Int)) := by
  obtain ⟨ad, z, hA, hb, hz, hc⟩ := reads_int h hk
  unfold bI at hz
  rw [List.getElem?_map] at hz
  cases hl : l[k]? with
  | none => rw [hl] at hz; cases hz
  | some y =>
    rw [hl] at hz
    simp only [Option.map_some, Option.some.injEq] at hz
    subst hz
    exact ⟨ad, y, hA, hb, rfl, hc⟩
theorem bI_len (l : List Nat) : (bI l).length = l.length := by simp [bI]
theorem bI_append (l m : List Nat) : bI (l ++ m) = bI l ++ bI m := by simp [bI]
theorem reads_len {w : World} {B n : Nat} {A : Option Addr} {l : List Nat} (h : Reads w B 1 A n ((bI l).map (Value.int .u8))) : l.length = n := by
  have := h.1
  simpa [bI] using this
theorem onB_take (s : Nat) (l : List Nat) (k : Nat) (z : Nat) (h : l[k]? = some z) : onB s (l.take (k + 1)) = hv 8 (onB s (l.take k) ^^^ z) := by
  rw [List.take_add_one, h, Option.toList_some, onB_snoc]
theorem isBs_get {l : List Nat} (h : isBs l) {k z : Nat} (hz : l[k]? = some z) : z < 256 := h z (List.mem_of_getElem? hz)
theorem isBs_take {l : List Nat} (h : isBs l) (k : Nat) : isBs (l.take k) := fun b hb => h b (List.mem_of_mem_take hb)
theorem isBs_drop {l : List Nat} (h : isBs l) (k : Nat) : isBs (l.drop k) := fun b hb => h b (List.mem_of_mem_drop hb)

theorem refOn_any (A : Option Addr) (n c B s : Nat) (l : List Nat) (hl : isBs l) (hs : s < 4294967296) (w : World) (hr : Reads w B 1 A n ((bI l).map (Value.int .u8))) (hn : n ≤ 9223372036854775806) :
    Calls Try.prog 61 #[.int .u32 (s : Int), .slice A n c] w fun e w' => e = .returned (.int .u32 ((onB s l : Nat) : Int)) ∧ w = w' := by
  have HL := Lib.hid hl
  have HR := Lib.hid hr
  have LN := Lib.hid (reads_len hr)
  have HS := Lib.hid hs
  clear hl hr hs
  go_enter Try.func61, Try.ntmps61
  go_wp2
  go_loop [0, 5, 6] (fun v i k6 => ∃ k q : Nat, k ≤ n ∧ q < 4294967296 ∧ i = .int .i64 k ∧ v = .int .u32 (q : Int) ∧ Hid (q = onB s (l.take k))) (fun _ i _ => n - (intOf i).toNat)
  case atStart => exact ⟨0, s, by omega, HS.out, rfl, rfl, Lib.hid rfl⟩
  case round =>
    obtain ⟨k, q, hk, hq, rfl, rfl, HQ⟩ := hrel
    by_cases hlt : k < n
    · obtain ⟨ad, z, rfl, _, hz, hc⟩ := reads_nat HR.out hlt
      have hz8 := isBs_get HL.out hz
      have HZ := Lib.hid hz
      clear hz
      have hx : bits .xor .u32 (q : Int) (z : Int) = ((q ^^^ z : Nat) : Int) := u32_xor_nat q z hq (by omega)
      obtain ⟨y, hy⟩ : ∃ y, y = q ^^^ z := ⟨_, rfl⟩
      have hylt : y < 4294967296 := by rw [hy]; exact xor32_lt _ _ hq (by omega)
      rw [← hy] at hx
      have HY := Lib.hid hy
      clear hy
      go_wp2
      go_loop [0, 6] (fun v j => ∃ m p : Nat, m ≤ 8 ∧ p < 4294967296 ∧ j = .int .i64 m ∧ v = .int .u32 (p : Int) ∧ Hid (p = hv m y)) (fun _ j => 8 - (intOf j).toNat)
      case atStart => exact ⟨0, y, by omega, hylt, rfl, rfl, Lib.hid rfl⟩
      case round =>
        obtain ⟨m, p, hm, hp, rfl, rfl, HP⟩ := hrel
        by_cases hml : m < 8
        · go_wp2_with (fail)
          refine (refHalf_any p hp _).mono ?_
          rintro e w' ⟨rfl, rfl⟩
          have hh := half_lt p hp
          obtain ⟨p', hp'⟩ : ∃ p', p' = half p := ⟨_, rfl⟩
          rw [← hp'] at hh ⊢
          have HP' := Lib.hid hp'
          clear hp'
          go_wp2
          go_round
          case rel => exact ⟨m + 1, p', by omega, hh, by go_num, rfl, Lib.hid (by rw [hv_snoc, ← HP.out, HP'.out])⟩
          case measure => simp [intOf]; omega
        · obtain rfl : m = 8 := by omega
          go_wp2
          go_round
          case rel => exact ⟨k + 1, p, by omega, hp, by go_num, rfl, Lib.hid (by rw [onB_take _ _ _ _ HZ.out, HP.out, HY.out, HQ.out])⟩
          case measure => simp [intOf]; omega
    · obtain rfl : k = n := by omega
      go_wp2
      go_ret
      exact ⟨ret_int (by rw [HQ.out, List.take_of_length_le (by have := LN.out; omega)]), rfl⟩
end Go.Proofs.Ytoifaeabieojbaa
