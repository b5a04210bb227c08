/- bytes.Clone; which kinds write; Outcome; Runs. -/
import Derived.Test.YtfcjkkjgedcgpaaGreatDoorUpdB
namespace Go.Proofs.YtfcjkkjgedcgpaaGreatDoor
open Go.RowKit
set_option linter.unusedSimpArgs false
set_option linter.unusedVariables false
set_option maxHeartbeats 2000000
attribute [local go_sem] Up.agg Up.cells

theorem byteInfo : (Tryz.prog.info? 5).map (fun i => (i.zero, i.size, i.bytes)) = some (some (.int .u8 0), 1, 1) := by kernel_rfl
theorem u8_one (l : List Int) : ∀ u ∈ l.map (Value.int .u8), u.oneCell' = true := by
  intro u hu; rw [List.mem_map] at hu; obtain ⟨z, _, rfl⟩ := hu; rfl

theorem bclone_any (A : Option Addr) (n c B : Nat) (b : List Int) (w : World) (hB : B ≤ w.heap.size) (hr : Reads w B 1 A n (b.map (Value.int .u8))) (hn : n ≤ 1000000000) :
    Calls Tryz.prog 40 #[.slice A n c] w fun e w' => ∃ v, e = .returned v ∧ w'.ownsRow w.heap.size 5 1 v n (b.map (Value.int .u8)) ∧ Below w.heap.size w w' := by
  obtain ⟨i0, hi, hz0, hz1, hz2⟩ := info_parts byteInfo
  have HR := Lib.hid hr
  have hnil := fun w => Lib.run_eql_slice_nil (P := Tryz.prog) w 27 5 A n c 0 0 Tryz.underlying27
  rcases A with _ | ad
  · have h0 : n = 0 := by
      rcases Nat.eq_zero_or_pos n with h | h
      · exact h
      · obtain ⟨ad, h, _⟩ := hr.2 h; cases h
    subst h0
    have hb0 : b = [] := by have := hr.1; simpa using this
    subst hb0
    clear hr
    go_enter Tryz.func40, Tryz.ntmps40
    go_wp2
    go_ret
    exact ⟨_, rfl, World.ownsRow_nil _ _ _ _, Below.refl _ _⟩
  · clear hr
    go_enter Tryz.func40, Tryz.ntmps40
    go_wp2_with (at_builtin; go_must (refine wpList_append_any _ rfl (.tmp 5) (.tmp 6) _ rfl w.heap.size 5 i0 _ 1 1 Tryz.underlying27 hi hz0 hz1 hz2 rfl (by omega) _ _ _ rfl (World.ownsRow_made w #[] 0 (Nat.le_refl _) (by decide) rfl) B (some ad) n c (b.map (Value.int .u8)) rfl (Reads.alloc HR.out hB _) ?c1 ?c2 ?c3 ?c4 ?_))
    case c1 => exact u8_one b
    case c2 => unfold maxLen; omega
    case c3 => omega
    case c4 => simp
    intro v1 w1 hown hg hat
    have HO := Lib.hid hown
    have HG := Lib.hid hg
    clear hown hg hat hnil
    go_wp2
    go_ret
    refine ⟨_, rfl, by simpa using HO.out, ((Below.refl _ _).alloc (Nat.le_refl _) _).grown HG.out (by simp) (fun k hk => ?_)⟩
    simp [Value.ownBlock] at hk
    omega

def writesB (k : Int) : Bool := decide (k = 2 ∨ k = 3)
theorem writes_any (k : Int) (w : World) : Calls Tryz.prog 38 #[.int .i64 k] w fun e w' => e = .returned (.bool (writesB k)) ∧ w = w' := by
  by_cases h2 : k = 2
  · subst h2
    go_enter Tryz.func38, Tryz.ntmps38
    go_wp2
    go_ret
    exact ⟨rfl, rfl⟩
  by_cases h3 : k = 3
  · subst h3
    go_enter Tryz.func38, Tryz.ntmps38
    go_wp2
    go_ret
    exact ⟨rfl, rfl⟩
  have hv : Hid (false = writesB k) := Lib.hid (by simp [writesB, h2, h3])
  have k2 : (k == 2) = false := by simp [h2]
  have k3 : (k == 3) = false := by simp [h3]
  clear h2 h3
  go_enter Tryz.func38, Tryz.ntmps38
  go_wp2
  go_ret
  exact ⟨ret_bool hv.out, rfl⟩

end Go.Proofs.YtfcjkkjgedcgpaaGreatDoor
