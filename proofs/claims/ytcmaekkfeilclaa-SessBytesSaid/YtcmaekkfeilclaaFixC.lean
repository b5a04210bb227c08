/- Package fix: Clone, Concat, Text, Done. -/
import Derived.Test.YtcmaekkfeilclaaFixB
import Derived.Lib.AppendZerosOnto
import Derived.Shelf.SlGeneric
namespace Go.Proofs.Ytcmaekkfeilclaa
open Go.RowKit
set_option linter.unusedSimpArgs false
set_option linter.unusedVariables false
set_option maxHeartbeats 1000000

theorem clone_any (A : Option Addr) (n c B : Nat) (b : List Int) (w : World) (hB : B ≤ w.heap.size) (hr : Reads w B 1 A n (b.map (Value.int .u8))) (hn : n ≤ 1000000000) :
    Calls Try.prog 34 #[.slice A n c] w fun e w' => ∃ v, e = .returned v ∧ w'.ownsRow w.heap.size 5 1 v n (b.map (Value.int .u8)) ∧ Below w.heap.size w w' := by
  obtain ⟨i0, hi, hz0, hz1, hz2⟩ := info_parts byteInfo
  have HR := Lib.hid hr
  have hnil := fun w => Lib.run_eql_slice_nil (P := Try.prog) w 51 5 A n c 0 0 Try.underlying51
  rcases A with _ | ad
  · have h0 : n = 0 := by
      rcases Nat.eq_zero_or_pos n with h | h
      · exact h
      · obtain ⟨ad, h, _⟩ := hr.2 h; cases h
    subst h0
    have hb0 : b = [] := by have := hr.1; simpa using this
    subst hb0
    clear hr
    go_enter Try.func34, Try.ntmps34
    go_wp2
    go_ret
    exact ⟨_, rfl, World.ownsRow_nil _ _ _ _, Below.refl _ _⟩
  · clear hr
    go_enter Try.func34, Try.ntmps34
    go_wp2_with (at_builtin; go_must (refine wpList_append_any _ rfl (.tmp 5) (.tmp 6) _ rfl w.heap.size 5 i0 _ 1 1 Try.underlying51 hi hz0 hz1 hz2 rfl (by omega) _ _ _ rfl (World.ownsRow_made w #[] 0 (Nat.le_refl _) (by decide) rfl) B (some ad) n c (b.map (Value.int .u8)) rfl (Reads.alloc HR.out hB _) ?c1 ?c2 ?c3 ?c4 ?_))
    case c1 => exact u8_one b
    case c2 => unfold maxLen; omega
    case c3 => omega
    case c4 => simp
    intro v1 w1 hown hg hat
    have HO := Lib.hid hown
    have HG := Lib.hid hg
    clear hown hg hat hnil
    go_wp2
    go_ret
    refine ⟨_, rfl, by simpa using HO.out, ((Below.refl _ _).alloc (Nat.le_refl _) _).grown HG.out (by simp) (fun k hk => ?_)⟩
    simp [Value.ownBlock] at hk
    omega

theorem done_any (g : Nat) (v : Value) (s : FO) (w : World) (h : OutAt w g v s) (hl : s.l.length ≤ 1000000000) :
    Calls Try.prog 22 #[.pointer (some ⟨g, 0, none⟩)] w fun e w' => ∃ u, e = .returned (.tuple #[u, .int .i64 s.e]) ∧ w'.ownsRow w.heap.size 5 1 u (if s.e = 0 then s.l else []).length ((if s.e = 0 then s.l else []).map (Value.int .u8)) ∧ Below w.heap.size w w' := by
  obtain ⟨A0, c0, rfl, hr, _, _⟩ := own_slice h.2.1
  have HR := Lib.hid hr
  have k0 := h.1.cell 0
  have k2 := h.1.cell 2
  simp only [List.getElem?_toArray, List.getElem?_cons_succ, List.getElem?_cons_zero] at k0 k2
  clear h hr
  by_cases he : s.e = 0
  · rw [if_pos he, he]
    have he' : (s.e != 0) = false := by simp [he]
    clear he
    go_enter Try.func22, Try.ntmps22
    go_wp2_with (fail)
    refine (clone_any A0 s.l.length c0 w.heap.size s.l _ (Nat.le_refl _) HR.out hl).mono ?_
    rintro e w1 ⟨u, rfl, h1, h2⟩
    have H1 := Lib.hid h1
    have H2 := Lib.hid h2
    clear h1 h2
    go_wp2
    go_ret2
    exact ⟨_, rfl, H1.out, H2.out⟩
  · rw [if_neg he]
    have he' : (s.e != 0) = true := by simp [he]
    clear he
    go_enter Try.func22, Try.ntmps22
    go_wp2_with (fail)
    go_quiet (fail)
    go_wp2_with (fail)
    go_ret2
    exact ⟨_, rfl, World.ownsRow_nil _ _ _ _, below_drewN (Below.refl _ _) _⟩


theorem zeroCells_u8 (n : Nat) : (Builtin.zeroCells #[Value.int .u8 0] n).size = n := by
  simp [Builtin.zeroCells]

end Go.Proofs.Ytcmaekkfeilclaa
