/- The walk of BallotMeet. -/
import Derived.Test.YtckfjkpcebklnaaBalG
import Derived.Test.YtckfjkpcebklnaaMem
namespace Go.Proofs.Ytckfjkpcebklnaa
open Go.RowKit
set_option linter.unusedSimpArgs false
set_option linter.unusedVariables false

theorem ListRel.head {w w' : World} {n : Nat} {v : Value} {x : Int} {l : List Int} (h : ListRel w n 64 v w') (e : listTo n 64 = x :: l) :
    ∃ g cap len, v = .slice (some ⟨g, 0, none⟩) len cap ∧ 0 < len ∧ len ≤ 64 ∧ w'.cell? ⟨g, 0, none⟩ = some (.int .i64 x) := by
  have hl := listTo_len n 64
  have ho := h.own
  have hn : 0 < (listTo n 64).length := by rw [e]; simp
  obtain ⟨g, cap, hv, _, hlt⟩ := ho.form hn
  refine ⟨g, cap, _, hv, hn, hl, ?_⟩
  have := ho.cells (g := g) (by rw [hv]; rfl) 0 (.int .i64 x) (by rw [e]; rfl)
  simpa [Addr.add] using this

theorem ballotMeet_law (a b : Nat) (ha : a < 18446744073709551616) (hb : b < 18446744073709551616) (k : Int) (w : World) (h : k ≤ 9223372036854775807) :
    Calls Try.prog 5 #[.int .u64 a, .int .u64 b, .int .i64 k] w fun e w' => e = .returned (.bool true) ∧ Below w.heap.size w w' := by
  cases e1 : enoughB a k
  · go_enter Try.func5, Try.ntmps5
    go_wp2_with (first | (go_at_call 10; refine (awake_any _).mono ?_; rintro e w' ⟨rfl, rfl⟩) | (go_at_call_of 18 a; refine (enough_any a ha _ _ h).mono ?_; rintro e w' ⟨rfl, rfl⟩))
    go_ret
    exact ⟨rfl, Below.refl _ _⟩
  · cases e2 : enoughB b k
    · go_enter Try.func5, Try.ntmps5
      go_wp2_with (first | (go_at_call 10; refine (awake_any _).mono ?_; rintro e w' ⟨rfl, rfl⟩) | (go_at_call_of 18 a; refine (enough_any a ha _ _ h).mono ?_; rintro e w' ⟨rfl, rfl⟩) | (go_at_call 18; refine (enough_any b hb _ _ h).mono ?_; rintro e w' ⟨rfl, rfl⟩))
      go_ret
      exact ⟨rfl, Below.refl _ _⟩
    · obtain ⟨x, l, hx, hx1, hx2⟩ := meet_head a b k e1 e2
      have HX := Lib.hid hx
      clear hx
      go_enter Try.func5, Try.ntmps5
      go_wp2_with (first | (go_at_call_of 18 a; refine (enough_any a ha _ _ h).mono ?_; rintro e w' ⟨rfl, rfl⟩) | (go_at_call 18; refine (enough_any b hb _ _ h).mono ?_; rintro e w' ⟨rfl, rfl⟩) | (fail))
      refine (meet_any a b ha hb _).mono ?_
      rintro e w1 ⟨v, rfl, hv⟩
      obtain ⟨g, cap, len, rfl, hl0, hl1, hc⟩ := hv.head HX.out
      have HV := Lib.hid hv.2
      clear hv
      go_wp2_with (first | (go_at_call 10; refine (awake_any _).mono ?_; rintro e w' ⟨rfl, rfl⟩))
      go_ret
      exact ⟨rfl, HV.out⟩

end Go.Proofs.Ytckfjkpcebklnaa
