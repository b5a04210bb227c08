/- Fits, Copy, Batch by contract; far, awake. -/
import Derived.Test.YthmokochlpbokaaGreatDoorUpdE
namespace Go.Proofs.YthmokochlpbokaaGreatDoor
open Go.RowKit
set_option linter.unusedSimpArgs false
set_option linter.unusedVariables false
set_option maxHeartbeats 4000000
attribute [local go_sem] Up.agg Up.cells

/-- what a pick has handed back: an owned row of updates -/
structure Picked (w : World) (r : List Up) (v : Value) (o : List Up) (W : World) : Prop where
  own : W.ownsRow w.heap.size 26 7 v o.length (o.flatMap Up.row)
  dat : ∀ u ∈ o, UpOwn W w.heap.size u
  val : o.map Up.val = r.map Up.val
  bel : Below w.heap.size w W
theorem Picked.of {σ : Type} {J : σ → World → Prop} {S : Nat → Prop} {s : σ} {r : List Up} {w w0 : World} {v : Value} {o : List Up} {W : World} (h : PickAt J S s r w v o W) (hb : Below w0.heap.size w0 w) (hS : ∀ k, S k → w0.heap.size ≤ k) : Picked w0 r v o W :=
  ⟨own_mono h.own hb.size, fun u hu => ⟨own_mono (h.dat u hu).1 hb.size, (h.dat u hu).2⟩, h.val, hb.trans (h.chg.below hb.size (fun k hk hs => by have := hS k hs; omega))⟩
theorem Picked.ups {w : World} {r : List Up} {v : Value} {o : List Up} {W : World} (h : Picked w r v o W) : ∃ A c, v = .slice A o.length c ∧ UpsIn W W.heap.size A o.length o ∧ o.length ≤ c ∧ c ≤ maxLen := by
  obtain ⟨A, c, hv, hr, hc, hm⟩ := own_slice h.own
  exact ⟨A, c, hv, ⟨hr, fun u hu => (h.dat u hu).in_⟩, hc, hm⟩
theorem Picked.len {w : World} {r : List Up} {v : Value} {o : List Up} {W : World} (h : Picked w r v o W) : o.length = r.length := by
  have := congrArg List.length h.val
  simpa using this

def farP (n : Nat) (l : List Up) : Prop := (∃ u ∈ l, 2100 < u.n) ∨ 40 < n
noncomputable def farB (n : Nat) (l : List Up) : Bool := @decide (farP n l) (Classical.propDecidable _)
theorem farB_no {n : Nat} {l : List Up} (h : farB n l = false) : n ≤ 40 ∧ ∀ u ∈ l, u.n ≤ 2100 := by
  have h' : ¬ farP n l := by simpa [farB] using h
  refine ⟨?_, fun u hu => ?_⟩
  · rcases Nat.lt_or_ge 40 n with h1 | h1
    · exact absurd (.inr h1) h'
    · exact h1
  · rcases Nat.lt_or_ge 2100 u.n with h1 | h1
    · exact absurd (.inl ⟨u, hu, h1⟩) h'
    · exact h1
theorem far_any (A : Option Addr) (n c B : Nat) (l : List Up) (w : World) (hl : UpsIn w B A n l) (hn : n ≤ 9223372036854775807) :
    Calls Tryz.prog 5 #[.slice A n c] w fun e w' => e = .returned (.bool (farB n l)) ∧ Below w.heap.size w w' := by
  have HL := Lib.hid hl
  have hn1 : (n : Int) ≤ 9223372036854775807 := by omega
  have hlen : Hid (l.length = n) := Lib.hid hl.len
  clear hl
  have HB0 : Hid (Below w.heap.size w w) := Lib.hid (Below.refl _ _)
  go_enter Tryz.func5, Tryz.ntmps5
  go_wp2
  go_loop [3] (fun i => ∃ k : Nat, k ≤ n ∧ i = .int .i64 k ∧ Hid (∀ u ∈ l.take k, u.n ≤ 2100)) (fun i => n - (intOf i).toNat)
  case atStart => exact ⟨0, by omega, rfl, Lib.hid (by simp)⟩
  case round =>
    obtain ⟨k, hk, rfl, hr⟩ := hrel
    by_cases hlt : k < n
    · obtain ⟨b, off, u, rfl, hb, hu, hin, c0, c1, c2, c3, c4, c5, c6⟩ := HL.out.at_ hlt
      have hlt' : (k : Int) < n := by omega
      have HU := Lib.hid hu
      clear hu hin
      by_cases h1 : 2100 < u.n
      · have h1' : (2100 : Int) < u.n := by omega
        have hv : Hid (true = farB n l) := Lib.hid (by
          have : farP n l := .inl ⟨u, List.mem_of_getElem? HU.out, h1⟩
          unfold farB; simp [this])
        clear h1
        go_wp2_with (fail)
        go_ret
        exact ⟨ret_bool hv.out, Below.refl _ _⟩
      · have h1' : (u.n : Int) ≤ 2100 := by omega
        have hr' : Hid (∀ u ∈ l.take (k + 1), u.n ≤ 2100) := Lib.hid (by
          intro x hx
          rw [List.take_add_one, HU.out, List.mem_append] at hx
          rcases hx with hx | hx
          · exact hr.out x hx
          · simp at hx; subst hx; omega)
        clear h1
        go_wp2_with (fail)
        go_round
        case rel => exact ⟨k + 1, by omega, by go_num, hr'⟩
        case measure => simp [intOf]; omega
    · obtain rfl : k = n := by omega
      have hall : Hid (decide ((40 : Int) < (l.length : Int)) = farB l.length l) := Lib.hid (by
        have h2 := hr.out
        rw [List.take_of_length_le (by rw [hlen.out]; exact Nat.le_refl _)] at h2
        unfold farB
        by_cases h4 : 40 < l.length
        · have : farP l.length l := .inr h4
          simp [this]; omega
        · have : ¬ farP l.length l := by
            rintro (⟨u, hu, h5⟩ | h5)
            · have := h2 u hu; omega
            · exact h4 h5
          simp [this]; omega)
      rw [hlen.out] at hall
      go_wp2
      go_ret
      exact ⟨ret_bool hall.out, Below.refl _ _⟩
def upK (k v : Int) : Up := ⟨0, 0, 0, k, 0, v, none, 0, 0, []⟩
theorem awake_any (w : World) : Calls Tryz.prog 6 #[] w fun e w' => e = .returned (.bool true) ∧ Below w.heap.size w w' := by
  have hv : Hid (outc (upK 3 3) 4 true = (11, 4, false)) := Lib.hid (by decide)
  have hO := fun w => outcome_any (upK 3 3) 4 true w (by omega) (by omega)
  simp only [hv.out] at hO
  have hR : Hid (true = runsB [] 9) := Lib.hid (runsB_yes (by intro k u h; simp at h))
  go_enter Tryz.func6, Tryz.ntmps6
  go_wp2_with (fail)
  refine (hO _).mono ?_
  rintro e w1 ⟨rfl, h⟩
  have H1 := Lib.hid h
  clear h hO
  go_wp2_with (fail)
  refine (runs_any none 0 0 0 [] 9 _ (UpsIn.nil _ _) (by omega) (Nat.zero_le _)).mono ?_
  rintro e w2 ⟨rfl, h⟩
  have H2 := Lib.hid (H1.out.trans (h.mono H1.out.size))
  rw [← hR.out]
  clear h
  go_wp2_with (fail)
  go_ret
  exact ⟨rfl, H2.out⟩
end Go.Proofs.YthmokochlpbokaaGreatDoor
