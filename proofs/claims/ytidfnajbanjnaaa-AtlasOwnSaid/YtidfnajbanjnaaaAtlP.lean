/- (*Atlas).Learn where nothing is learned: out of range, or not newer. -/
import Derived.Test.YtidfnajbanjnaaaAtlO

namespace Go.Proofs.Ytidfnajbanjnaaa
open Go.RowKit
set_option linter.unusedSimpArgs false
set_option linter.unusedVariables false
set_option maxHeartbeats 2000000
set_option maxRecDepth 100000
attribute [local go_sem] Cf.agg Cf.cells

theorem Chg.set_ {w w' : World} {S : Nat → Prop} (h : Chg w w' S) {p : Addr} (hp : S p.block) (u : Value) : Chg w (w'.setCell p u) S :=
  have hb := (Below.refl p.block w').setCell (p := p) (Nat.le_refl _) u
  ⟨hb.os.trans h.os, hb.tape.trans h.tape, hb.output.trans h.output, Nat.le_trans h.size hb.size, fun k hk hn => (Below.heap_setCell w' p u k (fun e => hn (e ▸ hp))).trans (h.block k hk hn)⟩
/-- what Learn of an atlas leaves -/
def ALPost (b0 G q h cB : Nat) (vs : List (Int × Int × List Int × Bool × Int)) (x : Cf) (w : World) (e : Ending) (w' : World) : Prop :=
  e = .returned (.bool (learnB vs x)) ∧ (∃ o, AtX w' b0 G q h cB o ∧ o.map Cf.val = learnV vs x) ∧ Chg w w' (· = q)
theorem At.drewN {w : World} {b0 G : Nat} {vs : List (Int × Int × List Int × Bool × Int)} (a : At w b0 G vs) (q : Nat) : At (w.drewN q) b0 G vs := a.below (below_drewN (Below.refl _ _) q)
theorem atLearn_no (b0 G C : Nat) (q h cB : Nat) (o : List Cf) (x : Cf) (w : World) (a : AtX w b0 G q h cB o) (hx : CfIn w C x) (hC : C ≤ w.heap.size) (hno : x.ch < 0 ∨ (o.length : Int) ≤ x.ch) :
    Calls Try.prog 13 #[.pointer (some ⟨G, 0, none⟩), x.agg] w fun e w' => ALPost b0 G q h cB (o.map Cf.val) x w e w' := by
  have hb0 : b0 ≤ w.heap.size := by have h1 := a.b0; have h2 := a.num.lt; omega
  have k0 : (w.alloc (.cells x.cells 35)).cell? ⟨w.heap.size, 0, none⟩ = some (.int .i64 x.ch) := (cf_cells (Blk.new w 35 x.cells)).1
  have hbox : Below w.heap.size w (w.alloc (.cells x.cells 35)) := (Below.refl _ _).alloc (Nat.le_refl _) _
  have A1 := Lib.hid (a.below hbox)
  have HB := Lib.hid hbox
  have CH := Lib.hid (fun s => chains_any b0 G q h cB o ((w.alloc (.cells x.cells 35)).drewN s) (A1.out.below (below_drewN (Below.refl _ _) s)))
  clear a hx hbox
  rcases hno with h0 | h0
  · have hT : Hid (learnB (o.map Cf.val) x = false) := Lib.hid (learn_neg h0)
    have h0' : decide (x.ch < 0) = true := by simp [h0]
    go_enter Try.func13, Try.ntmps13
    go_wp2_with (fail)
    go_quiet (fail)
    go_wp2_with (fail)
    go_ret
    refine ⟨by rw [hT.out]; rfl, ?_, Chg.of_below (below_drewN HB.out _) _⟩
    rw [learn_no hT.out]
    exact ⟨o, A1.out.below (below_drewN (Below.refl _ _) _), rfl⟩
  · have hT : Hid (learnB (o.map Cf.val) x = false) := Lib.hid (learn_over (by omega) (by rw [List.length_map]; omega))
    have h0' : decide (x.ch < 0) = false := by simp; omega
    have h1' : decide ((o.length : Int) ≤ x.ch) = true := by simpa using h0
    go_enter Try.func13, Try.ntmps13
    go_wp2_with (fail)
    go_quiet ((first | (go_at_call 21; exact quiet_left (CH.out _)) | (go_at_call 21; exact quiet_add_left (CH.out _)) | fail))
    go_wp2_with (fail)
    go_ret
    refine ⟨by rw [hT.out]; rfl, ?_, Chg.of_below (below_drewN HB.out _) _⟩
    rw [learn_no hT.out]
    exact ⟨o, A1.out.below (below_drewN (Below.refl _ _) _), rfl⟩
end Go.Proofs.Ytidfnajbanjnaaa
