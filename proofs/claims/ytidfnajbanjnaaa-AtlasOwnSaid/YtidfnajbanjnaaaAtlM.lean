/- Learn: the reference. -/
import Derived.Test.YtidfnajbanjnaaaAtlL

namespace Go.Proofs.Ytidfnajbanjnaaa
open Go.RowKit
set_option linter.unusedSimpArgs false
set_option linter.unusedVariables false
set_option maxHeartbeats 600000
set_option maxRecDepth 100000
attribute [local go_sem] Cf.agg Cf.cells

abbrev CfV := Int × Int × List Int × Bool × Int
noncomputable def learnB (vs : List CfV) (x : Cf) : Bool := decide (0 ≤ x.ch) && match vs[x.ch.toNat]? with
  | some o => x.right && ((o.1 == x.ch) && decide (o.2.1 < x.ep))
  | none => false
noncomputable def learnV (vs : List CfV) (x : Cf) : List CfV := if learnB vs x then vs.set x.ch.toNat x.val else vs
theorem learn_neg {vs : List CfV} {x : Cf} (h : x.ch < 0) : learnB vs x = false := by unfold learnB; simp; intro h1; omega
theorem learn_over {vs : List CfV} {x : Cf} (h0 : 0 ≤ x.ch) (h : vs.length ≤ x.ch.toNat) : learnB vs x = false := by
  unfold learnB; rw [List.getElem?_eq_none h]; simp
theorem learn_at {l : List Cf} {x o : Cf} {k : Nat} (h0 : x.ch = k) (h : l[k]? = some o) : learnB (l.map Cf.val) x = newerV o x := by
  have e1 : x.ch.toNat = k := by omega
  have e2 : (l.map Cf.val)[k]? = some o.val := by rw [List.getElem?_map, h]; rfl
  have e3 : decide (0 ≤ x.ch) = true := by simp; omega
  unfold learnB newerV
  rw [e1, e2, e3]
  simp [Cf.val]
theorem learn_no {vs : List CfV} {x : Cf} (h : learnB vs x = false) : learnV vs x = vs := by unfold learnV; rw [h]; rfl
theorem learn_yes {vs : List CfV} {x : Cf} (h : learnB vs x = true) : learnV vs x = vs.set x.ch.toNat x.val := by unfold learnV; rw [h]; rfl
def RLPost (A : Option Addr) (n : Nat) (l : List Cf) (x : Cf) (w : World) (e : Ending) (w' : World) : Prop :=
  Below w.heap.size w w' ∧ ∃ A' c l', e = .returned (.tuple #[.slice A' n c, .bool (learnB (l.map Cf.val) x)]) ∧ CfsIn w' w'.heap.size A' n l' ∧ l'.map Cf.val = learnV (l.map Cf.val) x ∧ n ≤ c ∧ c ≤ maxLen ∧ (A' = A ∨ ∃ g, A' = some ⟨g, 0, none⟩ ∧ w.heap.size ≤ g) ∧ ∀ z ∈ l', z ∈ l ∨ z = x
theorem CfsIn.more {w : World} {B B' n : Nat} {A : Option Addr} {l : List Cf} (h : CfsIn w B A n l) (hB : B ≤ B') : CfsIn w B' A n l :=
  ⟨h.rd.more hB, fun x hx => ⟨(h.mem x hx).rd.more hB, (h.mem x hx).hc, (h.mem x hx).hm⟩⟩
theorem CfsIn.alloc' {w : World} {B n : Nat} {A : Option Addr} {l : List Cf} (h : CfsIn w B A n l) (hB : B ≤ w.heap.size) (o : Obj) : CfsIn (w.alloc o) B A n l := h.below ((Below.refl _ _).alloc hB _)
theorem refLearn_no (A : Option Addr) (n c B C : Nat) (l : List Cf) (x : Cf) (w : World) (hl : CfsIn w B A n l) (hB : B ≤ w.heap.size) (hx : CfIn w C x) (hC : C ≤ w.heap.size) (hn : n ≤ 1000) (hc : n ≤ c) (hm : c ≤ maxLen) (hno : x.ch < 0 ∨ (n : Int) ≤ x.ch) :
    Calls Try.prog 12 #[.slice A n c, x.agg] w fun e w' => RLPost A n l x w e w' := by
  have HL := Lib.hid hl
  have HN : Hid (l.length = n) := Lib.hid hl.len
  clear hl hx
  by_cases h0 : x.ch < 0
  · have hT : Hid (learnB (l.map Cf.val) x = false) := Lib.hid (learn_neg h0)
    have k0 : (w.alloc (.cells x.cells 35)).cell? ⟨w.heap.size, 0, none⟩ = some (.int .i64 x.ch) := (cf_cells (Blk.new w 35 x.cells)).1
    have h0' : decide (x.ch < 0) = true := by simp [h0]
    have L := Lib.hid (HL.out.alloc' hB (.cells x.cells 35))
    clear hno
    go_enter Try.func12, Try.ntmps12
    go_wp2_with (fail)
    go_quiet (fail)
    all_goals
      go_wp2
      go_ret2
      have hbl : Below w.heap.size w ((w.alloc (.cells x.cells 35)).drewN nq) := below_drewN ((Below.refl _ _).alloc (Nat.le_refl _) _) _
      refine ⟨hbl, A, c, l, by rw [hT.out]; rfl, ?_, (learn_no hT.out).symm, hc, hm, .inl rfl, fun _ hz => .inl hz⟩
      exact (HL.out.below (hbl.mono hB)).more (Nat.le_trans hB hbl.size)
  · have hT : Hid (learnB (l.map Cf.val) x = false) := Lib.hid (learn_over (by omega) (by rw [List.length_map, HN.out]; omega))
    have h1 : (n : Int) ≤ x.ch := by omega
    have k0 : (w.alloc (.cells x.cells 35)).cell? ⟨w.heap.size, 0, none⟩ = some (.int .i64 x.ch) := (cf_cells (Blk.new w 35 x.cells)).1
    have h0' : decide (x.ch < 0) = false := by simp; omega
    have h1' : decide ((n : Int) ≤ x.ch) = true := by simp [h1]
    clear hno
    go_enter Try.func12, Try.ntmps12
    go_wp2_with (fail)
    go_quiet (fail)
    all_goals
      go_wp2
      go_ret2
      have hbl : Below w.heap.size w ((w.alloc (.cells x.cells 35)).drewN nq) := below_drewN ((Below.refl _ _).alloc (Nat.le_refl _) _) _
      refine ⟨hbl, A, c, l, by rw [hT.out]; rfl, ?_, (learn_no hT.out).symm, hc, hm, .inl rfl, fun _ hz => .inl hz⟩
      exact (HL.out.below (hbl.mono hB)).more (Nat.le_trans hB hbl.size)
end Go.Proofs.Ytidfnajbanjnaaa
