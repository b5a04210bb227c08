/- What was read is put as the same bytes: every part of a letter. -/
import Derived.Test.YtmpedblelnpjdaaGreatDoorZCeB
namespace Go.Proofs.YtmpedblelnpjdaaGreatDoor
open Go.RowKit
set_option linter.unusedSimpArgs false
set_option linter.unusedVariables false
set_option maxHeartbeats 2000000
set_option maxRecDepth 100000

theorem voteI_bytes (s : FI) (hb : bytesB s.l) : bytesB (voteI s).l := FI.raw_bytesI _ _ (FI.upto_bytes _ _ _ (FI.upto_bytes _ _ _ hb))
theorem votsG_bytes (s : FI) (hb : bytesB s.l) : ∀ j, bytesB (votsG s j).1.l
  | 0 => hb
  | j + 1 => by
    have ih := votsG_bytes s hb j
    rw [votsG]
    split
    · exact ih
    · split
      · simp only [wrongF_l]; exact bytesB_nil
      · exact voteI_bytes _ ih
theorem upsG_bytes (s : FI) (hb : bytesB s.l) : ∀ j, bytesB (upsG s j).1.l
  | 0 => hb
  | j + 1 => getUi_bytes _ (upsG_bytes s hb j)
theorem st_sel (i : Nat) (hi : i < 15) (s : FI) (v : LVal) : (stX i s v).2 = LVal.sel (isJ i) v (stX i s v).2 := by
  match i with
  | 0 => rfl
  | 1 => rfl
  | 2 => rfl
  | 3 => rfl
  | 4 => rfl
  | 5 => rfl
  | 6 => rfl
  | 7 => rfl
  | 8 => rfl
  | 9 => rfl
  | 10 => rfl
  | 11 => rfl
  | 12 => rfl
  | 13 => rfl
  | 14 => rfl
  | (n + 15) => omega
theorem stO_bytes (i : Nat) (s : FI) (v : LVal) (hb : bytesB s.l) : bytesB (stO i s v).1.l := by
  unfold stO
  split
  · unfold st10
    simp only
    split
    · rw [wrongF_l]; exact bytesB_nil
    · exact FI.raw_bytesI _ _ hb
  · unfold st11
    simp only
    split
    · rw [wrongF_l]; exact bytesB_nil
    · exact FI.raw_bytesI _ _ (ks_bytes s hb).2.2.2.2
  · exact votsG_bytes _ (FI.upto_bytes _ _ _ hb) _
  · exact upsG_bytes _ (FI.upto_bytes _ _ _ hb) _
  · exact FI.text_bytesI _ _ hb
  · exact hb
theorem stX_bytes (i : Nat) (s : FI) (v : LVal) (hb : bytesB s.l) : bytesB (stX i s v).1.l := by
  unfold stX stG
  split <;> first | exact FI.upto_bytes _ _ _ hb | exact stO_bytes _ _ _ hb
theorem LVal.sel_sel2 (f g : Nat → Bool) (v z y : LVal) (h2 : z = LVal.sel g v z) (h1 : y = LVal.sel f z y) : y = LVal.sel (fun j => g j || f j) v y := by
  rw [h2] at h1
  have key : ∀ {α : Type} (a b : Bool) (p q r : α), p = (if a = true then p else if b = true then q else r) → p = if (b || a) = true then p else r := by
    intro α a b p q r e
    cases a
    · cases b
      · exact e
      · rfl
    · cases b <;> rfl
  simp only [LVal.sel] at h1 ⊢
  refine LVal.ext' ⟨?_, ?_, ?_, ?_, ?_, ?_, ?_, ?_, ?_, ?_, ?_, ?_, ?_, ?_, ?_, ?_, ?_, ?_, ?_, ?_, ?_, ?_, ?_, ?_, ?_⟩
  · have := congrArg LVal.kd h1; exact this
  · have := congrArg LVal.fr h1; exact this
  · have := congrArg LVal.tw h1; exact this
  · exact key _ _ _ _ _ (congrArg LVal.ch h1)
  · exact key _ _ _ _ _ (congrArg LVal.ep h1)
  · exact key _ _ _ _ _ (congrArg LVal.bl h1)
  · exact key _ _ _ _ _ (congrArg LVal.nu h1)
  · exact key _ _ _ _ _ (congrArg LVal.sq h1)
  · exact key _ _ _ _ _ (congrArg LVal.dz h1)
  · exact key _ _ _ _ _ (congrArg LVal.vr h1)
  · exact key _ _ _ _ _ (congrArg LVal.sl h1)
  · exact key _ _ _ _ _ (congrArg LVal.ky h1)
  · exact key _ _ _ _ _ (congrArg LVal.cd h1)
  · exact key _ _ _ _ _ (congrArg LVal.qk h1)
  · exact key _ _ _ _ _ (congrArg LVal.qc h1)
  · exact key _ _ _ _ _ (congrArg LVal.qe h1)
  · exact key _ _ _ _ _ (congrArg LVal.qn h1)
  · exact key _ _ _ _ _ (congrArg LVal.fc h1)
  · exact key _ _ _ _ _ (congrArg LVal.fe h1)
  · exact key _ _ _ _ _ (congrArg LVal.ff h1)
  · exact key _ _ _ _ _ (congrArg LVal.fj h1)
  · exact key _ _ _ _ _ (congrArg LVal.ns h1)
  · exact key _ _ _ _ _ (congrArg LVal.vs h1)
  · exact key _ _ _ _ _ (congrArg LVal.us h1)
  · exact key _ _ _ _ _ (congrArg LVal.ds h1)
theorem stF_sel (is : List Nat) : ∀ (s : FI) (v : LVal), (∀ i ∈ is, i < 15) → (stF stX is s v).2 = LVal.sel (fun j => is.contains j) v (stF stX is s v).2 := by
  induction is with
  | nil => intro s v _; show v = LVal.sel (fun _ => false) v v; rw [LVal.sel_no]
  | cons i is ih =>
    intro s v hi
    have h1 := ih (stX i s v).1 (stX i s v).2 (fun j hj => hi j (List.mem_cons_of_mem _ hj))
    have h2 := st_sel i (hi i List.mem_cons_self) s v
    have h3 := LVal.sel_sel2 _ _ _ _ _ h2 h1
    exact h3.trans (LVal.sel_congr _ _ (fun j _ => by simp only [isJ, List.contains_cons]))
end Go.Proofs.YtmpedblelnpjdaaGreatDoor
