/- What reading a part of a letter makes: configurations, votes, updates. -/
import Derived.Test.YtmpedblelnpjdaaGreatDoorZGQ
namespace Go.Proofs.YtmpedblelnpjdaaGreatDoor
open Go.RowKit
set_option linter.unusedSimpArgs false
set_option linter.unusedVariables false
set_option maxRecDepth 100000
def upsG (s : FI) : Nat → FI × List (Int × Int × Int × Int × Int × Int × List Int)
 | 0 => (s, [])
 | j + 1 => (getUi (upsG s j).1, (upsG s j).2 ++ [getUv (upsG s j).1])
def st13 (s : FI) (v : LVal) : FI × LVal := ((upsG (s.upto 1 4).1 (s.upto 1 4).2).1, { v with us := v.us ++ (upsG (s.upto 1 4).1 (s.upto 1 4).2).2 })
def w1 (s : FI) : FI × Nat := s.upto 2 18446744073709551615
def w2 (s : FI) : FI × Nat := (w1 s).1.upto 8 18446744073709551615
def voteV (s : FI) : Vt := ⟨(w1 s).2, (w2 s).2, (cmdGv (w2 s).1).k, (cmdGv (w2 s).1).c, (cmdGv (w2 s).1).e, (cmdGv (w2 s).1).n⟩
def voteI (s : FI) : FI := ((w2 s).1.raw 11).1
def votsG (s : FI) : Nat → FI × List Vt × Bool
 | 0 => (s, [], false)
 | j + 1 => if (votsG s j).2.2 = true then votsG s j else if cmdGe (w2 (votsG s j).1).1 ≠ 0 then (wrongF (voteI (votsG s j).1), (votsG s j).2.1, true) else (voteI (votsG s j).1, (votsG s j).2.1 ++ [voteV (votsG s j).1], false)
def st12 (s : FI) (v : LVal) : FI × LVal := ((votsG (s.upto 2 512).1 (s.upto 2 512).2).1, { v with vs := v.vs ++ (votsG (s.upto 2 512).1 (s.upto 2 512).2).2.1 })
theorem votsG_stop (s : FI) (j : Nat) (h : (votsG s j).2.2 = true) : ∀ n, votsG s (j + n) = votsG s j
 | 0 => rfl
 | n + 1 => by
  have ih := votsG_stop s j h n
  show votsG s ((j + n) + 1) = _
  rw [votsG, ih, if_pos h]
def k1 (s : FI) : FI × Nat := s.upto 1 18446744073709551615
def k2 (s : FI) : FI × Nat := (k1 s).1.upto 8 18446744073709551615
def k3 (s : FI) : FI × Nat := (k2 s).1.upto 1 1
def k4 (s : FI) : FI × Nat := (k3 s).1.upto 1 18446744073709551615
def k5 (s : FI) : FI × Nat := (k4 s).1.upto 1 18446744073709551615
def k6 (s : FI) : FI × List Int := (k5 s).1.raw (k5 s).2
structure Cn where
 ch : Int
 ep : Int
 fr : Bool
 jn : Int
 ns : List Int
def Cn.zero : Cn := ⟨0, 0, false, 0, []⟩
def Cn.cf (q : Cn) (A : Option Addr) (c : Nat) : Cf := ⟨q.ch, q.ep.toNat, A, q.ns.length, c, q.fr, q.jn, q.ns⟩
noncomputable def Cn.right (q : Cn) : Bool := (q.cf none 0).right
def confP (s : FI) : Cn := ⟨(k1 s).2, (k2 s).2, decide ((k3 s).2 = 1), (k4 s).2, (k6 s).2⟩
noncomputable def confGv (s : FI) : Cn := if (k6 s).1.e ≠ 0 then Cn.zero else if (confP s).right = true then confP s else Cn.zero
noncomputable def confGe (s : FI) : Int := if (k6 s).1.e ≠ 0 then (k6 s).1.e else if (confP s).right = true then 0 else 4
noncomputable def st11 (s : FI) (v : LVal) : FI × LVal := (if confGe s ≠ 0 then wrongF (k6 s).1 else (k6 s).1, { v with fc := (confGv s).ch, fe := (confGv s).ep, ff := (confGv s).fr, fj := (confGv s).jn, ns := (confGv s).ns })
noncomputable def stO (i : Nat) (s : FI) (v : LVal) : FI × LVal := match i with
 | 10 => st10 s v
 | 11 => st11 s v
 | 12 => st12 s v
 | 13 => st13 s v
 | 14 => st14 s v
 | _ => (s, v)
noncomputable def stX : Nat → FI → LVal → FI × LVal := stG stO
theorem FI.raw_short (s : FI) (z : Int) : (s.raw z).1.l.length ≤ s.l.length := by
 unfold FI.raw
 split
 ·simp [FI.fail]
 ·exact FI.next_short1 _ _
theorem FI.raw_bytesI (s : FI) (z : Int) (h : bytesB s.l) : bytesB (s.raw z).1.l := by
 unfold FI.raw
 split
 ·exact bytesB_nil
 ·exact FI.next_l _ _ h
theorem FI.text_bytesI (s : FI) (z : Int) (h : bytesB s.l) : bytesB (s.text z).1.l := by
 unfold FI.text
 split
 ·split
  ·exact bytesB_nil
  ·exact FI.raw_bytesI _ _ (FI.next_l _ _ h)
 ·exact FI.next_l _ _ h
theorem wrongF_l (s : FI) : (wrongF s).l = [] := by
 unfold wrongF FI.raw
 rw [if_pos (by omega)]; rfl
theorem getUi_short (s : FI) : (getUi s).l.length ≤ s.l.length := Nat.le_trans (FI.text_short _ _) (gs_short s)
theorem getUi_bytes (s : FI) (h : bytesB s.l) : bytesB (getUi s).l := FI.text_bytesI _ _ (gs_bytes s h).2.2.2.2.2
theorem upsG_short (s : FI) : ∀ j, (upsG s j).1.l.length ≤ s.l.length
 | 0 => Nat.le_refl _
 | j + 1 => Nat.le_trans (getUi_short _) (upsG_short s j)
theorem upsG_len (s : FI) : ∀ j, (upsG s j).2.length = j
 | 0 => rfl
 | j + 1 => by rw [upsG]; simp only [List.length_append, upsG_len s j, List.length_singleton]
theorem voteI_short (s : FI) : (voteI s).l.length ≤ s.l.length := Nat.le_trans (FI.raw_short _ _) (Nat.le_trans (FI.upto_short _ _ _) (FI.upto_short _ _ _))
theorem votsG_short (s : FI) : ∀ j, (votsG s j).1.l.length ≤ s.l.length
 | 0 => Nat.le_refl _
 | j + 1 => by
  have ih := votsG_short s j
  rw [votsG]
  split
  ·exact ih
  ·split
   ·simp only [wrongF_l]; simp
   ·exact Nat.le_trans (voteI_short _) ih
theorem votsG_len (s : FI) : ∀ j, (votsG s j).2.1.length ≤ j
 | 0 => Nat.le_refl _
 | j + 1 => by
  have ih := votsG_len s j
  rw [votsG]
  split
  ·omega
  ·split
   ·simp only; omega
   ·simp only [List.length_append, List.length_singleton]; omega
theorem k6_short (s : FI) : (k6 s).1.l.length ≤ s.l.length :=
 Nat.le_trans (FI.raw_short _ _) (Nat.le_trans (FI.upto_short _ _ _) (Nat.le_trans (FI.upto_short _ _ _) (Nat.le_trans (FI.upto_short _ _ _) (Nat.le_trans (FI.upto_short _ _ _) (FI.upto_short _ _ _)))))
theorem stO_short (i : Nat) (s : FI) (v : LVal) : (stO i s v).1.l.length ≤ s.l.length := by
 unfold stO
 split
 ·unfold st10
  simp only
  split
  ·simp [wrongF_l]
  ·exact FI.raw_short _ _
 ·unfold st11
  simp only
  split
  ·simp [wrongF_l]
  ·exact k6_short _
 ·exact Nat.le_trans (votsG_short _ _) (FI.upto_short _ _ _)
 ·exact Nat.le_trans (upsG_short _ _) (FI.upto_short _ _ _)
 ·exact FI.text_short _ _
 ·exact Nat.le_refl _
theorem stX_short (i : Nat) (s : FI) (v : LVal) : (stX i s v).1.l.length ≤ s.l.length := stG_short stO stO_short i s v
theorem ks_bytes (s : FI) (h : bytesB s.l) : bytesB (k1 s).1.l ∧ bytesB (k2 s).1.l ∧ bytesB (k3 s).1.l ∧ bytesB (k4 s).1.l ∧ bytesB (k5 s).1.l := by
 have h1 : bytesB (k1 s).1.l := FI.upto_bytes _ _ _ h
 have h2 : bytesB (k2 s).1.l := FI.upto_bytes _ _ _ h1
 have h3 : bytesB (k3 s).1.l := FI.upto_bytes _ _ _ h2
 have h4 : bytesB (k4 s).1.l := FI.upto_bytes _ _ _ h3
 exact ⟨h1, h2, h3, h4, FI.upto_bytes _ _ _ h4⟩
theorem ks_lt (s : FI) (h : bytesB s.l) : (k1 s).2 < 256 ∧ (k2 s).2 < 18446744073709551616 ∧ (k4 s).2 < 256 ∧ (k5 s).2 < 256 := by
 obtain ⟨h1, h2, h3, h4, _⟩ := ks_bytes s h
 exact ⟨FI.upto_lt s 1 _ h, FI.upto_lt _ 8 _ h1, FI.upto_lt _ 1 _ h3, FI.upto_lt _ 1 _ h4⟩
theorem k6_len (s : FI) (h : bytesB s.l) : (k6 s).2.length ≤ 255 := by
 have := (ks_lt s h).2.2.2
 have := raw_len (k5 s).1 (k5 s).2
 unfold k6
 omega
theorem k6_bytes (s : FI) (h : bytesB s.l) : bytesB (k6 s).2 := raw_bytes2 _ _ (ks_bytes s h).2.2.2.2
end Go.Proofs.YtmpedblelnpjdaaGreatDoor
