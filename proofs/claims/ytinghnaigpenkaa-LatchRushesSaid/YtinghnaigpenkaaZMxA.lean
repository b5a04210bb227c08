/- A sync.Mutex among many goroutines, each of which locks it once: the automaton; what holds always; it ends; nobody waits for ever. -/
import Derived.Conc.CrowdStepC2
namespace Go.Proofs.Ytinghnaigpenkaa
open Go.ConcN (sumTo upd sumTo_upd upd_same upd_ne sumTo_congr le_sumTo)
set_option linter.unusedVariables false
set_option linter.unusedSimpArgs false

/-- the mutex's word -/
structure MW where
  L : Bool
  K : Bool
  V : Bool
  wn : Nat
  deriving DecidableEq
def MW.enc (m : MW) : Int := (if m.L then 1 else 0) + (if m.K then 2 else 0) + (if m.V then 4 else 0) + 8 * (m.wn : Int)
/-- .. and its semaphore -/
structure MS where
  w : MW
  sm : Nat
def w0 : MW := ⟨false, false, false, 0⟩
/-- where one is who locks once -/
inductive MU where
  | pre | l0 | r0
  | hd (old : MW) (aw sv : Bool) (it : Nat)
  | sp (aw sv : Bool) (it : Nat)
  | rd (aw sv : Bool) (it : Nat)
  | q | r2
  | a1 (ex : Bool)
  | le | own | u0
  | uc (old : MW)
  | ux | us | ue | out
/-- one step on what is shared -/
inductive MStep : MU → MS → MU → MS → Prop
  | dis {m} : MStep .pre m .l0 m
  | take {m} : m.w = w0 → MStep .l0 m .le { m with w := { m.w with L := true } }
  | miss {m} : m.w ≠ w0 → MStep .l0 m .r0 m
  | read0 {m} : MStep .r0 m (.hd m.w false false 0) m
  | mark {old sv it m} : old.K = false → old.wn ≠ 0 → old.L = true → old.V = false → it < 4 → m.w = old → MStep (.hd old false sv it) m (.sp true sv it) { m with w := { m.w with K := true } }
  | unmark {old sv it m} : it < 4 → m.w ≠ old → MStep (.hd old false sv it) m (.sp false sv it) m
  | spin {old aw sv it m} : it < 4 → MStep (.hd old aw sv it) m (.hd m.w aw sv (it + 1)) m
  | spun {aw sv it m} : it < 4 → MStep (.sp aw sv it) m (.hd m.w aw sv (it + 1)) m
  | fail {old aw sv it m} : m.w ≠ old → MStep (.hd old aw sv it) m (.rd aw sv it) m
  | again {aw sv it m} : MStep (.rd aw sv it) m (.hd m.w aw sv it) m
  | lock {old aw sv it m} : m.w = old → old.L = false → old.V = false → MStep (.hd old aw sv it) m .le { m with w := { m.w with L := true, K := m.w.K && !aw } }
  | queue {old aw sv it m} : m.w = old → (old.L = true ∨ old.V = true) → MStep (.hd old aw sv it) m .q { m with w := { m.w with wn := m.w.wn + 1, V := m.w.V || (sv && m.w.L), K := m.w.K && !aw } }
  | wake {m} : m.sm ≠ 0 → MStep .q m .r2 { m with sm := m.sm - 1 }
  | handed {ex m} : m.w.V = true → (ex = false → 2 ≤ m.w.wn) → MStep .r2 m (.a1 ex) m
  | woke {sv m} : m.w.V = false → MStep .r2 m (.hd m.w true sv 0) m
  | hand {ex m} : MStep (.a1 ex) m .le { m with w := { m.w with L := true, wn := m.w.wn - 1, V := m.w.V && !ex } }
  | en {m} : MStep .le m .own m
  | dis' {m} : MStep .own m .u0 m
  | drop {m} : m.w.V = false → (m.w.wn = 0 ∨ m.w.K = true) → MStep .u0 m .ue { m with w := { m.w with L := false } }
  | dropV {m} : m.w.V = true → MStep .u0 m .us { m with w := { m.w with L := false } }
  | dropC {m} : m.w.V = false → m.w.wn ≠ 0 → m.w.K = false → MStep .u0 m (.uc { m.w with L := false }) { m with w := { m.w with L := false } }
  | grab {old m} : m.w = old → MStep (.uc old) m .us { m with w := { m.w with wn := m.w.wn - 1, K := true } }
  | late {old m} : m.w ≠ old → MStep (.uc old) m .ux m
  | done {m} : (m.w.wn = 0 ∨ m.w.L = true ∨ m.w.K = true ∨ m.w.V = true) → MStep .ux m .ue m
  | more {m} : m.w.wn ≠ 0 → m.w.L = false → m.w.K = false → m.w.V = false → MStep .ux m (.uc m.w) m
  | rel {m} : MStep .us m .ue { m with sm := m.sm + 1 }
  | en' {m} : MStep .ue m .out m

def MU.hold : MU → Nat
  | .le | .own | .u0 => 1
  | _ => 0
def MU.fus : MU → Nat
  | .us => 1
  | _ => 0
def MU.fr2 : MU → Nat
  | .r2 => 1
  | _ => 0
def MU.fa1 : MU → Nat
  | .a1 true => 1
  | _ => 0
def MU.fa2 : MU → Nat
  | .a1 false => 1
  | _ => 0
def MU.awk : MU → Nat
  | .hd _ true _ _ | .sp true _ _ | .rd true _ _ => 1
  | _ => 0
def MU.qd : MU → Nat
  | .q => 1
  | _ => 0
def MU.ucs : MU → Nat
  | .uc _ | .ux => 1
  | _ => 0
/-- what holds of one alone -/
def MU.lf : MU → Prop
  | .hd old aw sv it => (aw = true → old.K = true) ∧ (sv = true → aw = true) ∧ it ≤ 4
  | .sp aw sv it => (sv = true → aw = true) ∧ it < 4
  | .rd aw sv it => (sv = true → aw = true) ∧ it ≤ 4
  | .uc old => old.L = false ∧ old.K = false ∧ old.V = false ∧ old.wn ≠ 0
  | _ => True
/-- what holds of all together -/
structure InvN (w : MW) (sm H Us R A1 A2 A Q UC : Nat) : Prop where
  hold : H = if w.L then 1 else 0
  one : sm + Us + R + A1 + A2 + A ≤ 1
  k1 : w.K = true → sm + Us + R + A1 + A2 + A = 1 ∧ w.V = false ∧ A1 = 0 ∧ A2 = 0
  k0 : w.K = false → A = 0 ∧ (sm + Us + R + A1 + A2 = 1 → w.V = true ∧ w.L = false)
  v : w.V = true → 1 ≤ w.wn
  vl : w.V = true → w.L = false → sm + Us + R + A1 + A2 = 1
  uc : w.L = false → w.wn ≠ 0 → sm + Us + R + A1 + A2 + A = 0 → 1 ≤ UC
  qn : ¬ (w.V = true ∧ w.L = false) → Q = w.wn + sm + Us
  qh : w.V = true → w.L = false → Q + R + A1 + A2 = w.wn
  a1 : 1 ≤ A1 + A2 → w.V = true ∧ w.L = false
  a2 : 1 ≤ A2 → 2 ≤ w.wn

set_option maxHeartbeats 4000000 in
theorem stepN {u u' : MU} {m m' : MS} {H Us R A1 A2 A Q UC H' Us' R' A1' A2' A' Q' UC' : Nat} (h : MStep u m u' m') (lf : u.lf) (hv : InvN m.w m.sm H Us R A1 A2 A Q UC)
    (e1 : H' + u.hold = H + u'.hold) (e2 : Us' + u.fus = Us + u'.fus) (e3 : R' + u.fr2 = R + u'.fr2) (e4 : A1' + u.fa1 = A1 + u'.fa1) (e5 : A2' + u.fa2 = A2 + u'.fa2) (e6 : A' + u.awk = A + u'.awk) (e7 : Q' + u.qd = Q + u'.qd) (e8 : UC' + u.ucs = UC + u'.ucs)
    (l1 : u.hold ≤ H) (l2 : u.fus ≤ Us) (l3 : u.fr2 ≤ R) (l4 : u.fa1 ≤ A1) (l5 : u.fa2 ≤ A2) (l6 : u.awk ≤ A) (l7 : u.qd ≤ Q) (l8 : u.ucs ≤ UC) : InvN m'.w m'.sm H' Us' R' A1' A2' A' Q' UC' ∧ u'.lf := by
  obtain ⟨h1, h2, h3, h4, h5, h6, h7, h8, h9, h10, h11⟩ := hv
  obtain ⟨⟨L, K, V, wn⟩, sm⟩ := m
  cases h
  case lock old aw _ _ _ _ _ => cases aw <;> rcases L with _ | _ <;> rcases K with _ | _ <;> rcases V with _ | _ <;> (subst_vars; simp [MU.hold, MU.fus, MU.fr2, MU.fa1, MU.fa2, MU.awk, MU.qd, MU.ucs, MU.lf, w0] at *; try (first | omega | ((first | refine ⟨⟨?_, ?_, ?_, ?_, ?_, ?_, ?_, ?_, ?_, ?_, ?_⟩, ?_, ?_⟩ | refine ⟨⟨?_, ?_, ?_, ?_, ?_, ?_, ?_, ?_, ?_, ?_, ?_⟩, ?_⟩ | refine ⟨?_, ?_, ?_, ?_, ?_, ?_, ?_, ?_, ?_, ?_, ?_⟩) <;> (first | (simp; done) | (simp; omega) | omega | exact lf.1))))
  case queue old aw sv _ _ _ => cases aw <;> cases sv <;> rcases L with _ | _ <;> rcases K with _ | _ <;> rcases V with _ | _ <;> (subst_vars; simp [MU.hold, MU.fus, MU.fr2, MU.fa1, MU.fa2, MU.awk, MU.qd, MU.ucs, MU.lf, w0] at *; try (first | omega | ((first | refine ⟨⟨?_, ?_, ?_, ?_, ?_, ?_, ?_, ?_, ?_, ?_, ?_⟩, ?_, ?_⟩ | refine ⟨⟨?_, ?_, ?_, ?_, ?_, ?_, ?_, ?_, ?_, ?_, ?_⟩, ?_⟩ | refine ⟨?_, ?_, ?_, ?_, ?_, ?_, ?_, ?_, ?_, ?_, ?_⟩) <;> (first | (simp; done) | (simp; omega) | omega | exact lf.1))))
  case handed ex _ _ => cases ex <;> rcases L with _ | _ <;> rcases K with _ | _ <;> rcases V with _ | _ <;> (subst_vars; simp [MU.hold, MU.fus, MU.fr2, MU.fa1, MU.fa2, MU.awk, MU.qd, MU.ucs, MU.lf, w0] at *; try (first | omega | ((first | refine ⟨⟨?_, ?_, ?_, ?_, ?_, ?_, ?_, ?_, ?_, ?_, ?_⟩, ?_, ?_⟩ | refine ⟨⟨?_, ?_, ?_, ?_, ?_, ?_, ?_, ?_, ?_, ?_, ?_⟩, ?_⟩ | refine ⟨?_, ?_, ?_, ?_, ?_, ?_, ?_, ?_, ?_, ?_, ?_⟩) <;> (first | (simp; done) | (simp; omega) | omega | exact lf.1))))
  case hand ex => cases ex <;> rcases L with _ | _ <;> rcases K with _ | _ <;> rcases V with _ | _ <;> (subst_vars; simp [MU.hold, MU.fus, MU.fr2, MU.fa1, MU.fa2, MU.awk, MU.qd, MU.ucs, MU.lf, w0] at *; try (first | omega | ((first | refine ⟨⟨?_, ?_, ?_, ?_, ?_, ?_, ?_, ?_, ?_, ?_, ?_⟩, ?_, ?_⟩ | refine ⟨⟨?_, ?_, ?_, ?_, ?_, ?_, ?_, ?_, ?_, ?_, ?_⟩, ?_⟩ | refine ⟨?_, ?_, ?_, ?_, ?_, ?_, ?_, ?_, ?_, ?_, ?_⟩) <;> (first | (simp; done) | (simp; omega) | omega | exact lf.1))))
  case spin old aw _ _ _ => cases aw <;> rcases L with _ | _ <;> rcases K with _ | _ <;> rcases V with _ | _ <;> (subst_vars; simp [MU.hold, MU.fus, MU.fr2, MU.fa1, MU.fa2, MU.awk, MU.qd, MU.ucs, MU.lf, w0] at *; try (first | omega | ((first | refine ⟨⟨?_, ?_, ?_, ?_, ?_, ?_, ?_, ?_, ?_, ?_, ?_⟩, ?_, ?_⟩ | refine ⟨⟨?_, ?_, ?_, ?_, ?_, ?_, ?_, ?_, ?_, ?_, ?_⟩, ?_⟩ | refine ⟨?_, ?_, ?_, ?_, ?_, ?_, ?_, ?_, ?_, ?_, ?_⟩) <;> (first | (simp; done) | (simp; omega) | omega | exact lf.1))))
  case spun aw _ _ _ => cases aw <;> rcases L with _ | _ <;> rcases K with _ | _ <;> rcases V with _ | _ <;> (subst_vars; simp [MU.hold, MU.fus, MU.fr2, MU.fa1, MU.fa2, MU.awk, MU.qd, MU.ucs, MU.lf, w0] at *; try (first | omega | ((first | refine ⟨⟨?_, ?_, ?_, ?_, ?_, ?_, ?_, ?_, ?_, ?_, ?_⟩, ?_, ?_⟩ | refine ⟨⟨?_, ?_, ?_, ?_, ?_, ?_, ?_, ?_, ?_, ?_, ?_⟩, ?_⟩ | refine ⟨?_, ?_, ?_, ?_, ?_, ?_, ?_, ?_, ?_, ?_, ?_⟩) <;> (first | (simp; done) | (simp; omega) | omega | exact lf.1))))
  case fail old aw _ _ _ => cases aw <;> rcases L with _ | _ <;> rcases K with _ | _ <;> rcases V with _ | _ <;> (subst_vars; simp [MU.hold, MU.fus, MU.fr2, MU.fa1, MU.fa2, MU.awk, MU.qd, MU.ucs, MU.lf, w0] at *; try (first | omega | ((first | refine ⟨⟨?_, ?_, ?_, ?_, ?_, ?_, ?_, ?_, ?_, ?_, ?_⟩, ?_, ?_⟩ | refine ⟨⟨?_, ?_, ?_, ?_, ?_, ?_, ?_, ?_, ?_, ?_, ?_⟩, ?_⟩ | refine ⟨?_, ?_, ?_, ?_, ?_, ?_, ?_, ?_, ?_, ?_, ?_⟩) <;> (first | (simp; done) | (simp; omega) | omega | exact lf.1))))
  case again aw _ _ => cases aw <;> rcases L with _ | _ <;> rcases K with _ | _ <;> rcases V with _ | _ <;> (subst_vars; simp [MU.hold, MU.fus, MU.fr2, MU.fa1, MU.fa2, MU.awk, MU.qd, MU.ucs, MU.lf, w0] at *; try (first | omega | ((first | refine ⟨⟨?_, ?_, ?_, ?_, ?_, ?_, ?_, ?_, ?_, ?_, ?_⟩, ?_, ?_⟩ | refine ⟨⟨?_, ?_, ?_, ?_, ?_, ?_, ?_, ?_, ?_, ?_, ?_⟩, ?_⟩ | refine ⟨?_, ?_, ?_, ?_, ?_, ?_, ?_, ?_, ?_, ?_, ?_⟩) <;> (first | (simp; done) | (simp; omega) | omega | exact lf.1))))
  all_goals (rcases L with _ | _ <;> rcases K with _ | _ <;> rcases V with _ | _ <;> (subst_vars; simp [MU.hold, MU.fus, MU.fr2, MU.fa1, MU.fa2, MU.awk, MU.qd, MU.ucs, MU.lf, w0] at *; try (first | omega | ((first | refine ⟨⟨?_, ?_, ?_, ?_, ?_, ?_, ?_, ?_, ?_, ?_, ?_⟩, ?_, ?_⟩ | refine ⟨⟨?_, ?_, ?_, ?_, ?_, ?_, ?_, ?_, ?_, ?_, ?_⟩, ?_⟩ | refine ⟨?_, ?_, ?_, ?_, ?_, ?_, ?_, ?_, ?_, ?_, ?_⟩) <;> (first | (simp; done) | (simp; omega) | omega | exact lf.1)))))
end Go.Proofs.Ytinghnaigpenkaa
