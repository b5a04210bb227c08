/- Seat 05: lockSlow, called by a worker. -/
import Derived.Test.YtinghnaigpenkaaZMxG
namespace Go.Proofs.Ytinghnaigpenkaa
open Go.Conc Go.RowKit Go.ConcR.Gen
open Go.ConcR (Payload rd wr mk)
set_option linter.unusedVariables false
set_option linter.unusedSimpArgs false
set_option linter.unusedSectionVars false
set_option maxRecDepth 100000
set_option maxHeartbeats 1000000
section
variable {P : Program} {c : Cfg} {k C N n : Nat} {fn : FuncId} {u : c.U} {Q : Nat → c.U → Exit → Act → World → Prop} {a : Act} {w : World} {T : Array Value}
theorem cv_cond {i : Nat} {b : Bool} {x y : Code} (h : T[i]? = some (.bool b)) (hx : CodeV P c k C fn (if b then x else y) n N u Q ⟨T, []⟩ w) : CodeV P c k C fn (.cond (.tmp i) x y) (n + 1) N u Q ⟨T, []⟩ w :=
  codeV_cond (by simp [Act.eval, h]) hx
theorem cv_skip (h : Q N u .normal a w) : CodeV P c k C fn .skip (n + 1) N u Q a w := codeV_more (codeV_of (wpC_skip (termsW c C) h)) (by omega)
theorem cv_exit {id : Nat} (h : Q N u (.exit id) a w) : CodeV P c k C fn (.exit id) (n + 1) N u Q a w := codeV_more (codeV_of (wpC_exit (termsW c C) h)) (by omega)
theorem cv_seq {x y : Code} {n₁ n₂ : Nat} (hn : n₁ + n₂ + 1 ≤ n) (h : CodeV P c k C fn x n₁ N u (ThenV c (fun N' u' a' w' => CodeV P c k C fn y n₂ N' u' Q a' w') Q) a w) : CodeV P c k C fn (.seq x y) n N u Q a w := codeV_more (codeV_seq h) hn
end
section
variable {c : Cfg} {X : MxI c} {k C N : Nat} {u₀ : c.U} {F : World → Prop} {Q : Nat → c.U → Exit → Act → World → Prop} {T : Array Value} {ws : Int} {sv aw : Bool} {it : Nat} {m : MW} {w : World} {u : c.U} {p : Value}
theorem m75_12 (hS : Stays c C F) (hm : m.wn < 80) (hF : F w) (h : FRm T p ws sv aw it m) (h7 : T[7]? = some (.int .i32 m.enc))
    (hq : ∀ T' w', F w' → FRm T' p ws sv aw it m → T'[7]? = some (.int .i32 (if m.V then m else { m with L := true } : MW).enc) → Q N u .normal ⟨T', []⟩ w') : CodeV Try.prog c k C 75 (.seq (.region 12 o75_12 false) (.cond (.tmp 52) (.region 13 o75_13 false) .skip)) 100 N u Q ⟨T, []⟩ w := by
  refine cv_seq (n₁ := 40) (n₂ := 41) (by decide) (g75_12 hS.rely hm h7 hF h fun T1 w1 hF1 h1 h71 hc => ?_)
  refine cv_cond hc ?_
  cases hV : m.V
  · simp only [hV] at hq
    exact g75_13 hS.rely h71 (or1 m hm) hF1 h1 fun T2 w2 hF2 h2 h72 => hq T2 w2 hF2 h2 (by rw [h72]; simp [hV])
  · simp only [hV] at hq
    exact cv_skip (n := 39) (hq T1 w1 hF1 h1 (by rw [h71]; simp))
theorem m75_14 (hS : Stays c C F) {y : MW} (hm : m.wn < 80) (hy : y.wn < 79) (hF : F w) (h : FRm T p ws sv aw it m) (h7 : T[7]? = some (.int .i32 y.enc))
    (hq : ∀ T' w', F w' → FRm T' p ws sv aw it m → T'[7]? = some (.int .i32 (if m.L || m.V then { y with wn := y.wn + 1 } else y : MW).enc) → Q N u .normal ⟨T', []⟩ w') : CodeV Try.prog c k C 75 (.seq (.region 14 o75_14 false) (.cond (.tmp 57) (.region 15 o75_15 false) .skip)) 100 N u Q ⟨T, []⟩ w := by
  refine cv_seq (n₁ := 40) (n₂ := 41) (by decide) (g75_14 hS.rely hm h7 hF h fun T1 w1 hF1 h1 h71 hc => ?_)
  refine cv_cond hc ?_
  cases hV : (m.L || m.V)
  · simp only [hV] at hq
    exact cv_skip (n := 39) (hq T1 w1 hF1 h1 h71)
  · simp only [hV] at hq
    refine g75_15 hS.rely (z := ({ y with wn := y.wn + 1 } : MW).enc) h71 ?_ hF1 h1 fun T2 w2 hF2 h2 h72 => hq T2 w2 hF2 h2 h72
    rw [IntKind.wrap_i32]
    have := enc_lt y (by omega)
    simp only [MW.enc] at this ⊢
    omega
theorem m75_16 (hS : Stays c C F) {y : MW} (hm : m.wn < 80) (hy : y.wn < 80) (hF : F w) (h : FRm T p ws sv aw it m) (h7 : T[7]? = some (.int .i32 y.enc))
    (hq : ∀ T' w', F w' → FRm T' p ws sv aw it m → T'[7]? = some (.int .i32 (if sv && m.L then { y with V := true } else y : MW).enc) → Q N u .normal ⟨T', []⟩ w') : CodeV Try.prog c k C 75 (.seq (.region 16 o75_16 false) (.cond (.tmp 65) (.region 17 o75_17 false) .skip)) 100 N u Q ⟨T, []⟩ w := by
  refine cv_seq (n₁ := 40) (n₂ := 41) (by decide) (g75_16 hS.rely hm h7 hF h fun T1 w1 hF1 h1 h71 hc => ?_)
  refine cv_cond hc ?_
  cases hV : (sv && m.L)
  · simp only [hV] at hq
    exact cv_skip (n := 39) (hq T1 w1 hF1 h1 h71)
  · simp only [hV] at hq
    exact g75_17 hS.rely h71 (or4 y hy) hF1 h1 fun T2 w2 hF2 h2 h72 => hq T2 w2 hF2 h2 h72
theorem m75_18 (hS : Stays c C F) {y : MW} (hy : y.wn < 80) (hK : aw = true → y.K = true) (hF : F w) (h : FRm T p ws sv aw it m) (h7 : T[7]? = some (.int .i32 y.enc))
    (hq : ∀ T' w', F w' → FRm T' p ws sv aw it m → T'[7]? = some (.int .i32 (if aw then { y with K := false } else y : MW).enc) → Q N u .normal ⟨T', []⟩ w') :
    CodeV Try.prog c k C 75 (.seq (.region 18 o75_18 false) (.cond (.tmp 68) (.seq (.seq (.region 19 o75_19 false) (.cond (.tmp 71) (.region 20 o75_20 false) .skip)) (.region 21 o75_21 false)) .skip)) 200 N u Q ⟨T, []⟩ w := by
  refine cv_seq (n₁ := 40) (n₂ := 141) (by decide) (g75_18 hS.rely h7 hF h fun T1 w1 hF1 h1 h71 hc => ?_)
  refine cv_cond hc ?_
  cases aw
  · exact cv_skip (n := 139) (hq T1 w1 hF1 h1 h71)
  · have a2 := and2 y hy
    rw [if_pos (hK rfl)] at a2
    refine cv_seq (n₁ := 90) (n₂ := 40) (by decide) ?_
    refine cv_seq (n₁ := 40) (n₂ := 41) (by decide) (g75_19 hS.rely h71 a2 hF1 h1 fun T2 w2 hF2 h2 h72 hc2 => ?_)
    refine cv_cond hc2 (cv_skip (n := 39) ?_)
    exact g75_21 hS.rely h72 (andNot2 y hy) hF2 h2 fun T3 w3 hF3 h3 h73 => hq T3 w3 hF3 h3 h73
/-- what lockSlow would make of the word -/
theorem mid75 (hS : Stays c C F) {z : Code} {nz : Nat} (hm : m.wn ≤ 70) (hK : aw = true → m.K = true) (hF : F w) (h : FRm T p ws sv aw it m)
    (hq : ∀ T' w', F w' → FRm T' p ws sv aw it m → T'[7]? = some (.int .i32 (newW m sv aw).enc) → CodeV Try.prog c k C 75 z nz N u Q ⟨T', []⟩ w') :
    CodeV Try.prog c k C 75 (.seq (.region 11 o75_11 false) (.seq (.seq (.region 12 o75_12 false) (.cond (.tmp 52) (.region 13 o75_13 false) .skip)) (.seq (.seq (.region 14 o75_14 false) (.cond (.tmp 57) (.region 15 o75_15 false) .skip)) (.seq (.seq (.region 16 o75_16 false) (.cond (.tmp 65) (.region 17 o75_17 false) .skip)) (.seq (.seq (.region 18 o75_18 false) (.cond (.tmp 68) (.seq (.seq (.region 19 o75_19 false) (.cond (.tmp 71) (.region 20 o75_20 false) .skip)) (.region 21 o75_21 false)) .skip)) z))))) (nz + 600) N u Q ⟨T, []⟩ w := by
  refine cv_seq (n₁ := 40) (n₂ := nz + 559) (by omega) (codeV_more (g75_11 hS.rely hF h fun T1 w1 hF1 h1 h71 => ?_) (by decide))
  refine cv_seq (n₁ := 100) (n₂ := nz + 458) (by omega) (m75_12 hS (by omega) hF1 h1 h71 fun T2 w2 hF2 h2 h72 => ?_)
  refine cv_seq (n₁ := 100) (n₂ := nz + 357) (by omega) (m75_14 hS (by omega) (by split <;> first | omega | (simp; omega)) hF2 h2 h72 fun T3 w3 hF3 h3 h73 => ?_)
  refine cv_seq (n₁ := 100) (n₂ := nz + 256) (by omega) (m75_16 hS (by omega) (by split <;> split <;> first | omega | (simp; omega)) hF3 h3 h73 fun T4 w4 hF4 h4 h74 => ?_)
  refine cv_seq (n₁ := 200) (n₂ := nz) (by omega) (m75_18 hS (by split <;> split <;> split <;> first | omega | (simp; omega)) (fun e => by have := hK e; split <;> split <;> split <;> simpa using this) hF4 h4 h74 fun T5 w5 hF5 h5 h75 => ?_)
  refine hq T5 w5 hF5 h5 ?_
  rw [h75]
  congr 2
  obtain ⟨L, K, V, wn⟩ := m
  cases L <;> cases V <;> cases sv <;> cases aw <;> simp [newW]
end
end Go.Proofs.Ytinghnaigpenkaa
