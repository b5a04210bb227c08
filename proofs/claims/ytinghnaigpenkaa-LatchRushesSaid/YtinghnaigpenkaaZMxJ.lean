/- Seat 05: lockSlow, called by a worker: a turn, a wait, the loop. -/
import Derived.Test.YtinghnaigpenkaaZMxH
namespace Go.Proofs.Ytinghnaigpenkaa
open Go.Conc Go.RowKit Go.ConcR.Gen
open Go.ConcR (Payload rd wr mk)
set_option linter.unusedVariables false
set_option linter.unusedSimpArgs false
set_option linter.unusedSectionVars false
set_option maxRecDepth 100000
set_option maxHeartbeats 1000000
section
variable {c : Cfg} {X : MxI c} {k C N : Nat} {u₀ : c.U} {F : World → Prop} {Q : Nat → c.U → Exit → Act → World → Prop} {T : Array Value} {ws : Int} {sv aw : Bool} {it : Nat} {m : MW} {w : World} {u : c.U}
abbrev FRx (X : MxI c) (T : Array Value) (ws : Int) (sv aw : Bool) (it : Nat) (m : MW) : Prop := FRm T (.pointer (some X.st)) ws sv aw it m
/-- a turn -/
theorem spin75 (K : c.Ok) (hX : X.Ok) (hl : X.Lk u₀) (hS : Stays c C F) (hm : m.wn ≤ 70) (hK : aw = true → m.K = true) (hL : m.L = true) (hV : m.V = false) (hit : it < 4) (hF : F w) (h : FRx X T ws sv aw it m)
    (hq : ∀ N1 T' w' m' aw', N1 < N → F w' → FRx X T' ws sv aw' (it + 1) m' → m'.wn ≤ 70 → (aw' = true → m'.K = true) → Q N1 (X.put u₀ (.hd m' aw' sv (it + 1))) (.exit 1) ⟨T', []⟩ w') :
    CodeV Try.prog c k C 75 (.seq (.seq (.region 6 o75_6 false) (.cond (.tmp 41) (.region 7 o75_7 false) .skip)) (.seq (.region 8 o75_8 false) (.seq (.region 9 o75_9 false) (.seq (.region 10 o75_10 false) (.exit 1))))) 400 N (X.put u₀ (.hd m aw sv it)) Q ⟨T, []⟩ w := by
  have rest : ∀ N' mu' T' w' aw', ((N' ≤ N ∧ (mu' = .hd m aw' sv it ∨ mu' = .sp aw' sv it)) → F w' → FRx X T' ws sv aw' it m →
      CodeV Try.prog c k C 75 (.seq (.region 8 o75_8 false) (.seq (.region 9 o75_9 false) (.seq (.region 10 o75_10 false) (.exit 1)))) 200 N' (X.put u₀ mu') Q ⟨T', []⟩ w') := by
    rintro N' mu' T' w' aw' ⟨hN, hmu⟩ hF' h'
    refine cv_seq (n₁ := 40) (n₂ := 159) (by decide) (g75_8 K hX hl hS hF' h' fun T1 w1 hF1 h1 => ?_)
    refine cv_seq (n₁ := 40) (n₂ := 118) (by decide) (codeV_more (g75_9 hS.rely (by omega) hF1 h1 fun T2 w2 hF2 h2 => ?_) (by decide))
    refine cv_seq (n₁ := 40) (n₂ := 77) (by decide) (g75_10 K hX hl hS hmu hit hF2 h2 fun N1 T3 w3 m3 mu3 hN1 hF3 hw3 h3 hR => ?_)
    obtain ⟨rfl, hk3⟩ := hR
    exact cv_exit (n := 76) (hq N1 T3 w3 m3 aw' (by omega) hF3 h3 hw3 hk3)
  refine cv_seq (n₁ := 90) (n₂ := 200) (by decide) ?_
  refine cv_seq (n₁ := 40) (n₂ := 41) (by decide) (g75_6 K hX hl hS (by omega) hL hV hit hF h fun N' mu' T1 w1 b hcase hF1 h1 hc => ?_)
  refine cv_cond hc ?_
  rcases hcase with ⟨rfl, rfl, rfl⟩ | ⟨hN, rfl, rfl⟩
  · exact cv_skip (n := 39) (rest _ _ _ _ aw ⟨Nat.le_refl _, .inl rfl⟩ hF1 h1)
  · cases b
    · exact cv_skip (n := 39) (rest _ _ _ _ false ⟨by omega, .inr rfl⟩ hF1 h1)
    · exact codeV_more (g75_7 hS.rely hF1 h1 fun T2 w2 hF2 h2 => rest _ _ _ _ true ⟨by omega, .inr rfl⟩ hF2 h2) (by decide)
/-- handed over -/
theorem hand75 (K : c.Ok) (hX : X.Ok) (hl : X.Lk u₀) (hS : Stays c C F) (hm : m.wn ≤ 70) (hL : m.L = false) (hK : m.K = false) (hw0 : m.wn ≠ 0) (hF : F w) (h : FRx X T ws sv aw it m)
    (hleave : ∀ N1 T' w', N = N1 + 1 → F w' → FRx X T' ws sv aw it m → Q N1 (X.put u₀ .le) (.exit 0) ⟨T', []⟩ w') :
    CodeV Try.prog c k C 75 (.seq (.seq (.region 31 o75_31 false) (.cond (.tmp 115) (.region 32 o75_32 false) .skip)) (.seq (.region 33 o75_33 false) (.seq (.seq (.region 34 o75_34 false) (.cond (.tmp 123) (.region 35 o75_35 false) .skip)) (.seq (.region 36 o75_36 false) (.exit 0))))) 400 N (X.put u₀ (.a1 (!sv || decide (m.wn = 1)))) Q ⟨T, []⟩ w := by
  refine cv_seq (n₁ := 90) (n₂ := 300) (by decide) ?_
  refine cv_seq (n₁ := 40) (n₂ := 41) (by decide) (g75_31 hS.rely (by omega) hL hK hw0 hF h fun T1 w1 hF1 h1 hc => ?_)
  refine cv_cond hc (cv_skip (n := 39) ?_)
  refine cv_seq (n₁ := 40) (n₂ := 250) (by decide) (g75_33 hS.rely hF1 h1 fun T2 w2 hF2 h2 h29 => ?_)
  refine cv_seq (n₁ := 90) (n₂ := 100) (by decide) ?_
  refine cv_seq (n₁ := 40) (n₂ := 41) (by decide) (g75_34 hS.rely (by omega) h29 hF2 h2 fun T3 w3 hF3 h3 h39 hc3 => ?_)
  refine cv_cond hc3 ?_
  have last : ∀ T' w', F w' → FRx X T' ws sv aw it m → T'[9]? = some (.int .i32 (if (!sv || decide (m.wn = 1)) then -11 else -7)) → CodeV Try.prog c k C 75 (.seq (.region 36 o75_36 false) (.exit 0)) 100 N (X.put u₀ (.a1 (!sv || decide (m.wn = 1)))) Q ⟨T', []⟩ w' := by
    intro T' w' hF' h' h9
    refine cv_seq (n₁ := 40) (n₂ := 50) (by decide) (g75_36 K hX hl hS h9 hF' h' fun N1 T4 w4 hN hF4 h4 => ?_)
    exact cv_exit (n := 49) (hleave N1 T4 w4 hN hF4 h4)
  cases hex : (!sv || decide (m.wn = 1))
  · rw [hex] at last
    exact cv_skip (n := 39) (last T3 w3 hF3 h3 h39)
  · rw [hex] at last
    exact g75_35 hS.rely h39 hF3 h3 fun T4 w4 hF4 h4 h49 => last T4 w4 hF4 h4 h49
/-- the wait -/
theorem wait75 (K : c.Ok) (hX : X.Ok) (hl : X.Lk u₀) (hS : Stays c C F) (hF : F w) (h : FRx X T ws sv aw it m)
    (hcont : ∀ N1 T' w' ws' sv' m', N1 < N → F w' → FRx X T' ws' sv' true 0 m' → m'.wn ≤ 70 → m'.K = true → Q N1 (X.put u₀ (.hd m' true sv' 0)) .normal ⟨T', []⟩ w')
    (hleave : ∀ N1 T' w' ws' sv' aw' it' m', N1 < N → F w' → FRx X T' ws' sv' aw' it' m' → Q N1 (X.put u₀ .le) (.exit 0) ⟨T', []⟩ w') :
    CodeV Try.prog c k C 75 (.seq (.region 24 o75_24 false) (.seq (.seq (.region 25 o75_25 false) (.cond (.tmp 87) (.region 26 o75_26 false) .skip)) (.seq (.region 27 o75_27 false) (.seq (.region 28 o75_28 false) (.seq (.region 29 o75_29 false) (.seq (.seq (.region 30 o75_30 false) (.cond (.tmp 107) (.seq (.seq (.region 31 o75_31 false) (.cond (.tmp 115) (.region 32 o75_32 false) .skip)) (.seq (.region 33 o75_33 false) (.seq (.seq (.region 34 o75_34 false) (.cond (.tmp 123) (.region 35 o75_35 false) .skip)) (.seq (.region 36 o75_36 false) (.exit 0))))) .skip)) (.seq (.region 37 o75_37 false) (.region 38 o75_38 false)))))))) 1000 N (X.put u₀ .q) Q ⟨T, []⟩ w := by
  refine cv_seq (n₁ := 40) (n₂ := 950) (by decide) (g75_24 hS.rely hF h fun T1 w1 hF1 h1 h18 => ?_)
  obtain ⟨q, h18⟩ := h18
  have down : ∀ T' w' ws', F w' → FRx X T' ws' sv aw it m → T'[8]? = some (.bool q) → CodeV Try.prog c k C 75 (.seq (.region 27 o75_27 false) (.seq (.region 28 o75_28 false) (.seq (.region 29 o75_29 false) (.seq (.seq (.region 30 o75_30 false) (.cond (.tmp 107) (.seq (.seq (.region 31 o75_31 false) (.cond (.tmp 115) (.region 32 o75_32 false) .skip)) (.seq (.region 33 o75_33 false) (.seq (.seq (.region 34 o75_34 false) (.cond (.tmp 123) (.region 35 o75_35 false) .skip)) (.seq (.region 36 o75_36 false) (.exit 0))))) .skip)) (.seq (.region 37 o75_37 false) (.region 38 o75_38 false)))))) 800 N (X.put u₀ .q) Q ⟨T', []⟩ w' := by
    intro T' w' ws' hF' h' h8
    refine cv_seq (n₁ := 40) (n₂ := 750) (by decide) (g75_27 K hX hl hS h8 hF' h' fun N1 T2 w2 hN1 hF2 h2 => ?_)
    refine cv_seq (n₁ := 40) (n₂ := 700) (by decide) (g75_28 K hX hl hS hF2 h2 fun T3 w3 sv' hF3 h3 => ?_)
    refine cv_seq (n₁ := 40) (n₂ := 650) (by decide) (g75_29 K hX hl hS hF3 h3 fun N2 T4 w4 m4 mu4 hN2 hF4 hw4 h4 hR => ?_)
    refine cv_seq (n₁ := 500) (n₂ := 100) (by decide) ?_
    refine cv_seq (n₁ := 40) (n₂ := 401) (by decide) (codeV_more (g75_30 hS.rely (by omega) hF4 h4 fun T5 w5 hF5 h5 hc => ?_) (by decide))
    refine cv_cond hc ?_
    rcases hR with ⟨hv, rfl, hL, hK, hw0⟩ | ⟨hv, rfl, hK⟩
    · rw [hv]
      exact hand75 K hX hl hS hw4 hL hK hw0 hF5 h5 fun N3 T6 w6 hN3 hF6 h6 => hleave N3 T6 w6 _ _ _ _ _ (by omega) hF6 h6
    · rw [hv]
      refine cv_skip (n := 399) ?_
      refine cv_seq (n₁ := 40) (n₂ := 40) (by decide) (g75_37 hS.rely hF5 h5 fun T6 w6 hF6 h6 => ?_)
      exact g75_38 hS.rely hF6 h6 fun T7 w7 hF7 h7 => hcont N2 T7 w7 _ _ _ (by omega) hF7 h7 hw4 hK
  refine cv_seq (n₁ := 90) (n₂ := 800) (by decide) ?_
  refine cv_seq (n₁ := 40) (n₂ := 41) (by decide) (g75_25 hS.rely h18 hF1 h1 fun T2 w2 hF2 h2 h28 hc => ?_)
  obtain ⟨b, hc⟩ := hc
  refine cv_cond hc ?_
  cases b
  · exact cv_skip (n := 39) (down T2 w2 _ hF2 h2 h28)
  · exact g75_26 K hX hl hS h28 hF2 h2 fun T3 w3 ws' hF3 h3 h38 => down T3 w3 _ hF3 h3 h38
/-- what holds at the loop's head -/
def LI (X : MxI c) (u₀ : c.U) (F : World → Prop) (N : Nat) (u : c.U) (a : Act) (w : World) : Prop :=
  ∃ T ws sv aw it m, a = ⟨T, []⟩ ∧ u = X.put u₀ (.hd m aw sv it) ∧ FRx X T ws sv aw it m ∧ m.wn ≤ 70 ∧ (aw = true → m.K = true) ∧ it ≤ 4 ∧ F w
/-- a round -/
theorem round75 (K : c.Ok) (hX : X.Ok) (hl : X.Lk u₀) (hS : Stays c C F) (hm : m.wn ≤ 70) (hK : aw = true → m.K = true) (hit : it ≤ 4) (hF : F w) (h : FRx X T ws sv aw it m)
    (hcont : ∀ N1 u' a' w', N1 < N → LI X u₀ F N1 u' a' w' → Q N1 u' .normal a' w' ∧ Q N1 u' (.exit 1) a' w')
    (hleave : ∀ N1 T' w' ws' sv' aw' it' m', N1 < N → F w' → FRx X T' ws' sv' aw' it' m' → Q N1 (X.put u₀ .le) (.exit 0) ⟨T', []⟩ w') :
    CodeV Try.prog c k C 75 (.seq (.seq (.region 5 o75_5 false) (.cond (.tmp 20) (.seq (.seq (.region 6 o75_6 false) (.cond (.tmp 41) (.region 7 o75_7 false) .skip)) (.seq (.region 8 o75_8 false) (.seq (.region 9 o75_9 false) (.seq (.region 10 o75_10 false) (.exit 1))))) .skip)) (.seq (.region 11 o75_11 false) (.seq (.seq (.region 12 o75_12 false) (.cond (.tmp 52) (.region 13 o75_13 false) .skip)) (.seq (.seq (.region 14 o75_14 false) (.cond (.tmp 57) (.region 15 o75_15 false) .skip)) (.seq (.seq (.region 16 o75_16 false) (.cond (.tmp 65) (.region 17 o75_17 false) .skip)) (.seq (.seq (.region 18 o75_18 false) (.cond (.tmp 68) (.seq (.seq (.region 19 o75_19 false) (.cond (.tmp 71) (.region 20 o75_20 false) .skip)) (.region 21 o75_21 false)) .skip)) (.seq (.region 22 o75_22 false) (.cond (.tmp 80) (.seq (.seq (.region 23 o75_23 false) (.cond (.tmp 83) (.exit 0) .skip)) (.seq (.region 24 o75_24 false) (.seq (.seq (.region 25 o75_25 false) (.cond (.tmp 87) (.region 26 o75_26 false) .skip)) (.seq (.region 27 o75_27 false) (.seq (.region 28 o75_28 false) (.seq (.region 29 o75_29 false) (.seq (.seq (.region 30 o75_30 false) (.cond (.tmp 107) (.seq (.seq (.region 31 o75_31 false) (.cond (.tmp 115) (.region 32 o75_32 false) .skip)) (.seq (.region 33 o75_33 false) (.seq (.seq (.region 34 o75_34 false) (.cond (.tmp 123) (.region 35 o75_35 false) .skip)) (.seq (.region 36 o75_36 false) (.exit 0))))) .skip)) (.seq (.region 37 o75_37 false) (.region 38 o75_38 false))))))))) (.region 39 o75_39 false)))))))))
      4000 N (X.put u₀ (.hd m aw sv it)) Q ⟨T, []⟩ w := by
  have main : ∀ T' w', F w' → FRx X T' ws sv aw it m → CodeV Try.prog c k C 75 (.seq (.region 11 o75_11 false) (.seq (.seq (.region 12 o75_12 false) (.cond (.tmp 52) (.region 13 o75_13 false) .skip)) (.seq (.seq (.region 14 o75_14 false) (.cond (.tmp 57) (.region 15 o75_15 false) .skip)) (.seq (.seq (.region 16 o75_16 false) (.cond (.tmp 65) (.region 17 o75_17 false) .skip)) (.seq (.seq (.region 18 o75_18 false) (.cond (.tmp 68) (.seq (.seq (.region 19 o75_19 false) (.cond (.tmp 71) (.region 20 o75_20 false) .skip)) (.region 21 o75_21 false)) .skip)) (.seq (.region 22 o75_22 false) (.cond (.tmp 80) (.seq (.seq (.region 23 o75_23 false) (.cond (.tmp 83) (.exit 0) .skip)) (.seq (.region 24 o75_24 false) (.seq (.seq (.region 25 o75_25 false) (.cond (.tmp 87) (.region 26 o75_26 false) .skip)) (.seq (.region 27 o75_27 false) (.seq (.region 28 o75_28 false) (.seq (.region 29 o75_29 false) (.seq (.seq (.region 30 o75_30 false) (.cond (.tmp 107) (.seq (.seq (.region 31 o75_31 false) (.cond (.tmp 115) (.region 32 o75_32 false) .skip)) (.seq (.region 33 o75_33 false) (.seq (.seq (.region 34 o75_34 false) (.cond (.tmp 123) (.region 35 o75_35 false) .skip)) (.seq (.region 36 o75_36 false) (.exit 0))))) .skip)) (.seq (.region 37 o75_37 false) (.region 38 o75_38 false))))))))) (.region 39 o75_39 false)))))))) 3000 N (X.put u₀ (.hd m aw sv it)) Q ⟨T', []⟩ w' := by
    intro T' w' hF' h'
    refine codeV_more (mid75 (nz := 1300) hS hm hK hF' h' fun T1 w1 hF1 h1 h17 => ?_) (by decide)
    refine cv_seq (n₁ := 40) (n₂ := 1251) (by decide) (g75_22 K hX hl hS h17 hF1 h1 fun N1 b mu' T2 w2 hN1 hF2 h2 hc hR => ?_)
    refine cv_cond hc ?_
    rcases hR with ⟨rfl, hR⟩ | ⟨rfl, rfl⟩
    · refine cv_seq (n₁ := 150) (n₂ := 1000) (by decide) ?_
      refine cv_seq (n₁ := 40) (n₂ := 41) (by decide) (g75_23 hS.rely (by omega) hF2 h2 fun T3 w3 hF3 h3 hc3 => ?_)
      refine cv_cond hc3 ?_
      rcases hR with ⟨hL, hV, rfl⟩ | ⟨hLV, rfl⟩
      · rw [hL, hV]
        exact cv_exit (n := 39) (hleave N1 T3 w3 _ _ _ _ _ (by omega) hF3 h3)
      · have : (!m.L && !m.V) = false := by rcases hLV with e | e <;> simp [e]
        rw [this]
        refine cv_skip (n := 39) ?_
        exact wait75 K hX hl hS hF3 h3 (fun N2 T4 w4 ws' sv' m' hN2 hF4 h4 hw4 hK4 => (hcont N2 _ _ _ (by omega) ⟨T4, ws', sv', true, 0, m', rfl, rfl, h4, hw4, fun _ => hK4, by omega, hF4⟩).1)
          (fun N2 T4 w4 ws' sv' aw' it' m' hN2 hF4 h4 => hleave N2 T4 w4 _ _ _ _ _ (by omega) hF4 h4)
    · exact codeV_more (g75_39 K hX hl hS hF2 h2 fun N2 T3 w3 m3 mu3 hN2 hF3 hw3 h3 hR3 => by
        obtain ⟨rfl, hk3⟩ := hR3
        exact (hcont N2 _ _ _ (by omega) ⟨T3, ws, sv, aw, it, m3, rfl, rfl, h3, hw3, hk3, hit, hF3⟩).1) (by decide)
  refine cv_seq (n₁ := 900) (n₂ := 3000) (by decide) ?_
  refine cv_seq (n₁ := 40) (n₂ := 401) (by decide) (g75_5 K hS.rely (by omega) hF h fun T1 w1 b hF1 h1 hc hb => ?_)
  refine cv_cond hc ?_
  cases b
  · exact cv_skip (n := 399) (main T1 w1 hF1 h1)
  · obtain ⟨hL, hV, h4⟩ := hb rfl
    exact spin75 K hX hl hS hm hK hL hV h4 hF1 h1 fun N1 T2 w2 m2 aw2 hN1 hF2 h2 hw2 hk2 => (hcont N1 _ _ _ hN1 ⟨T2, ws, sv, aw2, it + 1, m2, rfl, rfl, h2, hw2, hk2, by omega, hF2⟩).2
/-- lockSlow -/
theorem lockSlow_V (K : c.Ok) (hX : X.Ok) (hl : X.Lk u₀) (hS : Stays c C F) (hF : F w) :
    CallsV Try.prog c k C 75 #[.pointer (some X.st)] ((N + 1) * 5001 + 3000) N (X.put u₀ .r0) w (fun N' u' v w' => N' ≤ N ∧ u' = X.put u₀ .own ∧ F w') := by
  refine ⟨_, _, Try.func75, by kernel_rfl, (show Try.f75.body = some (Try.f75.body.getD .skip) from rfl), ?_⟩
  rw [tr75]
  simp only [Try.ntmps75]
  obtain ⟨T0, hT0⟩ : ∃ T0, T0 = #[Value.pointer (some X.st)] ++ Array.replicate (139 - (#[Value.pointer (some X.st)] : Array Value).size) undef := ⟨_, rfl⟩
  have s0 : T0.size = 139 := by rw [hT0]; simp
  have p0 : T0[0]? = some (.pointer (some X.st)) := by rw [hT0]; simp
  rw [← hT0]
  clear hT0
  refine cv_seq (n₁ := 40) (n₂ := (N + 1) * 5001 + 2900) (by omega) (g75_0 K hX hl hS hF s0 fun w1 hF1 => ?_)
  refine cv_seq (n₁ := 40) (n₂ := (N + 1) * 5001 + 2800) (by omega) (g75_1 K hX hl hS hF1 (by simp [s0]) fun w2 hF2 => ?_)
  refine cv_seq (n₁ := 40) (n₂ := (N + 1) * 5001 + 2700) (by omega) (g75_2 K hX hl hS hF2 (by simp [s0]) fun w3 hF3 => ?_)
  refine cv_seq (n₁ := 40) (n₂ := (N + 1) * 5001 + 2600) (by omega) (g75_3 K hX hl hS hF3 (by simp [s0]) fun w4 hF4 => ?_)
  refine cv_seq (n₁ := 40) (n₂ := (N + 1) * 5001 + 2500) (by omega) (g75_4 K hX hl hS hF4 ⟨by simp [s0], by rw [Array.getElem?_setIfInBounds_ne (by decide), Array.getElem?_setIfInBounds_ne (by decide), Array.getElem?_setIfInBounds_ne (by decide), Array.getElem?_setIfInBounds_ne (by decide)]; exact p0, by simp [Array.getElem?_setIfInBounds, s0], by simp [Array.getElem?_setIfInBounds, s0], by simp [Array.getElem?_setIfInBounds, s0], by simp [Array.getElem?_setIfInBounds, s0]⟩ fun N1 T5 w5 m5 mu5 hN1 hF5 hw5 h5 hR => ?_)
  cases hR
  have leave : ∀ N2 T' w' ws' sv' aw' it' m', N2 ≤ N → F w' → FRx X T' ws' sv' aw' it' m' → CodeV Try.prog c k C 75 (.cond (.const (.bool true)) (.seq (.region 40 o75_40 false) (.region 41 o75_41 false)) .skip) 1000 N2 (X.put u₀ .le) (bodyPostV Try.prog c Try.f75 (fun N' u' v w' => N' ≤ N ∧ u' = X.put u₀ .own ∧ F w')) ⟨T', []⟩ w' := by
    intro N2 T' w' ws' sv' aw' it' m' hN2 hF' h'
    refine codeV_more (codeV_cond (t := true) (n := 500) rfl ?_) (by decide)
    refine cv_seq (n₁ := 40) (n₂ := 40) (by decide) (g75_40 K hX hl hS hF' h' fun N3 T6 w6 hN3 hF6 h6 => ?_)
    exact g75_41 K hX hl hS hF6 h6 fun T7 w7 hF7 h7 => ⟨rfl, _, resultsC_none rfl _, by omega, rfl, hF7⟩
  refine cv_seq (n₁ := (N1 + 1) * 5001 + 3) (n₂ := 1000) (by subst hN1; omega) ?_
  refine codeV_block (n := (N1 + 1) * 5001 + 1) ?_
  refine codeV_loop (r := 5000) (M := N1) (fun N u a w => N ≤ N1 ∧ LI X u₀ F N u a w) (fun N _ _ _ => N) ⟨Nat.le_refl _, T5, 0, false, false, 0, m5, rfl, rfl, h5, hw5, fun e => (by cases e), by omega, hF5⟩ (Nat.le_refl _) ?_
  rintro N2 u2 a2 w2 ⟨hN2, T2, ws, sv, aw, it, m, rfl, rfl, hf, hw, hk, hi, hF2⟩
  refine codeV_more (codeV_block (n := 4000) ?_) (by decide)
  refine round75 K hX hl hS hw hk hi hF2 hf (fun N3 u3 a3 w3 hN3 hI => ⟨⟨⟨by omega, hI⟩, hN3⟩, ?_⟩) (fun N3 T3 w3 ws' sv' aw' it' m' hN3 hF3 h3 => ?_)
  · simp only [InBlockV, Exit.inBlock, if_true]
    exact ⟨⟨by omega, hI⟩, hN3⟩
  · simp only [InBlockV, Exit.inBlock, if_true]
    exact leave N3 T3 w3 _ _ _ _ _ (by omega) hF3 h3
end
end Go.Proofs.Ytinghnaigpenkaa
