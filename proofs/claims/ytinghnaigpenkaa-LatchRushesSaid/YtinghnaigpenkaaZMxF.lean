/- Seat 05: a worker's acts on a mutex, each once: a look, CompareAndSwap, Add, the semaphore, the words of the race detector's. -/
import Derived.Test.YtinghnaigpenkaaZMxE
import Derived.Test.YtinghnaigpenkaaZAlC
namespace Go.Proofs.Ytinghnaigpenkaa
open Go.Conc Go.RowKit Go.ConcR.Gen
open Go.ConcR (Payload rd wr mk)
set_option linter.unusedVariables false
set_option linter.unusedSimpArgs false
set_option linter.unusedSectionVars false
set_option maxRecDepth 100000
set_option maxHeartbeats 1000000
theorem seen_quiet {P : Program} {fn : FuncId} (hq : (P.funcs[fn]?).any (·.norace) = true) : ∀ (es : Array Event), (∀ e ∈ es, e.sync = false ∧ ∀ g, e.loc ≠ .mark (.extern g)) → seen P fn es = #[] := by
  intro es h
  rw [seen_def, hq]
  obtain ⟨l⟩ := es
  simp only [List.mem_toArray] at h
  show (l.foldl _ (true, #[])).2 = #[]
  induction l with
  | nil => rfl
  | cons e l ih =>
    have h1 := h e (by simp)
    have e1 : seenStep (fun f => (P.funcs[f]?).any (·.norace)) (true, #[]) e = (true, #[]) := by
      unfold seenStep
      obtain ⟨hs, hl⟩ := h1
      cases hloc : e.loc with
      | mark m =>
        cases m with
        | extern g => exact absurd hloc (hl g)
        | _ => simp [hs]
      | _ => simp [hs]
    rw [List.foldl_cons, e1]
    exact ih fun x hx => h x (by simp [hx])
section
variable {c : Cfg} {X : MxI c} {k C N : Nat} {u₀ : c.U} {F : World → Prop} {fn : FuncId} {Q : Nat → c.U → Exit → Act → World → Prop} {a : Act} {w : World} {mu : MU} {ops : Array Oper} {i : Nat} {rest : List Nat}
/-- what is known stays, whatever others and oneself do -/
structure Stays (c : Cfg) (C : Nat) (F : World → Prop) : Prop where
  rely : ∀ w w₁, RW c C w w₁ → F w → F w₁
  act : ∀ w w₁, OnlySB c w w₁ → (∃ σ, c.Rep σ w₁) → F w → F w₁
  rep : ∀ w, F w → ∃ σ, c.Rep σ w
/-- a plain look at the word -/
theorem opsV_look (K : c.Ok) (hX : X.Ok) (hl : X.Lk u₀) (hS : Stays c C F) (hq : ((Program.funcs Try.prog)[fn]?).any (·.norace) = true) {dst : Option Tmp} {t : Operand} {ty : TypeId} {pos : String} {af : Array Edge} (ho : ops[i]? = some { dst, op := .load 21 t, type := ty, pos, after := af, guard := none })
    (ht : a.eval t = .pointer (some X.st)) (hF : F w) (hne : mu ≠ .q) (R : MW → MU → Prop)
    (hs : ∀ m : MS, MPre mu m → m.w.wn ≤ 70 → ∃ mu', MStep mu m mu' m ∧ mu.dn = mu'.dn ∧ R m.w mu')
    (h : ∀ w' m mu', F w' → m.wn ≤ 70 → R m mu' → ∀ N1, N = N1 + 1 → ∃ n2, OpsV Try.prog c k C fn ops rest n2 N1 (X.put u₀ mu') Q (a.put dst (.int .i32 m.enc)) w') : OpsV Try.prog c k C fn ops (i :: rest) 0 N (X.put u₀ mu) Q a w := by
  refine opsV_vis ho (hX.nf _ _ hl) fun w₁ h₁ σ hr hp => ⟨fun hb => absurd ((hX.blk _ _ _ hl).1 hb).1 hne, fun _ => ?_⟩
  obtain ⟨hp1, hp2, hp3⟩ := hX.pre _ _ _ hl hp
  obtain ⟨hc, hz⟩ := hX.rst σ w₁ hr
  obtain ⟨mu', h1, h2, h3⟩ := hs _ hp1 hp2
  have hF1 := hS.rely _ _ h₁ hF
  generalize hp : X.st = ps at *
  refine ⟨.int .i32 (X.get σ).w.enc, w₁, #[], X.put u₀ mu', σ, fun b kk cs hb hk => ?_, actM_read K hX hl hr h1 (by simp) h2, .inl fun _ h => h, fun N1 hN => h w₁ _ mu' hF1 hp2 h3 N1 hN⟩
  have hrun : (execOp a.eval ({ dst, op := .load 21 t, type := ty, pos, after := af, guard := none } : Oper)).run Try.prog w₁ = .ok (.value (.int .i32 (X.get σ).w.enc)) w₁ := by
    generalize a.eval = ev at ht
    simp [go_sem, ht, hc]
  rw [stepG_value ho rfl hk hrun]
  congr 1
  unfold listed
  refine seen_quiet (by rw [hb]; exact hq) _ fun e he => ?_
  generalize a.eval = ev at ht he
  simp [go_sem, ht, hc] at he
  subst he
  exact ⟨rfl, by simp⟩
/-- CompareAndSwap of the word -/
theorem opsV_casM (K : c.Ok) (hX : X.Ok) (hl : X.Lk u₀) (hS : Stays c C F) {o : Oper} {x y z : Operand} {ats : Array TypeId} (ho : ops[i]? = some o) (hw : Region.wanted o (yielded ops a.tmps) = true) (hop : o.op = .call { callee := .value (.func 74), args := #[x, y, z], argTypes := ats })
    {old new : MW} (hx : a.eval x = .pointer (some X.st)) (hy : a.eval y = .int .i32 old.enc) (hz : a.eval z = .int .i32 new.enc) (hF : F w) (hne : mu ≠ .q) (R : Bool → MU → Prop)
    (hhit : ∀ m : MS, MPre mu m → m.w.wn ≤ 70 → m.w = old → ∃ mu', MStep mu m mu' { m with w := new } ∧ mu.dn = mu'.dn ∧ R true mu')
    (hmiss : ∀ m : MS, MPre mu m → m.w.wn ≤ 70 → m.w ≠ old → ∃ mu', MStep mu m mu' m ∧ mu.dn = mu'.dn ∧ R false mu')
    (h : ∀ w' b mu', F w' → R b mu' → ∀ N1, N = N1 + 1 → ∃ n2, OpsV Try.prog c k C fn ops rest n2 N1 (X.put u₀ mu') Q (a.put o.dst (.bool b)) w') : OpsV Try.prog c k C fn ops (i :: rest) 0 N (X.put u₀ mu) Q a w := by
  refine opsV_vis ho (hX.nf _ _ hl) fun w₁ h₁ σ hr hp => ⟨fun hb => absurd ((hX.blk _ _ _ hl).1 hb).1 hne, fun _ => ?_⟩
  obtain ⟨hp1, hp2, hp3⟩ := hX.pre _ _ _ hl hp
  obtain ⟨hc, hfz⟩ := hX.rst σ w₁ hr
  have hF1 := hS.rely _ _ h₁ hF
  by_cases e : (X.get σ).w = old
  · obtain ⟨mu', h1, h2, h3⟩ := hhit _ hp1 hp2 e
    rw [e] at hc
    have hA := actM_word (P := Try.prog) (k := k) K hX hl hr h1 h2
    refine ⟨.bool true, _, _, _, _, fun b kk cs hb hk => stepG_cas_hit ho hw hk hop Try.func74 (by kernel_rfl) (by kernel_rfl) (by kernel_rfl) .i32 (by rfl) hx hy hz hc hfz, hA, .inl (hX.blkm σ _ fun h => h), fun N1 hN => h _ true mu' (hS.act _ _ hA.only ⟨_, hA.rep⟩ hF1) h3 N1 hN⟩
  · obtain ⟨mu', h1, h2, h3⟩ := hmiss _ hp1 hp2 e
    exact ⟨.bool false, w₁, _, _, σ, fun b kk cs hb hk => stepG_cas_miss ho hw hk hop Try.func74 (by kernel_rfl) (by kernel_rfl) (by kernel_rfl) .i32 (by rfl) hx hy hz hc hfz (fun he => e (enc_inj he)),
      actM_read K hX hl hr h1 (by intro ev he; simp at he; subst he; exact evV_at _ hX.shst (fun e => absurd e hX.fst)) (by simpa [deafBehind] using h2), .inl fun _ h => h, fun N1 hN => h w₁ false mu' hF1 h3 N1 hN⟩
/-- Add to the word -/
theorem opsV_addM (K : c.Ok) (hX : X.Ok) (hl : X.Lk u₀) (hS : Stays c C F) {o : Oper} {x y : Operand} {ats : Array TypeId} (ho : ops[i]? = some o) (hw : Region.wanted o (yielded ops a.tmps) = true) (hop : o.op = .call { callee := .value (.func 46), args := #[x, y], argTypes := ats })
    {d : Int} (hx : a.eval x = .pointer (some X.st)) (hy : a.eval y = .int .i32 d) (hF : F w) (hne : mu ≠ .q) (R : MW → MU → Prop)
    (hs : ∀ m : MS, MPre mu m → m.w.wn ≤ 70 → ∃ m1 mu', IntKind.i32.wrap (m.w.enc + d) = m1.enc ∧ MStep mu m mu' { m with w := m1 } ∧ mu.dn = mu'.dn ∧ R m1 mu')
    (h : ∀ w' m1 mu', F w' → R m1 mu' → ∀ N1, N = N1 + 1 → ∃ n2, OpsV Try.prog c k C fn ops rest n2 N1 (X.put u₀ mu') Q (a.put o.dst (.int .i32 m1.enc)) w') : OpsV Try.prog c k C fn ops (i :: rest) 0 N (X.put u₀ mu) Q a w := by
  refine opsV_vis ho (hX.nf _ _ hl) fun w₁ h₁ σ hr hp => ⟨fun hb => absurd ((hX.blk _ _ _ hl).1 hb).1 hne, fun _ => ?_⟩
  obtain ⟨hp1, hp2, hp3⟩ := hX.pre _ _ _ hl hp
  obtain ⟨hc, hfz⟩ := hX.rst σ w₁ hr
  have hF1 := hS.rely _ _ h₁ hF
  obtain ⟨m1, mu', he, h1, h2, h3⟩ := hs _ hp1 hp2
  have hA := actM_word (P := Try.prog) (k := k) K hX hl hr h1 h2
  refine ⟨.int .i32 m1.enc, _, _, _, _, fun b kk cs hb hk => ?_, hA, .inl (hX.blkm σ _ fun h => h), fun N1 hN => h _ m1 mu' (hS.act _ _ hA.only ⟨_, hA.rep⟩ hF1) h3 N1 hN⟩
  rw [← he]
  exact stepG_add_atomic ho hw hk hop Try.func46 (by kernel_rfl) (by kernel_rfl) (by kernel_rfl) .i32 (by rfl) hx hy hc hfz
/-- the semaphore, from above -/
theorem opsV_downM (K : c.Ok) (hX : X.Ok) (hl : X.Lk u₀) (hS : Stays c C F) {o : Oper} {xs : Array Operand} {ats : Array TypeId} (ho : ops[i]? = some o) (hw : Region.wanted o (yielded ops a.tmps) = true) (hop : o.op = .call { callee := .value (.func 81), args := xs, argTypes := ats })
    (hx : (xs.map a.eval)[0]? = some (.pointer (some X.sm))) (hF : F w)
    (h : ∀ w', F w' → ∀ N1, N = N1 + 1 → ∃ n2, OpsV Try.prog c k C fn ops rest n2 N1 (X.put u₀ .r2) Q (a.put o.dst (.tuple #[])) w') : OpsV Try.prog c k C fn ops (i :: rest) 0 N (X.put u₀ .q) Q a w := by
  refine opsV_vis ho (hX.nf _ _ hl) fun w₁ h₁ σ hr hp => ⟨fun hb b kk cs hb' hk => ?_, fun hb => ?_⟩
  · have h0 := ((hX.blk _ _ _ hl).1 hb).2
    obtain ⟨hc, hfz⟩ := hX.rsm σ w₁ hr
    rw [h0] at hc
    exact stepG_semacquire_wait ho hw hop Try.func81 (by kernel_rfl) (by kernel_rfl) (by kernel_rfl) (by rfl) hx hc
  · have h0 : (X.get σ).sm ≠ 0 := fun e => hb ((hX.blk _ _ _ hl).2 ⟨rfl, e⟩)
    obtain ⟨hc, hfz⟩ := hX.rsm σ w₁ hr
    have hF1 := hS.rely _ _ h₁ hF
    have hA := actM_sem (P := Try.prog) (k := k) K hX hl hr (MStep.wake (m := X.get σ) h0) rfl
    refine ⟨.tuple #[], _, _, _, _, fun b kk cs hb' hk => ?_, hA, .inl (hX.blkm σ _ fun h => absurd h h0), fun N1 hN => h _ (hS.act _ _ hA.only ⟨_, hA.rep⟩ hF1) N1 hN⟩
    have e : (((X.get σ).sm - 1 : Nat) : Int) = ((X.get σ).sm : Int) - 1 := by omega
    rw [e]
    exact stepG_semacquire ho hw hk hop Try.func81 (by kernel_rfl) (by kernel_rfl) (by kernel_rfl) (by rfl) hx hc (by omega) hfz
/-- the semaphore, one more -/
theorem opsV_upM (K : c.Ok) (hX : X.Ok) (hl : X.Lk u₀) (hS : Stays c C F) {o : Oper} {xs : Array Operand} {ats : Array TypeId} (ho : ops[i]? = some o) (hw : o.guard = none) (hop : o.op = .call { callee := .value (.func 83), args := xs, argTypes := ats })
    (hx : (xs.map a.eval)[0]? = some (.pointer (some X.sm))) (hF : F w)
    (h : ∀ w', F w' → ∀ N1, N = N1 + 1 → ∃ n2, OpsV Try.prog c k C fn ops rest n2 N1 (X.put u₀ .ue) Q (a.put o.dst (.tuple #[])) w') : OpsV Try.prog c k C fn ops (i :: rest) 0 N (X.put u₀ .us) Q a w := by
  have hw' : Region.wanted o (yielded ops a.tmps) = true := by simp [Region.wanted, hw]
  refine opsV_vis ho (hX.nf _ _ hl) fun w₁ h₁ σ hr hp => ⟨fun hb => absurd ((hX.blk _ _ _ hl).1 hb).1 (by simp), fun _ => ?_⟩
  obtain ⟨hp1, hp2, hp3⟩ := hX.pre _ _ _ hl hp
  obtain ⟨hc, hfz⟩ := hX.rsm σ w₁ hr
  have hF1 := hS.rely _ _ h₁ hF
  have h0 : (X.get σ).sm = 0 := hp1
  have hA := actM_sem (P := Try.prog) (k := k) K hX hl hr (MStep.rel (m := X.get σ)) rfl
  refine ⟨.tuple #[], _, _, _, _, fun b kk cs hb' hk => ?_, hA, .inr fun b kk cs hb => mayWake_entry ho hop Try.func83 (by kernel_rfl), fun N1 hN => h _ (hS.act _ _ hA.only ⟨_, hA.rep⟩ hF1) N1 hN⟩
  have e : (((X.get σ).sm + 1 : Nat) : Int) = IntKind.u32.wrap (((X.get σ).sm : Int) + 1) := by rw [h0]; decide
  rw [e]
  exact stepG_semrelease ho hw' hk hop Try.func83 (by kernel_rfl) (by kernel_rfl) (by kernel_rfl) (by rfl) hx hc hfz
/-- 'disable', 'enable' -/
theorem opsV_disM (K : c.Ok) (hX : X.Ok) (hl : X.Lk u₀) (hS : Stays c C F) {o : Oper} {xs : Array Operand} {ats : Array TypeId} {mu' : MU} (ho : ops[i]? = some o) (hw : Region.wanted o (yielded ops a.tmps) = true) (hop : o.op = .call { callee := .value (.func 50), args := xs, argTypes := ats })
    (hF : F w) (hne : mu ≠ .q) (hs : ∀ m : MS, MStep mu m mu' m) (h0 : mu.dn = 0) (h1 : mu'.dn = 1)
    (h : ∀ w', F w' → ∀ N1, N = N1 + 1 → ∃ n2, OpsV Try.prog c k C fn ops rest n2 N1 (X.put u₀ mu') Q (a.put o.dst (.tuple #[])) w') : OpsV Try.prog c k C fn ops (i :: rest) 0 N (X.put u₀ mu) Q a w := by
  refine opsV_vis ho (hX.nf _ _ hl) fun w₁ h₁ σ hr hp => ⟨fun hb => absurd ((hX.blk _ _ _ hl).1 hb).1 hne, fun _ => ?_⟩
  have hF1 := hS.rely _ _ h₁ hF
  exact ⟨.tuple #[], w₁, _, _, σ, fun b kk cs hb' hk => stepG_mark0 .disable (by simp) ho hw hk hop wgLib.f_disable (x_disable_n lnk) (x_disable_b lnk) (x_disable_x lnk) (x_disable_f lnk),
    actM_read K hX hl hr (hs _) (by intro ev he; simp at he; subst he; exact evV_mark rfl (by simp)) (by rw [h0, h1]; rfl), .inl fun _ h => h, fun N1 hN => h w₁ hF1 N1 hN⟩
theorem opsV_enM (K : c.Ok) (hX : X.Ok) (hl : X.Lk u₀) (hS : Stays c C F) {o : Oper} {xs : Array Operand} {ats : Array TypeId} {mu' : MU} (ho : ops[i]? = some o) (hw : Region.wanted o (yielded ops a.tmps) = true) (hop : o.op = .call { callee := .value (.func 51), args := xs, argTypes := ats })
    (hF : F w) (hne : mu ≠ .q) (hs : ∀ m : MS, MStep mu m mu' m) (h0 : mu.dn = 1) (h1 : mu'.dn = 0)
    (h : ∀ w', F w' → ∀ N1, N = N1 + 1 → ∃ n2, OpsV Try.prog c k C fn ops rest n2 N1 (X.put u₀ mu') Q (a.put o.dst (.tuple #[])) w') : OpsV Try.prog c k C fn ops (i :: rest) 0 N (X.put u₀ mu) Q a w := by
  refine opsV_vis ho (hX.nf _ _ hl) fun w₁ h₁ σ hr hp => ⟨fun hb => absurd ((hX.blk _ _ _ hl).1 hb).1 hne, fun _ => ?_⟩
  have hF1 := hS.rely _ _ h₁ hF
  exact ⟨.tuple #[], w₁, _, _, σ, fun b kk cs hb' hk => stepG_mark0 .enable (by simp) ho hw hk hop wgLib.f_enable (x_enable_n lnk) (x_enable_b lnk) (x_enable_x lnk) (x_enable_f lnk),
    actM_read K hX hl hr (hs _) (by intro ev he; simp at he; subst he; exact evV_mark rfl (by simp)) (by rw [h0, h1]; rfl), .inl fun _ h => h, fun N1 hN => h w₁ hF1 N1 hN⟩
end
end Go.Proofs.Ytinghnaigpenkaa
