/- Keep of the odd ones. -/
import Derived.Test.YtpkmbnmlepmceaaBagH
import Derived.Test.YtpkmbnmlepmceaaBagF
namespace Go.Proofs.Ytpkmbnmlepmceaa
open Go.RowKit Go.Shelf
attribute [local go_sem] Oper.semAt_some
set_option linter.unusedSimpArgs false
set_option linter.unusedVariables false
set_option maxHeartbeats 8000000
set_option maxRecDepth 100000

def oddL (l : List (Int × Int)) : List (Int × Int) := l.filter fun p => oddB p.2
theorem oddL_snoc (l : List (Int × Int)) (x : Int × Int) : oddL (l ++ [x]) = oddL l ++ (if oddB x.2 then [x] else []) := by
  unfold oddL
  rw [List.filter_append]
  congr 1
  cases h : oddB x.2 <;> simp [h]
theorem oddL_len (l : List (Int × Int)) : (oddL l).length ≤ l.length := List.length_filter_le _ _
/-- the memory of Keep -/
structure KM (w : World) (fB stB : Nat) (r : List (Int × Int)) (vs : Value) (W : World) : Prop where
  fbx : Blk W fB 40 #[.func (.func 16) #[] #[]]
  sbx : Blk W stB 50 #[vs]
  row : W.ownsRow w.heap.size 54 2 vs r.length (r.flatMap itc)
  bel : Below w.heap.size w W
section
variable {w W W' : World} {fB stB : Nat} {r : List (Int × Int)} {vs : Value}
theorem own_turned {W W' : World} {base : Nat} {e : TypeId} {size n : Nat} {v : Value} {xs : List Value} {row : Option Nat} (h : W.ownsRow base e size v n xs) (hg : W.grownBy W' row) (hr : ∀ r, row = some r → ∃ o : Obj, W.heap[r]? = some o ∧ o.isCells = false) : W'.ownsRow base e size v n xs := by
  refine own_block_same h (fun k hk => hg.block k (h.lt k hk).2 (fun e => ?_))
  rcases h.2 with ⟨h0, _⟩ | ⟨g', cap, cur, hv, _, hb, _⟩
  · rw [h0] at hk; cases hk
  · have : g' = k := by rw [hv] at hk; injection hk
    subst this
    obtain ⟨o, h1, h2⟩ := hr g' e.symm
    rw [hb] at h1
    injection h1 with h1
    subst h1
    cases h2
theorem KM.turned {row : Option Nat} (h : KM w fB stB r vs W) (hg : W.grownBy W' row) (hr : ∀ r, row = some r → w.heap.size ≤ r ∧ ∃ o : Obj, W.heap[r]? = some o ∧ o.isCells = false) : KM w fB stB r vs W' :=
  have hr' := fun r e => (hr r e).2
  ⟨h.fbx.turned hg hr', h.sbx.turned hg hr', own_turned h.row hg hr', h.bel.grown hg h.bel.size (fun k hk => (hr k hk).1)⟩
theorem km_append {W2 w3 : World} {v' : Value} {p : Int × Int} {n₁ : Nat} (h : KM w fB stB r vs W) (hb : Below W.heap.size W W2) (hown : w3.ownsRow w.heap.size 54 2 v' (r.length + 1) (r.flatMap itc ++ itc p)) (hg : W2.grownBy w3 vs.ownBlock)
    (hat : v'.ownBlock = vs.ownBlock ∨ v'.ownBlock = some W2.heap.size) (hst : stB < n₁) (hw : w.heap.size ≤ stB) (B : Nat) :
    KM w fB stB (r ++ [p]) v' (w3.setCell ⟨stB, 0, none⟩ v') ∧ BKp n₁ ⟨stB, 0, none⟩ W (w3.setCell ⟨stB, 0, none⟩ v') ∧ KeepsFrom B W (w3.setCell ⟨stB, 0, none⟩ v') := by
  have hne1 : some stB ≠ vs.ownBlock := fun e => own_blk_ne h.row h.sbx (by decide) e.symm
  have hne2 : some fB ≠ vs.ownBlock := fun e => own_blk_ne h.row h.fbx (by decide) e.symm
  have hsf : fB ≠ stB := Blk.ne_ h.fbx h.sbx (by decide)
  have hs3 := hg.size
  have hs2 := hb.size
  have hsb3 : Blk w3 stB 50 #[vs] := (h.sbx.below hb h.sbx.lt).grown hg hne1
  have hfb3 : Blk w3 fB 40 #[.func (.func 16) #[] #[]] := (h.fbx.below hb h.fbx.lt).grown hg hne2
  have hr1 : rowOf W ⟨stB, 0, none⟩ = vs.ownBlock := by
    unfold rowOf
    rw [show W.cell? ⟨stB, 0, none⟩ = some vs from h.sbx.cell 0]
  have hr2 : rowOf (w3.setCell ⟨stB, 0, none⟩ v') ⟨stB, 0, none⟩ = v'.ownBlock := by
    unfold rowOf
    rw [World.cell?_setCell_same _ _ _ (show w3.cell? ⟨stB, 0, none⟩ = some vs from hsb3.cell 0)]
  refine ⟨⟨hfb3.far (p := ⟨stB, 0, none⟩) hsf _, hsb3.set_ 0 _, ?_, ?_⟩, ⟨by simp [World.setCell]; omega, fun k o hk ho _ hr => ?_, fun k hk => ?_⟩, ⟨by simp [World.setCell]; omega, fun k o _ hk ho => ?_⟩⟩
  · have := own_block_same (w' := w3.setCell ⟨stB, 0, none⟩ v') hown (fun k hk => Below.heap_setCell _ _ _ k (fun e => own_blk_ne hown hsb3 (by decide) (by rw [hk, e])))
    simpa [List.flatMap_append] using this
  · exact ((h.bel.trans (hb.mono h.bel.size)).grown hg (Nat.le_trans h.bel.size hb.size) (fun k hk => (h.row.lt k hk).1)).setCell (p := ⟨stB, 0, none⟩) hw _
  · have hl := (Array.getElem?_eq_some_iff.1 ho).1
    rw [Below.heap_setCell _ _ _ k (by show k ≠ stB; omega)]
    exact (hg.block k (by omega) (fun e => hr (by rw [hr1]; exact e.symm))).trans ((hb.block k hl).trans ho)
  · rw [hr2] at hk
    rw [hr1]
    rcases hat with e | e
    · exact .inl (by rw [← e]; exact hk)
    · rw [e] at hk; injection hk with hk; exact .inr (by omega)
  · have hl := (Array.getElem?_eq_some_iff.1 hk).1
    have hks : k ≠ stB := fun e => by
      subst e
      rw [show W.heap[k]? = _ from h.sbx] at hk
      injection hk with hk; subst hk; cases ho
    rw [Below.heap_setCell _ _ _ k hks]
    refine (hg.block k (by omega) (fun e => ?_)).trans ((hb.block k hl).trans hk)
    rcases h.row.2 with ⟨h0, _⟩ | ⟨g', cap, cur, hv, _, hbb, _⟩
    · rw [h0] at e; cases e
    · have : g' = k := by rw [hv] at e; injection e with e; exact e.symm
      subst this
      rw [hbb] at hk
      injection hk with hk; subst hk; cases ho
end
theorem wpListIn_append_any {F : Fence} {n : Nat} {P : Program} (w : World) {ops : Array Oper} {rest : List Oper} {o : Oper} {a : Act} {Q : Exit → Act → World → Prop}
    (hg : o.guard = none) (s x : Operand) (t : TypeId) (hop : o.op = Op.call { callee := Callee.builtin Builtin.append, args := #[s, x], argTypes := #[t, t] })
    (base : Nat) (e : TypeId) (i : TypeInfo) (z : Value) (size bytes : Nat) (h1 : P.underlying t = some (.slice e)) (h2 : P.info? e = some i) (h3 : i.zero = some z) (h4 : i.size = size) (h5 : i.bytes = bytes) (h6 : z.cells.size = size) (h7 : 0 < size)
    (v : Value) (k : Nat) (xs : List Value) (hs : a.eval s = v) (hown : w.ownsRow base e size v k xs) (B : Nat) (A : Option Addr) (m c : Nat) (news : List Value) (hx : a.eval x = .slice A m c) (hr : Reads w B size A m news)
    (h1c : ∀ u ∈ news, u.oneCell' = true) (b1 : k + m ≤ maxLen) (b2 : (k + m) * bytes ≤ 140737488355328) (b3 : base ≤ w.heap.size)
    (hK : ∀ v' w', w'.ownsRow base e size v' (k + m) (xs ++ news) → w.grownBy w' v.ownBlock → (v'.ownBlock = v.ownBlock ∨ v'.ownBlock = some w.heap.size) → wpListIn F n P ops Q rest (a.put o.dst v') w') :
    wpListIn F n P ops Q (o :: rest) a w := by
  refine wpListIn_plain hg fun K hK' => ?_
  obtain ⟨v', w', hrun, r1, r2, r3⟩ := run_append_any (P := P) w base t o.type e i z size bytes h1 h2 h3 h4 h5 h6 h7 v k xs hown B A m c news hr h1c b1 b2 b3
  unfold Oper.wpIn
  refine ⟨?_, ?_⟩
  · simp [Oper.about, hop, resolve, Target.leads, Sem.run_pure]
  · rw [Oper.semAt_plain F _ _ (by rw [hop]; intro c hc'; cases hc')]
    simp [execOp, hop, resolve, invoke, builtin, hs, hx, hrun, Result.andThen]
    exact hK' _ _ (hK v' w' r1 r2 r3)
theorem news_at {w : World} {cs : Array Value} {t : TypeId} {xs : List Value} (hx : xs.length = 1 * 2) (hc : cs.toList = xs) : Reads (w.alloc (.cells cs t)) (w.heap.size + 1) 2 (some ⟨w.heap.size, 0, none⟩) 1 xs :=
  ⟨hx, fun _ => ⟨_, rfl, by simp, fun j u hu => cells_new _ _ _ j u (by rw [hc]; exact hu)⟩⟩

def Bg.keep (s : Bg) : Bg := ⟨s.most, s.last, oddL s.l⟩
theorem keep_any (g : Nat) (v : Value) (s : Bg) (w : World) (h : BagAt w g v s) (hl : s.l.length ≤ 1000000) :
    Calls Try.prog 15 #[.pointer (some ⟨g, 0, none⟩), .func (.func 16) #[] #[]] w fun e w' => e = .returned (.int .i64 ((s.l.length : Int) - (oddL s.l).length)) ∧ ∃ v', BagAt w' g v' s.keep ∧ BStep w w' g v v' := by
  obtain ⟨i0, hi, hz0, hz1, hz2⟩ := info_parts itInfo
  obtain ⟨A, c, rfl, _, _, _⟩ := h.form
  obtain ⟨c0, c1, c2⟩ := bag_cells h
  have H := Lib.hid h
  have hgl := h.1.lt
  have hmf : ∀ (fn : Fn) (first cap : Array Value) (w : World), (Instr.makeFunc fn first cap).run Try.prog w = .ok (.func fn first cap) w := fun _ _ _ _ => rfl
  clear h
  refine callsIn_wide.1 (callsIn_of_wp_marks (F := Fence.wide) (n := 9) Try.func15 rfl trivial (wpIn_wide.2 ?_) rfl)
  simp only [Try.ntmps15, List.size_toArray, List.length_cons, List.length_nil, Nat.reduceAdd, Nat.reduceSub, Array.replicate_succ, Array.replicate_zero, List.push_toArray, List.append_toArray, List.nil_append, List.cons_append]
  go_wp2_with (first
    | (go_at_call 9; refine (all_any (some ⟨g, 0, none⟩) _).mono ?_; rintro e w' ⟨rfl, rfl⟩)
    | fail)
  have hK0 : Hid (KM w w.heap.size (w.heap.size + 1) [] (.slice none 0 0) (((w.alloc (.cells #[.func (.func 16) #[] #[]] 40)).alloc (.cells #[.slice none 0 0] 50)).alloc (.cells #[.pointer (some ⟨g, 0, none⟩)] 23))) := Lib.hid (by
    have b2 := (Blk.new (w.alloc (.cells #[.func (.func 16) #[] #[]] 40)) 50 #[.slice none 0 0]).alloc (.cells #[.pointer (some ⟨g, 0, none⟩)] 23)
    simp only [World.size_alloc] at b2
    exact ⟨((Blk.new w _ _).alloc _).alloc _, b2, World.ownsRow_nil _ _ _ _, (((Below.refl _ _).alloc (Nat.le_refl _) _).alloc (by simp) _).alloc (by simp <;> omega) _⟩)
  have hX0 : Hid ((((w.alloc (.cells #[.func (.func 16) #[] #[]] 40)).alloc (.cells #[.slice none 0 0] 50)).alloc (.cells #[.pointer (some ⟨g, 0, none⟩)] 23)).cell? ⟨w.heap.size + 1 + 1, 0, none⟩ = some (.pointer (some ⟨g, 0, none⟩))) := Lib.hid (by
    have := Blk.new ((w.alloc (.cells #[.func (.func 16) #[] #[]] 40)).alloc (.cells #[.slice none 0 0] 50)) 23 #[.pointer (some ⟨g, 0, none⟩)]
    simp only [World.size_alloc] at this
    exact this.cell 0)
  have hs0 : (((w.alloc (.cells #[.func (.func 16) #[] #[]] 40)).alloc (.cells #[.slice none 0 0] 50)).alloc (.cells #[.pointer (some ⟨g, 0, none⟩)] 23)).heap.size = w.heap.size + 1 + 1 + 1 := by simp
  generalize ((w.alloc (.cells #[.func (.func 16) #[] #[]] 40)).alloc (.cells #[.slice none 0 0] 50)).alloc (.cells #[.pointer (some ⟨g, 0, none⟩)] 23) = W0 at *
  obtain ⟨fB, hfB⟩ : ∃ fB, fB = w.heap.size := ⟨_, rfl⟩
  have hK1 : Hid (KM w fB (fB + 1) [] (.slice none 0 0) W0) := Lib.hid (by rw [hfB]; exact hK0.out)
  rw [← hfB] at hX0 hs0 hgl ⊢
  have hwf : w.heap.size ≤ fB := by omega
  clear hK0 hfB c0 c1 c2
  have hbag0 := H.out.below hK1.out.bel
  refine wpIn_wide.1 (wpIn_rangeFunc_ownG (F := Fence.wide) (n := 9) rfl (by omega) (gf := 23) (lb := #[.pointer (some ⟨fB + 1 + 1, 0, none⟩)]) rfl trivial (enters_of Try.func23 (by kernel_rfl) rfl)
    (all_stops 8 (by omega) (fB + 1 + 1) g W0.heap.size ⟨fB + 1, 0, none⟩ (.slice A s.l.length c) s hl W0 (by omega) hX0.out hbag0 (show fB + 1 < W0.heap.size by omega) (fun j hj => by
      unfold rowOf at hj
      rw [show W0.cell? ⟨fB + 1, 0, none⟩ = some (.slice none 0 0) from hK1.out.sbx.cell 0] at hj
      cases hj) (Nat.le_refl _))
    (fun h1 h2 => h1.trans h2) (fun W l o o' hl h hc _ => BKp.putObj o' h hc (show fB + 1 ≠ l by omega)) (Below.refl _ _) (fun _ => rfl)
    (fun pre W => ∃ vs, KM w fB (fB + 1) (oddL pre) vs W) (fun _ _ _ => False) ?hI (fun _ _ _ _ _ h _ _ => h) ⟨_, hK1.out⟩ ?a1 ?assign ?body ?done ?stop)
  case hI =>
    rintro pre W W' row ⟨vs, h1⟩ hg hr
    exact ⟨vs, h1.turned hg (fun r e => ⟨by have := (hr r e).1; omega, (hr r e).2⟩)⟩
  case assign =>
    intro l x W K hK
    simp only [encI]
    gi_wp2
    exact hK
  case stop =>
    rintro D e pre W _ _ h
    exact h.elim
  case body =>
    rintro l pre x W ⟨vs, hM⟩ hlen
    have HM := Lib.hid hM
    have hpl := oddL_len pre
    have HT := Lib.hid (oddL_snoc pre x)
    obtain ⟨A5, c5, rfl, _, _, _⟩ := own_slice hM.row
    have d0 : W.cell? ⟨fB, 0, none⟩ = some (.func (.func 16) #[] #[]) := HM.out.fbx.cell 0
    have d1 : W.cell? ⟨fB + 1, 0, none⟩ = some (.slice A5 (oddL pre).length c5) := HM.out.sbx.cell 0
    have f1 := HM.out.sbx.frozen 0
    have hlf := HM.out.sbx.lt
    have hws := HM.out.bel.size
    have q1 : (oddL pre).length + 1 ≤ maxLen := by unfold maxLen; omega
    have q2 : ((oddL pre).length + 1) * 16 ≤ 140737488355328 := by omega
    have hOwn := Lib.hid HM.out.row
    clear hM
    cases ho : oddB x.2
    · rw [ho] at HT
      have HT' : Hid (oddL (pre ++ [x]) = oddL pre) := Lib.hid (by rw [HT.out]; simp)
      have hO := fun w => odd_any x.1 x.2 w
      rw [ho] at hO
      clear ho HT
      gi_wp2_with (first
        | (refine ⟨trivial, ?_⟩; gi_at_call 16; refine (CallsIn.inRound l (callsIn_wide.2 (hO _))).mono ?_; rintro e w9 ⟨rfl, rfl⟩)
        | fail)
      exact ⟨KeepsFrom.refl _ _, ⟨Nat.le_refl _, fun k o _ h _ _ => h, fun k h => .inl h⟩, _, by rw [HT'.out]; exact HM.out⟩
    · rw [ho] at HT
      have HT' : Hid (oddL (pre ++ [x]) = oddL pre ++ [x]) := Lib.hid (by rw [HT.out]; simp)
      have hO := fun w => odd_any x.1 x.2 w
      rw [ho] at hO
      clear ho HT
      gi_wp2_with (first
        | (refine ⟨trivial, ?_⟩; gi_at_call 16; refine (CallsIn.inRound l (callsIn_wide.2 (hO _))).mono ?_; rintro e w9 ⟨rfl, rfl⟩)
        | (gi_at_builtin; refine wpListIn_append_any _ rfl (.tmp 24) (.tmp 28) _ rfl w.heap.size 54 i0 _ 2 16 Try.underlying50 hi hz0 hz1 hz2 rfl (by decide) _ _ _ rfl (hOwn.out.alloc _) (W.heap.size + 1) (some ⟨W.heap.size, 0, none⟩) 1 1 (itc x) rfl (news_at rfl rfl) (itc_one x) q1 q2 (by simp; omega) ?_; intro v3 w3 hown hgr hat; have hfin := Lib.hid (km_append (n₁ := W0.heap.size) HM.out ((Below.refl _ _).alloc (Nat.le_refl _) _) hown hgr hat (by omega) (by omega) W0.heap.size); have hb3 := ((HM.out.sbx.alloc (.cells #[.int .i64 x.1, .int .i64 x.2] 54)).grown hgr (fun e => own_blk_ne HM.out.row HM.out.sbx (by decide) e.symm)); have e1 : w3.cell? ⟨fB + 1, 0, none⟩ = some (.slice A5 (oddL pre).length c5) := hb3.cell 0; have e2 := hb3.frozen 0; obtain ⟨A6, c6, rfl, _, _, _⟩ := own_slice hown; clear hown hgr hat hb3)
        | fail)
      obtain ⟨h1, h2, h3⟩ := hfin.out
      exact ⟨h3, h2, _, by rw [HT'.out]; exact h1⟩
  case done =>
    rintro D ys W hD rfl ⟨vs, hM⟩ hK
    have HM := Lib.hid hM
    have HK := Lib.hid hK
    have hbW := H.out.below hM.bel
    obtain ⟨A5, c5, rfl, _, _, _⟩ := own_slice hM.row
    obtain ⟨_, _, e2⟩ := bag_cells hbW
    have f2 := hbW.1.frozen 2
    have d1 : W.cell? ⟨fB + 1, 0, none⟩ = some (.slice A5 (oddL s.l).length c5) := HM.out.sbx.cell 0
    have hgl2 : g < W.heap.size := hbW.1.lt
    have hfl := HM.out.sbx.lt
    have hle := oddL_len s.l
    have hwr : IntKind.i64.wrap ((s.l.length : Int) - (oddL s.l).length) = (s.l.length : Int) - (oddL s.l).length := by rw [IntKind.wrap_i64]; omega
    have n1 : g ≠ fB + 1 := by omega
    have n2 : fB + 1 ≠ g := by omega
    have hgw : g < w.heap.size := H.out.1.lt
    have hA : BagAt (W.setCell ⟨g, 2, none⟩ (.slice A5 (oddL s.l).length c5)) g (.slice A5 (oddL s.l).length c5) s.keep :=
      ⟨hbW.1.set_ 2 _, own_block_same (own_mono hM.row (by omega)) (fun k hk => Below.heap_setCell _ _ _ k (by have := (hM.row.lt k hk).1; simp; omega))⟩
    have hKD : Hid ((W.setCell ⟨g, 2, none⟩ (.slice A5 (oddL s.l).length c5)).heap[D]? = some (.deferred (some []))) := Lib.hid ((KeepsOthers.setCell _ _ _).same D _ hK rfl)
    have hfin : Hid (BagAt ((W.setCell ⟨g, 2, none⟩ (.slice A5 (oddL s.l).length c5)).putObj D (.deferred none)) g (.slice A5 (oddL s.l).length c5) s.keep ∧ BStep w ((W.setCell ⟨g, 2, none⟩ (.slice A5 (oddL s.l).length c5)).putObj D (.deferred none)) g (.slice A s.l.length c) (.slice A5 (oddL s.l).length c5)) := Lib.hid (by
      refine ⟨hA.turned (grownBy_putObj' _ D (.deferred none)) (fun r e => by cases e; exact ⟨_, hKD.out, rfl⟩), ⟨⟨hM.bel.os, hM.bel.tape, hM.bel.output, by have := hM.bel.size; simpa [World.setCell] using this, fun k hk hn => ?_⟩, fun k hk => .inr (hM.row.lt k hk).1⟩⟩
      rw [World.putObj_heap_other (by omega), Below.heap_setCell _ _ _ k (fun e => hn (.inl e))]
      exact hM.bel.block k hk)
    clear hM hK hbW hA hbag0 hX0 hK1
    go_wp2_with (fail)
    refine ⟨by simp, .inl ⟨_, _, rfl, run_takeDeferred hKD.out, ?_⟩⟩
    exact ⟨_, results_tmp rfl _ _ _, rfl, _, hfin.out.1, hfin.out.2⟩
end Go.Proofs.Ytpkmbnmlepmceaa
