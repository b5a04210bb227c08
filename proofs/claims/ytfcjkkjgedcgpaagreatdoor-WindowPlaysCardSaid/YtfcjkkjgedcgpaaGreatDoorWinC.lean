/- Add. -/
import Derived.Test.YtfcjkkjgedcgpaaGreatDoorWinB
import Derived.Test.YtfcjkkjgedcgpaaGreatDoorLetI
import Derived.Test.YtfcjkkjgedcgpaaGreatDoorLetK
import Derived.Test.YtfcjkkjgedcgpaaGreatDoorUpdJ


namespace Go.Proofs.YtfcjkkjgedcgpaaGreatDoor
open Go.RowKit
set_option linter.unusedSimpArgs false
set_option linter.unusedVariables false
set_option maxHeartbeats 8000000
set_option maxRecDepth 100000
attribute [local go_sem] Up.agg Up.cells

noncomputable def Wn.addE (s : Wn) (u : Up) : Int := if updE u false ≠ 0 then updE u false else if u.seq - 1 ≠ s.lend then 12 else 0
def AddS (s : Wn) (u : Up) (s' : Wn) : Prop := (s.addE u ≠ 0 ∧ s' = s) ∨ (s.addE u = 0 ∧ ∃ u' : Up, u'.val = u.val ∧ s' = (Wn.mk s.low s.done (s.l ++ [u'])).trim)
def NewV (W : World) (v v' : Value) : Prop := v'.ownBlock = v.ownBlock ∨ ∀ k, v'.ownBlock = some k → W.heap.size ≤ k
def AddP (b0 g : Nat) (v : Value) (s : Wn) (u : Up) (W : World) (e : Ending) (W' : World) : Prop :=
  ∃ v' s', e = .returned (.int .i64 (s.addE u)) ∧ WinAt b0 W' g v' s' ∧ AddS s u s' ∧ Chg W W' (isW g v) ∧ NewV W v v'
theorem updE_zero {u : Up} {r : Bool} (h : updE u r = 0) : upOkP u r := by
  unfold updE at h
  split at h
  · cases h
  · split at h
    · cases h
    · unfold chkR upOkB at h
      by_cases hp : upOkP u r
      · exact hp
      · simp [hp] at h
theorem Wn.add_ok {s : Wn} (h : s.ok) {u u' : Up} (hv : u'.val = u.val) (hs : u.seq - 1 = s.lend) (hl : s.l.length + 1 ≤ 900000) (hb : s.lend + 1 ≤ 9000000000000000000) (hn : u'.n ≤ 100000) : (Wn.mk s.low s.done (s.l ++ [u'])).ok := by
  have hq : u'.seq = u.seq := congrArg Prod.fst hv
  have hl1 : (Wn.mk s.low s.done (s.l ++ [u'])).lend = s.lend + 1 := by unfold Wn.lend; simp; omega
  refine ⟨h.low, h.ld, by rw [hl1]; have := h.de; show s.done ≤ _; omega, by rw [hl1]; exact hb, ?_, by simpa using hl, ?_⟩
  · intro i x hx
    show x.seq = s.low + 1 + i
    by_cases hi : i < s.l.length
    · rw [List.getElem?_append_left hi] at hx
      exact h.row i x hx
    · have hi2 : i = s.l.length := by
        have := (List.getElem?_eq_some_iff.1 hx).1
        simp at this; omega
      subst hi2
      rw [List.getElem?_append_right (Nat.le_refl _)] at hx
      simp at hx
      subst hx
      unfold Wn.lend at hs
      omega
  · intro x hx
    rw [List.mem_append] at hx
    rcases hx with hx | hx
    · exact h.dat x hx
    · simp at hx; subst hx; exact hn
theorem one_of {o : List Up} {l : List Up} (h : o.length = l.length) (hl : l.length = 1 := by rfl) : ∃ u, o = [u] := by
  match o, h.trans hl with
  | [u], _ => exact ⟨u, rfl⟩
theorem up_n_eq {W V : World} {B D : Nat} {a b : Up} (h1 : UpIn W B a) (h2 : UpIn V D b) (h : a.val = b.val) : a.n = b.n := by
  have e : a.bs = b.bs := by simp only [Up.val, Prod.mk.injEq] at h; exact h.2.2.2.2.2.2
  rw [← h1.len, ← h2.len, e]
theorem WinAt.app {b0 : Nat} {W w8 w9 : World} {g : Nat} {v v9 : Value} {s : Wn} {u' : Up} (h : WinAt b0 W g v s) (h8 : Below W.heap.size W w8) (hu : UpOwn w8 W.heap.size u')
    (hown : w9.ownsRow b0 29 7 v9 (s.l.length + 1) (s.l.flatMap Up.row ++ u'.row)) (hg : w8.grownBy w9 v.ownBlock) (hat : v9.ownBlock = v.ownBlock ∨ v9.ownBlock = some w8.heap.size) (hok : (Wn.mk s.low s.done (s.l ++ [u'])).ok) :
    WinAt b0 (w9.setCell ⟨g, 2, none⟩ v9) g v9 ⟨s.low, s.done, s.l ++ [u']⟩ ∧ Chg W (w9.setCell ⟨g, 2, none⟩ v9) (isW g v) ∧ NewV W v v9 := by
  have lg := h.box.lt
  have ho8 := (Chg.of_below h8 (fun _ => False)).own h.own (fun _ _ x => x)
  have hb8 := h.box.below h8 lg
  have hne : v.ownBlock ≠ some g := own_blk_ne ho8 hb8 (by decide)
  have hb9 := hb8.grown hg (fun e => hne e.symm)
  have hc := chg_setB w9 g v9 2
  have hcg := Chg.of_grown hg
  have hbl : b0 ≤ W.heap.size := Nat.le_trans h.hg (Nat.le_of_lt lg)
  have hdat : ∀ x, UpOwn w8 b0 x → UpOwn (w9.setCell ⟨g, 2, none⟩ v9) b0 x := fun x hx => by
    have h1 := hx.chg hcg (fun k hk e => own_ne_own hx.1 ho8 (by decide) k hk e.symm)
    exact h1.chg hc (fun k hk e => own_blk_ne h1.1 hb9 (by decide) (by rw [hk, e]))
  refine ⟨⟨hb9.set_ 2 v9, ?_, ?_, h.hg, hok⟩, ?_, ?_⟩
  · have := hc.own hown (fun k hk e => by
      simp only [isB] at e
      exact own_blk_ne hown hb9 (by decide) (by rw [hk, e]))
    simpa using this
  · intro x hx
    rw [List.mem_append] at hx
    rcases hx with hx | hx
    · exact hdat x ((h.dat x hx).chg (Chg.of_below h8 (fun _ => False)) (fun _ _ x => x))
    · simp at hx; subst hx
      exact hdat _ ⟨own_mono hu.1 hbl, hu.2⟩
  · exact ((Chg.of_below h8 _).trans (hcg.mono (T := isW g v) (fun i _ hi => .inr hi.symm)) (fun _ _ x => x)).trans (hc.mono (T := isW g v) (fun i _ hi => .inl hi)) (fun _ _ x => x)
  · rcases hat with e | e
    · exact .inl e
    · exact .inr (fun k hk => by rw [e] at hk; injection hk with hk; have := h8.size; omega)
theorem add_any (b0 : Nat) (W : World) (g : Nat) (v : Value) (s : Wn) (u : Up) (B : Nat) (h : WinAt b0 W g v s) (hK : KindsAt W) (hu : UpIn W B u) (hB : B ≤ W.heap.size) (hn : u.n ≤ 100000) (hl : s.l.length + 1 ≤ 900000) (hb : s.lend + 1 ≤ 9000000000000000000) :
    Calls Tryz.prog 7 #[.pointer (some ⟨g, 0, none⟩), u.agg] W (AddP b0 g v s u W) := by
  obtain ⟨i0, hi, hz0, hz1, hz2⟩ := info_parts upInfo
  have H := Lib.hid h
  have HU := Lib.hid hu
  have HB1 : Hid (Below W.heap.size W (W.alloc (.cells u.cells 29))) := Lib.hid (by repeat (first | with_reducible exact Below.refl _ _ | with_reducible refine Below.setCell ?_ (by first | omega | (simp <;> omega)) _ | with_reducible refine Below.alloc ?_ (by first | omega | (simp <;> omega)) _ | with_reducible refine below_drewN ?_ _ | with_reducible refine Below.drew ?_))
  have CK := Lib.hid (updCheckT_any u B (W.alloc (.cells u.cells 29)) (hK.below HB1.out) (hu.below (HB1.out.mono hB)) (Nat.le_trans hB HB1.out.size) (by omega))
  have BU : Hid (Blk (W.alloc (.cells u.cells 29)) W.heap.size 29 u.cells) := Lib.hid (Blk.new W _ _)
  obtain ⟨z, hz⟩ : ∃ z, updE u false = z := ⟨_, rfl⟩
  have HZ := Lib.hid hz
  rw [hz] at CK
  have HLM := Lib.hid (And.intro hl hb)
  clear h hu hz hl hb hK
  by_cases h0 : z = 0
  rotate_left
  · have h0' : (z != 0) = true := by simpa using h0
    have HE : Hid (s.addE u = z) := Lib.hid (by unfold Wn.addE; rw [HZ.out, if_pos h0])
    have HNZ := Lib.hid h0
    clear h0
    go_enter Tryz.func7, Tryz.ntmps7
    go_wp2_with (fail)
    refine CK.out.mono ?_
    rintro e w1 ⟨rfl, h1⟩
    have H1 := Lib.hid (HB1.out.trans (h1.mono HB1.out.size))
    clear h1
    go_wp2_with (fail)
    go_ret
    exact ⟨v, s, by rw [HE.out]; rfl, H.out.below H1.out, .inl ⟨by rw [HE.out]; exact HNZ.out, rfl⟩, Chg.of_below H1.out _, .inl rfl⟩
  subst h0
  have hok := updE_zero HZ.out
  have hsq : 1 ≤ u.seq := by
    have h1 : ¬ u.seq = 0 := fun e => by have := hok.1.1 e; cases this
    have := HU.out.wf.seq.1
    omega
  have hw1 : IntKind.u64.wrap (u.seq - 1) = u.seq - 1 := by have := HU.out.wf.seq; rw [IntKind.wrap_u64]; omega
  clear hok hsq
  go_enter Tryz.func7, Tryz.ntmps7
  go_wp2_with (fail)
  refine CK.out.mono ?_
  rintro e w1 ⟨rfl, h1⟩
  have H1 := Lib.hid (HB1.out.trans (h1.mono HB1.out.size))
  have BU1 := Lib.hid (BU.out.below h1 BU.out.lt)
  have HW1 := Lib.hid (H.out.below H1.out)
  obtain ⟨x0, x1, x2, x3, x4, x5, x6⟩ := up_cells BU1.out
  have lx := BU1.out.lt
  have WE := Lib.hid (fun W' (h9 : Below w1.heap.size w1 W') => wend_any b0 W' g v s (HW1.out.below h9))
  clear h1
  go_wp2_with (fail)
  have hb : Below w1.heap.size w1 w1.drew := (Below.refl _ _).drew
  go_region_held3 (fun w' => w'.cell? ⟨W.heap.size, 0, none⟩ = some (.int .u64 u.seq)) (go_keep) (first
    | (go_at_call 9; refine (WE.out _ hb).mono ?_; rintro e w6 ⟨rfl, hb6⟩; replace hb := hb.trans (hb6.mono hb.size); replace x0 := (hb.cell (p := ⟨W.heap.size, 0, none⟩) lx).trans ((BU1.out.cell 0).trans (show _ = some (.int .u64 u.seq) from rfl)); clear hb6)
    | fail)
  have H6 := Lib.hid (H1.out.trans (hb.mono H1.out.size))
  have BU6 := Lib.hid (BU1.out.below hb lx)
  have HW6 := Lib.hid (HW1.out.below hb)
  clear hb x0 x1 x2 x3 x4 x5 x6 CK WE BU1 HW1 H1 lx BU
  by_cases hq : u.seq - 1 = s.lend
  rotate_left
  · have hq' : (u.seq - 1 != s.lend) = true := by simpa using hq
    have HE : Hid (s.addE u = 12) := Lib.hid (by unfold Wn.addE; rw [HZ.out, if_neg (by simp), if_pos hq])
    clear hq
    go_wp2_with (fail)
    go_ret
    exact ⟨v, s, by rw [HE.out]; rfl, HW6.out, .inl ⟨by rw [HE.out]; decide, rfl⟩, Chg.of_below H6.out _, .inl rfl⟩
  have hq' : (u.seq - 1 != s.lend) = false := by simpa using hq
  have HE : Hid (s.addE u = 0) := Lib.hid (by unfold Wn.addE; rw [HZ.out, if_neg (by simp), if_neg (by simpa using hq)])
  have HQ := Lib.hid hq
  clear hq
  obtain ⟨x0, x1, x2, x3, x4, x5, x6⟩ := up_cells BU6.out
  have lx := BU6.out.lt
  obtain ⟨A, c, rfl, _, hlc, hcm⟩ := HW6.out.ups
  have c2 := (HW6.out.box.cell 2).trans (show _ = some (.slice A s.l.length c) from rfl)
  have lg := HW6.out.box.lt
  have HB7 : Hid (Below w6.heap.size w6 (w6.drew.alloc (.cells u.cells 29))) := Lib.hid (by repeat (first | with_reducible exact Below.refl _ _ | with_reducible refine Below.setCell ?_ (by first | omega | (simp <;> omega)) _ | with_reducible refine Below.alloc ?_ (by first | omega | (simp <;> omega)) _ | with_reducible refine below_drewN ?_ _ | with_reducible refine Below.drew ?_))
  have HU7 : Hid (UpsIn (w6.drew.alloc (.cells u.cells 29)) (w6.drew.alloc (.cells u.cells 29)).heap.size (some ⟨w6.heap.size, 0, none⟩) 1 [u]) :=
    Lib.hid (ups_new w6.drew u B (by have := HU.out.below (H6.out.mono hB); exact ⟨this.rd.drew, this.hc, this.hm, this.wf⟩) (Nat.le_trans hB H6.out.size))
  have CP := Lib.hid (copy_any (some ⟨w6.heap.size, 0, none⟩) 1 1 _ [u] _ HU7.out (Nat.le_refl _) (by omega) (fun x hx => by simp at hx; subst hx; omega))
  go_wp2_with (fail)
  refine wp_region_k 8 (S := fun w' => w'.cell? ⟨g, 2, none⟩ = some (.slice A s.l.length c) ∧ w'.cell? ⟨W.heap.size, 0, none⟩ = some (.int .u64 u.seq) ∧ w'.cell? ⟨W.heap.size, 1, none⟩ = some (.int .i64 u.cl) ∧ w'.cell? ⟨W.heap.size, 2, none⟩ = some (.int .u64 u.num) ∧ w'.cell? ⟨W.heap.size, 3, none⟩ = some (.int .i64 u.kd) ∧ w'.cell? ⟨W.heap.size, 4, none⟩ = some (.int .u32 u.key) ∧ w'.cell? ⟨W.heap.size, 5, none⟩ = some (.int .u64 u.ver) ∧ w'.cell? ⟨W.heap.size, 6, none⟩ = some (.slice u.A u.n u.c)) (by kernel_rfl) ⟨c2, x0, x1, x2, x3, x4, x5, x6⟩ (fun hHeld => ?_)
  refine wpAnyK_free' (i := 0) (oi := _) (v := ?_) rfl (by kernel_rfl) (by kernel_rfl) (by kernel_rfl) (by decide) (fun _ _ _ h => h) (Or.inl ⟨by rfl, ?_⟩) (fun _ => by assumption) ?_
  rotate_left 1
  · (intro wq hSw; (try dsimp only at hSw); go_simp; (try with_reducible rfl))
  try simp only [Act.put, List.setIfInBounds_toArray, List.set_cons_zero, List.set_cons_succ, List.getElem_toArray, List.getElem_cons_zero, List.getElem_cons_succ]
  refine wpAnyK_take (n := 12) (i := 1) (oi := _) (v := ?_) rfl (by kernel_rfl) (by kernel_rfl) (by kernel_rfl) (by kernel_rfl) (by kernel_rfl) (by kernel_rfl) (fun _ _ _ h => h) (Or.inl ⟨by rfl, ?_⟩) (by assumption) ?_
  rotate_left 1
  · (intro wq hSw; (try dsimp only at hSw); go_simp; (try with_reducible rfl))
  try simp only [Act.put, List.setIfInBounds_toArray, List.set_cons_zero, List.set_cons_succ, List.getElem_toArray, List.getElem_cons_zero, List.getElem_cons_succ]
  refine wpAnyK_take (n := 12) (i := 2) (oi := _) (v := ?_) rfl (by kernel_rfl) (by kernel_rfl) (by kernel_rfl) (by kernel_rfl) (by kernel_rfl) (by kernel_rfl) (fun _ _ _ h => h) (Or.inl ⟨by rfl, ?_⟩) (by assumption) ?_
  rotate_left 1
  · (intro wq hSw; (try dsimp only at hSw); go_simp; (try with_reducible rfl))
  try simp only [Act.put, List.setIfInBounds_toArray, List.set_cons_zero, List.set_cons_succ, List.getElem_toArray, List.getElem_cons_zero, List.getElem_cons_succ]
  refine wpAnyK_take (n := 12) (i := 3) (oi := _) (v := ?_) rfl (by kernel_rfl) (by kernel_rfl) (by kernel_rfl) (by kernel_rfl) (by kernel_rfl) (by kernel_rfl) (fun _ _ _ h => h) (Or.inl ⟨by rfl, ?_⟩) (by assumption) ?_
  rotate_left 1
  · (intro wq hSw; (try dsimp only at hSw); go_simp; (try with_reducible rfl))
  try simp only [Act.put, List.setIfInBounds_toArray, List.set_cons_zero, List.set_cons_succ, List.getElem_toArray, List.getElem_cons_zero, List.getElem_cons_succ]
  refine wpAnyK_take (n := 12) (i := 4) (oi := _) (v := ?_) rfl (by kernel_rfl) (by kernel_rfl) (by kernel_rfl) (by kernel_rfl) (by kernel_rfl) (by kernel_rfl) (fun _ _ _ h => h) (Or.inl ⟨by rfl, ?_⟩) (by assumption) ?_
  rotate_left 1
  · (intro wq hSw; (try dsimp only at hSw); go_simp; (try with_reducible rfl))
  try simp only [Act.put, List.setIfInBounds_toArray, List.set_cons_zero, List.set_cons_succ, List.getElem_toArray, List.getElem_cons_zero, List.getElem_cons_succ]
  refine wpAnyK_take (n := 12) (i := 5) (oi := _) (v := ?_) rfl (by kernel_rfl) (by kernel_rfl) (by kernel_rfl) (by kernel_rfl) (by kernel_rfl) (by kernel_rfl) (fun _ _ _ h => h) (Or.inl ⟨by rfl, ?_⟩) (by assumption) ?_
  rotate_left 1
  · (intro wq hSw; (try dsimp only at hSw); go_simp; (try with_reducible rfl))
  try simp only [Act.put, List.setIfInBounds_toArray, List.set_cons_zero, List.set_cons_succ, List.getElem_toArray, List.getElem_cons_zero, List.getElem_cons_succ]
  refine wpAnyK_ready (rs := [6]) (by kernel_rfl) (by simp) ?_
  refine AllReadyK.cons (o := _) rfl (fun K hK => ?_) AllReadyK.nil
  go_simp
  (try go_simp)
  refine hK.out _ _ ?_ (fun hHeld => ?_)
  · go_keep
  clear hK K
  try simp only [Act.put, List.setIfInBounds_toArray, List.set_cons_zero, List.set_cons_succ, List.getElem_toArray, List.getElem_cons_zero, List.getElem_cons_succ]
  refine wpAnyK_ready (rs := [7]) (by kernel_rfl) (by simp) ?_
  refine AllReadyK.cons (o := _) rfl (fun K hK => ?_) AllReadyK.nil
  go_simp
  refine CP.out.mono ?_; rintro e w8 ⟨v8, o8, rfl, hp⟩; obtain ⟨u', rfl⟩ := one_of hp.len; obtain ⟨A8, c8, rfl, hu8, _, _⟩ := hp.ups; have HU8 := Lib.hid hu8; have HP := Lib.hid hp; have h8 := HB7.out.trans (hp.bel.mono HB7.out.size); replace c2 := (h8.cell (p := ⟨g, 2, none⟩) lg).trans c2; replace x0 := (h8.cell (p := ⟨W.heap.size, 0, none⟩) lx).trans x0; replace x1 := (h8.cell (p := ⟨W.heap.size, 1, none⟩) lx).trans x1; replace x2 := (h8.cell (p := ⟨W.heap.size, 2, none⟩) lx).trans x2; replace x3 := (h8.cell (p := ⟨W.heap.size, 3, none⟩) lx).trans x3; replace x4 := (h8.cell (p := ⟨W.heap.size, 4, none⟩) lx).trans x4; replace x5 := (h8.cell (p := ⟨W.heap.size, 5, none⟩) lx).trans x5; replace x6 := (h8.cell (p := ⟨W.heap.size, 6, none⟩) lx).trans x6; have H8 := Lib.hid h8; clear h8 hp hu8
  (try go_simp)
  refine hK.out _ _ ?_ (fun hHeld => ?_)
  · go_keep
  clear hK K
  try simp only [Act.put, List.setIfInBounds_toArray, List.set_cons_zero, List.set_cons_succ, List.getElem_toArray, List.getElem_cons_zero, List.getElem_cons_succ]
  have HO8 := Lib.hid ((Chg.of_below H8.out (fun _ => False)).own HW6.out.own (fun _ _ x => x))
  have hlen : s.l.length + 1 ≤ 900000 := HLM.out.1
  have hbw : b0 ≤ w8.heap.size := Nat.le_trans HW6.out.hg (Nat.le_trans (Nat.le_of_lt lg) H8.out.size)
  refine wpAnyK_ready (rs := [8]) (by kernel_rfl) (by simp) ?_
  refine AllReadyK.last (o := _) rfl (by kernel_rfl) (fun K hK => ?_) AllReadyK.nil
  refine step_append_any _ rfl (.tmp 23) (.tmp 26) _ rfl b0 29 i0 _ 7 72 Tryz.underlying36 hi hz0 hz1 hz2 rfl (by omega) (.slice A s.l.length c) s.l.length (s.l.flatMap Up.row) rfl HO8.out w8.heap.size A8 1 c8 u'.row rfl (by have := HU8.out.rd; simpa using this) (up_one u') (by unfold maxLen; omega) (by omega) hbw ?_
  intro v9 w9 hown hg hat
  have HA := Lib.hid (HW6.out.app H8.out ⟨own_mono (HP.out.dat u' (by simp)).1 HB7.out.size, (HP.out.dat u' (by simp)).2⟩ hown hg hat (Wn.add_ok HW6.out.ok (u := u) (by have := HP.out.val; simpa using this) HQ.out HLM.out.1 HLM.out.2 (by have := HP.out.val; simp at this; have h2 := up_n_eq (HP.out.dat u' (by simp)).in_ HU.out this; omega)))
  obtain ⟨A9, c9, rfl, _, _, _⟩ := own_slice hown
  have hb9 := (HW6.out.box.below H8.out lg).grown hg (fun e => own_blk_ne HO8.out (HW6.out.box.below H8.out lg) (by decide) e.symm)
  have d2 := (hb9.cell 2).trans (show _ = some (.slice A s.l.length c) from rfl)
  have e2 := hb9.frozen 2
  have HV8 : Hid (u'.val = u.val) := Lib.hid (by have := HP.out.val; simpa using this)
  clear hown hg hat hb9 c2 x0 x1 x2 x3 x4 x5 x6
  (try go_simp)
  refine hK.out _ _ ?_
  clear hK K
  try simp only [Act.put, List.setIfInBounds_toArray, List.set_cons_zero, List.set_cons_succ, List.getElem_toArray, List.getElem_cons_zero, List.getElem_cons_succ]
  refine wpAnyK_free' (i := 9) (oi := _) (v := ?_) rfl (by kernel_rfl) (by kernel_rfl) (by kernel_rfl) (by decide) (fun _ _ _ h => h) (Or.inl ⟨by rfl, ?_⟩) (fun h0 => by cases h0) ?_
  rotate_left 1
  · (intro wq hSw; (try dsimp only at hSw); go_simp; (try with_reducible rfl))
  try simp only [Act.put, List.setIfInBounds_toArray, List.set_cons_zero, List.set_cons_succ, List.getElem_toArray, List.getElem_cons_zero, List.getElem_cons_succ]
  refine wpAnyK_free' (i := 10) (oi := _) (v := ?_) rfl (by kernel_rfl) (by kernel_rfl) (by kernel_rfl) (by decide) (fun _ _ _ h => h) (Or.inl ⟨by rfl, ?_⟩) (fun h0 => by cases h0) ?_
  rotate_left 1
  · (intro wq hSw; (try dsimp only at hSw); go_simp; (try with_reducible rfl))
  try simp only [Act.put, List.setIfInBounds_toArray, List.set_cons_zero, List.set_cons_succ, List.getElem_toArray, List.getElem_cons_zero, List.getElem_cons_succ]
  refine wpAnyK_ready (rs := [11]) (by kernel_rfl) (by simp) ?_
  refine AllReadyK.last (o := _) rfl (by kernel_rfl) (fun K hK => ?_) AllReadyK.nil
  go_simp
  (try go_simp)
  refine hK.out _ _ ?_
  clear hK K
  try simp only [Act.put, List.setIfInBounds_toArray, List.set_cons_zero, List.set_cons_succ, List.getElem_toArray, List.getElem_cons_zero, List.getElem_cons_succ]
  refine wpAnyK_done (by kernel_rfl) ?_ _
  go_wp2_with (fail)
  refine (trim_any b0 _ g _ _ HA.out.1).mono ?_
  rintro e w10 ⟨v10, rfl, hA, hC, hN⟩
  have H10 := Lib.hid hA
  have HC := Lib.hid (HA.out.2.1.trans (hC.mono (T := isW g (.slice A s.l.length c)) (fun i _ hi => .inl hi)) (fun _ _ x => x))
  have HN : Hid (NewV w6 (.slice A s.l.length c) v10) := Lib.hid (by
    rcases hN with rfl | hN
    · exact HA.out.2.2
    · exact .inr (fun k hk => Nat.le_trans HA.out.2.1.size (hN k hk)))
  clear hA hC hN d2 e2
  go_wp2_with (fail)
  go_ret
  refine ⟨v10, _, by rw [HE.out]; rfl, H10.out, .inr ⟨HE.out, u', HV8.out, rfl⟩, (Chg.of_below H6.out _).trans HC.out (fun _ _ x => x), ?_⟩
  rcases HN.out with h | h
  · exact .inl h
  · exact .inr (fun k hk => Nat.le_trans H6.out.size (h k hk))
end Go.Proofs.YtfcjkkjgedcgpaaGreatDoor
