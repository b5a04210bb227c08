/- trim. -/
import Derived.Test.YtfcjkkjgedcgpaaGreatDoorWinA

namespace Go.Proofs.YtfcjkkjgedcgpaaGreatDoor
open Go.RowKit
set_option linter.unusedSimpArgs false
set_option linter.unusedVariables false
set_option maxHeartbeats 4000000
set_option maxRecDepth 100000

def Wn.cutTo (s : Wn) : Int := max s.low (min s.done (s.lend - 32))
def Wn.trim (s : Wn) : Wn := if s.lend < 32 then s else ⟨s.cutTo, s.done, s.l.drop (s.cutTo - s.low).toNat⟩
theorem Wn.cut_bounds (s : Wn) (h : s.ok) : s.low ≤ s.cutTo ∧ s.cutTo ≤ s.done ∧ 0 ≤ s.cutTo - s.low ∧ (s.cutTo - s.low).toNat ≤ s.l.length := by
  have h1 := h.ld
  have h2 := h.de
  have h3 : s.lend = s.low + s.l.length := rfl
  unfold Wn.cutTo
  omega
theorem Wn.trim_lend (s : Wn) (h : s.ok) : s.trim.lend = s.lend ∧ s.trim.done = s.done := by
  obtain ⟨h1, h2, h3, h4⟩ := s.cut_bounds h
  unfold Wn.trim
  split
  · exact ⟨rfl, rfl⟩
  · refine ⟨?_, rfl⟩
    unfold Wn.lend
    simp only [List.length_drop]
    omega
theorem Wn.trim_ok (s : Wn) (h : s.ok) : s.trim.ok := by
  obtain ⟨h1, h2, h3, h4⟩ := s.cut_bounds h
  obtain ⟨e1, e2⟩ := s.trim_lend h
  unfold Wn.trim at *
  split
  · exact h
  · rename_i hlt
    rw [if_neg hlt] at e1 e2
    refine ⟨by have := h.low; show 0 ≤ s.cutTo; omega, h2, by rw [e1]; exact h.de, by rw [e1]; exact h.big, ?_, by simp only [List.length_drop]; have := h.len; omega, fun u hu => h.dat u (List.mem_of_mem_drop hu)⟩
    intro i u hi
    rw [List.getElem?_drop] at hi
    have := h.row _ _ hi
    show u.seq = s.cutTo + 1 + i
    omega
def TrimP (b0 g : Nat) (v : Value) (s : Wn) (W : World) (e : Ending) (W' : World) : Prop :=
  ∃ v', e = .returned (.tuple #[]) ∧ WinAt b0 W' g v' s.trim ∧ Chg W W' (isB g) ∧ (v' = v ∨ ∀ k, v'.ownBlock = some k → W.heap.size ≤ k)
theorem up_rows_one (l : List Up) : ∀ x ∈ l.flatMap Up.row, x.oneCell' = true := by
  intro x hx
  rw [List.mem_flatMap] at hx
  obtain ⟨u, _, hu⟩ := hx
  exact up_one u x hu
theorem UpOwn.chg {W W' : World} {b0 : Nat} {u : Up} {S : Nat → Prop} (h : UpOwn W b0 u) (c : Chg W W' S) (hS : ∀ k, (Value.slice u.A u.n u.c).ownBlock = some k → ¬ S k) : UpOwn W' b0 u := ⟨c.own h.1 hS, h.2⟩
theorem WinAt.put {b0 : Nat} {W w8 : World} {g : Nat} {v v8 : Value} {s : Wn} {l' : List Up} {q : Int} (h : WinAt b0 W g v s) (h8 : Below W.heap.size W w8) (hown : w8.ownsRow W.heap.size 29 7 v8 l'.length (l'.flatMap Up.row)) (hl : ∀ u ∈ l', u ∈ s.l) (hok : Wn.ok ⟨q, s.done, l'⟩) :
    WinAt b0 ((w8.setCell ⟨g, 2, none⟩ v8).setCell ⟨g, 0, none⟩ (.int .u64 q)) g v8 ⟨q, s.done, l'⟩ ∧ Chg W ((w8.setCell ⟨g, 2, none⟩ v8).setCell ⟨g, 0, none⟩ (.int .u64 q)) (isB g) ∧ (∀ k, v8.ownBlock = some k → W.heap.size ≤ k) := by
  have hc := (chg_setB w8 g v8 2).trans (chg_setB _ g (.int .u64 q) 0) (fun _ _ x => x)
  have hg := h.box.lt
  have hb8 := h.box.below h8 hg
  refine ⟨⟨?_, own_mono (hc.own hown (fun k hk e => ?_)) (Nat.le_trans h.hg (Nat.le_of_lt hg)), fun u hu => ?_, h.hg, hok⟩, (Chg.of_below h8 _).trans hc (fun _ _ x => x), fun k hk => (hown.lt k hk).1⟩
  · exact (hb8.set_ 2 v8).set_ 0 (.int .u64 q)
  · have := (hown.lt k hk).1; simp only [isB] at e; omega
  · have h1 := (h.dat u (hl u hu)).chg (Chg.of_below h8 (fun _ => False)) (fun _ _ x => x)
    exact h1.chg hc (fun k hk e => own_blk_ne h1.1 hb8 (by decide) (by rw [hk, e]))
theorem trim_any (b0 : Nat) (W : World) (g : Nat) (v : Value) (s : Wn) (h : WinAt b0 W g v s) : Calls Tryz.prog 26 #[.pointer (some ⟨g, 0, none⟩)] W (TrimP b0 g v s W) := by
  obtain ⟨i0, hi, hz0, hz1, hz2⟩ := info_parts upInfo
  have H := Lib.hid h
  clear h
  by_cases he : s.lend < 32
  · have hT : Hid (s.trim = s) := Lib.hid (by unfold Wn.trim; rw [if_pos he])
    go_enter Tryz.func26, Tryz.ntmps26
    go_wp2_with (fail)
    refine (wend_any b0 W g v s H.out).mono ?_
    rintro e w1 ⟨rfl, h1⟩
    have H1 := Lib.hid h1
    clear h1
    go_wp2_with (fail)
    go_end0
    exact ⟨v, rfl, by rw [hT.out]; exact H.out.below H1.out, Chg.of_below H1.out _, .inl rfl⟩
  have hT : Hid (s.trim = ⟨s.cutTo, s.done, s.l.drop (s.cutTo - s.low).toNat⟩) := Lib.hid (by unfold Wn.trim; rw [if_neg he])
  go_enter Tryz.func26, Tryz.ntmps26
  go_wp2_with (fail)
  refine (wend_any b0 W g v s H.out).mono ?_
  rintro e w1 ⟨rfl, h1⟩
  have H1 := Lib.hid h1
  have HW := Lib.hid (H.out.below h1)
  obtain ⟨A, c, rfl, hup, hlc, hcm⟩ := HW.out.ups
  obtain ⟨c0, c1, c2⟩ := win_cells HW.out
  have hwr : IntKind.u64.wrap (s.lend - 32) = s.lend - 32 := by have := H.out.ok.big; rw [IntKind.wrap_u64]; omega
  have HUP := Lib.hid hup
  obtain ⟨m, hm⟩ : ∃ m, (if s.lend - 32 < s.done then s.lend - 32 else s.done) = m := ⟨_, rfl⟩
  obtain ⟨q, hq⟩ : ∃ q, (if s.low < m then m else s.low) = q := ⟨_, rfl⟩
  have HQ : Hid (q = s.cutTo) := Lib.hid (by rw [← hq, ← hm]; unfold Wn.cutTo; split <;> split <;> omega)
  obtain ⟨k1, k2, k3, k4⟩ := s.cut_bounds H.out.ok
  rw [← HQ.out] at k1 k2 k3 k4
  have k5 := H.out.ok.big
  have k6 := H.out.ok.de
  have k7 := H.out.ok.low
  obtain ⟨n, hn⟩ : ∃ n : Nat, n = (q - s.low).toNat := ⟨_, rfl⟩
  have hn1 : IntKind.u64.wrap (q - s.low) = (n : Int) := by rw [IntKind.wrap_u64]; omega
  have hn2 : IntKind.i64.wrap (n : Int) = (n : Int) := by rw [IntKind.wrap_i64]; omega
  have hn3 : n ≤ s.l.length := by omega
  have HN := Lib.hid hn
  clear h1 hup k1 k2 k3 k4 k5 k6 k7 hn
  go_wp2_with (fail)
  go_quiet (fail)
  go_wp2_with (fail)
  refine wp_region_k 17 (S := fun w' => w'.cell? ⟨g, 2, none⟩ = some (.slice A s.l.length c)) (by kernel_rfl) c2 (fun hHeld => ?_)
  have c0' := c0
  refine wpAnyK_free' (i := 0) (oi := _) (v := ?_) rfl (by kernel_rfl) (by kernel_rfl) (by kernel_rfl) (by decide) (fun _ _ _ h => h) (Or.inl ⟨by rfl, ?_⟩) (fun _ => by assumption) ?_
  rotate_left 1
  · (intro wq hSw; (try dsimp only at hSw); go_simp; (try with_reducible rfl))
  try simp only [Act.put, List.setIfInBounds_toArray, List.set_cons_zero, List.set_cons_succ, List.getElem_toArray, List.getElem_cons_zero, List.getElem_cons_succ]
  refine wpAnyK_take (n := 12) (i := 1) (oi := _) (v := ?_) rfl (by kernel_rfl) (by kernel_rfl) (by kernel_rfl) (by kernel_rfl) (by kernel_rfl) (by kernel_rfl) (fun _ _ _ h => h) (Or.inl ⟨by rfl, ?_⟩) (by assumption) ?_
  rotate_left 1
  · (intro wq hSw; (try dsimp only at hSw); go_simp; (try with_reducible rfl))
  try simp only [Act.put, List.setIfInBounds_toArray, List.set_cons_zero, List.set_cons_succ, List.getElem_toArray, List.getElem_cons_zero, List.getElem_cons_succ]
  refine wpAnyK_take (n := 12) (i := 2) (oi := _) (v := ?_) rfl (by kernel_rfl) (by kernel_rfl) (by kernel_rfl) (by kernel_rfl) (by kernel_rfl) (by kernel_rfl) (fun _ _ _ h => h) (Or.inl ⟨by rfl, ?_⟩) (by assumption) ?_
  rotate_left 1
  · (intro wq hSw; (try dsimp only at hSw); go_simp; (try with_reducible rfl))
  try simp only [Act.put, List.setIfInBounds_toArray, List.set_cons_zero, List.set_cons_succ, List.getElem_toArray, List.getElem_cons_zero, List.getElem_cons_succ]
  refine wpAnyK_take (n := 12) (i := 3) (oi := _) (v := ?_) rfl (by kernel_rfl) (by kernel_rfl) (by kernel_rfl) (by kernel_rfl) (by kernel_rfl) (by kernel_rfl) (fun _ _ _ h => h) (Or.inl ⟨by rfl, ?_⟩) (by assumption) ?_
  rotate_left 1
  · (intro wq hSw; (try dsimp only at hSw); go_simp; (try with_reducible rfl))
  try simp only [Act.put, List.setIfInBounds_toArray, List.set_cons_zero, List.set_cons_succ, List.getElem_toArray, List.getElem_cons_zero, List.getElem_cons_succ]
  refine wpAnyK_take (n := 12) (i := 4) (oi := _) (v := ?_) rfl (by kernel_rfl) (by kernel_rfl) (by kernel_rfl) (by kernel_rfl) (by kernel_rfl) (by kernel_rfl) (fun _ _ _ h => h) (Or.inl ⟨by rfl, ?_⟩) (by assumption) ?_
  rotate_left 1
  · (intro wq hSw; (try dsimp only at hSw); go_simp; (try with_reducible rfl))
  try simp only [Act.put, List.setIfInBounds_toArray, List.set_cons_zero, List.set_cons_succ, List.getElem_toArray, List.getElem_cons_zero, List.getElem_cons_succ]
  refine wpAnyK_take (n := 12) (i := 5) (oi := _) (v := ?_) rfl (by kernel_rfl) (by kernel_rfl) (by kernel_rfl) (by kernel_rfl) (by kernel_rfl) (by kernel_rfl) (fun _ _ _ h => h) (Or.inl ⟨by rfl, ?_⟩) (by assumption) ?_
  rotate_left 1
  · (intro wq hSw; (try dsimp only at hSw); go_simp; (try with_reducible rfl))
  try simp only [Act.put, List.setIfInBounds_toArray, List.set_cons_zero, List.set_cons_succ, List.getElem_toArray, List.getElem_cons_zero, List.getElem_cons_succ]
  refine wpAnyK_take (n := 12) (i := 6) (oi := _) (v := ?_) rfl (by kernel_rfl) (by kernel_rfl) (by kernel_rfl) (by kernel_rfl) (by kernel_rfl) (by kernel_rfl) (fun _ _ _ h => h) (Or.inl ⟨by rfl, ?_⟩) (by assumption) ?_
  rotate_left 1
  · (intro wq hSw; (try dsimp only at hSw); go_simp; (try with_reducible rfl))
  try simp only [Act.put, List.setIfInBounds_toArray, List.set_cons_zero, List.set_cons_succ, List.getElem_toArray, List.getElem_cons_zero, List.getElem_cons_succ]
  refine wpAnyK_take (n := 12) (i := 7) (oi := _) (v := ?_) rfl (by kernel_rfl) (by kernel_rfl) (by kernel_rfl) (by kernel_rfl) (by kernel_rfl) (by kernel_rfl) (fun _ _ _ h => h) (Or.inl ⟨by rfl, ?_⟩) (by assumption) ?_
  rotate_left 1
  · (intro wq hSw; (try dsimp only at hSw); go_simp; (try with_reducible rfl))
  try simp only [Act.put, List.setIfInBounds_toArray, List.set_cons_zero, List.set_cons_succ, List.getElem_toArray, List.getElem_cons_zero, List.getElem_cons_succ]
  refine wpAnyK_take (n := 12) (i := 8) (oi := _) (v := ?_) rfl (by kernel_rfl) (by kernel_rfl) (by kernel_rfl) (by kernel_rfl) (by kernel_rfl) (by kernel_rfl) (fun _ _ _ h => h) (Or.inl ⟨by rfl, ?_⟩) (by assumption) ?_
  rotate_left 1
  · (intro wq hSw; (try dsimp only at hSw); go_simp; (try with_reducible rfl))
  try simp only [Act.put, List.setIfInBounds_toArray, List.set_cons_zero, List.set_cons_succ, List.getElem_toArray, List.getElem_cons_zero, List.getElem_cons_succ]
  refine wpAnyK_take (n := 12) (i := 9) (oi := _) (v := ?_) rfl (by kernel_rfl) (by kernel_rfl) (by kernel_rfl) (by kernel_rfl) (by kernel_rfl) (by kernel_rfl) (fun _ _ _ h => h) (Or.inl ⟨by rfl, ?_⟩) (by assumption) ?_
  rotate_left 1
  · (intro wq hSw; (try dsimp only at hSw); go_simp; (try with_reducible rfl))
  try simp only [Act.put, List.setIfInBounds_toArray, List.set_cons_zero, List.set_cons_succ, List.getElem_toArray, List.getElem_cons_zero, List.getElem_cons_succ]
  refine wpAnyK_take (n := 12) (i := 10) (oi := _) (v := ?_) rfl (by kernel_rfl) (by kernel_rfl) (by kernel_rfl) (by kernel_rfl) (by kernel_rfl) (by kernel_rfl) (fun _ _ _ h => h) (Or.inl ⟨by rfl, ?_⟩) (by assumption) ?_
  rotate_left 1
  · (intro wq hSw; (try dsimp only at hSw); go_simp; (try with_reducible rfl))
  try simp only [Act.put, List.setIfInBounds_toArray, List.set_cons_zero, List.set_cons_succ, List.getElem_toArray, List.getElem_cons_zero, List.getElem_cons_succ]
  refine wpAnyK_take (n := 12) (i := 11) (oi := _) (v := ?_) rfl (by kernel_rfl) (by kernel_rfl) (by kernel_rfl) (by kernel_rfl) (by kernel_rfl) (by kernel_rfl) (fun _ _ _ h => h) (Or.inl ⟨by rfl, ?_⟩) (by assumption) ?_
  rotate_left 1
  · (intro wq hSw; (try dsimp only at hSw); go_simp; (try with_reducible rfl))
  try simp only [Act.put, List.setIfInBounds_toArray, List.set_cons_zero, List.set_cons_succ, List.getElem_toArray, List.getElem_cons_zero, List.getElem_cons_succ]
  refine wpAnyK_take (n := 12) (i := 12) (oi := _) (v := ?_) rfl (by kernel_rfl) (by kernel_rfl) (by kernel_rfl) (by kernel_rfl) (by kernel_rfl) (by kernel_rfl) (fun _ _ _ h => h) (Or.inl ⟨by rfl, ?_⟩) (by assumption) ?_
  rotate_left 1
  · (intro wq hSw; (try dsimp only at hSw); go_simp; (try with_reducible rfl))
  try simp only [Act.put, List.setIfInBounds_toArray, List.set_cons_zero, List.set_cons_succ, List.getElem_toArray, List.getElem_cons_zero, List.getElem_cons_succ]
  refine wpAnyK_take (n := 12) (i := 13) (oi := _) (v := ?_) rfl (by kernel_rfl) (by kernel_rfl) (by kernel_rfl) (by kernel_rfl) (by kernel_rfl) (by kernel_rfl) (fun _ _ _ h => h) (Or.inl ⟨by rfl, ?_⟩) (by assumption) ?_
  rotate_left 1
  · (intro wq hSw; (try dsimp only at hSw); go_simp; (try with_reducible rfl))
  try simp only [Act.put, List.setIfInBounds_toArray, List.set_cons_zero, List.set_cons_succ, List.getElem_toArray, List.getElem_cons_zero, List.getElem_cons_succ]
  refine wpAnyK_take (n := 12) (i := 14) (oi := _) (v := ?_) rfl (by kernel_rfl) (by kernel_rfl) (by kernel_rfl) (by kernel_rfl) (by kernel_rfl) (by kernel_rfl) (fun _ _ _ h => h) (Or.inl ⟨by rfl, ?_⟩) (by assumption) ?_
  rotate_left 1
  · (intro wq hSw; (try dsimp only at hSw); go_simp; (try with_reducible rfl))
  try simp only [Act.put, List.setIfInBounds_toArray, List.set_cons_zero, List.set_cons_succ, List.getElem_toArray, List.getElem_cons_zero, List.getElem_cons_succ]
  refine wpAnyK_take (n := 12) (i := 15) (oi := _) (v := ?_) rfl (by kernel_rfl) (by kernel_rfl) (by kernel_rfl) (by kernel_rfl) (by kernel_rfl) (by kernel_rfl) (fun _ _ _ h => h) (Or.inl ⟨by rfl, ?_⟩) (by assumption) ?_
  rotate_left 1
  · (intro wq hSw; (try dsimp only at hSw); go_simp; (try with_reducible rfl))
  try simp only [Act.put, List.setIfInBounds_toArray, List.set_cons_zero, List.set_cons_succ, List.getElem_toArray, List.getElem_cons_zero, List.getElem_cons_succ]
  refine wpAnyK_take (n := 12) (i := 16) (oi := _) (v := ?_) rfl (by kernel_rfl) (by kernel_rfl) (by kernel_rfl) (by kernel_rfl) (by kernel_rfl) (by kernel_rfl) (fun _ _ _ h => h) (Or.inl ⟨by rfl, ?_⟩) (by assumption) ?_
  rotate_left 1
  · (intro wq hSw; (try dsimp only at hSw); go_simp; (try with_reducible rfl))
  try simp only [Act.put, List.setIfInBounds_toArray, List.set_cons_zero, List.set_cons_succ, List.getElem_toArray, List.getElem_cons_zero, List.getElem_cons_succ]
  refine wpAnyK_ready (rs := [17]) (by kernel_rfl) (by simp) ?_
  refine AllReadyK.last (o := _) rfl (by kernel_rfl) (fun K hK => ?_) AllReadyK.nil
  refine step_append_any _ rfl (.const (.slice none 0 0)) (.tmp 44) _ rfl w1.heap.size 29 i0 _ 7 72 Tryz.underlying36 hi hz0 hz1 hz2 rfl (by omega) (.slice none 0 0) 0 [] rfl (World.ownsRow_nil _ _ _ _) w1.heap.size _ (s.l.length - n) (s.l.length - n) ((s.l.drop n).flatMap Up.row) rfl ?c1 (up_rows_one _) ?c2 ?c3 ?c4 ?_
  case c1 =>
    have := (HUP.out.rd.drewN nq).drew.cut (k := n) (cap := s.l.length) hn3 (Nat.le_refl _)
    rw [flat_drop Up.row 7 Up.row_len] at this
    exact this
  case c2 => unfold maxLen; have := H.out.ok.len; omega
  case c3 => have := H.out.ok.len; omega
  case c4 => simp
  intro v8 w8 hown hg _
  simp only [Nat.zero_add, List.nil_append] at hown
  have b8 : Below w1.heap.size w1 w8 := Below.grown ((below_drewN (Below.refl w1.heap.size w1) nq).drew) hg (Nat.le_refl _) (fun k hk => by cases hk)
  have hb8 := HW.out.box.below b8 HW.out.box.lt
  have d0 := (hb8.cell 0).trans (show _ = some (.int .u64 s.low) from rfl)
  have d2 := (hb8.cell 2).trans (show _ = some (.slice A s.l.length c) from rfl)
  have e0 := hb8.frozen 0
  have e2 := hb8.frozen 2
  have HB8 := Lib.hid hb8
  have HO8 := Lib.hid hown
  have H8 := Lib.hid b8
  have gl := hb8.lt
  obtain ⟨A8, c8, rfl, _, _, _⟩ := own_slice hown
  clear hb8 hown hg b8 c0 c1 c2 c0'
  obtain ⟨r, hr⟩ : ∃ r, s.l.length - n = r := ⟨_, rfl⟩
  rw [hr] at HO8 ⊢
  have HRR := Lib.hid hr
  clear hr
  (try go_simp)
  refine hK.out _ _ ?_
  clear hK K
  try simp only [Act.put, List.setIfInBounds_toArray, List.set_cons_zero, List.set_cons_succ, List.getElem_toArray, List.getElem_cons_zero, List.getElem_cons_succ]
  refine wpAnyK_free' (i := 18) (oi := _) (v := ?_) rfl (by kernel_rfl) (by kernel_rfl) (by kernel_rfl) (by decide) (fun _ _ _ h => h) (Or.inl ⟨by rfl, ?_⟩) (fun h0 => by cases h0) ?_
  rotate_left 1
  · (intro wq hSw; (try dsimp only at hSw); go_simp; (try with_reducible rfl))
  try simp only [Act.put, List.setIfInBounds_toArray, List.set_cons_zero, List.set_cons_succ, List.getElem_toArray, List.getElem_cons_zero, List.getElem_cons_succ]
  refine wpAnyK_free' (i := 19) (oi := _) (v := ?_) rfl (by kernel_rfl) (by kernel_rfl) (by kernel_rfl) (by decide) (fun _ _ _ h => h) (Or.inl ⟨by rfl, ?_⟩) (fun h0 => by cases h0) ?_
  rotate_left 1
  · (intro wq hSw; (try dsimp only at hSw); go_simp; (try with_reducible rfl))
  try simp only [Act.put, List.setIfInBounds_toArray, List.set_cons_zero, List.set_cons_succ, List.getElem_toArray, List.getElem_cons_zero, List.getElem_cons_succ]
  refine wpAnyK_ready (rs := [20]) (by kernel_rfl) (by simp) ?_
  refine AllReadyK.last (o := _) rfl (by kernel_rfl) (fun K hK => ?_) AllReadyK.nil
  go_simp
  (try go_simp)
  refine hK.out _ _ ?_
  clear hK K
  try simp only [Act.put, List.setIfInBounds_toArray, List.set_cons_zero, List.set_cons_succ, List.getElem_toArray, List.getElem_cons_zero, List.getElem_cons_succ]
  refine wpAnyK_done (by kernel_rfl) ?_ _
  go_wp2_with (fail)
  all_goals
    go_end0
    have hok := s.trim_ok H.out.ok
    rw [hT.out, ← HQ.out, ← HN.out] at hok
    obtain ⟨p1, p2, p3⟩ := HW.out.put (v8 := .slice A8 r c8) (l' := s.l.drop n) (q := q) H8.out (by have := HO8.out; rw [List.length_drop, HRR.out]; exact this) (fun u hu => List.mem_of_mem_drop hu) hok
    refine ⟨_, rfl, ?_, (Chg.of_below H1.out _).trans p2 (fun _ _ x => x), .inr (fun k hk => Nat.le_trans H1.out.size (p3 k hk))⟩
    rw [hT.out, ← HQ.out, ← HN.out]
    exact p1
end Go.Proofs.YtfcjkkjgedcgpaaGreatDoor
