/- Package frame: All, of both. -/
import Derived.Test.YtoifaeabieojbaaFrmJ
namespace Go.Proofs.Ytoifaeabieojbaa
open Go.RowKit
set_option linter.unusedSimpArgs false
set_option linter.unusedVariables false
set_option maxRecDepth 100000
set_option maxHeartbeats 4000000

/-- a frame in memory: its kind, its body's slice, its bytes -/
structure Fq where
  k : Nat
  A : Option Addr
  c : Nat
  l : List Nat
def Fq.row (f : Fq) : List Value := [.int .u8 f.k, .slice f.A f.l.length f.c]
theorem Fq.row_len (f : Fq) : f.row.length = 2 := rfl
theorem frInfo : (Try.prog.info? 33).map (fun i => (i.zero, i.size, i.bytes)) = some (some (.agg #[.int .u8 0, .slice none 0 0]), 2, 32) := by kernel_rfl
theorem refFrInfo : (Try.prog.info? 24).map (fun i => (i.zero, i.size, i.bytes)) = some (some (.agg #[.int .u8 0, .slice none 0 0]), 2, 32) := by kernel_rfl
/-- all frames from a place on, up to the first error -/
def allF : Nat → List Nat → Nat → List (Nat × List Nat) × Nat × Nat
  | 0, _, a => ([], a, 0)
  | m + 1, b, a =>
    if a < b.length then
      (if cutE (b.drop a) = 0 then (let r := allF m b (a + cutL (b.drop a)); ((cutK (b.drop a), cutB (b.drop a)) :: r.1, r.2)) else ([], a, cutE (b.drop a)))
    else ([], a, 0)
theorem cut_len (b : List Nat) (h : cutE b = 0) : 7 ≤ cutL b ∧ cutL b ≤ b.length := by
  obtain ⟨_, _, c3⟩ := cut_some b h
  rcases cut_cases b b.length rfl with ⟨_, hE⟩ | ⟨_, _, hE⟩ | ⟨_, _, _, hE⟩ | ⟨_, _, _, _, hE⟩ | ⟨_, _, _, hb2, hE⟩ <;> omega
def allT (b : List Nat) : List (Nat × List Nat) × Nat × Nat := allF (b.length + 1) b 0
/-- what was told, and what is to come, is all -/
def Tot (b : List Nat) (fs : List (Nat × List Nat)) (m a : Nat) : Prop := b.length < m + a ∧ allT b = (fs ++ (allF m b a).1, (allF m b a).2)
theorem tot_start (b : List Nat) : Tot b [] (b.length + 1) 0 := ⟨by omega, rfl⟩
theorem tot_step {b : List Nat} {fs : List (Nat × List Nat)} {m a : Nat} (h : Tot b fs m a) (ha : a < b.length) (he : cutE (b.drop a) = 0) : ∃ m', Tot b (fs ++ [(cutK (b.drop a), cutB (b.drop a))]) m' (a + cutL (b.drop a)) := by
  obtain ⟨hm, ht⟩ := h
  obtain ⟨m', rfl⟩ : ∃ m', m = m' + 1 := ⟨m - 1, by omega⟩
  refine ⟨m', by have := (cut_len _ he).1; omega, ?_⟩
  rw [ht, allF, if_pos ha, if_pos he]
  simp
theorem tot_end {b : List Nat} {fs : List (Nat × List Nat)} {m a : Nat} (h : Tot b fs m a) (ha : b.length ≤ a) : allT b = (fs, a, 0) := by
  have e : allF m b a = ([], a, 0) := by
    cases m with
    | zero => rfl
    | succ m => rw [allF, if_neg (by omega)]
  rw [h.2, e]; simp
theorem tot_err {b : List Nat} {fs : List (Nat × List Nat)} {m a : Nat} (h : Tot b fs m a) (ha : a < b.length) (he : cutE (b.drop a) ≠ 0) : allT b = (fs, a, cutE (b.drop a)) := by
  obtain ⟨hm, ht⟩ := h
  obtain ⟨m', rfl⟩ : ∃ m', m = m' + 1 := ⟨m - 1, by omega⟩
  rw [ht, allF, if_pos ha, if_neg he]; simp
def Fq.kl (f : Fq) : Nat × List Nat := (f.k, f.l)
theorem flat_rows (fs : List Fq) : (fs.flatMap Fq.row).length = fs.length * 2 := flat_length Fq.row 2 Fq.row_len fs
theorem rows_one (f : Fq) : ∀ u ∈ f.row, u.oneCell' = true := by
  intro u hu
  simp only [Fq.row, List.mem_cons, List.not_mem_nil, or_false] at hu
  rcases hu with rfl | rfl <;> rfl
theorem news2 (w : World) (t : TypeId) (a b : Value) : Reads (w.alloc (.cells #[a, b] t)) (w.heap.size + 1) 2 (some ⟨w.heap.size, 0, none⟩) 1 [a, b] :=
  ⟨rfl, fun _ => ⟨_, rfl, by simp, fun j u hu => cells_new _ _ _ j u hu⟩⟩

theorem refAll_any (A : Option Addr) (n cp B : Nat) (b : List Nat) (w : World) (hr : Reads w B 1 A n ((bI b).map (Value.int .u8))) (hb : isBs b) (hB : B ≤ w.heap.size) (hn : n ≤ 1000000) (hnc : n ≤ cp) (hc : cp ≤ 9223372036854775807) :
    Calls Try.prog 26 #[.slice A n cp] w fun e w' => ∃ (v : Value) (fs : List Fq) (a ee : Nat), e = .returned (.tuple #[v, .int .i64 a, .int .i64 ee]) ∧ allT b = (fs.map Fq.kl, a, ee) ∧
      w'.ownsRow w.heap.size 24 2 v fs.length (fs.flatMap Fq.row) ∧ (∀ f ∈ fs, Reads w' B 1 f.A f.l.length ((bI f.l).map (Value.int .u8))) ∧ Below w.heap.size w w' := by
  obtain ⟨i0, hi, hz0, hz1, hz2⟩ := info_parts refFrInfo
  have HR := Lib.hid hr
  have HBS := Lib.hid hb
  have LN := Lib.hid (reads_len hr)
  clear hr hb
  go_enter Try.func26, Try.ntmps26
  go_wp2_with (fail)
  go_loopw [5, 6, 7, 8, 9] (fun v ia _ _ _ wr => ∃ (fs : List Fq) (a m : Nat), a ≤ n ∧ ia = .int .i64 a ∧ Hid (Tot b (fs.map Fq.kl) m a) ∧ Hid (fs.length ≤ a) ∧ Hid (wr.ownsRow w.heap.size 24 2 v fs.length (fs.flatMap Fq.row)) ∧ Hid (∀ f ∈ fs, Reads wr B 1 f.A f.l.length ((bI f.l).map (Value.int .u8))) ∧ Hid (Below w.heap.size w wr)) (fun _ ia _ _ _ _ => n - (intOf ia).toNat)
  case atStart => exact ⟨[], 0, b.length + 1, by omega, rfl, Lib.hid (tot_start b), Lib.hid (by simp), Lib.hid (World.ownsRow_nil _ _ _ _), Lib.hid (fun f hf => absurd hf (by simp)), Lib.hid (Below.refl _ _)⟩
  case round =>
    obtain ⟨fs, a, m, han, rfl, HT, HFL, HO, HF, HBl⟩ := hrel
    obtain ⟨Av, cv, rfl, _, _, _⟩ := own_slice HO.out
    by_cases hlt : a < n
    · have hrw := HR.out.below (HBl.out.mono hB)
      have hcut := (HR.out.cut (k := a) (cap := cp) (by omega) hnc)
      rw [Nat.mul_one, bI_drop_map, if_neg (by omega)] at hcut
      have HCUT := Lib.hid hcut
      obtain ⟨b0, o, hA, _⟩ := plain_addr HR.out (by omega)
      subst hA
      rw [Option.map_some, Go.WideShapes.add_plain] at hcut
      have C := Lib.hid (refCut_any (some ⟨b0, o + a, none⟩) (n - a) (cp - a) B (b.drop a) wr (hcut.below (HBl.out.mono hB)) (isBs_drop HBS.out a) (Nat.le_trans hB HBl.out.size) (by omega) (by omega) (by omega))
      have hlt' : (a : Int) < n := by omega
      have hacp : (a : Int) ≤ cp := by omega
      clear hrw hcut
      have HTS := Lib.hid (fun h => tot_step HT.out (by have := LN.out; omega) h)
      have HTE := Lib.hid (fun h => tot_err HT.out (by have := LN.out; omega) h)
      have HCL := Lib.hid (cut_len (b.drop a))
      generalize cutE (b.drop a) = ee at *
      generalize cutK (b.drop a) = kk at *
      generalize cutL (b.drop a) = ll at *
      generalize cutB (b.drop a) = body at *
      have HBP := Lib.hid (show (b.drop a).length = n - a by rw [List.length_drop, LN.out])
      go_wp2_with (fail)
      refine C.out.mono ?_
      rintro e w1 ⟨A1, c1, rfl, h1, h2⟩
      have HB1 := Lib.hid (HBl.out.trans (h2.mono HBl.out.size))
      have HO1 := Lib.hid (own_block_same HO.out (fun k hk => h2.block k (HO.out.lt k hk).2))
      have H1 := Lib.hid h1
      have hs1 := HB1.out.size
      have BW1 := Lib.hid (h2.mono HBl.out.size)
      clear h1 h2 C HO HBl
      by_cases he : ee = 0
      · subst he
        obtain ⟨m', hm'⟩ := HTS.out rfl
        have HM := Lib.hid hm'
        have hll := HCL.out rfl
        rw [HBP.out] at hll
        clear hm'
        have hb2 : Below w1.heap.size w1 ((w1.alloc (.cells #[.int .u8 kk, .slice A1 body.length c1] 24)).alloc (.cells #[.int .u8 kk, .slice A1 body.length c1] 24)) := ((Below.refl _ _).alloc (Nat.le_refl _) _).alloc (by simp) _
        have HB2 := Lib.hid hb2
        have nw := news2 (w1.alloc (.cells #[.int .u8 kk, .slice A1 body.length c1] 24)) 24 (.int .u8 kk) (.slice A1 body.length c1)
        have hsz : (w1.alloc (.cells #[.int .u8 kk, .slice A1 body.length c1] 24)).heap.size = w1.heap.size + 1 := by simp
        rw [hsz] at nw
        have NW := Lib.hid nw
        clear nw hb2 hsz
        go_wp2_with (at_builtin; go_must (refine wpList_append_any _ rfl (.tmp 27) (.tmp 29) _ rfl w.heap.size 24 i0 _ 2 32 Try.underlying55 hi hz0 hz1 hz2 rfl (by omega) _ _ _ rfl ((HO1.out.alloc _).alloc _) _ _ 1 1 [.int .u8 kk, .slice A1 body.length c1] rfl NW.out ?c1 ?c2 ?c3 ?c4 ?_))
        case c1 => exact rows_one ⟨kk, A1, c1, body⟩
        case c2 => have := HFL.out; unfold maxLen; omega
        case c3 => have := HFL.out; omega
        case c4 => simp; omega
        intro v3 w3 h5 h6 _
        have HB3 := Lib.hid ((HB1.out.trans (HB2.out.mono hs1)).grown h6 (by simp; omega) (fun k hk => (HO1.out.lt k hk).1))
        have HO3 : Hid (w3.ownsRow w.heap.size 24 2 v3 (fs ++ [(⟨kk, A1, c1, body⟩ : Fq)]).length ((fs ++ [(⟨kk, A1, c1, body⟩ : Fq)]).flatMap Fq.row)) := Lib.hid (by rw [List.length_append, List.flatMap_append]; exact h5)
        have BW13 : Hid (Below w.heap.size w1 w3) := Lib.hid ((HB2.out.mono hs1).grown h6 (by simp; omega) (fun k hk => (HO1.out.lt k hk).1))
        have BW3 := Lib.hid (BW1.out.trans BW13.out)
        clear h5 h6
        go_wp2
        go_roundw
        case rel =>
          refine ⟨fs ++ [⟨kk, A1, c1, body⟩], a + ll, m', by omega, by go_num, Lib.hid ?_, Lib.hid ?_, HO3, Lib.hid ?_, HB3⟩
          · rw [List.map_append]; exact HM.out
          · rw [List.length_append]; have := HFL.out; simp; omega
          · intro f hf
            rcases List.mem_append.1 hf with hf | hf
            · exact (HF.out f hf).below (BW3.out.mono hB)
            · simp at hf; subst hf
              exact H1.out.below (BW13.out.mono hB)
        case measure => simp [intOf]; omega
      · have he' : ((ee : Int) != 0) = true := by simp; omega
        have HE := Lib.hid (HTE.out he)
        go_wp2_with (fail)
        go_ret3
        exact ⟨_, fs, a, ee, rfl, HE.out, HO1.out.alloc _, fun f hf => (HF.out f hf).below ((BW1.out.alloc hs1 _).mono hB), HB1.out.alloc hs1 _⟩
    · obtain rfl : a = n := by omega
      have HE := Lib.hid (tot_end HT.out (by have := LN.out; omega))
      go_wp2_with (fail)
      go_ret3
      exact ⟨_, fs, a, 0, rfl, HE.out, HO.out, HF.out, HBl.out⟩
def Fq.own (w : World) (base : Nat) (f : Fq) : Prop := w.ownsRow base 5 1 (.slice f.A f.l.length f.c) f.l.length ((bI f.l).map (Value.int .u8))
theorem own_own_ne {w : World} {b b' : Nat} {e e' : TypeId} {s s' n n' : Nat} {v v' : Value} {xs xs' : List Value} (h : w.ownsRow b e s v n xs) (h' : w.ownsRow b' e' s' v' n' xs') (hne : e ≠ e') : v.ownBlock = none ∨ v.ownBlock ≠ v'.ownBlock := by
  rcases h.2 with ⟨rfl, _⟩ | ⟨g, cap, cur, rfl, _, hg, _⟩
  · exact .inl rfl
  · exact .inr fun e1 => own_blk_ne h' hg (Ne.symm hne) e1.symm
theorem own_chgT {w w' : World} {base size n g : Nat} {T : TypeId} {v : Value} {xs : List Value} (h : w.ownsRow base T size v n xs) (hc : Chg w w' (fun k => k = g)) (hg : g < base) : w'.ownsRow base T size v n xs :=
  hc.own h (fun k hk e => by have := (h.lt k hk).1; omega)
theorem cdAll_any (c g : Nat) (d : Bool) (x y : Int) (A : Option Addr) (n cp B : Nat) (b : List Nat) (w : World) (h : Cd w c g d x y) (hr : Reads w B 1 A n ((bI b).map (Value.int .u8))) (hb : isBs b) (hB : B ≤ w.heap.size)
    (hA : ∀ ad, 0 < n → A = some ad → ad.block ≠ g) (hn : n ≤ 1000000) (hnc : n ≤ cp) (hc : cp ≤ 9223372036854775807) (hx : 0 ≤ x ∧ x ≤ 1000000) (hy : 0 ≤ y ∧ y ≤ 1000000) :
    Calls Try.prog 25 #[.pointer (some ⟨c, 0, none⟩), .slice A n cp] w fun e w' => ∃ (v : Value) (fs : List Fq) (a ee : Nat), e = .returned (.tuple #[v, .int .i64 a, .int .i64 ee]) ∧ allT b = (fs.map Fq.kl, a, ee) ∧
      w'.ownsRow w.heap.size 33 2 v fs.length (fs.flatMap Fq.row) ∧ (∀ f ∈ fs, f.own w' w.heap.size) ∧ (∃ d', Cd w' c g d' (x + fs.length) (if ee = 0 then y else y + 1)) ∧ Chg w w' (fun k => k = g ∨ k = c) := by
  obtain ⟨i0, hi, hz0, hz1, hz2⟩ := info_parts frInfo
  have HR := Lib.hid hr
  have HBS := Lib.hid hb
  have LN := Lib.hid (reads_len hr)
  have hcl := h.1.lt
  have hgl := h.2.lt
  have HCD := Lib.hid h
  have HAA := Lib.hid hA
  clear hr hb h hA
  go_enter Try.func25, Try.ntmps25
  go_wp2_with (fail)
  go_loopw [7, 8, 9, 10, 11, 12] (fun v ia ie _ _ _ wr => ∃ (fs : List Fq) (a m ee : Nat), a ≤ n ∧ ia = .int .i64 a ∧ ie = .int .i64 ee ∧ Hid ((ee = 0 ∧ Tot b (fs.map Fq.kl) m a) ∨ (ee ≠ 0 ∧ allT b = (fs.map Fq.kl, a, ee))) ∧ Hid (fs.length ≤ a) ∧ Hid (wr.ownsRow w.heap.size 33 2 v fs.length (fs.flatMap Fq.row)) ∧ Hid (∀ f ∈ fs, f.own wr w.heap.size) ∧ Hid (∃ d', Cd wr c g d' x y) ∧ Hid (Chg w wr (fun k => k = g))) (fun _ ia ie _ _ _ _ => 2 * (n - (intOf ia).toNat) + (if intOf ie = 0 then 1 else 0))
  case atStart => exact ⟨[], 0, b.length + 1, 0, by omega, rfl, rfl, Lib.hid (.inl ⟨rfl, tot_start b⟩), Lib.hid (by simp), Lib.hid (World.ownsRow_nil _ _ _ _), Lib.hid (fun f hf => absurd hf (by simp)), Lib.hid ⟨d, HCD.out⟩, Lib.hid (Chg.refl _ _)⟩
  case round =>
    obtain ⟨fs, a, m, ee, han, rfl, rfl, HT, HFL, HO, HF, HD, HCg⟩ := hrel
    obtain ⟨Av, cv, rfl, _, _, _⟩ := own_slice HO.out
    obtain ⟨d', hd'⟩ := HD.out
    have hsz := HCg.out.size
    by_cases hgo : a < n ∧ ee = 0
    · obtain ⟨hlt, rfl⟩ := hgo
      have HTT : Hid (Tot b (fs.map Fq.kl) m a) := Lib.hid (by rcases HT.out with h | h; exact h.2; exact absurd rfl h.1)
      have hcut := (HR.out.cut (k := a) (cap := cp) (by omega) hnc)
      rw [Nat.mul_one, bI_drop_map, if_neg (by omega)] at hcut
      obtain ⟨b0, o, hA, _⟩ := plain_addr HR.out (by omega)
      subst hA
      rw [Option.map_some, Go.WideShapes.add_plain] at hcut
      have hne : ∀ ad, 0 < n - a → some (⟨b0, o + a, none⟩ : Addr) = some ad → ad.block ≠ g := fun ad h0 he => by
        injection he with he
        subst he
        exact HAA.out ⟨b0, o, none⟩ (by omega) rfl
      have hrw : Reads wr B 1 (some ⟨b0, o + a, none⟩) (n - a) ((bI (b.drop a)).map (Value.int .u8)) := HCg.out.reads hcut hB hne
      have C := Lib.hid (first_any c g d' x y (some ⟨b0, o + a, none⟩) (n - a) (cp - a) B (b.drop a) wr hd' hrw (isBs_drop HBS.out a) (Nat.le_trans hB hsz) hne (by omega) (by omega) (by omega))
      have hlt' : (a : Int) < n := by omega
      have hacp : (a : Int) ≤ cp := by omega
      have HTS := Lib.hid (fun h => tot_step HTT.out (by have := LN.out; omega) h)
      have HTE := Lib.hid (fun h => tot_err HTT.out (by have := LN.out; omega) h)
      have HCL := Lib.hid (cut_len (b.drop a))
      generalize cutE (b.drop a) = ee at *
      generalize cutK (b.drop a) = kk at *
      generalize cutL (b.drop a) = ll at *
      generalize cutB (b.drop a) = body at *
      have HBP := Lib.hid (show (b.drop a).length = n - a by rw [List.length_drop, LN.out])
      have HDD := Lib.hid hd'
      clear hcut hne hrw hd' HT HTT
      go_wp2_with (fail)
      refine C.out.mono ?_
      rintro e w1 ⟨v1, rfl, h1, ⟨d1, h2⟩, h3⟩
      obtain ⟨A1, c1, rfl, _, _, _⟩ := own_slice h1
      have HO1 := Lib.hid (own_chgT HO.out h3 (by omega))
      have H1 : Hid (w1.ownsRow w.heap.size 5 1 (.slice A1 body.length c1) body.length ((bI body).map (Value.int .u8))) := Lib.hid (Go.Joins.ownsRow_le h1 hsz)
      have HF1 : Hid (∀ f ∈ fs, f.own w1 w.heap.size) := Lib.hid (fun f hf => own_chgT (HF.out f hf) h3 (by omega))
      have HD1 : Hid (Cd w1 c g d1 x y) := Lib.hid (HDD.out.chg h3 h2)
      have HC1 := Lib.hid (HCg.out.trans h3 (fun _ _ h => h))
      have hs1 := h3.size
      clear h1 h2 h3 C HO HCg HF HD HDD
      by_cases he : ee = 0
      · subst he
        obtain ⟨m', hm'⟩ := HTS.out rfl
        have HM := Lib.hid hm'
        have hll := HCL.out rfl
        rw [HBP.out] at hll
        clear hm'
        have hb2 : Below w1.heap.size w1 ((w1.alloc (.cells #[.int .u8 kk, .slice A1 body.length c1] 33)).alloc (.cells #[.int .u8 kk, .slice A1 body.length c1] 33)) := ((Below.refl _ _).alloc (Nat.le_refl _) _).alloc (by simp) _
        have HB2 := Lib.hid hb2
        have nw := news2 (w1.alloc (.cells #[.int .u8 kk, .slice A1 body.length c1] 33)) 33 (.int .u8 kk) (.slice A1 body.length c1)
        have hsz1 : (w1.alloc (.cells #[.int .u8 kk, .slice A1 body.length c1] 33)).heap.size = w1.heap.size + 1 := by simp
        rw [hsz1] at nw
        have NW := Lib.hid nw
        clear nw hb2 hsz1
        go_wp2_with (at_builtin; go_must (refine wpList_append_any _ rfl (.tmp 35) (.tmp 37) _ rfl w.heap.size 33 i0 _ 2 32 Try.underlying56 hi hz0 hz1 hz2 rfl (by omega) _ _ _ rfl ((HO1.out.alloc _).alloc _) _ _ 1 1 [.int .u8 kk, .slice A1 body.length c1] rfl NW.out ?c1 ?c2 ?c3 ?c4 ?_))
        case c1 => exact rows_one ⟨kk, A1, c1, body⟩
        case c2 => have := HFL.out; unfold maxLen; omega
        case c3 => have := HFL.out; omega
        case c4 => simp; omega
        intro v3 w3 h5 h6 _
        have HO2 := (HO1.out.alloc (.cells #[.int .u8 kk, .slice A1 body.length c1] 33)).alloc (.cells #[.int .u8 kk, .slice A1 body.length c1] 33)
        have HC3 : Hid (Chg w w3 (fun k => k = g)) := Lib.hid ((HC1.out.trans (Chg.of_below HB2.out _) (fun _ _ h => h)).trans (Chg.of_grown h6) (fun i hi hx => absurd (HO2.lt i hx.symm).1 (by omega)))
        have HD3 : Hid (Cd w3 c g d1 x y) := Lib.hid (by
          have q := HD1.out.below HB2.out (by omega) (by omega)
          exact ⟨q.1.grown h6 (fun e => by have := (HO2.lt c e.symm).1; omega), TabC.chg q.2 (Chg.of_grown h6) (fun e => by have := (HO2.lt g e.symm).1; omega)⟩)
        have keepF : ∀ f : Fq, f.own w1 w.heap.size → f.own w3 w.heap.size := fun f hf => by
          have q := own_below hf HB2.out
          exact q.kept h6 (own_own_ne q HO2 (by decide))
        have HF3 : Hid (∀ f ∈ fs ++ [(⟨kk, A1, c1, body⟩ : Fq)], f.own w3 w.heap.size) := Lib.hid (fun f hf => by
          rcases List.mem_append.1 hf with hf | hf
          · exact keepF f (HF1.out f hf)
          · simp at hf; subst hf
            exact keepF ⟨kk, A1, c1, body⟩ H1.out)
        have HO3 : Hid (w3.ownsRow w.heap.size 33 2 v3 (fs ++ [(⟨kk, A1, c1, body⟩ : Fq)]).length ((fs ++ [(⟨kk, A1, c1, body⟩ : Fq)]).flatMap Fq.row)) := Lib.hid (by rw [List.length_append, List.flatMap_append]; exact h5)
        clear h5 h6 HO2 keepF
        go_wp2
        go_roundw
        case rel =>
          refine ⟨fs ++ [⟨kk, A1, c1, body⟩], a + ll, m', 0, by omega, by go_num, rfl, Lib.hid (.inl ⟨rfl, ?_⟩), Lib.hid ?_, HO3, HF3, Lib.hid ⟨d1, HD3.out⟩, HC3⟩
          · rw [List.map_append]; exact HM.out
          · rw [List.length_append]; have := HFL.out; simp; omega
        case measure => simp [intOf]; omega
      · have he' : ((ee : Int) == 0) = false := by simp; omega
        have HE := Lib.hid (HTE.out he)
        have hb2 : Below w1.heap.size w1 (w1.alloc (.cells #[.int .u8 kk, .slice A1 body.length c1] 33)) := (Below.refl _ _).alloc (Nat.le_refl _) _
        have HB2 := Lib.hid hb2
        have HNE := Lib.hid he
        clear hb2 he
        go_wp2_with (fail)
        go_roundw
        case rel => exact ⟨fs, a, m, ee, by omega, rfl, rfl, Lib.hid (.inr ⟨HNE.out, HE.out⟩), HFL, Lib.hid (HO1.out.alloc _), Lib.hid (fun f hf => own_below (HF1.out f hf) HB2.out), Lib.hid ⟨d1, HD1.out.below HB2.out (by omega) (by omega)⟩, Lib.hid (HC1.out.trans (Chg.of_below HB2.out _) (fun _ _ h => h))⟩
        case measure => have := HNE.out; simp [intOf]; omega
    · have HE : Hid (allT b = (fs.map Fq.kl, a, ee)) := Lib.hid (by
        rcases HT.out with h | h
        · obtain ⟨rfl, h⟩ := h
          exact tot_end h (by have := LN.out; omega)
        · exact h.2)
      have hfl : fs.length ≤ 1000000 := by have := HFL.out; omega
      have T := Lib.hid (told_any c g d' x y fs.length ee wr hd' (by omega) (by omega))
      have e1 : IntKind.u64.wrap (fs.length : Int) = fs.length := by rw [IntKind.wrap_u64]; omega
      have hcase : ((n : Int) ≤ a) ∨ ((a : Int) < n ∧ ((ee : Int) == 0) = false) := by
        by_cases hlt : a < n
        · exact .inr ⟨by omega, by simp; omega⟩
        · exact .inl (by omega)
      clear hgo HT hd'
      rcases hcase with h1 | ⟨h1, h2⟩
      all_goals
        go_wp2_with (fail)
        refine T.out.mono ?_
        rintro e w5 ⟨rfl, h5, h6⟩
        have HF5 : Hid (∀ f ∈ fs, f.own w5 w.heap.size) := Lib.hid (fun f hf => own_chgT (HF.out f hf) h6 (by omega))
        have HO5 := Lib.hid (own_chgT HO.out h6 (by omega))
        have HD5 := Lib.hid h5
        have HC5 : Hid (Chg w w5 (fun k => k = g ∨ k = c)) := Lib.hid ((HCg.out.sub (fun i hi => Or.inl hi)).trans (h6.sub (fun i hi => Or.inr hi)) (fun _ _ h => h))
        clear h5 h6 T
        go_wp2_with (fail)
        go_ret3
        exact ⟨_, fs, a, ee, rfl, HE.out, HO5.out, HF5.out, ⟨d', HD5.out⟩, HC5.out⟩
end Go.Proofs.Ytoifaeabieojbaa
