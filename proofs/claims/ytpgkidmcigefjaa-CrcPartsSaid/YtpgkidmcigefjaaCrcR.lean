/- The walk of CrcParts. -/
import Derived.Test.YtpgkidmcigefjaaCrcN
import Derived.Deep.Matrix
namespace Go.Proofs.Ytpgkidmcigefjaa
open Go.RowKit Go.Deep Go.ChangeShapes Go.WideShapes
set_option linter.unusedSimpArgs false
set_option linter.unusedVariables false
set_option maxRecDepth 100000
set_option maxHeartbeats 4000000

theorem slInfo : (Try.prog.info? 25).map (fun i => (i.zero, i.size, i.bytes)) = some (some (.slice none 0 0), 1, 24) := by kernel_rfl
/-- a part that came in -/
def Pt.inn (w : World) (p : Pt) : Prop := isBs p.l ∧ Reads w w.heap.size 1 p.A p.n ((bI p.l).map (Value.int .u8)) ∧ p.n ≤ p.c ∧ p.c ≤ maxLen
def Pt.cut (p : Pt) (k : Nat) (B : Nat) : Pt := ⟨p.A, cutN p.n k, p.c, B, p.l.take (cutN p.n k)⟩
theorem cat_snoc (L : List Pt) (p : Pt) : cat (L ++ [p]) = cat L ++ p.l := by simp [cat]
theorem own_lit_sl (w : World) (A : Option Addr) (n c : Nat) : Reads (w.alloc (.cells #[.slice A n c] 25)) (w.heap.size + 1) 1 (some ⟨w.heap.size, 0, none⟩) 1 [.slice A n c] := by
  refine ⟨rfl, fun _ => ⟨_, rfl, by simp, fun j u hu => ?_⟩⟩
  exact cells_new _ _ _ _ _ hu
theorem own_own_ne {w : World} {b b' : Nat} {e e' : TypeId} {s s' n n' : Nat} {v v' : Value} {xs xs' : List Value} (h : w.ownsRow b e s v n xs) (h' : w.ownsRow b' e' s' v' n' xs') (hne : e ≠ e') : v.ownBlock = none ∨ v.ownBlock ≠ v'.ownBlock := by
  rcases h.2 with ⟨rfl, _⟩ | ⟨g, cap, cur, rfl, _, hg, _⟩
  · exact .inl rfl
  · exact .inr fun e1 => own_blk_ne h' hg (Ne.symm hne) e1.symm
/-- a part that was cut: as it was when the call began -/
def Pt.was (w : World) (p : Pt) : Prop := isBs p.l ∧ Reads w w.heap.size 1 p.A p.n ((bI p.l).map (Value.int .u8)) ∧ p.B = w.heap.size ∧ p.n ≤ 60
theorem Pt.was_ok {w wr : World} {g : Nat} {p : Pt} (h : p.was w) (hb : Below w.heap.size w wr) (hg : g = w.heap.size) : p.ok wr g := by
  obtain ⟨h1, h2, h3, h4⟩ := h
  refine ⟨h1, ?_, by rw [h3]; exact hb.size, ?_, by omega⟩
  · rw [h3]; exact h2.below hb
  · intro ad' h0 he
    obtain ⟨ad2, h', hb, _⟩ := h2.2 h0
    rw [he] at h'
    cases h'
    omega
theorem Pt.cut_was {w : World} {p : Pt} (h : p.inn w) : (p.cut 60 w.heap.size).was w := by
  refine ⟨isBs_take h.1 _, ?_, rfl, cutN_le2 _ _⟩
  have := h.2.1.take (cutN_le p.n 60)
  rw [bI_take_map] at this
  exact this
/-- the memory of CrcParts -/
structure CP (w : World) (g : Nat) (d : Bool) (L : List Pt) (va vp : Value) (W : World) : Prop where
  tb : Tb W g d
  all : W.ownsRow (g + 1) 5 1 va (cat L).length ((bI (cat L)).map (Value.int .u8))
  prt : W.ownsRow (g + 1) 25 1 vp L.length (L.map Pt.v)
  bel : Below w.heap.size w W
  was : ∀ p ∈ L, p.was w
  len : (cat L).length ≤ 60 * L.length
theorem Tb.grown {w w' : World} {g : Nat} {d : Bool} {row : Option Nat} (h : Tb w g d) (hg : w.grownBy w' row) (hr : ∀ k, row = some k → g < k) : Tb w' g d :=
  TabC.chg h (Chg.of_grown hg) (fun e => by have := hr g e.symm; omega)
theorem reads_far2 {w : World} {base g n : Nat} {e : TypeId} {v : Value} {xs : List Value} (h : w.ownsRow base e 1 v n xs) (hg : g < base) :
    ∃ A c, v = .slice A n c ∧ Reads w w.heap.size 1 A n xs ∧ (∀ ad, 0 < n → A = some ad → ad.block ≠ g) ∧ n ≤ c ∧ c ≤ maxLen := by
  obtain ⟨A, c, rfl, hr, h1, h2⟩ := own_slice h
  refine ⟨A, c, rfl, hr, fun ad h0 he => ?_, h1, h2⟩
  obtain ⟨g', cap, hv, hb, _⟩ := h.form h0
  subst he
  injection hv with hv
  injection hv with hv
  subst hv
  show g' ≠ g
  have := (h.lt g' rfl).1
  omega

theorem crcParts_law (LA : Option Addr) (m mc : Nat) (P0 : List Pt) (w : World) (hz : Reads w w.heap.size 1 LA m (P0.map Pt.v)) (hP : ∀ p ∈ P0, p.inn w) (hmc : m ≤ mc) (hmm : mc ≤ maxLen) :
    Calls Try.prog 3 #[.slice LA m mc] w fun e w' => e = .returned (.bool true) ∧ Below w.heap.size w w' := by
  unfold maxLen at hmm
  obtain ⟨i0, hi, hz0, hz1, hz2⟩ := info_parts byteInfo
  obtain ⟨j0, ki, kz0, kz1, kz2⟩ := info_parts slInfo
  have HZ := Lib.hid hz
  have HP := Lib.hid hP
  clear hz hP
  go_enter Try.func3, Try.ntmps3
  go_wp2_with (fail)
  refine (crcNew_any _).mono ?_
  rintro e w2 ⟨rfl, h1, h2⟩
  obtain ⟨g, hg⟩ : ∃ g, g = w.heap.size := ⟨_, rfl⟩
  rw [← hg] at h1 ⊢
  have HG := Lib.hid hg
  have HT0 := Lib.hid h1
  have HB0 := Lib.hid h2
  clear h1 h2 hg
  go_wp2_with (fail)
  go_loopw [4, 5, 6, 7, 8] (fun va vp vs ia s8 wr => ∃ (k q : Nat) (d : Bool) (L : List Pt), k ≤ m ∧ k ≤ 10 ∧ ia = .int .i64 k ∧ q < 4294967296 ∧ vs = .int .u32 (q : Int) ∧ Hid (q = more 0 (cat L)) ∧ Hid (L.length = k) ∧ Hid (CP w g d L va vp wr)) (fun _ _ _ ia _ _ => 10 - (intOf ia).toNat)
  case atStart => exact ⟨0, 0, false, [], by omega, by omega, rfl, by omega, rfl, Lib.hid more_nil0, Lib.hid rfl, Lib.hid ⟨HT0.out, World.ownsRow_nil _ _ _ _, World.ownsRow_nil _ _ _ _, HB0.out, (fun p hp => absurd hp (by simp)), (by simp [cat])⟩⟩
  case round =>
    clear HT0 HB0
    obtain ⟨k, q, d, L, hkm, hk10, rfl, hq, rfl, HQ, HL, H⟩ := hrel
    obtain ⟨Aa, ca, rfl, _, _, _⟩ := own_slice H.out.all
    obtain ⟨Ap, cp, rfl, _, _, _⟩ := own_slice H.out.prt
    by_cases hl : k < m ∧ k < 10
    · obtain ⟨hl1, hl2⟩ := hl
      have hl1' : (k : Int) < m := by omega
      have hl2' : (k : Int) < 10 := by omega
      obtain ⟨ad, p, rfl, had, hzz, hcell⟩ := reads_parts (HZ.out.below H.out.bel) hl1
      have hp := HP.out p (List.mem_of_getElem? hzz)
      have hpc : p.c ≤ 9223372036854775807 := by have := hp.2.2.2; unfold maxLen at this; omega
      have hpn := hp.2.2.1
      obtain ⟨x, hx⟩ : ∃ x, x = p.cut 60 w.heap.size := ⟨_, rfl⟩
      have HW : Hid (x.was w) := Lib.hid (by rw [hx]; exact Pt.cut_was hp)
      have hv : Hid ((Value.slice p.A (cutN p.n 60) p.c) = .slice x.A x.n x.c) := Lib.hid (by rw [hx]; rfl)
      clear hx hp hzz
      go_wp2_with (fail)
      refine (cut_any p.A p.n p.c 60 hpn (by omega) _).mono ?_
      rintro e w1 ⟨rfl, rfl⟩
      rw [hv.out]
      have HXO := Lib.hid (Pt.was_ok HW.out H.out.bel HG.out)
      have hx60 := HW.out.2.2.2
      have HXL := Lib.hid (reads_len HXO.out.2.1)
      have hlen : Hid ((cat L).length ≤ 600) := Lib.hid (by have := H.out.len; have := HL.out; omega)
      have hgl := H.out.tb.lt
      clear hcell hv
      go_wp2_with (at_builtin; go_must (refine wpList_append_any _ rfl (.tmp 25) (.tmp 26) _ rfl (g + 1) 5 i0 _ 1 1 Try.underlying25 hi hz0 hz1 hz2 rfl (by omega) _ _ _ rfl H.out.all x.B x.A x.n x.c ((bI x.l).map (Value.int .u8)) rfl HXO.out.2.1 ?c1 ?c2 ?c3 ?c4 ?_))
      case c1 => exact u8_one _
      case c2 => have := hlen.out; unfold maxLen; omega
      case c3 => have := hlen.out; omega
      case c4 => omega
      intro v3 w3 h5 h6 h7
      obtain ⟨A3, c3, rfl, _, _, _⟩ := own_slice h5
      have HO3 : Hid (w3.ownsRow (g + 1) 5 1 (.slice A3 ((cat L).length + x.n) c3) ((cat L).length + x.n) ((bI (cat (L ++ [x]))).map (Value.int .u8))) := Lib.hid (by rw [cat_snoc, bI_append, List.map_append]; exact h5)
      have HP3 := Lib.hid (H.out.prt.kept h6 (own_own_ne H.out.prt H.out.all (by decide)))
      have HT3 := Lib.hid (H.out.tb.grown h6 (fun k hk => (H.out.all.lt k hk).1))
      have HB3 := Lib.hid (H.out.bel.grown h6 H.out.bel.size (fun k hk => by have := (H.out.all.lt k hk).1; have := HG.out; omega))
      have hs3 := h6.size
      clear h5 h6 h7
      go_wp2_with (at_builtin; go_must (refine wpList_append_any _ rfl (.tmp 28) (.tmp 30) _ rfl (g + 1) 25 j0 _ 1 24 Try.underlying22 ki kz0 kz1 kz2 rfl (by omega) _ _ _ rfl (HP3.out.alloc _) (w3.heap.size + 1) (some ⟨w3.heap.size, 0, none⟩) 1 1 [.slice x.A x.n x.c] rfl (own_lit_sl w3 x.A x.n x.c) ?d1 ?d2 ?d3 ?d4 ?_))
      case d1 => intro u hu; simp at hu; subst hu; rfl
      case d2 => have := HL.out; unfold maxLen; omega
      case d3 => have := HL.out; omega
      case d4 => simp; omega
      intro v4 w4 h5 h6 h7
      obtain ⟨A4, c4, rfl, _, _, _⟩ := own_slice h5
      have HP4 : Hid (w4.ownsRow (g + 1) 25 1 (.slice A4 (L.length + 1) c4) (L ++ [x]).length ((L ++ [x]).map Pt.v)) := Lib.hid (by rw [List.length_append, List.map_append]; exact h5)
      have HO4 := Lib.hid ((HO3.out.alloc (.cells #[.slice x.A x.n x.c] 25)).kept h6 (own_own_ne (HO3.out.alloc (.cells #[.slice x.A x.n x.c] 25)) (HP3.out.alloc (.cells #[.slice x.A x.n x.c] 25)) (by decide)))
      have hbA : Below w3.heap.size w3 (w3.alloc (.cells #[.slice x.A x.n x.c] 25)) := (Below.refl _ _).alloc (Nat.le_refl _) _
      have HT4 := Lib.hid ((HT3.out.below hbA HT3.out.lt).grown h6 (fun k hk => (HP3.out.lt k hk).1))
      have HB4 := Lib.hid ((HB3.out.trans (hbA.mono HB3.out.size)).grown h6 (by have := HB3.out.size; simp; omega) (fun k hk => by have := (HP3.out.lt k hk).1; have := HG.out; omega))
      have HWS := Lib.hid H.out.was
      have HLN := Lib.hid H.out.len
      clear h5 h6 h7 hbA HO3 HP3 HT3 HB3 H
      have hxo := Pt.was_ok HW.out HB4.out HG.out
      have C := Lib.hid (crcMore_any g d x.A x.n x.c x.B q x.l hxo.1 hq w4 HT4.out hxo.2.1 hxo.2.2.1 hxo.2.2.2.1 hxo.2.2.2.2)
      obtain ⟨q', hq'⟩ : ∃ q', q' = more q x.l := ⟨_, rfl⟩
      have hq2 : q' < 4294967296 := by rw [hq']; exact more_lt q x.l hq hxo.1
      rw [← hq'] at C
      have HQ' : Hid (q' = more 0 (cat (L ++ [x]))) := Lib.hid (by rw [hq', HQ.out, more_more, cat_snoc])
      clear hxo hq'
      go_wp2_with (fail)
      with_reducible refine C.out.mono ?_
      rintro e w5 ⟨rfl, h1, h2⟩
      have HF : Hid (CP w g true (L ++ [x]) (.slice A3 ((cat L).length + x.n) c3) (.slice A4 (L.length + 1) c4) w5) := Lib.hid
        ⟨h1, by
          have := h2.own HO4.out (fun k hk e => by have := (HO4.out.lt k hk).1; omega)
          rw [cat_snoc, List.length_append, HXL.out, ← cat_snoc]; exact this,
        h2.own HP4.out (fun k hk e => by have := (HP4.out.lt k hk).1; omega), below_chg HB4.out (Nat.le_of_eq HG.out.symm) HT4.out.lt h2,
        fun p hp => by
          rcases List.mem_append.1 hp with hp | hp
          · exact HWS.out p hp
          · simp at hp; subst hp; exact HW.out,
        by rw [cat_snoc, List.length_append, List.length_append, HXL.out]; have := HLN.out; simp; omega⟩
      clear h1 h2 C
      go_wp2
      go_roundw
      case rel => exact ⟨k + 1, q', true, L ++ [x], by omega, by omega, by go_num, hq2, rfl, HQ', Lib.hid (by rw [List.length_append, HL.out]; rfl), HF⟩
      case measure => simp [intOf]; omega
    · have hd' : ((m : Int) ≤ k) ∨ ((k : Int) < m ∧ (10 : Int) ≤ k) := by omega
      clear hl
      have hgl := H.out.tb.lt
      obtain ⟨A1, c1, he1, r1, f1, l1, m1⟩ := reads_far2 (g := g) H.out.prt (Nat.lt_succ_self g)
      obtain ⟨A2, c2, he2, r2, f2, l2, m2⟩ := reads_far2 (g := g) H.out.all (Nat.lt_succ_self g)
      cases he1
      cases he2
      have hok : ∀ p ∈ L, p.ok wr g := fun p hp => Pt.was_ok (H.out.was p hp) H.out.bel HG.out
      have hbs : isBs (cat L) := cat_bs L wr g hok
      have hlen : (cat L).length ≤ 600 := by have := H.out.len; have := HL.out; omega
      have hL10 : L.length ≤ 10 := by have := HL.out; omega
      have C := Lib.hid (crcOf_any g d Ap L.length cp wr.heap.size L wr H.out.tb r1 (Nat.le_refl _) f1 hok (by omega))
      have D : Hid (∀ W : World, Reads W wr.heap.size 1 Aa (cat L).length ((bI (cat L)).map (Value.int .u8)) → Calls Try.prog 12 #[.slice Aa (cat L).length ca] W fun e w' => e = .returned (.int .u32 ((crc (cat L) : Nat) : Int)) ∧ W = w') :=
        Lib.hid (fun W h => refOf_any Aa (cat L).length ca wr.heap.size (cat L) hbs W h (by omega))
      have R2 := Lib.hid r2
      have F2 := Lib.hid f2
      rw [more_0] at HQ
      rw [← HQ.out] at C D
      clear r1 r2 f1 f2 hok hbs
      rcases hd' with h1 | ⟨h1, h2⟩
      all_goals
        go_wp2_with (fail)
        with_reducible refine C.out.mono ?_
        rintro e w3 ⟨rfl, h5, h6⟩
        have R3 := Lib.hid (h6.reads R2.out (Nat.le_refl _) F2.out)
        have HB3 := Lib.hid (below_chg H.out.bel (Nat.le_of_eq HG.out.symm) hgl h6)
        clear h5 h6
        go_wp2_with (fail)
        with_reducible refine (D.out w3 R3.out).mono ?_
        rintro e w' ⟨rfl, rfl⟩
        go_wp2_with (fail)
        with_reducible refine (D.out w3 R3.out).mono ?_
        rintro e w' ⟨rfl, rfl⟩
        go_wp2_with (fail)
        refine (awake_any _).mono ?_
        rintro e w12 ⟨rfl, h4⟩
        have HB12 := Lib.hid (HB3.out.trans (h4.mono HB3.out.size))
        clear h4
        go_wp2
        go_ret
        exact ⟨rfl, HB12.out⟩
end Go.Proofs.Ytpgkidmcigefjaa
