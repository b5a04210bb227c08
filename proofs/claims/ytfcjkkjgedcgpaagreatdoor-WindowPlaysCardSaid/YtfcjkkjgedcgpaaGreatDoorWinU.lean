/- The law of WindowPlays. -/
import Derived.Test.YtfcjkkjgedcgpaaGreatDoorWinT




namespace Go.Proofs.YtfcjkkjgedcgpaaGreatDoor
open Go.RowKit
set_option linter.unusedSimpArgs false
set_option linter.unusedVariables false
set_option maxHeartbeats 8000000
set_option maxRecDepth 100000

theorem trim_low (s : Wn) (h : s.ok) : s.low ≤ s.trim.low := by
  obtain ⟨h1, h2, h3, h4⟩ := s.cut_bounds h
  unfold Wn.trim
  split
  · exact Int.le_refl _
  · exact h1
theorem addE_seq {s : Wn} {u : Up} (h1 : s.addE u = 0) : u.seq - 1 = s.lend := by
  unfold Wn.addE at h1
  split at h1
  · rename_i hne; exact absurd h1 hne
  · split at h1
    · cases h1
    · rename_i h; simpa using h
theorem adds_ok {s s' : Wn} {u u' : Up} (h : s.ok) (h' : s'.ok) (hv : u'.val = u.val) (h0 : s.addE u = 0) (hs : s' = (Wn.mk s.low s.done (s.l ++ [u'])).trim) (hl : s.l.length + 1 ≤ 900000) (hb : s.lend + 1 ≤ 9000000000000000000) : (Wn.mk s.low s.done (s.l ++ [u'])).ok := by
  refine Wn.add_ok h hv (addE_seq h0) hl hb (h'.dat u' ?_)
  rw [hs]
  have h1 := h.ld
  have h2 := h.de
  unfold Wn.lend at h2
  unfold Wn.trim
  split
  · simp
  · have hc : ((Wn.mk s.low s.done (s.l ++ [u'])).cutTo - s.low).toNat ≤ s.l.length := by
      unfold Wn.cutTo Wn.lend; simp only [List.length_append, List.length_cons, List.length_nil]; omega
    show u' ∈ (s.l ++ [u']).drop _
    rw [List.drop_append_of_le_length hc]
    simp
theorem adds_bounds {s s' : Wn} {u : Up} (h : s.ok) (h' : s'.ok) (hl : s.l.length + 1 ≤ 900000) (hb : s.lend + 1 ≤ 9000000000000000000) (hs : AddS s u s') : s'.lend ≤ s.lend + 1 ∧ s.low ≤ s'.low := by
  rcases hs with ⟨_, rfl⟩ | ⟨h0, u', hv, hse⟩
  · exact ⟨by omega, Int.le_refl _⟩
  · have h1 := adds_ok h h' hv h0 hse hl hb
    subst hse
    refine ⟨?_, trim_low _ h1⟩
    rw [(Wn.trim_lend _ h1).1]
    unfold Wn.lend; simp; omega
theorem rel_add2 {s s' : Wn} {r r' : RW} {u : Up} (hok : s.ok) (h' : s'.ok) (hl : s.l.length + 1 ≤ 900000) (hb : s.lend + 1 ≤ 9000000000000000000) (h : Rel s r) (hs : AddS s u s') (hr : RAddS r u r') : Rel s' r' := by
  rcases hs with ⟨h1, rfl⟩ | ⟨h1, u', hv, hse⟩
  · rcases hr with ⟨_, rfl⟩ | ⟨h2, _⟩
    · exact h
    · rw [rel_addE h] at h2; exact absurd h2 h1
  · rcases hr with ⟨h2, _⟩ | ⟨h2, l1, l2, l3, l4⟩
    · rw [rel_addE h] at h2; exact absurd h1 h2
    · have hq := addE_seq h1
      have hok2 := adds_ok hok h' hv h1 hse hl hb
      subst hse
      have hl : (Wn.mk s.low s.done (s.l ++ [u'])).lend = u.seq := by unfold Wn.lend at hq ⊢; simp; omega
      have hrel : Rel (Wn.mk s.low s.done (s.l ++ [u'])) (r.grown u) := ⟨h.low, hl.symm, h.done, by show (r.l ++ [u]).map Up.val = _; simp [h.val, hv]⟩
      have := rel_trim hok2 hrel r'.A r'.c
      obtain ⟨a1, a2, a3, a4⟩ := this
      exact ⟨by rw [l1]; exact a1, by rw [l2]; exact a2, by rw [l3]; exact a3, by rw [l4]; exact a4⟩
theorem wop_cells {w : World} {b k : Nat} {o : WOp} (h : ∀ j v, o.row[j]? = some v → w.cell? ⟨b, k + j, none⟩ = some v) :
    w.cell? ⟨b, k, none⟩ = some (.int .i64 o.kd) ∧ w.cell? ⟨b, k + 1, none⟩ = some (.int .u8 o.nn) ∧ w.cell? ⟨b, k + 2, none⟩ = some (.int .u64 o.u.seq) ∧ w.cell? ⟨b, k + 3, none⟩ = some (.int .i64 o.u.cl) ∧ w.cell? ⟨b, k + 4, none⟩ = some (.int .u64 o.u.num) ∧ w.cell? ⟨b, k + 5, none⟩ = some (.int .i64 o.u.kd) ∧
    w.cell? ⟨b, k + 6, none⟩ = some (.int .u32 o.u.key) ∧ w.cell? ⟨b, k + 7, none⟩ = some (.int .u64 o.u.ver) ∧ w.cell? ⟨b, k + 8, none⟩ = some (.slice o.u.A o.u.n o.u.c) ∧ w.cell? ⟨b, k + 9, none⟩ = some (.int .u8 o.back) ∧ w.cell? ⟨b, k + 10, none⟩ = some (.int .i64 o.most) :=
  ⟨h 0 _ rfl, h 1 _ rfl, h 2 _ rfl, h 3 _ rfl, h 4 _ rfl, h 5 _ rfl, h 6 _ rfl, h 7 _ rfl, h 8 _ rfl, h 9 _ rfl, h 10 _ rfl⟩
def opC (o : WOp) : Array Value := #[.int .i64 o.kd, .int .u8 o.nn, .int .u64 o.u.seq, .int .i64 o.u.cl, .int .u64 o.u.num, .int .i64 o.u.kd, .int .u32 o.u.key, .int .u64 o.u.ver, .slice o.u.A o.u.n o.u.c, .int .u8 o.back, .int .i64 o.most]
theorem opc_cells {w : World} {g : Nat} {t : TypeId} {o : WOp} (h : Blk w g t (opC o)) :
    w.cell? ⟨g, 0, none⟩ = some (.int .i64 o.kd) ∧ w.cell? ⟨g, 1, none⟩ = some (.int .u8 o.nn) ∧ w.cell? ⟨g, 2, none⟩ = some (.int .u64 o.u.seq) ∧ w.cell? ⟨g, 3, none⟩ = some (.int .i64 o.u.cl) ∧ w.cell? ⟨g, 4, none⟩ = some (.int .u64 o.u.num) ∧ w.cell? ⟨g, 5, none⟩ = some (.int .i64 o.u.kd) ∧
    w.cell? ⟨g, 6, none⟩ = some (.int .u32 o.u.key) ∧ w.cell? ⟨g, 7, none⟩ = some (.int .u64 o.u.ver) ∧ w.cell? ⟨g, 8, none⟩ = some (.slice o.u.A o.u.n o.u.c) ∧ w.cell? ⟨g, 9, none⟩ = some (.int .u8 o.back) ∧ w.cell? ⟨g, 10, none⟩ = some (.int .i64 o.most) :=
  ⟨h.cell 0, h.cell 1, h.cell 2, h.cell 3, h.cell 4, h.cell 5, h.cell 6, h.cell 7, h.cell 8, h.cell 9, h.cell 10⟩
/-- what goes from round to round -/
structure PR (w W : World) (gr : Nat) (a e : Int) (v : Value) (s : Wn) (r : RW) : Prop where
  ps : PS w W gr v s r
  rel : Rel s r
  low : a ≤ s.low
  fin : s.lend ≤ e
theorem PR.below {w W W' : World} {gr : Nat} {a e : Int} {v : Value} {s : Wn} {r : RW} (h : PR w W gr a e v s r) (hb : Below W.heap.size W W') : PR w W' gr a e v s r := ⟨h.ps.below hb, h.rel, h.low, h.fin⟩
theorem PR.len {w W : World} {gr : Nat} {a e : Int} {v : Value} {s : Wn} {r : RW} (h : PR w W gr a e v s r) : (s.l.length : Int) ≤ e - a := by
  have h1 := h.low
  have h2 := h.fin
  unfold Wn.lend at h2
  omega
theorem sep_of {w W W' : World} {gr : Nat} {a e : Int} {v : Value} {s : Wn} {r r' : RW} {u : Up} (h : PR w W gr a e v s r) (hu : UpIn w w.heap.size u) (Wc : World) (hb : Below W.heap.size W Wc) (hs : RAddS r u r') (hrd : Reads W' W'.heap.size 7 r'.A r'.l.length (r'.l.flatMap Up.row))
    (hn : (r.addE u ≠ 0 ∧ r'.A = r.A) ∨ ∀ ad, r'.A = some ad → Wc.heap.size ≤ ad.block) : RRow w W' gr v r' ∧ ∀ (g : Nat), W.heap.size ≤ g → g < Wc.heap.size → ∀ ad : Addr, 0 < r'.l.length → r'.A = some ad → ad.block ≠ g :=
  h.ps.row.step h.ps.win h.ps.box.lt hb hrd (fun x hx => by
    rcases radds_sub hs x hx with h1 | h1
    · exact h.ps.row.dat x h1
    · subst h1; exact hu) (by
    rcases hn with ⟨h3, h4⟩ | h3
    · rcases hs with ⟨_, h5⟩ | ⟨h1, _⟩
      · exact .inl ⟨h4, fun h0 => by rw [h5] at h0; exact h0⟩
      · exact absurd h1 h3
    · exact .inr h3)
theorem windowPlays_law (at_ : Int) (A : Option Addr) (n c : Nat) (l : List WOp) (w : World) (hK : KindsAt w) (hl : WOpsIn w w.heap.size A n l) (hn : n ≤ c) (hc : c ≤ maxLen) (h0 : 0 ≤ at_) :
    Calls Tryz.prog 4 #[.int .u64 at_, .slice A n c] w fun e w' => e = .returned (.bool true) ∧ Below w.heap.size w w' := by
  unfold maxLen at hc
  have HK := Lib.hid hK
  have HL := Lib.hid hl
  have hn1 : (n : Int) ≤ 9223372036854775807 := by omega
  clear hK hl hn hc
  by_cases hat : 4611686018427387904 < at_
  · go_enter Tryz.func4, Tryz.ntmps4
    go_wp2_with (fail)
    refine (awake_win _ HK.out).mono ?_
    rintro e w1 ⟨rfl, hb⟩
    have H1 := Lib.hid hb
    clear hb
    go_wp2_with (fail)
    go_ret
    exact ⟨rfl, H1.out⟩
  have hat' : at_ ≤ 4611686018427387904 := by omega
  clear hat
  go_enter Tryz.func4, Tryz.ntmps4
  go_wp2_with (fail)
  refine (wnew_any at_ w h0 (by omega)).mono ?_
  rintro e w1 ⟨rfl, hA, hb⟩
  have HA : Hid (WinL w w1 (.slice none 0 0) ⟨at_, at_, []⟩) := Lib.hid ⟨hA, hb⟩
  clear hA hb
  go_wp2_with (fail)
  refine (rnew_any at_ w1).mono ?_
  rintro e w2 ⟨rfl, hb⟩
  have HP : Hid (PR w (w2.alloc (.cells #[.int .u64 at_, .int .u64 at_, .int .u64 at_, .slice none 0 0] 42)) w2.heap.size at_ (at_ + 50 * (0 : Nat)) (.slice none 0 0) ⟨at_, at_, []⟩ ⟨at_, at_, at_, none, 0, []⟩) := Lib.hid (by
    have hw := HA.out.below hb
    refine ⟨⟨hw.below ((Below.refl _ _).alloc (Nat.le_refl _) _), Blk.new _ _ _, ⟨Reads.none_, by simp, fun ad h => absurd h (by simp)⟩, hw.bel.size⟩, ⟨rfl, by simp [Wn.lend], rfl, rfl⟩, Int.le_refl _, by simp [Wn.lend]⟩)
  obtain ⟨gr, hgr⟩ : ∃ gr, gr = w2.heap.size := ⟨_, rfl⟩
  rw [← hgr] at HP
  have HGR := Lib.hid hgr
  clear hb hgr HA
  simp only [RW.agg, List.length_nil]
  go_wp2_with (fail)
  rw [← HGR.out]
  go_loopw [7] (fun iv wr => ∃ (i : Nat) (v : Value) (s : Wn) (r : RW), i ≤ n ∧ i ≤ 40 ∧ iv = .int .i64 i ∧ Hid (PR w wr gr at_ (at_ + 50 * i) v s r)) (fun iv _ => 40 - (intOf iv).toNat)
  case atStart => exact ⟨0, _, _, _, Nat.zero_le _, Nat.zero_le _, rfl, HP⟩
  case round =>
    clear HP HGR
    obtain ⟨i, v, s, r, hin, hi40, rfl, HP⟩ := hrel
    by_cases hlt : i < n ∧ i < 40
    · obtain ⟨hl1, hl2⟩ := hlt
      have hl1' : (i : Int) < n := by omega
      have hl2' : (i : Int) < 40 := by omega
      obtain ⟨b, off, o, rfl, hbb, ho, hok, hcs⟩ := (HL.out.below HP.out.ps.win.bel).at_ hl1
      obtain ⟨c0, c1, c2, c3, c4, c5, c6, c7, c8, c9, c10⟩ := wop_cells hcs
      have lb := Nat.lt_of_lt_of_le hbb HP.out.ps.win.bel.size
      have HOK : Hid (o.okIn w w.heap.size) := Lib.hid (HL.out.mem o (List.mem_of_getElem? ho))
      clear hcs ho hok hbb
      by_cases hfar : (2100 : Int) < o.u.n
      · have HB8 : Hid (Below wr.heap.size wr (wr.alloc (.cells (opC o) 31))) := Lib.hid (by repeat (first | with_reducible exact Below.refl _ _ | with_reducible refine Below.setCell ?_ (by first | omega | (simp <;> omega)) _ | with_reducible refine Below.alloc ?_ (by first | omega | (simp <;> omega)) _ | with_reducible refine below_drewN ?_ _ | with_reducible refine Below.drew ?_))
        go_wp2_with (fail)
        refine (awake_win _ (HK.out.below (HP.out.ps.win.bel.trans (HB8.out.mono HP.out.ps.win.bel.size)))).mono ?_
        rintro e w3 ⟨rfl, hb⟩
        have H3 := Lib.hid ((HP.out.ps.win.bel.trans (HB8.out.mono HP.out.ps.win.bel.size)).trans (hb.mono (HP.out.ps.win.bel.trans (HB8.out.mono HP.out.ps.win.bel.size)).size))
        clear hb
        go_wp2_with (fail)
        go_ret
        exact ⟨rfl, H3.out⟩
      have hfar' : (o.u.n : Int) ≤ 2100 := by omega
      go_upto_region 11 with (fail)
      have BO : Hid (Blk (wr.alloc (.cells (opC o) 31)) wr.heap.size 31 (opC o)) := Lib.hid (Blk.new _ _ _)
      have HP8 : Hid (PR w (wr.alloc (.cells (opC o) 31)) gr at_ (at_ + 50 * i) v s r) := Lib.hid (HP.out.below ((Below.refl _ _).alloc (Nat.le_refl _) _))
      obtain ⟨W8, hW8⟩ : ∃ W8, W8 = wr.alloc (.cells (opC o) 31) := ⟨_, rfl⟩
      rw [show wr.alloc (.cells #[.int .i64 o.kd, .int .u8 o.nn, .int .u64 o.u.seq, .int .i64 o.u.cl, .int .u64 o.u.num, .int .i64 o.u.kd, .int .u32 o.u.key, .int .u64 o.u.ver, .slice o.u.A o.u.n o.u.c, .int .u8 o.back, .int .i64 o.most] 31) = W8 from hW8.symm]
      rw [← hW8] at BO HP8
      obtain ⟨g8, hg8⟩ : ∃ g8, g8 = wr.heap.size := ⟨_, rfl⟩
      rw [← hg8] at BO ⊢
      clear hW8 hg8 HP c0 c1 c2 c3 c4 c5 c6 c7 c8 c9 c10 lb hfar
      obtain ⟨c0, c1, c2, c3, c4, c5, c6, c7, c8, c9, c10⟩ := opc_cells BO.out
      go_cut [50] (fun v50 wx => v50 = .int .i64 o.kd ∧ W8 = wx)
      case first =>
        go_wp2_with (fail)
        go_meet
        case rel => exact ⟨rfl, rfl⟩
      obtain ⟨rfl, rfl⟩ := hcut
      rename_i hK
      refine hK _ _ ?_
      clear hK
      clear c0 c1 c2 c3 c4 c5 c6 c7 c8 c9 c10
      go_cut [77] (fun v77 wx => ∃ (v' : Value) (s' : Wn) (r' : RW), Hid (PR w wx gr at_ (at_ + 50 * (i + 1 : Nat)) v' s' r') ∧ Hid (Blk wx g8 31 (opC o)))
      case first =>
        obtain ⟨c0, c1, c2, c3, c4, c5, c6, c7, c8, c9, c10⟩ := opc_cells BO.out
        by_cases hk0 : o.kd = 0
        · have hk0' : (o.kd == 0) = true := by simpa using hk0
          clear hk0
          obtain ⟨q, hq⟩ : ∃ q, o.nn.tmod 50 = q := ⟨_, rfl⟩
          have hq0 : 0 ≤ q := by rw [← hq]; exact Int.tmod_nonneg _ HOK.out.nn.1
          have hq1 : q < 50 := by rw [← hq]; exact Int.tmod_lt_of_pos _ (by omega)
          have hwn : IntKind.i64.wrap o.nn = o.nn := by have := HOK.out.nn; rw [IntKind.wrap_i64]; omega
          have lo := BO.out.lt
          have HP80 : Hid (PR w W8 gr at_ (at_ + 50 * i + (0 : Nat)) v s r) := Lib.hid (by have := HP8.out; simpa using this)
          go_wp2_with (fail)
          clear c0 c1 c2 c3 c4 c5 c6 c7 c8 c9 c10 lo
          go_loopw [9] (fun kv wr => ∃ (k : Nat) (v' : Value) (s' : Wn) (r' : RW), (k : Int) ≤ q ∧ kv = .int .i64 k ∧ Hid (PR w wr gr at_ (at_ + 50 * i + k) v' s' r') ∧ Hid (Blk wr g8 31 (opC o))) (fun kv _ => 50 - (intOf kv).toNat)
          case atStart => exact ⟨0, v, s, r, by simpa using hq0, rfl, HP80, BO⟩
          case round =>
            clear HP80 HP8 BO
            rename World => W3
            obtain ⟨k, v', s', r', hkq, rfl, HP, BO⟩ := hrel
            obtain ⟨c0, c1, c2, c3, c4, c5, c6, c7, c8, c9, c10⟩ := opc_cells BO.out
            have lo := BO.out.lt
            by_cases hk : (k : Int) < q
            · obtain ⟨r0, r1, r2, r3⟩ := rw_cells HP.out.ps.box
              have lr := HP.out.ps.box.lt
              have hfin : r'.fin = s'.lend := HP.out.rel.fin
              have hfn := HP.out.fin
              have hok := HP.out.ps.win.win.ok
              have hwf : IntKind.u64.wrap (r'.fin + 1) = r'.fin + 1 := by have h1 := hok.de; have h2 := hok.ld; have h3 := hok.low; have h4 := hok.big; rw [IntKind.wrap_u64]; omega
              have hln := HP.out.len
              have HLS : Hid (s'.l.length + 1 ≤ 900000 ∧ s'.lend + 1 ≤ 9000000000000000000) := Lib.hid ⟨by omega, by omega⟩
              have HEZ : Hid (r'.addE (oneU (r'.fin + 1)) = 0) := Lib.hid (by rw [rel_addE HP.out.rel, hfin]; exact Wn.addE_one s' hok)
              have HONE : Hid (∀ W B, UpIn W B (oneU (r'.fin + 1))) := Lib.hid (fun W B => one_in _ (by have h1 := hok.de; have h2 := hok.ld; have h3 := hok.low; omega) (by have h4 := hok.big; omega) W B)
              have G := Lib.hid (fun W (h9 : Below W3.heap.size W3 W) => radd_any r' (oneU (r'.fin + 1)) W.heap.size W (rw_inn (HP.out.below h9).ps HP.out.rel) (Nat.le_refl _) (HONE.out _ _) (by simp [oneU]) (by rw [HP.out.rel.len]; exact HLS.out.1) (by rw [HP.out.rel.fin]; exact HLS.out.2))
              have nw : W3.heap.size ≠ gr := Nat.ne_of_gt lr
              have HFE := Lib.hid hfin
              clear hfin hfn hok hln
              go_upto_region 23 with (fail)
              go_cut [10, 11] (fun v10 v11 wx => ∃ (g10 : Nat) (r2 : RW), v10 = .pointer (some ⟨g10, 0, none⟩) ∧ v11 = .int .i64 0 ∧ Hid (Below W3.heap.size W3 wx) ∧ Hid (Blk wx g10 42 r2.cells) ∧ Hid (RAddS r' (oneU (r'.fin + 1)) r2) ∧ Hid (RRow w wx gr v' r2))
              case first =>
                clear c0 c1 c2 c3 c4 c5 c6 c7 c8 c9 c10
                go_region_held3 (fun w' => w'.cell? ⟨gr, 0, none⟩ = some (.int .u64 r'.low) ∧ w'.cell? ⟨gr, 1, none⟩ = some (.int .u64 r'.fin) ∧ w'.cell? ⟨gr, 2, none⟩ = some (.int .u64 r'.done) ∧ w'.cell? ⟨gr, 3, none⟩ = some (.slice r'.A r'.l.length r'.c)) (go_keep) (first
                  | (go_at_call 8; refine (one_any _ _).mono ?_; rintro e w6 ⟨rfl, h6⟩; (try have hz := (show Blk (W3.drew.alloc (.cells #[.int .u64 0, .int .u64 0, .int .u64 0, .slice none 0 0] 42)) W3.heap.size 42 #[.int .u64 0, .int .u64 0, .int .u64 0, .slice none 0 0] from Blk.new _ _ _).below h6 (by simp)); have hb6 := (show Below W3.heap.size W3 _ from (by repeat (first | with_reducible exact Below.refl _ _ | with_reducible refine Below.alloc ?_ (by simp <;> omega) _ | with_reducible refine below_drewN ?_ _ | with_reducible refine Below.drew ?_))).trans (h6.mono (by simp)); replace r0 := cell_relay r0 lr h6 (by repeat (first | with_reducible exact Below.refl _ _ | with_reducible refine Below.alloc ?_ (by simp <;> omega) _ | with_reducible refine below_drewN ?_ _ | with_reducible refine Below.drew ?_)); replace r1 := cell_relay r1 lr h6 (by repeat (first | with_reducible exact Below.refl _ _ | with_reducible refine Below.alloc ?_ (by simp <;> omega) _ | with_reducible refine below_drewN ?_ _ | with_reducible refine Below.drew ?_)); replace r2 := cell_relay r2 lr h6 (by repeat (first | with_reducible exact Below.refl _ _ | with_reducible refine Below.alloc ?_ (by simp <;> omega) _ | with_reducible refine below_drewN ?_ _ | with_reducible refine Below.drew ?_)); replace r3 := cell_relay r3 lr h6 (by repeat (first | with_reducible exact Below.refl _ _ | with_reducible refine Below.alloc ?_ (by simp <;> omega) _ | with_reducible refine below_drewN ?_ _ | with_reducible refine Below.drew ?_)); have l6 := hb6.size; have nw6 : w6.heap.size ≠ gr := (by omega); clear h6)
                  | (go_at_call 17; (first | refine (G.out _ hb6).mono ?_ | refine (G.out _ (hb6.alloc l6 _)).mono ?_); rintro e w7 ⟨⟨rl, rf, rd, rA, rc, rll⟩, rfl, hads, hrd, hnew, hb7⟩; rw [HEZ.out]; simp only [RW.agg]; have hsp := (by first | exact sep_of HP.out (HONE.out _ _) _ hb6 hads hrd hnew | exact sep_of HP.out (HONE.out _ _) _ (hb6.alloc l6 _) hads hrd hnew : RRow w w7 gr v' ⟨rl, rf, rd, rA, rc, rll⟩ ∧ _); (first | (have hz7 := hz.below hb7 hz.lt; obtain ⟨q0, q1, q2, q3⟩ := rw_cells hz7; obtain ⟨f0, f1, f2, f3⟩ := rw_frozen hz7; have HZ7 := Lib.hid hz7; have LZ := Lib.hid hz.lt; clear hz7 hz) | (have hz7 := (show Blk (w6.alloc (.cells #[.int .u64 0, .int .u64 0, .int .u64 0, .slice none 0 0] 42)) w6.heap.size 42 #[.int .u64 0, .int .u64 0, .int .u64 0, .slice none 0 0] from Blk.new _ _ _).below hb7 (by simp); obtain ⟨q0, q1, q2, q3⟩ := rw_cells hz7; obtain ⟨f0, f1, f2, f3⟩ := rw_frozen hz7; have HZ7 := Lib.hid hz7; clear hz7) | skip); have lr6 := Nat.lt_of_lt_of_le lr l6; replace r0 := cell_relay r0 lr6 hb7 (by repeat (first | with_reducible exact Below.refl _ _ | with_reducible refine Below.alloc ?_ (by simp <;> omega) _ | with_reducible refine below_drewN ?_ _ | with_reducible refine Below.drew ?_)); replace r1 := cell_relay r1 lr6 hb7 (by repeat (first | with_reducible exact Below.refl _ _ | with_reducible refine Below.alloc ?_ (by simp <;> omega) _ | with_reducible refine below_drewN ?_ _ | with_reducible refine Below.drew ?_)); replace r2 := cell_relay r2 lr6 hb7 (by repeat (first | with_reducible exact Below.refl _ _ | with_reducible refine Below.alloc ?_ (by simp <;> omega) _ | with_reducible refine below_drewN ?_ _ | with_reducible refine Below.drew ?_)); replace r3 := cell_relay r3 lr6 hb7 (by repeat (first | with_reducible exact Below.refl _ _ | with_reducible refine Below.alloc ?_ (by simp <;> omega) _ | with_reducible refine below_drewN ?_ _ | with_reducible refine Below.drew ?_)); have hb8 := Lib.hid ((show Below W3.heap.size W3 _ from (by first | exact hb6 | exact hb6.alloc l6 _)).trans (hb7.mono (by first | exact l6 | (simp; omega)))); have nw7 : w7.heap.size ≠ gr := (by have := hb8.out.size; omega); have HSP := Lib.hid hsp; have HAD := Lib.hid hads; have L6 := Lib.hid l6; clear hsp hads hrd hnew hb7)
                  | fail)
                · have HBZ := Lib.hid (hb8.out.alloc hb8.out.size (.cells #[.int .u64 rl, .int .u64 rf, .int .u64 rd, .slice rA rll.length rc] 42))
                  have HRZ := Lib.hid (HSP.out.1.below ((Below.refl _ _).alloc (Nat.le_refl _) (.cells #[.int .u64 rl, .int .u64 rf, .int .u64 rd, .slice rA rll.length rc] 42)))
                  have HKZ := Lib.hid (Blk.new w7 42 #[.int .u64 rl, .int .u64 rf, .int .u64 rd, .slice rA rll.length rc])
                  go_wp2_with (fail)
                  go_meet
                  case rel => exact ⟨w7.heap.size, ⟨rl, rf, rd, rA, rc, rll⟩, rfl, rfl, HBZ, HKZ, HAD, HRZ⟩
                · have HBZ := Lib.hid (hb8.out.trans ((chg_set4 w7 w6.heap.size (.int .u64 rl) (.int .u64 rf) (.int .u64 rd) (.slice rA rll.length rc)).below hb8.out.size (fun k hk e => by simp only [isB] at e; have := L6.out; omega)))
                  have HRZ := Lib.hid (HSP.out.1.set (chg_set4 w7 w6.heap.size (.int .u64 rl) (.int .u64 rf) (.int .u64 rd) (.slice rA rll.length rc)) (fun ad h0 hA => HSP.out.2 w6.heap.size L6.out (by simp) ad h0 hA))
                  have HKZ := Lib.hid (blk_set4 HZ7.out (.int .u64 rl) (.int .u64 rf) (.int .u64 rd) (.slice rA rll.length rc))
                  go_wp2_with (fail)
                  go_meet
                  case rel => exact ⟨w6.heap.size, ⟨rl, rf, rd, rA, rc, rll⟩, rfl, rfl, HBZ, HKZ, HAD, HRZ⟩
                · have HBZ := Lib.hid (hb8.out.trans ((chg_set4 w7 W3.heap.size (.int .u64 rl) (.int .u64 rf) (.int .u64 rd) (.slice rA rll.length rc)).below hb8.out.size (fun k hk e => by simp only [isB] at e; have := L6.out; omega)))
                  have HRZ := Lib.hid (HSP.out.1.set (chg_set4 w7 W3.heap.size (.int .u64 rl) (.int .u64 rf) (.int .u64 rd) (.slice rA rll.length rc)) (fun ad h0 hA => HSP.out.2 W3.heap.size (Nat.le_refl _) LZ.out ad h0 hA))
                  have HKZ := Lib.hid (blk_set4 HZ7.out (.int .u64 rl) (.int .u64 rf) (.int .u64 rd) (.slice rA rll.length rc))
                  go_wp2_with (fail)
                  go_meet
                  case rel => exact ⟨W3.heap.size, ⟨rl, rf, rd, rA, rc, rll⟩, rfl, rfl, HBZ, HKZ, HAD, HRZ⟩
              case rest =>
                obtain ⟨g10, ⟨rl, rf, rd, rA, rc, rll⟩, rfl, rfl, HB, BS, HAD, HRR⟩ := hcut
                have HP6 := Lib.hid (HP.out.below HB.out)
                have BO6 := Lib.hid (BO.out.below HB.out lo)
                clear r0 r1 r2 r3 lr lo c0 c1 c2 c3 c4 c5 c6 c7 c8 c9 c10 G nw BO
                obtain ⟨r0, r1, r2, r3⟩ := rw_cells HP6.out.ps.box
                go_wp2_with (fail)
                refine (one_any _ _).mono ?_
                rintro e w8 ⟨rfl, hb8⟩
                have HP7 := Lib.hid (HP6.out.below hb8)
                have BO7 := Lib.hid (BO6.out.below hb8 BO6.out.lt)
                have BS7 := Lib.hid (BS.out.below hb8 BS.out.lt)
                have HR7 := Lib.hid (HRR.out.below hb8)
                clear hb8 r0 r1 r2 r3
                have AD := Lib.hid (add_any w.heap.size w8 w.heap.size v' s' (oneU (r'.fin + 1)) 0 HP7.out.ps.win.win (HK.out.below HP7.out.ps.win.bel) (HONE.out _ _) (Nat.zero_le _) (by simp [oneU]) HLS.out.1 HLS.out.2)
                go_wp2_with (fail)
                refine AD.out.mono ?_
                rintro e w9 ⟨v2, s2, rfl, hA9, hs9, hc9, hn9⟩
                rw [← rel_addE HP7.out.rel, HEZ.out]
                have hgr := HP7.out.ps.win.gr_ne HP7.out.ps.box (by decide) (by decide)
                have HX9 := Lib.hid (hc9.blk HP7.out.ps.box hgr)
                have BS9 := Lib.hid (hc9.blk BS7.out (HP7.out.ps.win.gr_ne BS7.out (by decide) (by decide)))
                have BO9 := Lib.hid (hc9.blk BO7.out (HP7.out.ps.win.gr_ne BO7.out (by decide) (by decide)))
                have HR9 := Lib.hid (HR7.out.win HP7.out.ps.win hc9 hn9)
                have HW9 := Lib.hid (HP7.out.ps.win.chg hA9 hc9)
                have HRL := Lib.hid (rel_add2 HP7.out.ps.win.win.ok hA9.ok HLS.out.1 HLS.out.2 HP7.out.rel hs9 HAD.out)
                have HBD := Lib.hid (adds_bounds HP7.out.ps.win.win.ok hA9.ok HLS.out.1 HLS.out.2 hs9)
                clear hA9 hs9 hc9 hn9 hgr
                obtain ⟨d0, d1, d2, d3⟩ := rw_cells BS9.out
                obtain ⟨y0, y1, y2, y3⟩ := rw_cells HX9.out
                obtain ⟨f0, f1, f2, f3⟩ := rw_frozen HX9.out
                have HPZ : Hid (PR w ((((w9.setCell ⟨gr, 0, none⟩ (.int .u64 rl)).setCell ⟨gr, 1, none⟩ (.int .u64 rf)).setCell ⟨gr, 2, none⟩ (.int .u64 rd)).setCell ⟨gr, 3, none⟩ (.slice rA rll.length rc)) gr at_ (at_ + 50 * i + (k + 1 : Nat)) v2 s2 ⟨rl, rf, rd, rA, rc, rll⟩) := Lib.hid ⟨PS.put HW9.out HX9.out HR9.out HP7.out.ps.hge _ _ _ _ rfl, HRL.out, Int.le_trans HP7.out.low HBD.out.2, by have h1 := HBD.out.1; have h2 := HP7.out.fin; push_cast at *; omega⟩
                have hgo : gr ≠ g8 := fun e => Blk.ne_ HX9.out BO9.out (by decide) e
                have BOZ := Lib.hid (((((BO9.out.far (p := ⟨gr, 0, none⟩) (Ne.symm hgo) (.int .u64 rl)).far (p := ⟨gr, 1, none⟩) (Ne.symm hgo) (.int .u64 rf)).far (p := ⟨gr, 2, none⟩) (Ne.symm hgo) (.int .u64 rd)).far (p := ⟨gr, 3, none⟩) (Ne.symm hgo) (.slice rA rll.length rc)))
                go_wp2_with (fail)
                go_roundw
                case rel => exact ⟨k + 1, v2, s2, ⟨rl, rf, rd, rA, rc, rll⟩, by push_cast; omega, by simp, HPZ, BOZ⟩
                case measure => simp [intOf]; omega
            · have hke : (k : Int) = q := by omega
              have HKE := Lib.hid hke
              have HPZ : Hid (PR w W3 gr at_ (at_ + 50 * (i + 1 : Nat)) v' s' r') := Lib.hid ⟨HP.out.ps, HP.out.rel, HP.out.low, by have h1 := HP.out.fin; push_cast at *; omega⟩
              clear hke
              go_wp2_with (fail)
              go_meet
              case rel => exact ⟨v', s', r', HPZ, BO⟩
        by_cases hk1 : o.kd = 1
        · have hk1' : (o.kd == 1) = true := by simpa using hk1
          have hk0' : (o.kd == 0) = false := by simpa using hk0
          have hk2' : ¬ o.kd = 0 := hk0
          clear hk0 hk1
          obtain ⟨r0, r1, r2, r3⟩ := rw_cells HP8.out.ps.box
          have hln := HP8.out.len
          have hfn := HP8.out.fin
          have hls : s.l.length + 1 ≤ 900000 := by omega
          have hbs : s.lend + 1 ≤ 9000000000000000000 := by omega
          have hun : o.u.n ≤ 100000 := by omega
          have HLS := Lib.hid (And.intro hls hbs)
          have HUN := Lib.hid hun
          have RA := Lib.hid (radd_any r o.u W8.heap.size W8 (rw_inn HP8.out.ps HP8.out.rel) (Nat.le_refl _) ((HOK.out.u.below HP8.out.ps.win.bel).more HP8.out.ps.win.bel.size) (by omega) (by rw [HP8.out.rel.len]; exact hls) (by rw [HP8.out.rel.fin]; exact hbs))
          clear hln hfn hls hbs hun
          go_wp2_with (fail)
          refine RA.out.mono ?_
          rintro e w6 ⟨r', rfl, hads, hrd, hnew, hb6⟩
          obtain ⟨hr6, _⟩ := sep_of HP8.out HOK.out.u W8 (Below.refl _ _) hads hrd hnew
          have HP6 := Lib.hid (HP8.out.below hb6)
          have BO6 := Lib.hid (BO.out.below hb6 BO.out.lt)
          have HR6 := Lib.hid hr6
          have HAD := Lib.hid hads
          clear hr6 hads hrd hnew hb6 HP8 BO RA c0 c1 c2 c3 c4 c5 c6 c7 c8 c9 c10 r0 r1 r2 r3
          obtain ⟨rl, rf, rd, rA, rc, rll⟩ := r'
          obtain ⟨ee, hee⟩ : ∃ ee, r.addE o.u = ee := ⟨_, rfl⟩
          have HEE := Lib.hid hee
          rw [hee]
          clear hee
          simp only [RW.agg]
          have HB7 : Hid (Below w6.heap.size w6 (w6.alloc (.cells #[.int .u64 rl, .int .u64 rf, .int .u64 rd, .slice rA rll.length rc] 42))) := Lib.hid (by repeat (first | with_reducible exact Below.refl _ _ | with_reducible refine Below.setCell ?_ (by first | omega | (simp <;> omega)) _ | with_reducible refine Below.alloc ?_ (by first | omega | (simp <;> omega)) _ | with_reducible refine below_drewN ?_ _ | with_reducible refine Below.drew ?_))
          have HP7 := Lib.hid (HP6.out.below HB7.out)
          have HR7 := Lib.hid (HR6.out.below HB7.out)
          have BO7 := Lib.hid (BO6.out.below HB7.out BO6.out.lt)
          have BS7 : Hid (Blk (w6.alloc (.cells #[.int .u64 rl, .int .u64 rf, .int .u64 rd, .slice rA rll.length rc] 42)) w6.heap.size 42 #[.int .u64 rl, .int .u64 rf, .int .u64 rd, .slice rA rll.length rc]) := Lib.hid (Blk.new _ _ _)
          obtain ⟨c0, c1, c2, c3, c4, c5, c6, c7, c8, c9, c10⟩ := opc_cells BO6.out
          have lo := BO6.out.lt
          have AD := Lib.hid (add_any w.heap.size (w6.alloc (.cells #[.int .u64 rl, .int .u64 rf, .int .u64 rd, .slice rA rll.length rc] 42)) w.heap.size v s o.u w.heap.size HP7.out.ps.win.win (HK.out.below HP7.out.ps.win.bel) (HOK.out.u.below HP7.out.ps.win.bel) HP7.out.ps.win.bel.size HUN.out HLS.out.1 HLS.out.2)
          go_wp2_with (fail)
          refine AD.out.mono ?_
          rintro e w9 ⟨v', s', rfl, hA9, hs9, hc9, hn9⟩
          rw [← rel_addE HP7.out.rel o.u, HEE.out]
          have hgr := HP7.out.ps.win.gr_ne HP7.out.ps.box (by decide) (by decide)
          have HX9 := Lib.hid (hc9.blk HP7.out.ps.box hgr)
          have BS9 := Lib.hid (hc9.blk BS7.out (HP7.out.ps.win.gr_ne BS7.out (by decide) (by decide)))
          have BO9 := Lib.hid (hc9.blk BO7.out (HP7.out.ps.win.gr_ne BO7.out (by decide) (by decide)))
          have HR9 := Lib.hid (HR7.out.win HP7.out.ps.win hc9 hn9)
          have HW9 := Lib.hid (HP7.out.ps.win.chg hA9 hc9)
          have HRL := Lib.hid (rel_add2 HP7.out.ps.win.win.ok hA9.ok HLS.out.1 HLS.out.2 HP7.out.rel hs9 HAD.out)
          have HBD := Lib.hid (adds_bounds HP7.out.ps.win.win.ok hA9.ok HLS.out.1 HLS.out.2 hs9)
          clear hA9 hs9 hc9 hn9 c0 c1 c2 c3 c4 c5 c6 c7 c8 c9 c10 hgr lo
          obtain ⟨d0, d1, d2, d3⟩ := rw_cells BS9.out
          obtain ⟨y0, y1, y2, y3⟩ := rw_cells HX9.out
          obtain ⟨f0, f1, f2, f3⟩ := rw_frozen HX9.out
          have HPZ : Hid (PR w ((((w9.setCell ⟨gr, 0, none⟩ (.int .u64 rl)).setCell ⟨gr, 1, none⟩ (.int .u64 rf)).setCell ⟨gr, 2, none⟩ (.int .u64 rd)).setCell ⟨gr, 3, none⟩ (.slice rA rll.length rc)) gr at_ (at_ + 50 * (i + 1 : Nat)) v' s' ⟨rl, rf, rd, rA, rc, rll⟩) := Lib.hid ⟨PS.put HW9.out HX9.out HR9.out HP7.out.ps.hge _ _ _ _ rfl, HRL.out, Int.le_trans HP7.out.low HBD.out.2, by have h1 := HBD.out.1; have h2 := HP7.out.fin; push_cast at *; omega⟩
          have hgo : gr ≠ g8 := fun e => Blk.ne_ HX9.out BO9.out (by decide) e
          have BOZ := Lib.hid (((((BO9.out.far (p := ⟨gr, 0, none⟩) (Ne.symm hgo) (.int .u64 rl)).far (p := ⟨gr, 1, none⟩) (Ne.symm hgo) (.int .u64 rf)).far (p := ⟨gr, 2, none⟩) (Ne.symm hgo) (.int .u64 rd)).far (p := ⟨gr, 3, none⟩) (Ne.symm hgo) (.slice rA rll.length rc)))
          go_wp2_with (fail)
          go_meet
          case rel => exact ⟨v', s', _, HPZ, BOZ⟩
        · have hk1' : (o.kd == 1) = false := by simpa using hk1
          have hk0' : (o.kd == 0) = false := by simpa using hk0
          have hk01 := Lib.hid (And.intro hk0 hk1)
          clear hk0 hk1
          obtain ⟨r0, r1, r2, r3⟩ := rw_cells HP8.out.ps.box
          obtain ⟨q, hq⟩ : ∃ q, o.nn.tmod 20 = q := ⟨_, rfl⟩
          have hq0 : 0 ≤ q := by rw [← hq]; exact Int.tmod_nonneg _ HOK.out.nn.1
          have hq1 : q < 20 := by rw [← hq]; exact Int.tmod_lt_of_pos _ (by omega)
          have hrd0 : 0 ≤ r.done ∧ r.done ≤ 9000000000000000000 := by
            have h1 := HP8.out.rel.done
            have h2 := HP8.out.ps.win.win.ok.ld
            have h3 := HP8.out.ps.win.win.ok.low
            have h4 := HP8.out.ps.win.win.ok.de
            have h5 := HP8.out.ps.win.win.ok.big
            omega
          have hwn : IntKind.u64.wrap o.nn = o.nn := by have := HOK.out.nn; rw [IntKind.wrap_u64]; omega
          have hwq : IntKind.u64.wrap (r.done + q) = r.done + q := by rw [IntKind.wrap_u64]; omega
          have hnn := HOK.out.nn
          rcases (show ((o.kd == 2) = true ∧ ∃ d, r.done + q = d ∧ 0 ≤ d ∧ d ≤ 18446744073709551615) ∨ ((o.kd == 2) = false ∧ ∃ d, o.nn = d ∧ 0 ≤ d ∧ d ≤ 18446744073709551615) from by
            by_cases h : o.kd = 2
            · exact .inl ⟨by simp [h], _, rfl, by omega, by omega⟩
            · exact .inr ⟨by simpa using h, _, rfl, hnn.1, by omega⟩) with ⟨hk2, d, hd, hd0, hd1⟩ | ⟨hk2, d, hd, hd0, hd1⟩
          all_goals
            have HDD := Lib.hid (And.intro hd0 hd1)
            have hwd : IntKind.u64.wrap d = d := by rw [IntKind.wrap_u64]; omega
            clear hq0 hq1 hrd0 hnn hd0 hd1
            have RR := Lib.hid (rreach_any r d W8.heap.size W8 (rw_inn HP8.out.ps HP8.out.rel) (Nat.le_refl _) HDD.out.1)
            go_wp2_with (fail)
            refine RR.out.mono ?_
            rintro e w6 ⟨A', Ao, c', co, rfl, hrd, hsn, hto, hno, hb6⟩
            have hr6 : RRow w w6 gr v ⟨(r.after d).keptLow, r.fin, r.upTo d, A', c', (r.after d).keptL⟩ := (HP8.out.ps.row.step HP8.out.ps.win HP8.out.ps.box.lt (Below.refl _ _) hrd (fun x hx => HP8.out.ps.row.dat x (keptL_sub (r.after d) x hx)) (by
              rcases hsn with h | h
              · refine .inl ⟨h, fun h0 => ?_⟩
                have h1 : (r.after d).keptL.length ≤ r.l.length := by
                  unfold RW.keptL; split
                  · exact Nat.le_refl _
                  · exact List.length_filter_le _ _
                exact Nat.lt_of_lt_of_le h0 h1
              · exact .inr h)).1
            have hrl : Rel (s.reach d) ⟨(r.after d).keptLow, r.fin, r.upTo d, A', c', (r.after d).keptL⟩ := rel_reach HP8.out.ps.win.win.ok HP8.out.rel d A' c'
            have hrt := rel_told HP8.out.ps.win.win.ok HP8.out.rel d
            have hrtd : ∀ u ∈ r.told d, UpIn w w.heap.size u := fun u hu => HP8.out.ps.row.dat u (List.mem_filter.1 hu).1
            obtain ⟨X, hX⟩ : ∃ X, (r.after d).keptLow = X := ⟨_, rfl⟩
            obtain ⟨Y, hY⟩ : ∃ Y, r.upTo d = Y := ⟨_, rfl⟩
            obtain ⟨kl, hkl⟩ : ∃ kl, (r.after d).keptL = kl := ⟨_, rfl⟩
            obtain ⟨rt, hrt2⟩ : ∃ rt, r.told d = rt := ⟨_, rfl⟩
            obtain ⟨F, hF⟩ : ∃ F, r.fin = F := ⟨_, rfl⟩
            rw [hX, hY, hkl, hF] at hr6 hrl
            rw [hrt2] at hrt hto hrtd
            rw [hX, hY, hkl, hrt2, hF]
            have HP6 := Lib.hid (HP8.out.below hb6)
            have BO6 := Lib.hid (BO.out.below hb6 BO.out.lt)
            have HR6 := Lib.hid hr6
            have HRL := Lib.hid hrl
            have HRT := Lib.hid (And.intro hrt hrtd)
            have HTO := Lib.hid hto
            have HNO : Hid (∀ ad, Ao = some ad → ad.block ≠ w.heap.size ∧ v.ownBlock ≠ some ad.block) := Lib.hid (fun ad hA => by
              have h1 := hno ad hA
              have h2 := HP8.out.ps.win.win.box.lt
              refine ⟨by omega, fun e => ?_⟩
              have := (HP8.out.ps.win.win.own.lt _ e).2
              omega)
            have HS6 := Lib.hid hb6.size
            clear hX hY hkl hrt2 hF hr6 hrl hrt hrtd hrd hsn hto hno hb6 HP8 BO RR c0 c1 c2 c3 c4 c5 c6 c7 c8 c9 c10 r0 r1 r2 r3 hwd hwn hwq hq hd
            simp only [RW.agg]
            have HB7 : Hid (Below w6.heap.size w6 (w6.alloc (.cells #[.int .u64 X, .int .u64 F, .int .u64 Y, .slice A' kl.length c'] 42))) := Lib.hid (by repeat (first | with_reducible exact Below.refl _ _ | with_reducible refine Below.setCell ?_ (by first | omega | (simp <;> omega)) _ | with_reducible refine Below.alloc ?_ (by first | omega | (simp <;> omega)) _ | with_reducible refine below_drewN ?_ _ | with_reducible refine Below.drew ?_))
            have HP7 := Lib.hid (HP6.out.below HB7.out)
            have HR7 := Lib.hid (HR6.out.below HB7.out)
            have BO7 := Lib.hid (BO6.out.below HB7.out BO6.out.lt)
            have BS7 : Hid (Blk (w6.alloc (.cells #[.int .u64 X, .int .u64 F, .int .u64 Y, .slice A' kl.length c'] 42)) w6.heap.size 42 #[.int .u64 X, .int .u64 F, .int .u64 Y, .slice A' kl.length c']) := Lib.hid (Blk.new _ _ _)
            have RCH := Lib.hid (reach_any w.heap.size (w6.alloc (.cells #[.int .u64 X, .int .u64 F, .int .u64 Y, .slice A' kl.length c'] 42)) w.heap.size v s d HP7.out.ps.win.win HDD.out.1 HDD.out.2)
            go_wp2_with (fail)
            refine RCH.out.mono ?_
            rintro e w9 ⟨v', vo, os, rfl, hO, hA9, hc9, hn9⟩
            have hgr := HP7.out.ps.win.gr_ne HP7.out.ps.box (by decide) (by decide)
            have HX9 := Lib.hid (hc9.blk HP7.out.ps.box hgr)
            have BS9 := Lib.hid (hc9.blk BS7.out (HP7.out.ps.win.gr_ne BS7.out (by decide) (by decide)))
            have BO9 := Lib.hid (hc9.blk BO7.out (HP7.out.ps.win.gr_ne BO7.out (by decide) (by decide)))
            have HR9 := Lib.hid (HR7.out.win HP7.out.ps.win hc9 hn9)
            have HW9 := Lib.hid (HP7.out.ps.win.chg hA9 hc9)
            have hlen : os.length = rt.length := by have h1 := hO.len; have h2 := congrArg List.length HRT.out.1; simp only [List.length_map] at h2; omega
            have HU1 : Hid (UpsIn w9 w9.heap.size Ao os.length rt) := Lib.hid (by
              rw [hlen]
              have h1 : Reads (w6.alloc (.cells #[.int .u64 X, .int .u64 F, .int .u64 Y, .slice A' kl.length c'] 42)) w6.heap.size 7 Ao rt.length (rt.flatMap Up.row) := HTO.out.below HB7.out
              refine ⟨(hc9.reads h1 HB7.out.size (fun ad h0 hA e => ?_)).more (Nat.le_trans HB7.out.size hc9.size), fun u hu => ((HRT.out.2 u hu).below HW9.out.bel).more HW9.out.bel.size⟩
              rcases e with e | e
              · exact (HNO.out ad hA).1 e
              · exact (HNO.out ad hA).2 e)
            obtain ⟨A9, c9, rfl, hup9, _, _⟩ := hO.ups
            have SU := Lib.hid (sameUps_any A9 Ao os.length c9 co w9.heap.size w9.heap.size os rt w9 hup9 HU1.out (by rw [hO.val, ← HRT.out.1]) (Nat.le_refl _) (Nat.le_refl _) (by have h1 := hO.len; have h2 := (Wn.told_row HP7.out.ps.win.win.ok d).2; have h3 := (Wn.upTo_bounds HP7.out.ps.win.win.ok d).2; have h4 := HP7.out.fin; have h5 := HP7.out.ps.win.win.ok.ld; have h6 := HP7.out.low; omega) (fun u hu => by
              obtain ⟨j, hj⟩ := List.getElem?_of_mem hu
              obtain ⟨x, hx, he⟩ := val_get hO.val hj
              have hxm : x ∈ s.l := pickL_sub _ _ _ x (List.mem_of_getElem? hx)
              have h1 := up_n_eq (hup9.mem u hu) (HP7.out.ps.win.win.dat x hxm).in_ he
              have h2 := HP7.out.ps.win.win.ok.dat x hxm
              omega))
            have HBD : Hid ((s.reach d).lend ≤ s.lend ∧ s.low ≤ (s.reach d).low) := Lib.hid ⟨by rw [(Wn.reach_facts HP7.out.ps.win.win.ok d).1]; omega, trim_low _ (Wn.reach_ok0 HP7.out.ps.win.win.ok d)⟩
            rw [← hlen]
            clear hO hA9 hc9 hn9 hgr hlen hup9
            go_wp2_with (fail)
            refine SU.out.mono ?_
            rintro e w10 ⟨rfl, hb10⟩
            replace HX9 := Lib.hid (HX9.out.below hb10 HX9.out.lt)
            replace BS9 := Lib.hid (BS9.out.below hb10 BS9.out.lt)
            replace BO9 := Lib.hid (BO9.out.below hb10 BO9.out.lt)
            replace HR9 := Lib.hid (HR9.out.below hb10)
            replace HW9 := Lib.hid (HW9.out.below hb10)
            clear hb10 SU HU1
            obtain ⟨d0, d1, d2, d3⟩ := rw_cells BS9.out
            obtain ⟨y0, y1, y2, y3⟩ := rw_cells HX9.out
            obtain ⟨f0, f1, f2, f3⟩ := rw_frozen HX9.out
            have HPZ : Hid (PR w ((((w10.setCell ⟨gr, 0, none⟩ (.int .u64 X)).setCell ⟨gr, 1, none⟩ (.int .u64 F)).setCell ⟨gr, 2, none⟩ (.int .u64 Y)).setCell ⟨gr, 3, none⟩ (.slice A' kl.length c')) gr at_ (at_ + 50 * (i + 1 : Nat)) v' (s.reach d) ⟨X, F, Y, A', c', kl⟩) := Lib.hid ⟨PS.put HW9.out HX9.out HR9.out HP7.out.ps.hge _ _ _ _ rfl, HRL.out, Int.le_trans HP7.out.low HBD.out.2, by have h1 := HBD.out.1; have h2 := HP7.out.fin; push_cast at *; omega⟩
            have hgo : gr ≠ g8 := fun e => Blk.ne_ HX9.out BO9.out (by decide) e
            have BOZ := Lib.hid (((((BO9.out.far (p := ⟨gr, 0, none⟩) (Ne.symm hgo) (.int .u64 X)).far (p := ⟨gr, 1, none⟩) (Ne.symm hgo) (.int .u64 F)).far (p := ⟨gr, 2, none⟩) (Ne.symm hgo) (.int .u64 Y)).far (p := ⟨gr, 3, none⟩) (Ne.symm hgo) (.slice A' kl.length c')))
            go_wp2_with (fail)
            go_meet
            case rel => exact ⟨v', s.reach d, _, HPZ, BOZ⟩
      case rest =>
        obtain ⟨v', s', r', HP9, BO9⟩ := hcut
        clear HP8 BO
        obtain ⟨c0, c1, c2, c3, c4, c5, c6, c7, c8, c9, c10⟩ := opc_cells BO9.out
        obtain ⟨r0, r1, r2, r3⟩ := rw_cells HP9.out.ps.box
        have lo := BO9.out.lt
        have lr := HP9.out.ps.box.lt
        have hfin : 0 ≤ r'.fin ∧ r'.fin ≤ 9000000000000000000 := by
          have h1 := HP9.out.rel.fin
          have h2 := HP9.out.ps.win.win.ok.ld
          have h3 := HP9.out.ps.win.win.ok.low
          have h4 := HP9.out.ps.win.win.ok.de
          have h5 := HP9.out.ps.win.win.ok.big
          omega
        have hwb : IntKind.u64.wrap o.back = o.back := by have := HOK.out.back; rw [IntKind.wrap_u64]; omega
        have hw1 : IntKind.u64.wrap (r'.fin + 1) = r'.fin + 1 := by rw [IntKind.wrap_u64]; omega
        obtain ⟨q, hq⟩ : ∃ q, o.back.tmod 60 = q := ⟨_, rfl⟩
        obtain ⟨gt, hgt⟩ : ∃ gt, IntKind.u64.wrap (r'.fin + 1 - q) = gt := ⟨_, rfl⟩
        clear hfin
        go_wp2_with (fail)
        refine (from_any w.heap.size _ w.heap.size v' s' gt o.most HP9.out.ps.win.win HOK.out.most).mono ?_
        rintro e w10 ⟨vo, os, rfl, hO, hb10⟩
        have HO := Lib.hid hO
        have HP10 := Lib.hid (HP9.out.below hb10)
        have BO10 := Lib.hid (BO9.out.below hb10 lo)
        have HS10 := Lib.hid hb10
        clear hO hb10 c0 c1 c2 c3 c4 c5 c6 c7 c8 c9 c10 r0 r1 r2 r3 lo lr hwb hw1 hq hgt
        obtain ⟨A9, c9', rfl, _, _, _⟩ := HO.out.ups
        obtain ⟨c0, c1, c2, c3, c4, c5, c6, c7, c8, c9, c10⟩ := opc_cells BO10.out
        obtain ⟨r0, r1, r2, r3⟩ := rw_cells HP10.out.ps.box
        have RF := Lib.hid (rfrom_any r' gt o.most w10.heap.size w10 (rw_inn HP10.out.ps HP10.out.rel) (Nat.le_refl _))
        go_wp2_with (fail)
        refine RF.out.mono ?_
        rintro e w11 ⟨Ao, co, rfl, hrd, hb11⟩
        have HP11 := Lib.hid (HP10.out.below hb11)
        have HO11 := Lib.hid (HO.out.below hb11)
        have HRD := Lib.hid hrd
        obtain ⟨hhas, hval⟩ := rel_from HP11.out.rel gt o.most
        rw [hhas]
        have HVL := Lib.hid hval
        have hlen : (r'.behind gt o.most).length = os.length := by
          have h1 := HO.out.len
          have h2 := congrArg List.length hval
          simp only [List.length_map] at h2
          omega
        rw [hlen]
        have HLN := Lib.hid hlen
        clear hrd hb11 hhas hval hlen c0 c1 c2 c3 c4 c5 c6 c7 c8 c9 c10 r0 r1 r2 r3 RF
        obtain ⟨r0, r1, r2, r3⟩ := rw_cells HP11.out.ps.box
        go_wp2_with (fail)
        refine (wsame_any w.heap.size w11 w.heap.size v' s' r' HP11.out.ps.win.win HP11.out.rel).mono ?_
        rintro e w12 ⟨rfl, hb12⟩
        have HP12 := Lib.hid (HP11.out.below hb12)
        have HO12 := Lib.hid (HO11.out.below hb12)
        have HU1 : Hid (UpsIn w12 w12.heap.size Ao os.length (r'.behind gt o.most)) := Lib.hid (by
          rw [← HLN.out]
          refine ⟨(HRD.out.below hb12).more hb12.size, fun u hu => ?_⟩
          have hm : u ∈ r'.l := by
            unfold RW.behind at hu
            split at hu
            · exact pickL_sub _ _ _ u hu
            · simp at hu
          exact ((HP12.out.ps.row.dat u hm).below HP12.out.ps.win.bel).more HP12.out.ps.win.bel.size)
        have SU : Hid (Calls Tryz.prog 19 #[.slice A9 os.length c9', .slice Ao os.length co] w12 fun e w' => e = .returned (.bool true) ∧ Below w12.heap.size w12 w') := Lib.hid (by
          obtain ⟨A8, c8, hv8, hup, _, _⟩ := HO12.out.ups
          injection hv8 with e1 e2 e3
          subst e1 e3
          have hsub : ∀ x ∈ s'.behind gt o.most, x ∈ s'.l := fun x hx => by
            unfold Wn.behind at hx
            split at hx
            · exact pickL_sub _ _ _ x hx
            · simp at hx
          refine sameUps_any A9 Ao os.length c9' co w12.heap.size w12.heap.size os (r'.behind gt o.most) w12 hup HU1.out (by rw [HO.out.val, HVL.out]) (Nat.le_refl _) (Nat.le_refl _) ?_ (fun u hu => ?_)
          · have h1 := HO.out.len
            have h2 : (s'.behind gt o.most).length ≤ s'.l.length := by
              unfold Wn.behind
              split
              · exact pickL_len _ _ _
              · simp
            have h3 := HP12.out.ps.win.win.ok.len
            omega
          · obtain ⟨j, hj⟩ := List.getElem?_of_mem hu
            obtain ⟨x, hx, he⟩ := val_get HO.out.val hj
            have hxm := hsub x (List.mem_of_getElem? hx)
            have h1 := up_n_eq (hup.mem u hu) (HP12.out.ps.win.win.dat x hxm).in_ he
            have h2 := HP12.out.ps.win.win.ok.dat x hxm
            omega)
        clear hb12 r0 r1 r2 r3
        go_wp2_with (fail)
        refine SU.out.mono ?_
        rintro e w13 ⟨rfl, hb13⟩
        have HP13 := Lib.hid (HP12.out.below hb13)
        clear hb13 SU
        go_wp2_with (fail)
        go_roundw
        case rel => exact ⟨i + 1, v', s', r', by omega, by omega, by simp, HP13⟩
        case measure => simp [intOf]; omega
    · have hends : (i : Int) < n → (40 : Int) ≤ i := fun h => by omega
      have HWL := Lib.hid HP.out.ps.win.bel
      by_cases hin' : (i : Int) < n
      · have h40 : ¬ (i : Int) < 40 := by omega
        clear hends hlt
        go_wp2_with (fail)
        refine (awake_win _ (HK.out.below HWL.out)).mono ?_
        rintro e w2 ⟨rfl, hb⟩
        have H2 := Lib.hid (HWL.out.trans (hb.mono HWL.out.size))
        clear hb
        go_wp2_with (fail)
        go_ret
        exact ⟨rfl, H2.out⟩
      · clear hends hlt
        go_wp2_with (fail)
        refine (awake_win _ (HK.out.below HWL.out)).mono ?_
        rintro e w2 ⟨rfl, hb⟩
        have H2 := Lib.hid (HWL.out.trans (hb.mono HWL.out.size))
        clear hb
        go_wp2_with (fail)
        go_ret
        exact ⟨rfl, H2.out⟩
end Go.Proofs.YtfcjkkjgedcgpaaGreatDoor
