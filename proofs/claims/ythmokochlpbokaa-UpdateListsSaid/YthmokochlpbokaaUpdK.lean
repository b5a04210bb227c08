/- UpdateLists: what a copy shares with nothing: it is written over; the walk. -/
import Derived.Test.YthmokochlpbokaaUpdJ

namespace Go.Proofs.Ythmokochlpbokaa
open Go.RowKit
set_option linter.unusedSimpArgs false
set_option linter.unusedVariables false
set_option maxHeartbeats 8000000
set_option maxRecDepth 100000
attribute [local go_sem] Up.agg Up.cells

theorem Picked.later {w W W' : World} {r : List Up} {v : Value} {o : List Up} (h : Picked w r v o W) (hb : Below W.heap.size W W') : Picked w r v o W' :=
  ⟨own_block_same h.own (fun k hk => hb.block k (h.own.lt k hk).2), fun u hu => ⟨own_block_same (h.dat u hu).1 (fun k hk => hb.block k ((h.dat u hu).1.lt k hk).2), (h.dat u hu).2⟩, h.val, h.bel.trans (hb.mono h.bel.size)⟩
structure Mut (base gc : Nat) (o : List Up) (W : World) : Prop where
  row0 : ∀ (j : Nat) (u : Up), o[j]? = some u → ∃ s, W.cell? ⟨gc, j * 7, none⟩ = some (.int .u64 s)
  row6 : ∀ (j : Nat) (u : Up), o[j]? = some u → W.cell? ⟨gc, j * 7 + 6, none⟩ = some (.slice u.A u.n u.c)
  fz : ∀ j, W.frozen? ⟨gc, j, none⟩ = false
  dat : ∀ u ∈ o, 0 < u.n → ∃ g, u.A = some ⟨g, 0, none⟩ ∧ g ≠ gc ∧ base ≤ g ∧ (∀ j, j < u.n → ∃ z, W.cell? ⟨g, j, none⟩ = some (.int .u8 z)) ∧ ∀ j, W.frozen? ⟨g, j, none⟩ = false
theorem mut_of {w W : World} {r : List Up} {v : Value} {o : List Up} (h : Picked w r v o W) (h0 : 0 < o.length) :
    ∃ gc c, v = .slice (some ⟨gc, 0, none⟩) o.length c ∧ w.heap.size ≤ gc ∧ Mut w.heap.size gc o W := by
  rcases h.own.2 with ⟨_, hn⟩ | ⟨gc, cap, cur, hv, hb, hg, _⟩
  · omega
  have hB : Blk W gc 34 cur := hg
  have hc := h.own.cells (g := gc) (by rw [hv]; rfl)
  have hat : ∀ (j : Nat) (u : Up), o[j]? = some u → ∀ i x, u.row[i]? = some x → W.cell? ⟨gc, j * 7 + i, none⟩ = some x := fun j u hj i x hx => by
    have := hc _ _ (flat_get Up.row 7 Up.row_len o j i u x hj hx)
    simpa [Go.WideShapes.add_plain] using this
  refine ⟨gc, cap, hv, hb, ⟨fun j u hj => ⟨u.seq, hat j u hj 0 _ rfl⟩, fun j u hj => hat j u hj 6 _ rfl, fun j => hB.frozen j, fun u hu hn => ?_⟩⟩
  have hd := (h.dat u hu).1
  rcases hd.2 with ⟨_, h1⟩ | ⟨g, cap2, cur2, hv2, hb2, hg2, _⟩
  · omega
  have hB2 : Blk W g 5 cur2 := hg2
  have hc2 := hd.cells (g := g) (by rw [hv2]; rfl)
  injection hv2 with hA
  refine ⟨g, hA, fun e => ?_, hb2, fun j hj => ?_, fun j => hB2.frozen j⟩
  · subst e; exact Blk.ne_ hB2 hB (by decide) rfl
  · have hl : u.bs.length = u.n := by have := hd.1; simpa using this
    have := hc2 j (.int .u8 (u.bs[j]'(by omega))) (by rw [List.getElem?_map, List.getElem?_eq_getElem (by omega)]; rfl)
    exact ⟨_, by simpa [Go.WideShapes.add_plain] using this⟩
theorem cell_set_int {W : World} {p q : Addr} {k : IntKind} {y z : Int} (h : W.cell? q = some (.int k y)) : ∃ x, (W.setCell p (.int k z)).cell? q = some (.int k x) := by
  by_cases e : q = p
  · subst e; exact ⟨z, World.cell?_setCell_same _ _ _ h⟩
  · exact ⟨y, by rw [World.cell?_setCell_other _ _ _ _ (fun x => e x.symm)]; exact h⟩
theorem ne_addr {g h i j : Nat} (e : g ≠ h) : (⟨g, i, none⟩ : Addr) ≠ ⟨h, j, none⟩ := fun x => e (by injection x)
theorem ne_off {g i j : Nat} (e : i ≠ j) : (⟨g, i, none⟩ : Addr) ≠ ⟨g, j, none⟩ := fun x => e (by injection x)
theorem Mut.data {base gc g j : Nat} {o : List Up} {W : World} (h : Mut base gc o W) (hg : g ≠ gc) (z : Int) : Mut base gc o (W.setCell ⟨g, j, none⟩ (.int .u8 z)) := by
  refine ⟨fun i u hi => ?_, fun i u hi => ?_, fun i => ?_, fun u hu hn => ?_⟩
  · obtain ⟨s, hs⟩ := h.row0 i u hi
    exact ⟨s, by rw [World.cell?_setCell_other _ _ _ _ (ne_addr hg)]; exact hs⟩
  · rw [World.cell?_setCell_other _ _ _ _ (ne_addr hg)]; exact h.row6 i u hi
  · rw [World.frozen?_setCell]; exact h.fz i
  · obtain ⟨g2, hA, h1, h2, h3, h4⟩ := h.dat u hu hn
    exact ⟨g2, hA, h1, h2, fun i hi => by obtain ⟨y, hy⟩ := h3 i hi; exact cell_set_int hy, fun i => by rw [World.frozen?_setCell]; exact h4 i⟩
theorem Mut.seq {base gc i : Nat} {o : List Up} {W : World} (h : Mut base gc o W) (z : Int) : Mut base gc o (W.setCell ⟨gc, i * 7, none⟩ (.int .u64 z)) := by
  refine ⟨fun j u hj => ?_, fun j u hj => ?_, fun j => ?_, fun u hu hn => ?_⟩
  · obtain ⟨s, hs⟩ := h.row0 j u hj
    exact cell_set_int hs
  · rw [World.cell?_setCell_other _ _ _ _ (ne_off (by omega))]; exact h.row6 j u hj
  · rw [World.frozen?_setCell]; exact h.fz j
  · obtain ⟨g2, hA, h1, h2, h3, h4⟩ := h.dat u hu hn
    exact ⟨g2, hA, h1, h2, fun j hj => by obtain ⟨y, hy⟩ := h3 j hj; exact ⟨y, by rw [World.cell?_setCell_other _ _ _ _ (ne_addr h1.symm)]; exact hy⟩, fun j => by rw [World.frozen?_setCell]; exact h4 j⟩
theorem Mut.drewN {base gc : Nat} {o : List Up} {W : World} (h : Mut base gc o W) (k : Nat) : Mut base gc o (W.drewN k) := ⟨h.row0, h.row6, h.fz, h.dat⟩
theorem Mut.drew {base gc : Nat} {o : List Up} {W : World} (h : Mut base gc o W) : Mut base gc o W.drew := ⟨h.row0, h.row6, h.fz, h.dat⟩

theorem ups_bound {W V : World} {B D n m N : Nat} {A C : Option Addr} {la lb : List Up} (h1 : UpsIn W B A n la) (h2 : UpsIn V D C m lb) (hv : la.map Up.val = lb.map Up.val) (hb : ∀ u ∈ lb, u.n ≤ N) : ∀ u ∈ la, u.n ≤ N := by
  intro u hu
  have hm : u.val ∈ lb.map Up.val := by rw [← hv]; exact List.mem_map.2 ⟨u, hu, rfl⟩
  obtain ⟨u', hu', he⟩ := List.mem_map.1 hm
  have hbs := (up_of_val he.symm)
  have h3 := (h1.mem u hu).len
  have h4 := (h2.mem u' hu').len
  have h5 : u'.bs = u.bs := by rw [hbs]
  have := hb u' hu'
  rw [← h3, ← h5, h4]
  exact this
theorem updateLists_law (A : Option Addr) (n c : Nat) (l : List Up) (a m : Int) (w : World) (hl : UpsIn w w.heap.size A n l) (hn : n ≤ c) (hc : c ≤ maxLen) (ha0 : 0 ≤ a) (ha1 : a ≤ 18446744073709551615) (hm : -9223372036854775808 ≤ m ∧ m ≤ 9223372036854775807) :
    Calls Try.prog 4 #[.slice A n c, .int .u64 a, .int .i64 m] w fun e w' => e = .returned (.bool true) ∧ Below w.heap.size w w' := by
  unfold maxLen at hc
  have HL := Lib.hid hl
  clear hl
  cases hf : farB n l
  case true =>
    go_enter Try.func4, Try.ntmps4
    go_wp2_with (fail)
    refine (far_any A n c _ l _ HL.out (by omega)).mono ?_
    rintro e w1 ⟨rfl, h⟩
    rw [hf]
    have H1 := Lib.hid h
    clear h
    go_wp2_with (fail)
    refine (awake_any _).mono ?_
    rintro e w2 ⟨rfl, h⟩
    have H2 := Lib.hid (H1.out.trans (h.mono H1.out.size))
    clear h
    go_wp2_with (fail)
    go_ret
    exact ⟨rfl, H2.out⟩
  obtain ⟨hn40, hd⟩ := farB_no hf
  have hdd : Hid (∀ u ∈ l, u.n ≤ 1000000) := Lib.hid (fun u hu => by have := hd u hu; omega)
  have hll : Hid (l.length = n) := Lib.hid HL.out.len
  clear hd
  go_enter Try.func4, Try.ntmps4
  go_wp2_with (fail)
  refine (far_any A n c _ l _ HL.out (by omega)).mono ?_
  rintro e w1 ⟨rfl, h⟩
  rw [hf]
  have H1 := Lib.hid h
  clear h hf
  go_wp2_with (fail)
  refine (copy_any A n c w.heap.size l _ (HL.out.below H1.out) H1.out.size (by omega) hdd.out).mono ?_
  rintro e w2 ⟨v, o, rfl, hp⟩
  have hol : o.length = n := by rw [hp.len, hll.out]
  obtain ⟨A2, c2, rfl, _, ho1, ho2⟩ := hp.ups
  have H2 := Lib.hid (H1.out.trans (hp.bel.mono H1.out.size))
  have HP2 := Lib.hid hp
  have hs2 := H2.out.size
  clear hp
  go_wp2_with (fail)
  refine (runs_any A n c w.heap.size l a _ (HL.out.below H2.out) (by omega) hs2).mono ?_
  rintro e w3 ⟨rfl, h⟩
  have H3 := Lib.hid (H2.out.trans (h.mono hs2))
  have HP3 := Lib.hid (HP2.out.later h)
  have hs3 := H3.out.size
  clear h H2 HP2 hs2
  go_wp2_with (fail)
  refine (refRuns_any A n c w.heap.size l a _ (HL.out.below H3.out) (by omega)).mono ?_
  rintro e w3' ⟨rfl, rfl⟩
  generalize runsB l a = rb
  have hrb : (rb != rb) = false := by cases rb <;> rfl
  -- Batch
  go_wp2_with (fail)
  refine (batch_any A n c w.heap.size l a m _ (HL.out.below H3.out) hs3 (by omega) hdd.out hm).mono ?_
  rintro e w4 ⟨v, o4, rfl, hp⟩
  obtain ⟨A4, c4, rfl, hu4, _, _⟩ := hp.ups
  have H4 := Lib.hid (H3.out.trans (hp.bel.mono hs3))
  have HP4 := Lib.hid (HP3.out.later hp.bel)
  have HU4 := Lib.hid hu4
  have hv4 := Lib.hid hp.val
  have hl4 := Lib.hid hp.len
  have hs4 := H4.out.size
  clear hp hu4 H3 HP3 hs3
  go_wp2_with (fail)
  refine (refBatch_any A n c w.heap.size l a m _ (HL.out.below H4.out) hs4 (by omega)).mono ?_
  rintro e w5 ⟨v, rfl, hr⟩
  have hsub := pickL_sub (batchStep a) m l
  have hpl := pickL_len (batchStep a) m l
  generalize pickL (batchStep a) m l = r4 at *
  obtain ⟨A5, c5, rfl, hr5, _, _⟩ := own_slice hr.own
  have H5 := Lib.hid (H4.out.trans (hr.bel.mono hs4))
  have HP5 := Lib.hid (HP4.out.later hr.bel)
  have HU5 := Lib.hid (HU4.out.below hr.bel)
  have hs5 := H5.out.size
  have hs45 := hr.bel.size
  have HR5 : Hid (UpsIn w5 w5.heap.size A5 r4.length r4) := Lib.hid ⟨hr5, fun u hu => ((HL.out.below H5.out).mem u (hsub u hu)).more hs5⟩
  have hd5 : Hid (∀ u ∈ r4, u.n ≤ 1000000) := Lib.hid (fun u hu => hdd.out u (hsub u hu))
  have hn5 : r4.length ≤ 1000000 := by have := hll.out; omega
  have hl4' := hl4.out
  clear hr hr5 H4 HP4 HU4 hs4 hsub hpl hl4
  go_wp2_with (fail)
  rw [hl4'] at HU5
  refine (sameUps_any A4 A5 r4.length c4 c5 w4.heap.size w5.heap.size o4 r4 _ HU5.out HR5.out hv4.out hs45 (Nat.le_refl _) hn5 (ups_bound HU5.out HR5.out hv4.out hd5.out)).mono ?_
  rintro e w6 ⟨rfl, h⟩
  have H6 := Lib.hid (H5.out.trans (h.mono hs5))
  have HP6 := Lib.hid (HP5.out.later h)
  have hs6 := H6.out.size
  clear h HU5 HR5 hv4 hd5 hl4' H5 HP5 hs5 hs45
  clear hn5
  -- Fits
  go_wp2_with (fail)
  refine (fits_any A n c w.heap.size l a _ (HL.out.below H6.out) hs6 (by omega) hdd.out).mono ?_
  rintro e w7 ⟨v, o7, rfl, hp⟩
  obtain ⟨A7, c7, rfl, hu7, _, _⟩ := hp.ups
  have H7 := Lib.hid (H6.out.trans (hp.bel.mono hs6))
  have HP7 := Lib.hid (HP6.out.later hp.bel)
  have HU7 := Lib.hid hu7
  have hv7 := Lib.hid hp.val
  have hl7 := Lib.hid hp.len
  have hs7 := H7.out.size
  clear hp hu7 H6 HP6 hs6
  go_wp2_with (fail)
  refine (refFits_any A n c w.heap.size l a _ (HL.out.below H7.out) hs7 (by omega)).mono ?_
  rintro e w8 ⟨v, rfl, hr⟩
  have hsub := pickL_sub fitStep a l
  have hpl := pickL_len fitStep a l
  generalize pickL fitStep a l = r7 at *
  obtain ⟨A8, c8, rfl, hr8, _, _⟩ := own_slice hr.own
  have H8 := Lib.hid (H7.out.trans (hr.bel.mono hs7))
  have HP8 := Lib.hid (HP7.out.later hr.bel)
  have HU8 := Lib.hid (HU7.out.below hr.bel)
  have hs8 := H8.out.size
  have hs78 := hr.bel.size
  have HR8 : Hid (UpsIn w8 w8.heap.size A8 r7.length r7) := Lib.hid ⟨hr8, fun u hu => ((HL.out.below H8.out).mem u (hsub u hu)).more hs8⟩
  have hd8 : Hid (∀ u ∈ r7, u.n ≤ 1000000) := Lib.hid (fun u hu => hdd.out u (hsub u hu))
  have hn8 : r7.length ≤ 1000000 := by have := hll.out; omega
  have hl7' := hl7.out
  clear hr hr8 H7 HP7 hs7 hsub hpl hl7
  go_wp2_with (fail)
  rw [hl7'] at HU8
  refine (sameUps_any A7 A8 r7.length c7 c8 w7.heap.size w8.heap.size o7 r7 _ HU8.out HR8.out hv7.out hs78 (Nat.le_refl _) hn8 (ups_bound HU8.out HR8.out hv7.out hd8.out)).mono ?_
  rintro e w9 ⟨rfl, h⟩
  have H9 := Lib.hid (H8.out.trans (h.mono hs8))
  have HP9 := Lib.hid (HP8.out.later h)
  have hs9 := H9.out.size
  clear h HU8 HR8 hv7 hd8 hl7' H8 HP8 hs8 hs78
  clear hn8
  -- the copy
  go_wp2_with (fail)
  have hups := HP9.out.ups
  obtain ⟨A2', c2', hve, hu2, _, _⟩ := hups
  injection hve with e1 e2 e3
  subst e1 e3
  clear e2
  rw [hol] at hu2 ho1
  refine (sameUps_any A2 A n c2 c w9.heap.size w.heap.size o l _ hu2 (HL.out.below H9.out) HP9.out.val (Nat.le_refl _) hs9 (by omega) (ups_bound hu2 (HL.out.below H9.out) HP9.out.val hdd.out)).mono ?_
  have HN := Lib.hid (ups_bound hu2 (HL.out.below H9.out) HP9.out.val hdd.out)
  rintro e w10 ⟨rfl, h⟩
  have H10 := Lib.hid (H9.out.trans (h.mono hs9))
  have HP10 := Lib.hid (HP9.out.later h)
  have hs10 := H10.out.size
  clear h hu2 H9 HP9 hs9
  have hsz1 := H1.out.size
  go_wp2_with (fail)
  -- written over
  have HM : Hid (0 < n → ∃ gc, A2 = some ⟨gc, 0, none⟩ ∧ w.heap.size ≤ gc ∧ Mut w.heap.size gc o w10) := Lib.hid (fun h0 => by
    obtain ⟨gc, cc, hv, hb, hM⟩ := mut_of HP10.out (by omega)
    rw [hol] at hv
    injection hv with hv
    exact ⟨gc, hv, Nat.le_trans hsz1 hb, ⟨hM.row0, hM.row6, hM.fz, fun u hu hn => by obtain ⟨g, a1, a2, a3, a4⟩ := hM.dat u hu hn; exact ⟨g, a1, a2, Nat.le_trans hsz1 a3, a4⟩⟩⟩)
  clear HP10 hsz1
  have hc2 : n ≤ c2 := ho1
  unfold maxLen at ho2
  go_loopw [8, 9] (fun ia _ wr => ∃ (i : Nat), i ≤ n ∧ ia = .int .i64 i ∧ Hid (0 < n → ∃ gc, A2 = some ⟨gc, 0, none⟩ ∧ w.heap.size ≤ gc ∧ Mut w.heap.size gc o wr) ∧ Hid (Below w.heap.size w wr)) (fun ia _ _ => n - (intOf ia).toNat)
  case atStart => exact ⟨0, by omega, rfl, HM, H10⟩
  case round =>
    clear HM H10 hs10
    obtain ⟨i, hi, rfl, HM, HB⟩ := hrel
    by_cases hlt : i < n
    · obtain ⟨gc, rfl, hgc, hM⟩ := HM.out (by omega)
      have hui : ∃ u, o[i]? = some u := ⟨_, List.getElem?_eq_getElem (by omega)⟩
      obtain ⟨u, hu⟩ := hui
      have HU := Lib.hid hu
      have HMM := Lib.hid hM
      have hlt' : (i : Int) < n := by omega
      have hun := HN.out u (List.mem_of_getElem? hu)
      clear hM hu HM
      go_wp2_with (fail)
      go_loopw [9] (fun ka wr => ∃ (k : Nat), k ≤ u.n ∧ ka = .int .i64 k ∧ Hid (Mut w.heap.size gc o wr) ∧ Hid (Below w.heap.size w wr)) (fun ka _ => u.n - (intOf ka).toNat)
      case atStart => exact ⟨0, by omega, rfl, HMM, HB⟩
      case round =>
        clear HMM HB
        obtain ⟨k, hk, rfl, HMM, HB⟩ := hrel
        have c6 := HMM.out.row6 i u HU.out
        by_cases hlk : k < u.n
        · obtain ⟨g, hA, hgg, hgb, hz, hfz⟩ := HMM.out.dat u (List.mem_of_getElem? HU.out) (by omega)
          rw [hA] at c6
          obtain ⟨z, hz⟩ := hz k hlk
          have hfz := hfz k
          have hlk' : (k : Int) < u.n := by omega
          go_wp2_with (fail)
          go_region
          all_goals
            go_wp2_with (fail)
            go_roundw
            case rel => first | exact ⟨k + 1, by omega, by go_num, Lib.hid ((HMM.out.data hgg _).drew), Lib.hid ((HB.out.setCell (p := ⟨g, k, none⟩) hgb _).drew)⟩ | ((repeat apply Exists.intro); exact ⟨⟨k + 1, by omega, by go_num, Lib.hid ((HMM.out.data hgg _).drew), Lib.hid ((HB.out.setCell (p := ⟨g, k, none⟩) hgb _).drew)⟩, rfl⟩)
            case measure => simp [intOf]; omega
        · obtain rfl : k = u.n := by omega
          obtain ⟨s, c0⟩ := HMM.out.row0 i u HU.out
          have f0 := HMM.out.fz (i * 7)
          go_wp2_with (fail)
          go_roundw
          case rel => first | exact ⟨i + 1, by omega, by go_num, Lib.hid (fun _ => ⟨gc, rfl, hgc, HMM.out.seq _⟩), Lib.hid (HB.out.setCell (p := ⟨gc, i * 7, none⟩) hgc _)⟩ | ((repeat apply Exists.intro); exact ⟨⟨i + 1, by omega, by go_num, Lib.hid (fun _ => ⟨gc, rfl, hgc, HMM.out.seq _⟩), Lib.hid (HB.out.setCell (p := ⟨gc, i * 7, none⟩) hgc _)⟩, rfl⟩)
          case measure => simp [intOf]; omega
    · obtain rfl : i = n := by omega
      have hs11 := HB.out.size
      go_wp2_with (fail)
      refine (copy_any A i c w.heap.size l _ (HL.out.below HB.out) hs11 (by omega) hdd.out).mono ?_
      rintro e w12 ⟨v, o12, rfl, hp⟩
      have hol2 : o12.length = i := by rw [hp.len, hll.out]
      obtain ⟨A12, c12, rfl, hu12, _, _⟩ := hp.ups
      have H12 := Lib.hid (HB.out.trans (hp.bel.mono hs11))
      have hv12 := Lib.hid hp.val
      have hs12 := H12.out.size
      have HU12 := Lib.hid hu12
      clear hp hu12
      go_wp2_with (fail)
      rw [hol2] at HU12
      refine (sameUps_any A12 A i c12 c w12.heap.size w.heap.size o12 l _ HU12.out (HL.out.below H12.out) hv12.out (Nat.le_refl _) hs12 (by omega) (ups_bound HU12.out (HL.out.below H12.out) hv12.out hdd.out)).mono ?_
      rintro e w13 ⟨rfl, h⟩
      have H13 := Lib.hid (H12.out.trans (h.mono hs12))
      clear h
      go_wp2_with (fail)
      refine (awake_any _).mono ?_
      rintro e w14 ⟨rfl, h⟩
      have H14 := Lib.hid (H13.out.trans (h.mono H13.out.size))
      clear h
      go_wp2_with (fail)
      go_ret
      exact ⟨rfl, H14.out⟩
end Go.Proofs.Ythmokochlpbokaa
