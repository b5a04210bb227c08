/- slices.Delete of one item; Take. -/
import Derived.Test.YtnnegldaekmgbaaGreatDoorZNbB
namespace Go.Proofs.YtnnegldaekmgbaaGreatDoor
open Go.RowKit
set_option linter.unusedSimpArgs false
set_option linter.unusedVariables false
set_option maxHeartbeats 8000000
set_option maxRecDepth 100000

theorem nb_set_splice (l : List Value) (o : Nat) (v : Value) (vs : List Value) (h : o + (vs.length + 1) ≤ l.length) :
    (l.set o v).take (o + 1) ++ vs ++ (l.set o v).drop (o + 1 + vs.length) = l.take o ++ (v :: vs) ++ l.drop (o + (vs.length + 1)) := by
  rw [List.set_eq_take_append_cons_drop, if_pos (by omega)]
  have h1 : (l.take o).length = o := by rw [List.length_take]; omega
  have e1 : (l.take o ++ v :: l.drop (o + 1)).take (o + 1) = l.take o ++ [v] := by
    rw [List.take_append, h1, show o + 1 - o = 1 from by omega, List.take_of_length_le (by omega)]; rfl
  have e2 : (l.take o ++ v :: l.drop (o + 1)).drop (o + 1 + vs.length) = l.drop (o + (vs.length + 1)) := by
    rw [List.drop_append, h1, List.drop_of_length_le (by omega), show o + 1 + vs.length - o = vs.length + 1 from by omega, List.drop_succ_cons, List.drop_drop, List.nil_append]
    congr 1; omega
  rw [e1, e2]; simp
theorem Blk.sets {g : Nat} {t : TypeId} : ∀ (vs : List Value) (o : Nat) (w : World) (l : List Value), Blk w g t ⟨l⟩ → o + vs.length ≤ l.length → Blk (w.setCells g o vs) g t ⟨l.take o ++ vs ++ l.drop (o + vs.length)⟩
  | [], o, w, l, h, _ => by simpa [World.setCells] using h
  | v :: vs, o, w, l, h, hl => by
    have h1 : Blk (w.setCell ⟨g, o, none⟩ v) g t ⟨l.set o v⟩ := by simpa using h.set_ o v
    have h2 := Blk.sets vs (o + 1) _ _ h1 (by rw [List.length_set]; simp at hl; omega)
    rw [nb_set_splice l o v vs (by simpa using hl)] at h2
    exact h2
theorem nb_run_clear_one {P : Program} (w : World) (t e ty : TypeId) (z : Value) (zs : List Value) (ht : P.underlying t = some (.slice e)) (hv : ∀ w, (zeroValue e).run P w = .ok z w) (hz : z.cells = ⟨zs⟩) (h1 : ∀ u ∈ zs, u.oneCell' = true) (b o c : Nat)
    (hc : ∀ j, j < zs.length → (w.cell? ⟨b, o + j, none⟩).isSome = true) (hf : ∀ j, j < zs.length → w.frozen? ⟨b, o + j, none⟩ = false) :
    (Builtin.clear_ #[t] ty #[.slice (some ⟨b, o, none⟩) 1 c]).run P w = .ok (.tuple #[]) (w.setCells b o zs) := by
  have hzc : (Builtin.zeroCells z.cells 1).toList = zs := by
    rw [hz]
    simp [Builtin.zeroCells]
    apply List.ext_getElem
    · simp
    · intro i h1 h2
      simp at h1 h2
      simp [Nat.mod_eq_of_lt h2, List.getElem?_eq_getElem h2]
  have hst := run_storeCells_cells (P := P) b o zs 0 w (by simpa using hc) (by simpa using hf) h1
  simp only [Nat.add_zero] at hst
  simp [Builtin.clear_, run_underlying ht, hv, hzc, hst]

theorem Chg.setCells (g : Nat) : ∀ (vs : List Value) (o : Nat) (w : World), Chg w (w.setCells g o vs) (fun k => k = g)
  | [], o, w => Chg.refl _ _
  | v :: vs, o, w => by
    have h1 : Chg w (w.setCell ⟨g, o, none⟩ v) (fun k => k = g) := ⟨rfl, rfl, rfl, by simp [World.setCell], fun k hk hn => Below.heap_setCell _ _ _ k hn⟩
    exact h1.trans (Chg.setCells g vs (o + 1) _) (fun _ _ h => h)
theorem nb_delete_any (base g cap : Nat) (l : List (Int × Sv)) (i : Nat) (w : World) (h : w.ownsRow base 232 2 (.slice (some ⟨g, 0, none⟩) l.length cap) l.length (l.flatMap nb_itc)) (hi : i < l.length) :
    Calls Tryz.prog 142 #[.slice (some ⟨g, 0, none⟩) l.length cap, .int .i64 i, .int .i64 (i + 1)] w fun e w' => e = .returned (.slice (some ⟨g, 0, none⟩) (l.length - 1) cap) ∧
      w'.ownsRow base 232 2 (.slice (some ⟨g, 0, none⟩) (l.length - 1) cap) (l.length - 1) ((l.eraseIdx i).flatMap nb_itc) ∧ Chg w w' (fun k => k = g) := by
  obtain ⟨i0, hi0, hz0, hz1, hz2⟩ := info_parts nb_itInfo
  rcases h.2 with ⟨_, hn⟩ | ⟨g', cap', cur, hv, hb, hg, hnc, hcm, hcs, htk⟩
  · omega
  injection hv with hv1 hv2 hv3
  injection hv1 with hv1
  injection hv1 with hv1
  subst hv1 hv3
  obtain ⟨m, hm⟩ : ∃ m, l.length = i + m + 1 := ⟨l.length - (i + 1), by omega⟩
  have hB : Blk w.drew g 232 ⟨cur.toList⟩ := hg
  have hCl : cur.toList.length = cap * 2 := by simpa using hcs
  generalize cur.toList = C at *
  have hfl : (l.flatMap nb_itc).length = (i + m + 1) * 2 := by rw [flat_length nb_itc 2 nb_itc_len, hm]
  obtain ⟨news, hnews⟩ : ∃ news, news = (l.drop (i + 1)).flatMap nb_itc := ⟨_, rfl⟩
  have hnl : news.length = m * 2 := by rw [hnews, flat_length nb_itc 2 nb_itc_len, List.length_drop]; omega
  have hget : ∀ t u, news[t]? = some u → C[(i + 1) * 2 + t]? = some u := by
    intro t u hu
    have ht : t < m * 2 := by rw [← hnl]; exact (List.getElem?_eq_some_iff.1 hu).1
    have h1 : (l.flatMap nb_itc)[(i + 1) * 2 + t]? = some u := by
      rw [← hu, hnews, ← flat_drop nb_itc 2 nb_itc_len, List.getElem?_drop]
    rw [← htk, hm, List.getElem?_take_of_lt (by omega)] at h1
    exact h1
  obtain ⟨A, hA, hsrc⟩ : ∃ A : Addr, (if cap = i + 1 then some (⟨g, 0, none⟩ : Addr) else some ⟨g, (i + 1) * 2, none⟩) = some A ∧ Hid (∀ t u, news[t]? = some u → w.drew.cell? (A.add t) = some u) := by
    by_cases hc : cap = i + 1
    · refine ⟨⟨g, 0, none⟩, by simp [hc], Lib.hid (fun t u hu => ?_)⟩
      have h0 : news.length = 0 := by rw [hnl]; omega
      rw [List.length_eq_zero_iff.1 h0] at hu
      simp at hu
    · refine ⟨⟨g, (i + 1) * 2, none⟩, by simp [hc], Lib.hid (fun t u hu => ?_)⟩
      rw [Go.WideShapes.add_plain, hB.cell]
      simpa using hget t u hu
  have s1 : Hid (news.length = m * 2) := Lib.hid hnl
  have s2 : Hid (∀ u ∈ news, u.oneCell' = true) := Lib.hid (by
    intro u hu
    rw [hnews, List.mem_flatMap] at hu
    obtain ⟨p, _, hp⟩ := hu
    exact nb_itc_one p u hp)
  have s3 : Hid (∀ t, t < news.length → (w.drew.cell? ⟨g, 0 + i * 2 + t, none⟩).isSome = true ∧ w.drew.frozen? ⟨g, 0 + i * 2 + t, none⟩ = false) := Lib.hid (by
    intro t ht
    refine ⟨?_, hB.frozen _⟩
    rw [hB.cell]
    have : i * 2 + t < C.length := by omega
    simp [this])
  obtain ⟨W1, hW1⟩ : ∃ W1, W1 = w.drew.setCells g (0 + i * 2) news := ⟨_, rfl⟩
  have hB1 : Blk W1 g 232 ⟨C.take (i * 2) ++ news ++ C.drop (i * 2 + news.length)⟩ := by
    rw [hW1, Nat.zero_add]; exact Blk.sets news (i * 2) _ C hB (by omega)
  obtain ⟨C1, hC1⟩ : ∃ C1, C1 = C.take (i * 2) ++ news ++ C.drop (i * 2 + news.length) := ⟨_, rfl⟩
  rw [← hC1] at hB1
  have hC1l : C1.length = cap * 2 := by rw [hC1]; simp; omega
  have hcl : ∀ ty, (Builtin.clear_ #[216] ty #[.slice (some ⟨g, (i + m) * 2, none⟩) 1 (cap - (i + m))]).run Tryz.prog W1 = .ok (.tuple #[]) (W1.setCells g ((i + m) * 2) [.int .i64 0, .slice none 0 0]) :=
    fun ty => nb_run_clear_one W1 _ _ ty _ [.int .i64 0, .slice none 0 0] Tryz.underlying216 Tryz.zeroValue232 rfl (by intro u hu; simp at hu; rcases hu with rfl | rfl <;> rfl) g ((i + m) * 2) _
      (fun j hj => by rw [hB1.cell]; simp at hj; have : (i + m) * 2 + j < C1.length := by omega
                      simp [this]) (fun j _ => hB1.frozen _)
  have hW : Hid (W1 = w.drew.setCells g (0 + i * 2) news) := Lib.hid hW1
  have hfin : Hid ((W1.setCells g ((i + m) * 2) [.int .i64 0, .slice none 0 0]).ownsRow base 232 2 (.slice (some ⟨g, 0, none⟩) (i + m) cap) (i + m) ((l.eraseIdx i).flatMap nb_itc) ∧ Chg w (W1.setCells g ((i + m) * 2) [.int .i64 0, .slice none 0 0]) (fun k => k = g)) := Lib.hid (by
    have hB2 := Blk.sets [.int .i64 0, .slice none 0 0] ((i + m) * 2) _ C1 hB1 (by simp; omega)
    refine ⟨⟨?_, .inr ⟨g, cap, _, rfl, hb, hB2, by omega, hcm, ?_, ?_⟩⟩, ?_⟩
    · rw [flat_length nb_itc 2 nb_itc_len, List.length_eraseIdx_of_lt hi, hm]; rfl
    · simp; omega
    · have e1 : (C.take (i * 2)).length = i * 2 := by rw [List.length_take]; omega
      have e2 : C1.take ((i + m) * 2) = C.take (i * 2) ++ news := by
        rw [hC1, List.take_append, List.take_of_length_le (by rw [List.length_append]; omega), List.length_append, e1, hnl, show (i + m) * 2 - (i * 2 + m * 2) = 0 from by omega, List.take_zero, List.append_nil]
      have e3 : C.take (i * 2) = (l.take i).flatMap nb_itc := by
        rw [← flat_take nb_itc 2 nb_itc_len, ← htk, List.take_take]; congr 1; omega
      show (C1.take ((i + m) * 2) ++ _ ++ _).take ((i + m) * 2) = _
      rw [List.append_assoc, List.take_append, e2, e3, hnews, List.eraseIdx_eq_take_drop_succ, List.flatMap_append, List.length_append, flat_length nb_itc 2 nb_itc_len, flat_length nb_itc 2 nb_itc_len, List.length_take, List.length_drop]
      rw [show (i + m) * 2 - (min i l.length * 2 + (l.length - (i + 1)) * 2) = 0 from by omega, List.take_zero, List.append_nil, List.take_of_length_le]
      rw [List.length_append, flat_length nb_itc 2 nb_itc_len, flat_length nb_itc 2 nb_itc_len, List.length_take, List.length_drop]; omega
    · rw [hW1]
      exact Chg.trans (b := w.drew) ⟨rfl, rfl, rfl, Nat.le_refl _, fun _ _ _ => rfl⟩ ((Chg.setCells g news _ _).trans (Chg.setCells g _ _ _) (fun _ _ h => h)) (fun _ _ h => h))
  have hic : i ≤ cap := by omega
  have hjc : i + 1 ≤ cap := by omega
  have hic2 : (0 : Int) ≤ (i : Int) + m + 1 := by omega
  have hic3 : (i : Int) + m + 1 ≤ cap := by omega
  have hic4 : (0 : Int) ≤ (i : Int) + 1 := by omega
  have hic5 : (i : Int) ≤ (i : Int) + m := by omega
  have hcm2 : cap ≤ 9223372036854775807 := hcm
  rw [show l.length - 1 = i + m from by omega]
  rw [hm]
  clear hW1 hB1 hB hget hnl hfl htk hg hcs hC1 hC1l hv2 hm h hi hnews
  go_enter Tryz.func142, Tryz.ntmps142
  go_wp2_with (fail)
  go_region_law (refine step_append_room rfl (.tmp 22) (.tmp 25) 216 rfl 232 i0 2 Tryz.underlying216 hi0 hz1 g 0 i cap (by simp [Act.eval, Act.put]) A m (cap - (i + 1)) news (by simp [Act.eval, Act.put]) s1.out hsrc.out s2.out (by omega) s3.out ?_; rw [← hW.out])
  go_wp2_with (fail)
  go_ret
  exact ⟨rfl, hfin.out⟩

def NBg.take (s : NBg) (i : Int) : NBg := if s.has i then ⟨s.most, s.last, s.l.eraseIdx i.toNat⟩ else s
theorem nb_take_any (g : Nat) (v : Value) (s : NBg) (i : Int) (w : World) (h : NBagAt w g v s) :
    Calls Tryz.prog 82 #[.pointer (some ⟨g, 0, none⟩), .int .i64 i] w fun e w' => e = .returned (.tuple #[.slice (s.at_ i).1.A (s.at_ i).1.n (s.at_ i).1.c, .bool (s.at_ i).2]) ∧ ∃ v', NBagAt w' g v' (s.take i) ∧ NBStep w w' g v v' := by
  have HF := fun w => nb_at_any g v s i w
  have H := Lib.hid h
  cases hh : s.has i
  · have hv : Hid (s.at_ i = (Sv.nil, false)) := Lib.hid (by rw [NBg.at_, hh]; rfl)
    have hv2 : Hid (s.take i = s) := Lib.hid (by rw [NBg.take, hh]; rfl)
    rw [hv.out, hv2.out]
    simp only [hv.out] at HF
    clear h
    go_enter Tryz.func82, Tryz.ntmps82
    go_wp2_with (first | (go_at_call 79; refine (HF _ H.out).mono ?_; rintro e w' ⟨rfl, rfl⟩) | fail)
    go_ret2
    exact ⟨rfl, _, H.out, NBStep.refl _ _ _⟩
  · obtain ⟨h0, h1⟩ := (NBg.has_iff s i).1 hh
    obtain ⟨k, rfl⟩ := Int.eq_ofNat_of_zero_le h0
    have hk : k < s.l.length := by omega
    have hv : Hid ((s.at_ k).2 = true) := Lib.hid (by rw [NBg.at_, if_pos hh])
    generalize hq : s.at_ (k : Int) = q at *
    obtain ⟨x, ok⟩ := q
    obtain rfl : ok = true := hv.out
    have hv2 : Hid (s.take k = ⟨s.most, s.last, s.l.eraseIdx k⟩) := Lib.hid (by rw [NBg.take, if_pos hh, Int.toNat_natCast])
    rw [hv2.out]
    have hml : s.l.length ≤ 9223372036854775807 := by obtain ⟨_, _, _, _, a1, a2⟩ := h.form; unfold maxLen at a2; omega
    obtain ⟨gl, cap, rfl, hgl, hgs⟩ := h.2.form (by omega)
    obtain ⟨c0, c1, c2⟩ := nb_bag_cells h
    have hne : g ≠ gl := by omega
    have HD := Lib.hid (nb_delete_any (g + 1) gl cap s.l k w h.2 hk)
    have f2 := h.1.frozen 2
    have hlt := h.1.lt
    have hw : IntKind.i64.wrap ((k : Int) + 1) = (k : Int) + 1 := by rw [IntKind.wrap_i64]; omega
    have hfin : Hid (∀ w2, w2.ownsRow (g + 1) 232 2 (.slice (some ⟨gl, 0, none⟩) (s.l.length - 1) cap) (s.l.length - 1) ((s.l.eraseIdx k).flatMap nb_itc) → Chg w w2 (fun j => j = gl) →
        NBagAt (w2.setCell ⟨g, 2, none⟩ (.slice (some ⟨gl, 0, none⟩) (s.l.length - 1) cap)) g (.slice (some ⟨gl, 0, none⟩) (s.l.length - 1) cap) ⟨s.most, s.last, s.l.eraseIdx k⟩ ∧
          NBStep w (w2.setCell ⟨g, 2, none⟩ (.slice (some ⟨gl, 0, none⟩) (s.l.length - 1) cap)) g (.slice (some ⟨gl, 0, none⟩) s.l.length cap) (.slice (some ⟨gl, 0, none⟩) (s.l.length - 1) cap)) := Lib.hid (fun w2 ho hc => by
      refine ⟨⟨(hc.blk H.out.1 hne).set_ 2 _, ?_⟩, ⟨⟨hc.os, hc.tape, hc.output, by simpa [World.setCell] using hc.size, fun j hj hn => ?_⟩, fun j hj => .inl hj⟩⟩
      · have := own_block_same (w' := w2.setCell ⟨g, 2, none⟩ (.slice (some ⟨gl, 0, none⟩) (s.l.length - 1) cap)) ho (fun j hj => Below.heap_setCell _ _ _ j (by have := (ho.lt j hj).1; simp; omega))
        rw [show s.l.length - 1 = (s.l.eraseIdx k).length from by rw [List.length_eraseIdx_of_lt hk]] at this ⊢
        exact this
      · rw [Below.heap_setCell _ _ _ j (fun e => hn (.inl e))]
        exact hc.block j hj (fun e => hn (.inr (by rw [e]; rfl))))
    clear h hh hgl hv hq
    go_enter Tryz.func82, Tryz.ntmps82
    go_wp2_with (first | (go_at_call 79; refine (HF _ H.out).mono ?_; rintro e w' ⟨rfl, rfl⟩) | fail)
    refine HD.out.mono ?_
    rintro e w2 ⟨rfl, ho, hc⟩
    obtain ⟨hA, hS⟩ := hfin.out w2 ho hc
    have d2 := (hc.cell (p := ⟨g, 2, none⟩) hlt hne).trans c2
    have e2 := (World.frozen?_of_block (hc.block g hlt hne)).trans f2
    clear ho hc c0 c1 c2 f2
    go_wp2_with (fail)
    go_ret2
    exact ⟨rfl, _, hA, hS⟩
end Go.Proofs.YtnnegldaekmgbaaGreatDoor
