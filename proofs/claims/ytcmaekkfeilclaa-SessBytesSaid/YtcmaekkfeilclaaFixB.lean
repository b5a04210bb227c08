/- Package fix: what is put (Out), as data, and in memory; contracts of New, fail, put, Raw, Put, Bool. -/
import Derived.Test.YtcmaekkfeilclaaFixA
import Derived.Test.YtcmaekkfeilclaaMemC
namespace Go.Proofs.Ytcmaekkfeilclaa
open Go.RowKit
set_option linter.unusedSimpArgs false
set_option linter.unusedVariables false
set_option maxRecDepth 100000
set_option maxHeartbeats 1000000

/-- bytes that are put, how many there may be, and the first error -/
structure FO where
  l : List Int
  m : Int
  e : Int
def FO.fail (s : FO) (x : Int) : FO := if s.e = 0 then { s with e := x } else s
def FO.put (s : FO) (b : List Int) : FO := if s.e = 0 then (if s.m - s.l.length < b.length then { s with e := 6 } else { s with l := s.l ++ b }) else s
def FO.num (s : FO) (n : Nat) (w : Int) : FO := if knownB w then (if fitsB n w.toNat then s.put (big n w.toNat) else s.fail 4) else s.fail 1
def FO.text (s : FO) (b : List Int) : FO := if 65535 < b.length then s.fail 4 else s.put (big b.length 2 ++ b)
def FO.bool (s : FO) (x : Bool) : FO := if x then s.num 1 1 else s.num 0 1

def OutAt (w : World) (g : Nat) (v : Value) (s : FO) : Prop :=
  Blk w g 73 #[v, .int .i64 s.m, .int .i64 s.e] ∧ w.ownsRow (g + 1) 5 1 v s.l.length (s.l.map (Value.int .u8)) ∧ (0 ≤ s.m ∧ s.m ≤ 9223372036854775807)
/-- what an operation of Out changes -/
def OutStep (w w' : World) (g : Nat) (v v' : Value) : Prop :=
  (v'.ownBlock = v.ownBlock ∨ ∀ k, v'.ownBlock = some k → w.heap.size ≤ k) ∧ Chg w w' (fun k => k = g ∨ v.ownBlock = some k)
theorem OutStep.refl (w : World) (g : Nat) (v : Value) : OutStep w w g v v := ⟨.inl rfl, Chg.refl _ _⟩
theorem OutStep.trans {a b c : World} {g : Nat} {u v x : Value} (h : OutStep a b g u v) (k : OutStep b c g v x) : OutStep a c g u x := by
  refine ⟨?_, h.2.trans k.2 ?_⟩
  · rcases k.1 with e | e
    · rw [e]; exact h.1
    · exact .inr fun i hi => Nat.le_trans h.2.size (e i hi)
  · intro i hi hx
    rcases hx with hx | hx
    · exact .inl hx
    · rcases h.1 with e | e
      · rw [e] at hx; exact .inr hx
      · exact absurd (e i hx) (by omega)
theorem OutStep.pre {a b c : World} {g : Nat} {u v : Value} (h : Below a.heap.size a b) (k : OutStep b c g u v) : OutStep a c g u v :=
  ⟨k.1.imp id (fun e i hi => Nat.le_trans h.size (e i hi)), (Chg.of_below h _).trans k.2 (fun _ _ x => x)⟩
theorem OutAt.chg {w w' : World} {g : Nat} {v : Value} {s : FO} {S : Nat → Prop} (h : OutAt w g v s) (hc : Chg w w' S) (hg : ¬ S g) (hv : ∀ k, v.ownBlock = some k → ¬ S k) : OutAt w' g v s :=
  ⟨hc.blk h.1 hg, hc.own h.2.1 hv, h.2.2⟩
theorem OutAt.below {w w' : World} {g : Nat} {v : Value} {s : FO} (h : OutAt w g v s) (hb : Below w.heap.size w w') : OutAt w' g v s :=
  ⟨h.1.below hb h.1.lt, own_block_same h.2.1 (fun k hk => hb.block k (h.2.1.lt k hk).2), h.2.2⟩

def atLeast0 (m : Int) : Int := if 0 ≤ m then m else 0
theorem new_any (m : Int) (hm : m ≤ 9223372036854775807) (w : World) :
    Calls Try.prog 20 #[.int .i64 m] w fun e w' => e = .returned (.pointer (some ⟨w.heap.size, 0, none⟩)) ∧ OutAt w' w.heap.size (.slice none 0 0) ⟨[], atLeast0 m, 0⟩ ∧ Below w.heap.size w w' := by
  by_cases h : 0 ≤ m
  · rw [atLeast0, if_pos h]
    go_enter Try.func20, Try.ntmps20
    go_wp2
    go_ret
    exact ⟨rfl, ⟨Blk.new _ _ _, World.ownsRow_nil _ _ _ _, by simp; omega⟩, (Below.refl _ _).alloc (Nat.le_refl _) _⟩
  · rw [atLeast0, if_neg h]
    go_enter Try.func20, Try.ntmps20
    go_wp2
    go_ret
    exact ⟨rfl, ⟨Blk.new _ _ _, World.ownsRow_nil _ _ _ _, by simp⟩, (Below.refl _ _).alloc (Nat.le_refl _) _⟩

theorem fail_any (g : Nat) (v : Value) (s : FO) (x : Int) (w : World) (h : OutAt w g v s) :
    Calls Try.prog 42 #[.pointer (some ⟨g, 0, none⟩), .int .i64 x] w fun e w' => e = .returned (.tuple #[]) ∧ OutAt w' g v (s.fail x) ∧ OutStep w w' g v v := by
  have H := Lib.hid h
  have c2 := h.1.cell 2
  have f2 := h.1.frozen 2
  simp only [List.getElem?_toArray, List.getElem?_cons_succ, List.getElem?_cons_zero] at c2
  by_cases he : s.e = 0
  · have hF : Hid (s.fail x = { s with e := x }) := Lib.hid (by rw [FO.fail, if_pos he])
    rw [hF.out]
    have he' : (s.e == 0) = true := by simp [he]
    clear h he
    go_enter Try.func42, Try.ntmps42
    go_wp2
    go_end0
    refine ⟨rfl, ⟨(H.out.1.set_ 2 (.int .i64 x)), own_block_same H.out.2.1 (fun k hk => Below.heap_setCell _ _ _ _ (by have := (H.out.2.1.lt k hk).1; show k ≠ g; omega)), H.out.2.2⟩, .inl rfl, ?_⟩
    exact (Chg.of_grown (only_setCell (World.grownBy.refl w (some g)) (p := ⟨g, 2, none⟩) (.inl rfl) (.int .i64 x))).mono (fun i _ hi => .inl (by injection hi))
  · have hF : Hid (s.fail x = s) := Lib.hid (by rw [FO.fail, if_neg he])
    rw [hF.out]
    have he' : (s.e == 0) = false := by simp [he]
    clear h he
    go_enter Try.func42, Try.ntmps42
    go_wp2
    go_end0
    exact ⟨rfl, H.out, OutStep.refl _ _ _⟩

theorem chg_append {w W w1 : World} {row : Option Nat} (hb : Below w.heap.size w W) (hg : W.grownBy w1 row) (g o : Nat) (u : Value) : Chg w (w1.setCell ⟨g, o, none⟩ u) (fun k => k = g ∨ row = some k) where
  os := hg.os.trans hb.os
  tape := hg.tape.trans hb.tape
  output := hg.output.trans hb.output
  size := by have := hg.size; have := hb.size; simp [World.setCell]; omega
  block := fun k hk hn => (Below.heap_setCell w1 ⟨g, o, none⟩ u k (fun e => hn (.inl e))).trans ((hg.block k (Nat.lt_of_lt_of_le hk hb.size) (fun e => hn (.inr e.symm))).trans (hb.block k hk))
theorem u8_one (l : List Int) : ∀ u ∈ l.map (Value.int .u8), u.oneCell' = true := by
  intro u hu; obtain ⟨z, _, rfl⟩ := List.mem_map.1 hu; rfl

theorem put_any (g : Nat) (v : Value) (s : FO) (A : Option Addr) (n c B : Nat) (b : List Int) (w : World) (h : OutAt w g v s) (hB : B ≤ w.heap.size) (hr : Reads w B 1 A n (b.map (Value.int .u8))) (hn : n = b.length)
    (hl : s.l.length + n ≤ 1000000000) :
    Calls Try.prog 44 #[.pointer (some ⟨g, 0, none⟩), .slice A n c] w fun e w' => e = .returned (.tuple #[]) ∧ ∃ v', OutAt w' g v' (s.put b) ∧ OutStep w w' g v v' := by
  obtain ⟨i0, hi, hz0, hz1, hz2⟩ := info_parts byteInfo
  have H := Lib.hid h
  have HR := Lib.hid hr
  have HN := Lib.hid hn
  clear hn
  obtain ⟨A0, c0, rfl, _, _, _⟩ := own_slice h.2.1
  have k0 := h.1.cell 0
  have k1 := h.1.cell 1
  have k2 := h.1.cell 2
  have f0 := h.1.frozen 0
  have hm := h.2.2
  have hlt := h.1.lt
  simp only [List.getElem?_toArray, List.getElem?_cons_succ, List.getElem?_cons_zero] at k0 k1 k2
  clear h hr
  by_cases he : s.e = 0
  · have he' : (s.e != 0) = false := by simp [he]
    by_cases hlong : s.m - s.l.length < n
    · have hP : Hid (s.put b = s.fail 6) := Lib.hid (by rw [FO.put, if_pos he, if_pos (by rw [← HN.out]; exact hlong), FO.fail, if_pos he])
      rw [hP.out]
      clear he
      go_enter Try.func44, Try.ntmps44
      go_wp2_with (fail)
      go_quiet (fail)
      go_wp2_with (fail)
      refine (fail_any g _ s 6 _ (H.out.below (by exact below_drewN (Below.refl _ _) _))).mono ?_
      rintro e w1 ⟨rfl, h1, h2⟩
      have H1 := Lib.hid h1
      have H2 := Lib.hid h2
      clear h1 h2
      go_wp2
      go_end0
      exact ⟨rfl, _, H1.out, OutStep.pre (below_drewN (Below.refl _ _) _) H2.out⟩
    · have hP : Hid (s.put b = { s with l := s.l ++ b }) := Lib.hid (by rw [FO.put, if_pos he, if_neg (by rw [← HN.out]; exact hlong)])
      rw [hP.out]
      clear he
      go_enter Try.func44, Try.ntmps44
      go_wp2_with (fail)
      go_quiet (fail)
      go_wp2_with (at_builtin; go_must (refine wpList_append_any _ rfl (.tmp 8) (.tmp 9) _ rfl (g + 1) 5 i0 _ 1 1 Try.underlying51 hi hz0 hz1 hz2 rfl (by omega) _ _ _ rfl (own_drewN H.out.2.1 _) B A n c (b.map (Value.int .u8)) rfl (Reads.drewN HR.out _) ?c1 ?c2 ?c3 ?c4 ?_))
      case c1 => exact u8_one b
      case c2 => unfold maxLen; omega
      case c3 => omega
      case c4 => simp; omega
      intro v1 w1 hown hg hat
      have hgne : some g ≠ Value.ownBlock (.slice A0 s.l.length c0) := fun e => by
        have := (H.out.2.1.lt g e.symm).1; omega
      have hblk := ((H.out.1.drewN nq).grown hg hgne)
      have q0 := hblk.cell 0
      have z0 := hblk.frozen 0
      simp only [List.getElem?_toArray, List.getElem?_cons_zero] at q0
      rw [← List.map_append] at hown
      obtain ⟨A1, c1, rfl, _, _, _⟩ := own_slice hown
      have HO := Lib.hid hown
      have HG := Lib.hid hg
      have HA := Lib.hid hat
      have HK := Lib.hid hblk
      clear hown hg hat hblk k0 k1 k2 f0
      go_wp2
      go_end0
      refine ⟨rfl, _, ⟨HK.out.set_ 0 _, ?_, hm⟩, ?_, ?_⟩
      · have ho := own_block_same (w' := w1.setCell ⟨g, 0, none⟩ (.slice A1 (s.l.length + n) c1)) HO.out (fun k hk => Below.heap_setCell _ _ _ _ (by have := (HO.out.lt k hk).1; show k ≠ g; omega))
        show World.ownsRow _ _ _ _ _ (s.l ++ b).length _
        rw [List.length_append, ← HN.out]
        exact ho
      · rcases HA.out with e | e
        · exact .inl e
        · refine .inr fun k hk => ?_
          rw [e] at hk
          injection hk with hk
          have : (w.drewN nq).heap.size = w.heap.size := rfl
          omega
      · exact chg_append (below_drewN (Below.refl _ _) nq) HG.out g 0 _
  · have hP : Hid (s.put b = s) := Lib.hid (by rw [FO.put, if_neg he])
    rw [hP.out]
    have he' : (s.e != 0) = true := by simp [he]
    clear he
    go_enter Try.func44, Try.ntmps44
    go_wp2
    go_end0
    exact ⟨rfl, _, H.out, OutStep.refl _ _ _⟩

theorem putNum_any (g : Nat) (v : Value) (s : FO) (n : Nat) (k : Int) (w : World) (hn : n < 18446744073709551616) (h : OutAt w g v s) (hl : s.l.length ≤ 999999000) :
    Calls Try.prog 33 #[.pointer (some ⟨g, 0, none⟩), .int .u64 n, .int .i64 k] w fun e w' => e = .returned (.tuple #[]) ∧ ∃ v', OutAt w' g v' (s.num n k) ∧ OutStep w w' g v v' := by
  have H := Lib.hid h
  clear h
  by_cases hk : 1 ≤ k ∧ k ≤ 8
  · have hK := (knownB_iff k).2 hk
    obtain ⟨j, rfl⟩ := Int.eq_ofNat_of_zero_le (show 0 ≤ k by omega)
    cases hf : fitsB n j
    · have hP : Hid (s.num n j = s.fail 4) := Lib.hid (by rw [FO.num, hK, if_pos rfl, Int.toNat_natCast, hf]; rfl)
      rw [hP.out]
      go_enter Try.func33, Try.ntmps33
      go_wp2_with (first | (go_at_call 41; refine (known_any _ _).mono ?_; rintro e w' ⟨rfl, rfl⟩) | (go_at_call 43; refine (fits_any n j hn (by omega) (by omega) _).mono ?_; rintro e w' ⟨rfl, rfl⟩) | fail)
      refine (fail_any g v s 4 _ H.out).mono ?_
      rintro e w1 ⟨rfl, h1⟩
      have H1 := Lib.hid h1
      clear h1
      go_wp2
      go_end0
      exact ⟨rfl, _, H1.out⟩
    · have hP : Hid (s.num n j = s.put (big n j)) := Lib.hid (by rw [FO.num, hK, if_pos rfl, Int.toNat_natCast, hf]; rfl)
      rw [hP.out]
      go_enter Try.func33, Try.ntmps33
      go_wp2_with (first | (go_at_call 41; refine (known_any _ _).mono ?_; rintro e w' ⟨rfl, rfl⟩) | (go_at_call 43; refine (fits_any n j hn (by omega) (by omega) _).mono ?_; rintro e w' ⟨rfl, rfl⟩) | fail)
      refine (laid_any n j hn (by omega) _).mono ?_
      rintro e w1 ⟨u, rfl, hu, hb⟩
      obtain ⟨A, c, rfl, hr, _, _⟩ := own_slice hu
      have HR := Lib.hid hr
      have HB := Lib.hid hb
      clear hu hr hb
      go_wp2_with (fail)
      refine (put_any g v s A j c w1.heap.size (big n j) _ (H.out.below HB.out) (Nat.le_refl _) HR.out (by simp [big]) (by omega)).mono ?_
      rintro e w2 ⟨rfl, v2, h1, h2⟩
      have H1 := Lib.hid h1
      have H2 := Lib.hid (OutStep.pre HB.out h2)
      clear h1 h2
      go_wp2
      go_end0
      exact ⟨rfl, _, H1.out, H2.out⟩
  · have hK := knownB_no k hk
    have hP : Hid (s.num n k = s.fail 1) := Lib.hid (by rw [FO.num, hK]; rfl)
    rw [hP.out]
    clear hk
    go_enter Try.func33, Try.ntmps33
    go_wp2_with (first | (go_at_call 41; refine (known_any _ _).mono ?_; rintro e w' ⟨rfl, rfl⟩) | fail)
    refine (fail_any g v s 1 _ H.out).mono ?_
    rintro e w1 ⟨rfl, h1⟩
    have H1 := Lib.hid h1
    clear h1
    go_wp2
    go_end0
    exact ⟨rfl, _, H1.out⟩

end Go.Proofs.Ytcmaekkfeilclaa
