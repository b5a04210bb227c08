/- Put of a table: the contract. -/
import Derived.Test.YtcmaekkfeilclaaSesH
namespace Go.Proofs.Ytcmaekkfeilclaa
open Go.RowKit
set_option linter.unusedSimpArgs false
set_option linter.unusedVariables false
set_option maxHeartbeats 2000000
set_option maxRecDepth 100000
attribute [local go_sem] Rw.agg Rw.cells

theorem putNum_ok (g : Nat) (v : Value) (l : List Int) (m z : Int) (n k : Nat) (hz : z = n) (w : World) (hk : 1 ≤ k) (hk8 : k ≤ 8) (hn : n < 256 ^ k) (h : OutAt w g v ⟨l, m, 0⟩) (hm : (l.length : Int) + k ≤ m) (hl : l.length ≤ 999999000) :
    Calls Try.prog 33 #[.pointer (some ⟨g, 0, none⟩), .int .u64 z, .int .i64 k] w fun e w' => e = .returned (.tuple #[]) ∧ ∃ v', OutAt w' g v' ⟨l ++ big n k, m, 0⟩ ∧ OutStep w w' g v v' := by
  subst hz
  have hp : 256 ^ k ≤ 256 ^ 8 := Nat.pow_le_pow_right (by decide) hk8
  refine (putNum_any g v ⟨l, m, 0⟩ n k w (Nat.lt_of_lt_of_le hn hp) h hl).mono ?_
  rintro e w' ⟨he, v', h1, h2⟩
  refine ⟨he, v', ?_, h2⟩
  have : (⟨l, m, 0⟩ : FO).num n k = ⟨l ++ big n k, m, 0⟩ := by
    rw [FO.num, (knownB_iff (k : Int)).2 (by omega), if_pos rfl, Int.toNat_natCast, fitsB, decide_eq_true hn, if_pos rfl, FO.put, if_pos rfl, if_neg]
    rw [big_len]
    simp only
    omega
  rwa [this] at h1
/-- a value's own block is none of a range -/
def Off (lo hi : Nat) (v : Value) : Prop := ∀ k, v.ownBlock = some k → k < lo ∨ hi ≤ k
theorem OutStep.off {W W' : World} {g lo hi : Nat} {v v' : Value} (h : OutStep W W' g v v') (hd : Off lo hi v) (hh : hi ≤ W.heap.size) : Off lo hi v' := by
  intro k hk
  rcases h.1 with e | e
  · rw [e] at hk; exact hd k hk
  · exact .inr (Nat.le_trans hh (e k hk))
theorem OutStep.blk {W W' : World} {g b : Nat} {v v' : Value} {t : TypeId} {cs : Array Value} (h : OutStep W W' g v v') (hb : Blk W b t cs) (hg : g < b) (hd : Off b (b + 1) v) : Blk W' b t cs :=
  h.2.blk hb (by rintro (e | e); · omega
                 · have := hd b e; omega)
theorem OutStep.own {W W' : World} {g base hi n sz : Nat} {v v' rv : Value} {t : TypeId} {xs : List Value} (h : OutStep W W' g v v') (ho : W.ownsRow base t sz rv n xs) (hlt : ∀ k, rv.ownBlock = some k → k < hi) (hg : g < base) (hd : Off base hi v) : W'.ownsRow base t sz rv n xs :=
  h.2.own ho (fun k hk e => by
    have h1 := (ho.lt k hk).1
    have h2 := hlt k hk
    rcases e with e | e
    · omega
    · have := hd k e; omega)
theorem OutAt.off {w : World} {g : Nat} {v : Value} {s : FO} (h : OutAt w g v s) (hi : Nat) : Off w.heap.size hi v := fun k hk => .inl (h.2.1.lt k hk).2
theorem own_reads {w : World} {base sz n c : Nat} {t : TypeId} {A : Option Addr} {xs : List Value} (h : w.ownsRow base t sz (.slice A n c) n xs) : Reads w w.heap.size sz A n xs := by
  obtain ⟨A', c', e, hr, _, _⟩ := own_slice h
  cases e
  exact hr
theorem u64_keep {z : Int} (h : 0 ≤ z ∧ z < 18446744073709551616) : IntKind.u64.wrap z = z := by rw [IntKind.wrap_u64]; omega


theorem putT_any (t g : Nat) (R : Nat → Rw) (v0 : Value) (l : List Int) (m : Int) (w : World) (ht : Tab w t R) (htg : t < g) (ho : OutAt w g v0 ⟨l, m, 0⟩) (hm : (l.length : Int) + 157 ≤ m) (hm2 : m ≤ 999999000) (hsm : ∀ x ∈ seg R 0 6, x.small) :
    Calls Try.prog 21 #[.pointer (some ⟨t, 0, none⟩), .pointer (some ⟨g, 0, none⟩)] w fun e w' => e = .returned (.tuple #[]) ∧ ∃ v', OutAt w' g v' ⟨l ++ rowsB (seg R 0 6), m, 0⟩ ∧ OutStep w w' g v0 v' := by
  have hn6 : (seg R 0 6).length ≤ 6 := by have := seg_len R 0 6; omega
  have hgl := ho.1.lt
  have LN := Lib.hid (len_any t R w ht)
  have HT := Lib.hid ht
  have HO0 := Lib.hid ho
  have HSM := Lib.hid hsm
  have e1 : IntKind.u64.wrap ((seg R 0 6).length : Int) = ((seg R 0 6).length : Int) := u64_keep (by omega)
  clear ht ho hsm
  go_enter Try.func21, Try.ntmps21
  go_wp2_with (fail)
  refine LN.out.mono ?_
  rintro e w1 ⟨rfl, hb1⟩
  have HB1 := Lib.hid hb1
  have hs1 := hb1.size
  clear hb1 LN
  go_wp2_with (fail)
  refine (putNum_ok g v0 l m _ (seg R 0 6).length 1 rfl w1 (by omega) (by omega) (by omega) (HO0.out.below HB1.out) (by omega) (by omega)).mono ?_
  rintro e w2 ⟨rfl, v2, ho2, hs2⟩
  have HO2 := Lib.hid ho2
  have HS2 := Lib.hid (OutStep.pre HB1.out hs2)
  have hsz2 := hs2.2.size
  have HT2 : Hid (Tab w2 t R) := Lib.hid (by
    obtain ⟨cs, hb, h2⟩ := HT.out.below HB1.out HT.out.lt
    refine ⟨cs, hs2.2.blk hb ?_, h2⟩
    rintro (e | e)
    · omega
    · have := (HO0.out.2.1.lt t e).1; omega)
  clear ho2 hs2
  have AL := Lib.hid (all_any t R w2 HT2.out)
  go_wp2_with (fail)
  refine AL.out.mono ?_
  rintro e w3 ⟨rv, rfl, hrel⟩
  have hoff2 : Off w2.heap.size w3.heap.size v2 := HO2.out.off _
  obtain ⟨A, c, rfl, _, _, _⟩ := own_slice hrel.own
  have HR := Lib.hid hrel.own
  have HRL : Hid (∀ k, (Value.slice A (seg R 0 6).length c).ownBlock = some k → k < w3.heap.size) := Lib.hid (fun k hk => (hrel.own.lt k hk).2)
  have HO3 := Lib.hid (HO2.out.below hrel.2.1)
  have hsz3 := hrel.2.2
  have HS3 : Hid (OutStep w w3 g v0 v2) := Lib.hid (HS2.out.trans ⟨.inl rfl, Chg.of_below hrel.2.1 _⟩)
  have HOFF := Lib.hid hoff2
  clear hoff2 hrel AL HS2 HO2 HT HO0 HT2
  go_wp2_with (fail)
  go_loopw [16] (fun i wr => ∃ (k : Nat) (v : Value), k ≤ (seg R 0 6).length ∧ i = .int .i64 k ∧ Hid (OutAt wr g v ⟨l ++ big (seg R 0 6).length 1 ++ ((seg R 0 6).take k).flatMap rowB, m, 0⟩) ∧ Hid (wr.ownsRow w2.heap.size 28 5 (.slice A (seg R 0 6).length c) (seg R 0 6).length ((seg R 0 6).flatMap Rw.vals)) ∧ Hid (Off w2.heap.size w3.heap.size v) ∧ Hid (OutStep w wr g v0 v) ∧ w3.heap.size ≤ wr.heap.size) (fun i _ => (seg R 0 6).length - (intOf i).toNat)
  case atStart => exact ⟨0, v2, Nat.zero_le _, rfl, Lib.hid (by simpa using HO3.out), HR, HOFF, HS3, Nat.le_refl _⟩
  case round =>
    obtain ⟨k, v, hk, rfl, HOk, HRk, HFk, HSk, hsz⟩ := hrel
    by_cases hlt : k < (seg R 0 6).length
    · obtain ⟨ba, oa, x, hA, hba, hx, hc⟩ := rows_at (own_reads HRk.out) hlt
      cases hA
      obtain ⟨c0, c1, c2, c3, c4⟩ := hc
      have hxm := List.mem_of_getElem? hx
      have hsx := HSM.out x hxm
      have f0 : IntKind.u64.wrap x.c = x.c := u64_keep (by have := hsx.c; omega)
      have f3 : IntKind.u64.wrap x.k = x.k := u64_keep (by have := hsx.k; omega)
      have HX := Lib.hid hx
      have HSX := Lib.hid hsx
      have hlen : ((l ++ big (seg R 0 6).length 1 ++ ((seg R 0 6).take k).flatMap rowB).length : Nat) = l.length + 1 + k * 26 := by
        rw [List.length_append, List.length_append, big_len, flatB_len, List.length_take, Nat.min_eq_left (by omega)]
      have HL := Lib.hid hlen
      have HTK : Hid ((l ++ big (seg R 0 6).length 1 ++ ((seg R 0 6).take k).flatMap rowB) ++ rowB x = l ++ big (seg R 0 6).length 1 ++ ((seg R 0 6).take (k + 1)).flatMap rowB) := Lib.hid (by
        rw [List.append_assoc (l ++ big (seg R 0 6).length 1)]
        congr 1
        have hlt' := (List.getElem?_eq_some_iff.1 hx).1
        rw [List.take_succ_eq_append_getElem hlt', List.flatMap_append, (List.getElem?_eq_some_iff.1 hx).2]
        simp)
      obtain ⟨q, hq⟩ : ∃ q, q = l ++ big (seg R 0 6).length 1 ++ ((seg R 0 6).take k).flatMap rowB := ⟨_, rfl⟩
      rw [← hq] at HOk HL HTK
      have HQ := Lib.hid hq
      clear hq hx hsx hxm hlen
      have BX := Blk.new wr 28 x.cells
      have d0 := (BX.cell 0).trans (show _ = some (Value.int .i64 x.c) from rfl)
      have d1 := (BX.cell 1).trans (show _ = some (Value.int .u64 x.n) from rfl)
      have d2 := (BX.cell 2).trans (show _ = some (Value.int .u64 x.s) from rfl)
      have d3 := (BX.cell 3).trans (show _ = some (Value.int .i64 x.k) from rfl)
      have d4 := (BX.cell 4).trans (show _ = some (Value.int .u64 x.v) from rfl)
      have HBX := Lib.hid BX
      clear BX
      have hgr : g < wr.heap.size := by have := HSk.out.2.size; omega
      have O0 := HOk.out.below ((Below.refl wr.heap.size wr).alloc (Nat.le_refl _) (.cells x.cells 28))
      have F0 : Off wr.heap.size (wr.heap.size + 1) v := HOk.out.off _
      have R0 := HRk.out.alloc (.cells x.cells 28)
      have S0 : OutStep w (wr.alloc (.cells x.cells 28)) g v0 v := HSk.out.trans (OutStep.pre ((Below.refl wr.heap.size wr).alloc (Nat.le_refl _) _) (OutStep.refl _ _ _))
      have HP := Lib.hid (And.intro O0 (And.intro F0 (And.intro R0 (And.intro S0 (And.intro HBX.out HFk.out)))))
      have z0 : wr.heap.size + 1 ≤ (wr.alloc (.cells x.cells 28)).heap.size := by simp
      clear O0 F0 R0 S0 HBX HFk HOk HRk HSk
      go_wp2_with (fail)
      refine (putNum_ok g v (q) m x.c x.c.toNat 1 (by have := HSX.out.c; omega) _ (by omega) (by omega) (by have := HSX.out.c; omega) HP.out.1 (by (try simp only [List.length_append, big_len]); rw [HL.out]; omega) (by (try simp only [List.length_append, big_len]); rw [HL.out]; omega)).mono ?_
      rintro e y1 ⟨rfl, u1, p1, s1⟩
      have z1 := s1.2.size
      have B1 := s1.blk HP.out.2.2.2.2.1 hgr HP.out.2.1
      have HP := Lib.hid (And.intro p1 (And.intro (s1.off HP.out.2.1 (by omega)) (And.intro (s1.own HP.out.2.2.1 HRL.out (by omega) HP.out.2.2.2.2.2) (And.intro (HP.out.2.2.2.1.trans s1) (And.intro B1 (s1.off HP.out.2.2.2.2.2 (by omega)))))))
      clear d0
      replace d1 := (B1.cell 1).trans (show _ = some (Value.int .u64 x.n) from rfl)
      replace d2 := (B1.cell 2).trans (show _ = some (Value.int .u64 x.s) from rfl)
      replace d3 := (B1.cell 3).trans (show _ = some (Value.int .i64 x.k) from rfl)
      replace d4 := (B1.cell 4).trans (show _ = some (Value.int .u64 x.v) from rfl)
      clear p1 s1 B1
      go_wp2_with (fail)
      refine (putNum_ok g u1 (q ++ big x.c.toNat 1) m x.n x.n.toNat 8 (by have := HSX.out.n; omega) _ (by omega) (by omega) (by have := HSX.out.n; omega) HP.out.1 (by (try simp only [List.length_append, big_len]); rw [HL.out]; omega) (by (try simp only [List.length_append, big_len]); rw [HL.out]; omega)).mono ?_
      rintro e y2 ⟨rfl, u2, p1, s1⟩
      have z2 := s1.2.size
      have B1 := s1.blk HP.out.2.2.2.2.1 hgr HP.out.2.1
      have HP := Lib.hid (And.intro p1 (And.intro (s1.off HP.out.2.1 (by omega)) (And.intro (s1.own HP.out.2.2.1 HRL.out (by omega) HP.out.2.2.2.2.2) (And.intro (HP.out.2.2.2.1.trans s1) (And.intro B1 (s1.off HP.out.2.2.2.2.2 (by omega)))))))
      clear d1
      replace d2 := (B1.cell 2).trans (show _ = some (Value.int .u64 x.s) from rfl)
      replace d3 := (B1.cell 3).trans (show _ = some (Value.int .i64 x.k) from rfl)
      replace d4 := (B1.cell 4).trans (show _ = some (Value.int .u64 x.v) from rfl)
      clear p1 s1 B1
      go_wp2_with (fail)
      refine (putNum_ok g u2 (q ++ big x.c.toNat 1 ++ big x.n.toNat 8) m x.s x.s.toNat 8 (by have := HSX.out.s; omega) _ (by omega) (by omega) (by have := HSX.out.s; omega) HP.out.1 (by (try simp only [List.length_append, big_len]); rw [HL.out]; omega) (by (try simp only [List.length_append, big_len]); rw [HL.out]; omega)).mono ?_
      rintro e y3 ⟨rfl, u3, p1, s1⟩
      have z3 := s1.2.size
      have B1 := s1.blk HP.out.2.2.2.2.1 hgr HP.out.2.1
      have HP := Lib.hid (And.intro p1 (And.intro (s1.off HP.out.2.1 (by omega)) (And.intro (s1.own HP.out.2.2.1 HRL.out (by omega) HP.out.2.2.2.2.2) (And.intro (HP.out.2.2.2.1.trans s1) (And.intro B1 (s1.off HP.out.2.2.2.2.2 (by omega)))))))
      clear d2
      replace d3 := (B1.cell 3).trans (show _ = some (Value.int .i64 x.k) from rfl)
      replace d4 := (B1.cell 4).trans (show _ = some (Value.int .u64 x.v) from rfl)
      clear p1 s1 B1
      go_wp2_with (fail)
      refine (putNum_ok g u3 (q ++ big x.c.toNat 1 ++ big x.n.toNat 8 ++ big x.s.toNat 8) m x.k x.k.toNat 1 (by have := HSX.out.k; omega) _ (by omega) (by omega) (by have := HSX.out.k; omega) HP.out.1 (by (try simp only [List.length_append, big_len]); rw [HL.out]; omega) (by (try simp only [List.length_append, big_len]); rw [HL.out]; omega)).mono ?_
      rintro e y4 ⟨rfl, u4, p1, s1⟩
      have z4 := s1.2.size
      have B1 := s1.blk HP.out.2.2.2.2.1 hgr HP.out.2.1
      have HP := Lib.hid (And.intro p1 (And.intro (s1.off HP.out.2.1 (by omega)) (And.intro (s1.own HP.out.2.2.1 HRL.out (by omega) HP.out.2.2.2.2.2) (And.intro (HP.out.2.2.2.1.trans s1) (And.intro B1 (s1.off HP.out.2.2.2.2.2 (by omega)))))))
      clear d3
      replace d4 := (B1.cell 4).trans (show _ = some (Value.int .u64 x.v) from rfl)
      clear p1 s1 B1
      go_wp2_with (fail)
      refine (putNum_ok g u4 (q ++ big x.c.toNat 1 ++ big x.n.toNat 8 ++ big x.s.toNat 8 ++ big x.k.toNat 1) m x.v x.v.toNat 8 (by have := HSX.out.v; omega) _ (by omega) (by omega) (by have := HSX.out.v; omega) HP.out.1 (by (try simp only [List.length_append, big_len]); rw [HL.out]; omega) (by (try simp only [List.length_append, big_len]); rw [HL.out]; omega)).mono ?_
      rintro e y5 ⟨rfl, u5, p1, s1⟩
      have z5 := s1.2.size
      have B1 := s1.blk HP.out.2.2.2.2.1 hgr HP.out.2.1
      have HP := Lib.hid (And.intro p1 (And.intro (s1.off HP.out.2.1 (by omega)) (And.intro (s1.own HP.out.2.2.1 HRL.out (by omega) HP.out.2.2.2.2.2) (And.intro (HP.out.2.2.2.1.trans s1) (And.intro B1 (s1.off HP.out.2.2.2.2.2 (by omega)))))))
      clear d4
      clear p1 s1 B1
      go_wp2_with (fail)
      go_roundw
      case rel =>
        have HO := HP.out.1
        have hq5 : q ++ big x.c.toNat 1 ++ big x.n.toNat 8 ++ big x.s.toNat 8 ++ big x.k.toNat 1 ++ big x.v.toNat 8 = q ++ rowB x := by simp only [rowB, List.append_assoc]
        rw [hq5, HTK.out] at HO
        exact ⟨k + 1, u5, by omega, by go_num, Lib.hid HO, Lib.hid HP.out.2.2.1, Lib.hid HP.out.2.2.2.2.2, Lib.hid HP.out.2.2.2.1, by omega⟩
      case measure => simp [intOf]; omega
    · obtain rfl : k = (seg R 0 6).length := by omega
      go_wp2_with (fail)
      go_end0
      refine ⟨rfl, v, ?_, HSk.out⟩
      have := HOk.out
      rw [List.take_length] at this
      rw [rowsB, ← List.append_assoc]
      exact this
end Go.Proofs.Ytcmaekkfeilclaa
