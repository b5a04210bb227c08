/- Package frame: Put, and of no codec; the law's awake. -/
import Derived.Test.YtoifaeabieojbaaFrmE
namespace Go.Proofs.Ytoifaeabieojbaa
open Go.RowKit
set_option linter.unusedSimpArgs false
set_option linter.unusedVariables false
set_option maxRecDepth 100000
set_option maxHeartbeats 2000000

def putE (k : Nat) (l : List Nat) : Nat := if k = 0 then 4 else if 16384 < l.length then 6 else 0
def putB (k : Nat) (l : List Nat) : List Nat := k :: (l.length / 256) :: (l.length % 256) :: l
def putS (k : Nat) (l : List Nat) : List Nat := if putE k l = 0 then sealB (putB k l) else []
theorem putS_len (k : Nat) (l : List Nat) (h : putE k l = 0) : (putS k l).length = l.length + 7 := by
  unfold putS; rw [if_pos h]; simp [sealB, putB, le4]
theorem putB_bs (k : Nat) (l : List Nat) (hk : k < 256) (hl : isBs l) (hn : l.length < 65536) : isBs (putB k l) := by
  intro b hb
  simp only [putB, List.mem_cons] at hb
  rcases hb with rfl | rfl | rfl | hb
  · exact hk
  · omega
  · omega
  · exact hl b hb
theorem big1 (k : Nat) (h : k < 256) : big k 1 = [(k : Int)] := by
  simp [big, digit, List.range, List.range.loop]; omega
theorem big2 (n : Nat) (h : n < 65536) : big n 2 = [((n / 256 : Nat) : Int), ((n % 256 : Nat) : Int)] := by
  simp [big, digit, List.range, List.range.loop]; omega
theorem put_fo1 (k : Nat) (m : Int) (hk : k < 256) (hm : 1 ≤ m) : FO.num ⟨[], m, 0⟩ k 1 = ⟨[(k : Int)], m, 0⟩ := by
  unfold FO.num FO.put
  rw [show knownB 1 = true from rfl, if_pos rfl, show ((1 : Int).toNat) = 1 from rfl, show fitsB k 1 = true by rw [fitsB, decide_eq_true_eq]; omega, if_pos rfl, big1 k hk]
  have h2 : ¬ m - ((([] : List Int).length : Nat) : Int) < (([(k : Int)].length : Nat) : Int) := by simp; omega
  simp only [if_true, if_neg h2]
  rfl
theorem put_fo2 (k : Nat) (l : List Nat) (m : Int) (hn : l.length < 65536) (hm : (l.length : Int) + 3 ≤ m) : FO.text ⟨[(k : Int)], m, 0⟩ (bI l) = ⟨bI (putB k l), m, 0⟩ := by
  unfold FO.text FO.put
  rw [bI_len, if_neg (by omega), big2 l.length hn]
  have h2 : ¬ m - (([(k : Int)].length : Nat) : Int) < ((([((l.length / 256 : Nat) : Int), ((l.length % 256 : Nat) : Int)] ++ bI l).length : Nat) : Int) := by simp [bI_len]; omega
  simp only [if_true, if_neg h2]
  rfl
theorem cdPut_any (c g : Nat) (d : Bool) (x y : Int) (k : Nat) (A : Option Addr) (n cp B : Nat) (l : List Nat) (w : World) (h : Cd w c g d x y) (hr : Reads w B 1 A n ((bI l).map (Value.int .u8))) (hl : isBs l) (hB : B ≤ w.heap.size)
    (hA : ∀ ad, 0 < n → A = some ad → ad.block ≠ g) (hn : n ≤ 900000000) (hk : k < 256) :
    Calls Try.prog 11 #[.pointer (some ⟨c, 0, none⟩), .agg #[.int .u8 k, .slice A n cp]] w fun e w' => ∃ v, e = .returned (.tuple #[v, .int .i64 (putE k l)]) ∧
      w'.ownsRow w.heap.size 5 1 v (putS k l).length ((bI (putS k l)).map (Value.int .u8)) ∧ (∃ d', Cd w' c g d' x y) ∧ Chg w w' (fun k => k = g) := by
  have hcl := h.1.lt
  have hgl := h.2.lt
  have H := Lib.hid h
  have LN := Lib.hid (reads_len hr)
  have hb0 : Below w.heap.size w (w.alloc (.cells #[.int .u8 k, .slice A n cp] 33)) := (Below.refl _ _).alloc (Nat.le_refl _) _
  have HB0 := Lib.hid hb0
  have HR0 := Lib.hid (hr.alloc hB (.cells #[.int .u8 k, .slice A n cp] 33))
  have BX : Hid (Blk (w.alloc (.cells #[.int .u8 k, .slice A n cp] 33)) w.heap.size 33 #[.int .u8 k, .slice A n cp]) := Lib.hid (Blk.new w _ _)
  clear h hr hb0
  by_cases h0 : k = 0
  · subst h0
    have HE : Hid (putE 0 l = 4 ∧ putS 0 l = []) := Lib.hid ⟨rfl, rfl⟩
    go_enter Try.func11, Try.ntmps11
    go_wp2_with (fail)
    go_ret2
    exact ⟨.slice none 0 0, by rw [HE.out.1]; rfl, by rw [HE.out.2]; exact World.ownsRow_nil _ _ _ _, ⟨d, H.out.below HB0.out hcl hgl⟩, Chg.of_below HB0.out _⟩
  have hk0 : ((k : Int) == 0) = false := by simp; omega
  by_cases h1 : 16384 < n
  · have HE : Hid (putE k l = 6 ∧ putS k l = []) := Lib.hid (by
      have e : putE k l = 6 := by unfold putE; rw [if_neg h0, if_pos (by rw [LN.out]; exact h1)]
      exact ⟨e, by unfold putS; rw [e]; rfl⟩)
    have h1' : (16384 : Int) < n := by omega
    clear h0 h1
    go_enter Try.func11, Try.ntmps11
    go_wp2_with (fail)
    go_ret2
    exact ⟨.slice none 0 0, by rw [HE.out.1]; rfl, by rw [HE.out.2]; exact World.ownsRow_nil _ _ _ _, ⟨d, H.out.below HB0.out hcl hgl⟩, Chg.of_below HB0.out _⟩
  · have HE : Hid (putE k l = 0 ∧ putS k l = sealB (putB k l)) := Lib.hid (by
      have e : putE k l = 0 := by unfold putE; rw [if_neg h0, if_neg (by rw [LN.out]; exact h1)]
      exact ⟨e, by unfold putS; rw [e]; rfl⟩)
    have h1' : (n : Int) ≤ 16384 := by omega
    obtain ⟨m, hm⟩ : ∃ m : Int, m = 3 + (n : Int) := ⟨_, rfl⟩
    have HM := Lib.hid hm
    clear h0 h1 hm
    go_enter Try.func11, Try.ntmps11
    go_wp2_with (fail)
    refine (new_any (3 + (n : Int)) (by omega) _).mono ?_
    rintro e w2 ⟨rfl, g1, g2⟩
    have hgo : (w.alloc (.cells #[.int .u8 k, .slice A n cp] 33)).heap.size = w.heap.size + 1 := by simp
    rw [hgo] at g1 g2
    rw [atLeast0, if_pos (by omega), ← HM.out] at g1
    have HB2 := Lib.hid (g2)
    have b2 := BX.out.below g2 (by omega)
    have HR2 := Lib.hid (HR0.out.below (g2.mono (by omega)))
    have e0 : w2.cell? ⟨w.heap.size, 0, none⟩ = some (.int .u8 k) := b2.cell 0
    have e1 : w2.cell? ⟨w.heap.size, 1, none⟩ = some (.slice A n cp) := b2.cell 1
    have P1 := putNum_any (w.heap.size + 1) _ ⟨[], m, 0⟩ k 1 w2 (by omega) g1 (by simp)
    rw [put_fo1 k m hk (by have := HM.out; omega)] at P1
    have BX2 := Lib.hid b2
    have P1 := Lib.hid P1
    have hs2 := g2.size
    have hg2 := g1.1.lt
    clear g1 g2 b2
    go_wp2_with (fail)
    refine P1.out.mono ?_
    rintro e w3 ⟨rfl, v3, o3, s3⟩
    have hb3 : Below (w.heap.size + 1) w2 w3 := s3.2.below (by omega) (fun k hk e => by
      rcases e with e | e
      · omega
      · simp [Value.ownBlock] at e)
    have BX3 := BX2.out.below hb3 (by omega)
    have f0 : w3.cell? ⟨w.heap.size, 0, none⟩ = some (.int .u8 k) := BX3.cell 0
    have f1 : w3.cell? ⟨w.heap.size, 1, none⟩ = some (.slice A n cp) := BX3.cell 1
    have T := text_any (w.heap.size + 1) v3 ⟨[(k : Int)], m, 0⟩ A n cp B (bI l) w3 o3 (by have := hb3.size; omega) (HR2.out.below (hb3.mono (by omega))) (by rw [bI_len, LN.out]) (by simp) (by omega)
    rw [put_fo2 k l m (by have := LN.out; omega) (by have := HM.out; have := LN.out; omega)] at T
    have T := Lib.hid T
    have S3 := Lib.hid s3
    clear o3 s3 hb3 BX3 e0 e1
    go_wp2_with (fail)
    refine T.out.mono ?_
    rintro e w4 ⟨rfl, v4, o4, s4⟩
    have hs4 := (S3.out.trans s4).2
    have hb4 : Below (w.heap.size + 1) w2 w4 := hs4.below (by omega) (fun k hk e => by
      rcases e with e | e
      · omega
      · simp [Value.ownBlock] at e)
    have D := Lib.hid (done_any (w.heap.size + 1) v4 _ w4 o4 (by rw [bI_len]; have := LN.out; simp [putB]; omega))
    have HB4 := Lib.hid (HB0.out.trans ((HB2.out.trans hb4).mono (by omega)))
    have hz4 := hb4.size
    clear o4 s4 hs4 hb4 f0 f1 T
    simp only [if_true] at D
    go_wp2_with (fail)
    refine D.out.mono ?_
    rintro e w5 ⟨u, rfl, h1, h2⟩
    obtain ⟨A5, c5, he5, r5, a5, l5, m5⟩ := own_far (g := g) h1 (by omega)
    subst he5
    have HB5 := Lib.hid (HB4.out.trans (h2.mono (by omega)))
    have CD5 := Lib.hid (H.out.below HB5.out hcl hgl)
    have k0 : w5.cell? ⟨c, 0, none⟩ = some (.pointer (some ⟨g, 0, none⟩)) := CD5.out.1.cell 0
    have hln : (bI (putB k l)).length = n + 3 := by rw [bI_len]; have := LN.out; simp [putB]; omega
    have hlb : isBs (putB k l) := putB_bs k l hk hl (by have := LN.out; omega)
    have SL := Lib.hid (crcSeal_any g d A5 (bI (putB k l)).length c5 w5.heap.size (putB k l) hlb w5 CD5.out.2 r5 (Nat.le_refl _) a5 (by omega))
    have hs5 := HB5.out.size
    clear h1 h2 D r5 a5
    generalize (bI (putB k l)).length = pl at *
    have HLN := Lib.hid hln
    clear hln
    go_wp2_with (fail)
    with_reducible refine SL.out.mono ?_
    rintro e w6 ⟨v, rfl, h0, h1, h2⟩
    have HS6 : Hid (w6.ownsRow w.heap.size 5 1 v (putS k l).length ((bI (putS k l)).map (Value.int .u8))) := Lib.hid (by
      have hq : (putS k l).length = pl + 4 := by rw [putS_len k l HE.out.1]; have e1 := LN.out; have e2 := HLN.out; omega
      rw [hq, HE.out.2]
      exact Go.Joins.ownsRow_le h0 hs5)
    have H6 : Hid (Cd w6 c g true x y) := Lib.hid (CD5.out.chg h2 h1)
    have C6 := Lib.hid ((Chg.of_below HB5.out (fun k => k = g)).trans h2 (fun _ _ h => h))
    clear h0 h1 h2 SL
    go_wp2_with (fail)
    go_ret2
    exact ⟨v, by rw [HE.out.1]; rfl, HS6.out, ⟨true, H6.out⟩, C6.out⟩
theorem cdPut_nil (k : Int) (v : Value) (w : World) : Calls Try.prog 11 #[.pointer none, .agg #[.int .u8 k, v]] w fun e w' => e = .returned (.tuple #[.slice none 0 0, .int .i64 2]) ∧ Below w.heap.size w w' := by
  go_enter Try.func11, Try.ntmps11
  go_wp2_with (fail)
  go_ret2
  exact ⟨rfl, (Below.refl _ _).alloc (Nat.le_refl _) _⟩
theorem cdCut_nil (v : Value) (w : World) : Calls Try.prog 19 #[.pointer none, v] w fun e w' => e = .returned (.tuple #[.agg #[.int .u8 0, .slice none 0 0], .int .i64 0, .int .i64 2]) ∧ Below w.heap.size w w' := by
  go_enter Try.func19, Try.ntmps19
  go_wp2_with (fail)
  exact bodyPost_ret (v := .tuple #[.agg #[.int .u8 0, .slice none 0 0], .int .i64 0, .int .i64 2]) (by simp [results, Try.results19, go_sem]) rfl ⟨rfl, (Below.refl _ _).alloc (Nat.le_refl _) _⟩
theorem cdGet_nil (v : Value) (w : World) : Calls Try.prog 21 #[.pointer none, v] w fun e w' => e = .returned (.tuple #[.agg #[.int .u8 0, .slice none 0 0], .int .i64 2]) ∧ Below w.heap.size w w' := by
  go_enter Try.func21, Try.ntmps21
  go_wp2_with (fail)
  exact bodyPost_ret (v := .tuple #[.agg #[.int .u8 0, .slice none 0 0], .int .i64 2]) (by simp [results, Try.results21, go_sem]) rfl ⟨rfl, (Below.refl _ _).alloc (Nat.le_refl _) _⟩
theorem cdAll_nil (v : Value) (w : World) : Calls Try.prog 25 #[.pointer none, v] w fun e w' => e = .returned (.tuple #[.slice none 0 0, .int .i64 0, .int .i64 2]) ∧ w = w' := by
  go_enter Try.func25, Try.ntmps25
  go_wp2_with (fail)
  go_ret3
  exact ⟨rfl, rfl⟩
theorem counts_nil (w : World) : Calls Try.prog 27 #[.pointer none] w fun e w' => e = .returned (.tuple #[.int .u64 0, .int .u64 0]) ∧ w = w' := by
  go_enter Try.func27, Try.ntmps27
  go_wp2_with (fail)
  go_ret2
  exact ⟨rfl, rfl⟩
end Go.Proofs.Ytoifaeabieojbaa
