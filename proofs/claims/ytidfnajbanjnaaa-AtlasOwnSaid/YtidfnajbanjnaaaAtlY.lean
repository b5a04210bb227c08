/- An atlas's latch: Get, Runs; Low; spoil. -/
import Derived.Test.YtidfnajbanjnaaaAtlX
namespace Go.Proofs.Ytidfnajbanjnaaa
open Go.RowKit
set_option linter.unusedSimpArgs false
set_option linter.unusedVariables false
set_option maxHeartbeats 8000000
set_option maxRecDepth 100000
attribute [local go_sem] Cf.agg Cf.cells

theorem func_neL (fn : Fn) (first cap : Array Value) (w : World) : (binOp .neq 57 (.func fn first cap) .nilFunc).run Try.prog w = .ok (.bool true) w := by kernel_rfl
theorem fillL_enter : ∀ (args : Array Value) (w : World), (callFunc 48 args).run Try.prog w = .ok (.enter 48 args) w :=
  enters_of Try.func48 (by kernel_rfl) rfl
theorem mkL_enter : ∀ (args : Array Value) (w : World), (callFunc 29 args).run Try.prog w = .ok (.enter 29 args) w :=
  enters_of Try.func29 (by kernel_rfl) rfl
theorem fillL_any (h cB n : Nat) (w : World) (h1 : 1 ≤ n) (h4 : n ≤ 4) (hv : Blk w cB 3 #[.int .i64 n])
    (hg : Blk w h 81 #[.int .u32 0, .int .i32 1, .int .u32 0, tabMk cB, .int .i32 0, .slice none 0 0]) :
    Calls Try.prog 48 #[.pointer (some ⟨h, 0, none⟩)] w fun e w' => e = .returned (.tuple #[]) ∧ ∃ (gO : Nat) (vs : List Value), w.heap.size ≤ gO ∧
      Blk w' h 81 #[.int .u32 0, .int .i32 1, .int .u32 0, tabMk cB, .int .i32 1, .slice (some ⟨gO, 0, none⟩) n n] ∧ TabR w' gO n 256 vs ∧ Chg w w' (fun k => k = h) := by
  have hn := func_neL
  have n1 : cB ≠ h := Blk.ne_ hv hg (by decide)
  have hgl := hg.lt
  have c3 : w.cell? ⟨h, 3, none⟩ = some (.func (.func 29) #[] #[.pointer (some ⟨cB, 0, none⟩)]) := hg.cell 3
  have hg2 := hg.set_ 4 (.int .i32 1)
  have d3 : (w.setCell ⟨h, 4, none⟩ (.int .i32 1)).cell? ⟨h, 3, none⟩ = some (.func (.func 29) #[] #[.pointer (some ⟨cB, 0, none⟩)]) := hg2.cell 3
  have A := Lib.hid (add_any ⟨h, 4, none⟩ w (hg.cell 4) (hg.frozen 4))
  have M := Lib.hid (mkL_any cB n _ h1 h4 (hv.far (p := ⟨h, 4, none⟩) n1 (.int .i32 1)))
  have HG2 := Lib.hid hg2
  have HC := Lib.hid (set_chg w h 4 (.int .i32 1))
  have hs : (w.setCell ⟨h, 4, none⟩ (.int .i32 1)).heap.size = w.heap.size := by simp [World.setCell]
  clear hv hg hg2
  go_enter Try.func48, Try.ntmps48
  go_wp2_with (first
    | (go_at_call 54; refine A.out.mono ?_; rintro e w' ⟨rfl, rfl⟩)
    | fail)
  refine M.out.mono ?_
  rintro e w2 ⟨vs, rfl, ht, hb⟩
  rw [hs] at ht hb ⊢
  have b2 := HG2.out.below hb hgl
  have d5 : w2.cell? ⟨h, 5, none⟩ = some (.slice none 0 0) := b2.cell 5
  have f5 := b2.frozen 5
  have B2 := Lib.hid b2
  have T2 := Lib.hid ht
  have HB := Lib.hid hb
  clear b2 ht hb M
  go_wp2_with (fail)
  go_end0
  refine ⟨rfl, w.heap.size, vs, Nat.le_refl _, B2.out.set_ 5 _, ?_, ?_⟩
  · exact T2.out.chg (set_chg _ _ _ _) (fun i hi e => by omega)
  · refine (HC.out.trans ((Chg.of_below ?_ (fun k => k = h)).trans (set_chg _ _ _ _) (fun _ _ h => h)) (fun _ _ h => h))
    rw [hs]; exact HB.out
/-- the latch of an atlas: not used yet, or its table stands -/
def KeysA (w : World) (h cB n : Nat) : Prop := LzL w h (tabMk cB) ∧ Blk w cB 3 #[.int .i64 n]
def KeysB (w : World) (h cB n gO : Nat) (vs : List Value) : Prop := Blk w h 81 #[.int .u32 1, .int .i32 0, .int .u32 0, tabMk cB, .int .i32 1, .slice (some ⟨gO, 0, none⟩) n n] ∧ TabR w gO n 256 vs ∧ h < gO
theorem KeysB.below {w w' : World} {h cB n gO : Nat} {vs : List Value} (k : KeysB w h cB n gO vs) (hb : Below w.heap.size w w') : KeysB w' h cB n gO vs := ⟨k.1.below hb k.1.lt, k.2.1.below hb, k.2.2⟩
theorem getA_any (h cB n : Nat) (w : World) (h1 : 1 ≤ n) (h4 : n ≤ 4) (hk : KeysA w h cB n) :
    Calls Try.prog 40 #[.pointer (some ⟨h, 0, none⟩)] w fun e w' => ∃ gO vs, e = .returned (.slice (some ⟨gO, 0, none⟩) n n) ∧ KeysB w' h cB n gO vs ∧ Chg w w' (fun k => k = h) := by
  have hmf : ∀ (fn : Fn) (first cap : Array Value) (w : World), (Instr.makeFunc fn first cap).run Try.prog w = .ok (.func fn first cap) w := fun _ _ _ _ => rfl
  have hG : Blk w h 81 #[.int .u32 0, .int .i32 0, .int .u32 0, tabMk cB, .int .i32 0, .slice none 0 0] := hk.1
  have n1 : cB ≠ h := Blk.ne_ hk.2 hG (by decide)
  have hgl := hG.lt
  have hs1 : (w.setCell ⟨h, 1, none⟩ (.int .i32 1)).heap.size = w.heap.size := by simp [World.setCell]
  have C := fillL_any h cB n (w.setCell ⟨h, 1, none⟩ (.int .i32 1)) h1 h4 (hk.2.far (p := ⟨h, 1, none⟩) n1 _) (hG.set_ 1 (.int .i32 1))
  rw [hs1] at C
  have D := Lib.hid (doM_first h 48 fillL_enter (.pointer (some ⟨h, 0, none⟩))
    (fun w2 => ∃ (gO : Nat) (vs : List Value), w.heap.size ≤ gO ∧ Blk w2 h 81 #[.int .u32 0, .int .i32 1, .int .u32 0, tabMk cB, .int .i32 1, .slice (some ⟨gO, 0, none⟩) n n] ∧ TabR w2 gO n 256 vs ∧ Chg w w2 (fun k => k = h)) w (hG.cell 0) (hG.cell 1) (hG.frozen 1)
    (C.mono (fun e w2 ⟨he, gO, vs, hg, hb, ht, hc⟩ => ⟨he, gO, vs, hg, hb, ht, (set_chg _ _ _ _).trans hc (fun _ _ h => h)⟩))
    (fun w2 ⟨gO, vs, hg, hb, ht, hc⟩ => ⟨⟨hb.cell 0, hb.frozen 0⟩, hb.cell 1, hb.frozen 1⟩))
  clear C hG hk n1
  go_enter Try.func40, Try.ntmps40
  go_wp2_with (fail)
  refine D.out.mono ?_
  rintro e w3 ⟨rfl, w2, ⟨gO, vs, hg, hb, ht, hc⟩, rfl⟩
  have hL := ((hb.drew).set_ 0 (.int .u32 1)).set_ 1 (.int .i32 0)
  have hT : TabR (onced w2 h) gO n 256 vs := ht.chg (onced_chg w2 h) (fun i hi e => by omega)
  have HF : Hid (KeysB (onced w2 h) h cB n gO vs ∧ Chg w (onced w2 h) (fun k => k = h)) := Lib.hid ⟨⟨hL, hT, by omega⟩, hc.trans (onced_chg w2 h) (fun _ _ h => h)⟩
  have c5 : (onced w2 h).cell? ⟨h, 5, none⟩ = some (.slice (some ⟨gO, 0, none⟩) n n) := hL.cell 5
  clear hL hT hb ht hc D
  generalize onced w2 h = w3 at *
  go_wp2_with (fail)
  go_ret
  exact ⟨gO, vs, rfl, HF.out.1, HF.out.2⟩
theorem getB_any (h cB n gO : Nat) (vs : List Value) (w : World) (hk : KeysB w h cB n gO vs) :
    Calls Try.prog 40 #[.pointer (some ⟨h, 0, none⟩)] w fun e w' => e = .returned (.slice (some ⟨gO, 0, none⟩) n n) ∧ w = w' := by
  have hmf : ∀ (fn : Fn) (first cap : Array Value) (w : World), (Instr.makeFunc fn first cap).run Try.prog w = .ok (.func fn first cap) w := fun _ _ _ _ => rfl
  have D := Lib.hid (do_done h (.func (.func 48) #[.pointer (some ⟨h, 0, none⟩)] #[]) w (hk.1.cell 0))
  have c5 : w.cell? ⟨h, 5, none⟩ = some (.slice (some ⟨gO, 0, none⟩) n n) := hk.1.cell 5
  clear hk
  go_enter Try.func40, Try.ntmps40
  go_wp2_with (fail)
  refine D.out.mono ?_
  rintro e w3 ⟨rfl, rfl⟩
  go_wp2_with (fail)
  go_ret
  exact ⟨rfl, rfl⟩
/-- an atlas, whatever its latch has -/
structure AtY (w : World) (b0 G q h : Nat) (o : List Cf) : Prop where
  blk : Blk w G 62 #[.slice (some ⟨q, 0, none⟩) o.length o.length, .pointer (some ⟨h, 0, none⟩)]
  conf : Blk w q 35 ⟨o.flatMap Cf.row⟩
  own : ∀ x ∈ o, CfOwn w (q + 1) x
  few : (1 ≤ o.length ∧ o.length ≤ 4) ∧ ∀ x ∈ o, x.len ≤ 1000000
  lt : b0 ≤ q ∧ q < h ∧ h < G
theorem AtY.below {w w' : World} {b0 G q h : Nat} {o : List Cf} (a : AtY w b0 G q h o) (hb : Below w.heap.size w w') : AtY w' b0 G q h o :=
  ⟨a.blk.below hb a.blk.lt, a.conf.below hb a.conf.lt, fun x hx => (a.own x hx).later hb (Nat.le_refl _), a.few, a.lt⟩
theorem AtY.chg {w w' : World} {b0 G q h : Nat} {o : List Cf} {S : Nat → Prop} {cs : Array Value} (a : AtY w b0 G q h o) (hk : Blk w h 81 cs) (hc : Chg w w' S) (hS : ∀ i, b0 ≤ i → S i → i = h) : AtY w' b0 G q h o := by
  have hl := a.lt
  refine ⟨hc.blk a.blk (fun e => ?_), hc.blk a.conf (fun e => ?_), fun x hx => hc.own (a.own x hx) (fun b hb e => ?_), a.few, a.lt⟩
  · have := hS G (by omega) e; omega
  · have := hS q (by omega) e; omega
  · have h1 := ((a.own x hx).lt b hb).1
    have h2 := hS b (by omega) e
    subst h2
    exact own_blk_ne (a.own x hx) hk (by decide) hb
theorem AtY.cfs {w : World} {b0 G q h : Nat} {o : List Cf} (a : AtY w b0 G q h o) : CfsIn w w.heap.size (some ⟨q, 0, none⟩) o.length o :=
  .of_blk a.conf fun x hx => (a.own x hx).in_
theorem chainsY (b0 G q h : Nat) (o : List Cf) (w : World) (a : AtY w b0 G q h o) :
    Calls Try.prog 21 #[.pointer (some ⟨G, 0, none⟩)] w fun e w' => e = .returned (.int .i64 o.length) ∧ w = w' := by
  have c0 : w.cell? ⟨G, 0, none⟩ = some (.slice (some ⟨q, 0, none⟩) o.length o.length) := a.blk.cell 0
  clear a
  go_enter Try.func21, Try.ntmps21
  go_wp2
  go_ret
  exact ⟨rfl, rfl⟩
theorem confsY (b0 G q h : Nat) (o : List Cf) (w : World) (a : AtY w b0 G q h o) :
    Calls Try.prog 15 #[.pointer (some ⟨G, 0, none⟩)] w fun e w' => ∃ o2 : List Cf, e = .returned (.slice (some ⟨w.heap.size, 0, none⟩) o.length o.length) ∧ CpRel w o o.length o.length o2 [] w' := by
  have c0 : w.cell? ⟨G, 0, none⟩ = some (.slice (some ⟨q, 0, none⟩) o.length o.length) := a.blk.cell 0
  have HC := Lib.hid a.cfs
  have h4 := a.few.1.2
  have HF := Lib.hid a.few.2
  clear a
  go_enter Try.func15, Try.ntmps15
  go_wp2_with (fail)
  refine (copy_any _ _ _ _ o _ HC.out (Nat.le_refl _) (by omega) HF.out).mono ?_
  rintro e w1 ⟨o2, rfl, hcp⟩
  have CP := Lib.hid hcp
  clear hcp
  go_wp2
  go_ret
  exact ⟨o2, rfl, CP.out⟩
theorem lowA_any (b0 G q h cB j : Nat) (o : List Cf) (w : World) (a : AtY w b0 G q h o) (hk : KeysA w h cB o.length) (hj : j < o.length) :
    Calls Try.prog 24 #[.pointer (some ⟨G, 0, none⟩), .int .i64 j] w fun e w' => ∃ v gO vs W, e = .returned v ∧ w'.ownsRow W.heap.size 3 1 v (lowL o.length j 256).length ((lowL o.length j 256).map (Value.int .i64)) ∧ KeysB W h cB o.length gO vs ∧ Chg w W (fun k => k = h) ∧ Below W.heap.size W w' := by
  have c1 : w.cell? ⟨G, 1, none⟩ = some (.pointer (some ⟨h, 0, none⟩)) := a.blk.cell 1
  have CC := Lib.hid (chainsY b0 G q h o w a)
  have GG := Lib.hid (getA_any h cB o.length w a.few.1.1 a.few.1.2 hk)
  have hn4 := a.few.1.2
  have hbl := a.lt
  have hGl := a.blk.lt
  generalize o.length = n at *
  have hj' : (j : Int) < n := by omega
  clear a hk
  go_enter Try.func24, Try.ntmps24
  go_wp2_with (first | (go_at_call 21; refine CC.out.mono ?_; rintro e w' ⟨rfl, rfl⟩) | fail)
  refine GG.out.mono ?_
  rintro e w2 ⟨gO, vs, rfl, hk2, hc2⟩
  obtain ⟨v, hv⟩ : ∃ v, vs[j]? = some v := ⟨_, List.getElem?_eq_getElem (by rw [hk2.2.1.len]; exact hj)⟩
  have hown := hk2.2.1.own j v hv
  obtain ⟨A2, c2, rfl, hr, _, _⟩ := own_slice hown
  have d0 : w2.cell? ⟨gO, j, none⟩ = some (.slice A2 (lowL n j 256).length c2) := (hk2.2.1.blk.cell j).trans (by simpa using hv)
  have hll := lowL_len n j 256
  have HR := Lib.hid hr
  have K2 := Lib.hid hk2
  have C2 := Lib.hid hc2
  clear hown hr hk2 hc2 GG
  go_wp2_with (fail)
  refine (clone_int _ _ _ w2.heap.size _ _ (Nat.le_refl _) HR.out (by omega)).mono ?_
  rintro e w3 ⟨v3, rfl, h3, b3⟩
  obtain ⟨A3, c3, rfl, _, _, _⟩ := own_slice h3
  have H3 := Lib.hid h3
  have B3 := Lib.hid b3
  clear h3 b3 d0
  go_wp2_with (fail)
  go_ret
  exact ⟨_, gO, vs, w2, rfl, H3.out, K2.out, C2.out, B3.out⟩
theorem lowB_any (b0 G q h cB j gO : Nat) (vs : List Value) (o : List Cf) (w : World) (a : AtY w b0 G q h o) (hk : KeysB w h cB o.length gO vs) (hj : j < o.length) :
    Calls Try.prog 24 #[.pointer (some ⟨G, 0, none⟩), .int .i64 j] w fun e w' => ∃ v, e = .returned v ∧ w'.ownsRow w.heap.size 3 1 v (lowL o.length j 256).length ((lowL o.length j 256).map (Value.int .i64)) ∧ Below w.heap.size w w' := by
  have c1 : w.cell? ⟨G, 1, none⟩ = some (.pointer (some ⟨h, 0, none⟩)) := a.blk.cell 1
  have CC := Lib.hid (chainsY b0 G q h o w a)
  have GG := Lib.hid (getB_any h cB o.length gO vs w hk)
  have hn4 := a.few.1.2
  generalize o.length = n at *
  have hj' : (j : Int) < n := by omega
  obtain ⟨v, hv⟩ : ∃ v, vs[j]? = some v := ⟨_, List.getElem?_eq_getElem (by rw [hk.2.1.len]; exact hj)⟩
  have hown := hk.2.1.own j v hv
  obtain ⟨A2, c2, rfl, hr, _, _⟩ := own_slice hown
  have d0 : w.cell? ⟨gO, j, none⟩ = some (.slice A2 (lowL n j 256).length c2) := (hk.2.1.blk.cell j).trans (by simpa using hv)
  have hll := lowL_len n j 256
  have HR := Lib.hid hr
  clear a hk hown hr hv
  go_enter Try.func24, Try.ntmps24
  go_wp2_with (first | (go_at_call 21; refine CC.out.mono ?_; rintro e w' ⟨rfl, rfl⟩) | (go_at_call 40; refine GG.out.mono ?_; rintro e w' ⟨rfl, rfl⟩) | fail)
  refine (clone_int _ _ _ w.heap.size _ _ (Nat.le_refl _) HR.out (by omega)).mono ?_
  rintro e w3 ⟨v3, rfl, h3, b3⟩
  obtain ⟨A3, c3, rfl, _, _, _⟩ := own_slice h3
  have H3 := Lib.hid h3
  have B3 := Lib.hid b3
  clear h3 b3 d0
  go_wp2_with (fail)
  go_ret
  exact ⟨_, rfl, H3.out, B3.out⟩
theorem refLow_any (n j : Nat) (w : World) (hn : n ≤ 4) (hj : j < n) :
    Calls Try.prog 27 #[.int .i64 j, .int .i64 n] w fun e w' => ∃ v, e = .returned v ∧ w'.ownsRow w.heap.size 3 1 v (lowL n j 256).length ((lowL n j 256).map (Value.int .i64)) ∧ Below w.heap.size w w' := by
  obtain ⟨i0, hi, hz0, hz1, hz2⟩ := info_parts i64Info
  have hj' : (j : Int) < n := by omega
  have hj0 : (0 : Int) ≤ j := by omega
  go_enter Try.func27, Try.ntmps27
  go_wp2_with (fail)
  go_loopw [5, 6] (fun v i wr => ∃ k : Nat, k ≤ 256 ∧ i = .int .i64 k ∧ Hid (wr.ownsRow w.heap.size 3 1 v (lowL n j k).length ((lowL n j k).map (Value.int .i64))) ∧ Hid (Below w.heap.size w wr)) (fun _ i _ => 256 - (intOf i).toNat)
  case atStart => exact ⟨0, by omega, rfl, Lib.hid (World.ownsRow_nil _ _ _ _), Lib.hid (Below.refl _ _)⟩
  case round =>
    obtain ⟨k, hk, rfl, HO, HB⟩ := hrel
    have hsz := HB.out.size
    obtain ⟨A0, c0, rfl, _, _, _⟩ := own_slice HO.out
    by_cases hlt : k < 256
    · have hlt' : (k : Int) < 256 := by omega
      obtain ⟨c, hcn, hcv⟩ := chain_lt k n (by omega)
      have CH := refChain_any k (by omega) n (by omega)
      rw [hcv] at CH
      have hwk : IntKind.u32.wrap (k : Int) = k := by rw [IntKind.wrap_u32]; omega
      have hll := lowL_len n j k
      by_cases hcj : c = j
      · subst hcj
        have HL := Lib.hid (lowL_hit hcv)
        clear hcv
        go_wp2_with (first
          | (go_at_call 7; refine (CH _).mono ?_; rintro e w' ⟨rfl, rfl⟩)
          | (at_builtin; go_must (refine wpList_append_any _ rfl (.tmp 26) (.tmp 28) _ rfl w.heap.size 3 i0 _ 1 8 Try.underlying33 hi hz0 hz1 hz2 rfl (by omega) _ _ _ rfl (HO.out.alloc _) (wr.heap.size + 1) (some ⟨wr.heap.size, 0, none⟩) 1 1 [.int .i64 k] rfl ?c0 ?c1 ?c2 ?c3 ?c4 ?_)))
        case c0 => exact ⟨rfl, fun _ => ⟨_, rfl, by simp, fun j u hu => cells_new _ _ _ j u hu⟩⟩
        case c1 => intro u hu; simp at hu; subst hu; rfl
        case c2 => unfold maxLen; omega
        case c3 => omega
        case c4 => simp; omega
        intro v' w1 hown hg _
        obtain ⟨A1, cc1, rfl, _, _, _⟩ := own_slice hown
        have HO1 : Hid (w1.ownsRow w.heap.size 3 1 (.slice A1 ((lowL n c k).length + 1) cc1) (lowL n c (k + 1)).length ((lowL n c (k + 1)).map (Value.int .i64))) := Lib.hid (by
          rw [HL.out, List.map_append, List.length_append]; exact hown)
        have HB1 := Lib.hid ((HB.out.alloc hsz (.cells #[.int .i64 k] 3)).grown hg (by simp; omega) (fun q hq => (HO.out.lt q hq).1))
        clear hown hg HO
        go_wp2_with (fail)
        exact ⟨⟨k + 1, by omega, by congr 1, HO1, HB1⟩, by simp [intOf]; omega⟩
      · have hcj' : ¬ ((c : Int) = j) := by omega
        have HL := Lib.hid (lowL_miss (n := n) (j := j) (k := k) (by rw [hcv]; omega))
        have HO1 : Hid (wr.ownsRow w.heap.size 3 1 (.slice A0 (lowL n j k).length c0) (lowL n j (k + 1)).length ((lowL n j (k + 1)).map (Value.int .i64))) := Lib.hid (by rw [HL.out]; exact HO.out)
        clear hcv HO
        go_wp2_with (first | (go_at_call 7; refine (CH _).mono ?_; rintro e w' ⟨rfl, rfl⟩) | fail)
        exact ⟨⟨k + 1, by omega, by congr 1, HO1, HB⟩, by simp [intOf]; omega⟩
    · obtain rfl : k = 256 := by omega
      go_wp2_with (fail)
      go_ret
      exact ⟨_, rfl, HO.out, HB.out⟩
theorem spoil_any (n base : Nat) (v : Value) (zs : List Int) (w : World) (ho : w.ownsRow base 3 1 v n (zs.map (Value.int .i64))) (hn : n ≤ 1000000) :
    Calls Try.prog 23 #[v] w fun e w' => e = .returned (.tuple #[]) ∧ Chg w w' (fun k => v.ownBlock = some k) := by
  obtain ⟨A, c, rfl, hr, _, _⟩ := own_slice ho
  have hn1 : (n : Int) ≤ 1000000 := by omega
  have HO0 := Lib.hid ho
  clear ho hr
  go_enter Try.func23, Try.ntmps23
  go_wp2_with (fail)
  go_loopw [2] (fun i wr => ∃ (k : Nat) (ys : List Int), k ≤ n ∧ i = .int .i64 k ∧ Hid (wr.ownsRow base 3 1 (.slice A n c) n (ys.map (Value.int .i64))) ∧ Hid (Chg w wr (fun k => (Value.slice A n c).ownBlock = some k))) (fun i _ => n - (intOf i).toNat)
  case atStart => exact ⟨0, zs, by omega, rfl, HO0, Lib.hid (Chg.refl _ _)⟩
  case round =>
    clear HO0
    obtain ⟨k, ys, hk, rfl, HO, HC⟩ := hrel
    by_cases hlt : k < n
    · have hlt' : (k : Int) < n := by omega
      obtain ⟨g, c', he, hg, hgl⟩ := HO.out.form (by omega)
      obtain ⟨rfl, _, rfl⟩ : A = some ⟨g, 0, none⟩ ∧ n = n ∧ c = c' := by injection he with h1 h2 h3; exact ⟨h1, h2, h3⟩
      have hyl : (ys.map (Value.int .i64)).length = n := by have := HO.out.1; simpa using this
      obtain ⟨y0, hy0⟩ : ∃ y, (ys.map (Value.int .i64))[k]? = some y := ⟨_, List.getElem?_eq_getElem (by omega)⟩
      have s0 := (HO.out.cellAt k (by omega)).trans hy0
      have u0 := HO.out.frozenAt k
      have P := Lib.hid (HO.out.stored k (.int .i64 99)).1
      have HC1 : Hid (Chg w (wr.setCell ⟨g, k, none⟩ (.int .i64 99)) (fun k => (Value.slice (some ⟨g, 0, none⟩) n c).ownBlock = some k)) := Lib.hid (HC.out.trans ((set_chg wr g k (.int .i64 99)).mono (fun i _ e => by rw [e]; rfl)) (fun _ _ h => h))
      clear he hy0 HO HC hyl
      go_wp2_with (fail)
      refine ⟨⟨k + 1, ys.set k 99, by omega, by congr 1, ?_, HC1⟩, by simp [intOf]; omega⟩
      rw [List.map_set]
      exact P
    · obtain rfl : k = n := by omega
      go_wp2_with (fail)
      go_end0
      exact ⟨rfl, HC.out⟩
end Go.Proofs.Ytidfnajbanjnaaa
