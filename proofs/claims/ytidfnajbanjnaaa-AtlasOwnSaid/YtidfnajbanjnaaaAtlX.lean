/- An atlas's table of keys: made once. -/
import Derived.Test.YtidfnajbanjnaaaAtlV
import Derived.Test.YtidfnajbanjnaaaLatM
namespace Go.Proofs.Ytidfnajbanjnaaa
open Go.RowKit
set_option linter.unusedSimpArgs false
set_option linter.unusedVariables false
set_option maxHeartbeats 8000000
set_option maxRecDepth 100000

theorem rowInfo : (Try.prog.info? 33).map (fun i => (i.zero, i.size, i.bytes)) = some (some (.slice none 0 0), 1, 24) := by kernel_rfl
def lowL (n j k : Nat) : List Int := ((List.range k).filter fun key => decide (chainV key n = j)).map fun key => ((key : Nat) : Int)
theorem lowL_hit {n j k : Nat} (h : chainV k n = j) : lowL n j (k + 1) = lowL n j k ++ [(k : Int)] := by
  unfold lowL
  rw [List.range_succ, List.filter_append, List.map_append]
  simp [h]
theorem lowL_miss {n j k : Nat} (h : chainV k n ≠ j) : lowL n j (k + 1) = lowL n j k := by
  unfold lowL
  rw [List.range_succ, List.filter_append, List.map_append]
  simp [h]
theorem lowL_len (n j k : Nat) : (lowL n j k).length ≤ k := by
  unfold lowL
  rw [List.length_map]
  exact Nat.le_trans (List.length_filter_le _ _) (by simp)
/-- a table of the first k keys, in a block g of its own -/
structure TabR (w : World) (g n k : Nat) (vs : List Value) : Prop where
  blk : Blk w g 33 ⟨vs⟩
  len : vs.length = n
  own : ∀ j v, vs[j]? = some v → w.ownsRow (g + 1) 3 1 v (lowL n j k).length ((lowL n j k).map (Value.int .i64))
  apart : ∀ (i j : Nat) (u v : Value), i ≠ j → vs[i]? = some u → vs[j]? = some v → ∀ b, u.ownBlock = some b → v.ownBlock ≠ some b
theorem TabR.below {w w' : World} {g n k : Nat} {vs : List Value} (t : TabR w g n k vs) (hb : Below w.heap.size w w') : TabR w' g n k vs :=
  ⟨t.blk.below hb t.blk.lt, t.len, fun j v hj => own_block_same (t.own j v hj) (fun b hx => hb.block b ((t.own j v hj).lt b hx).2), t.apart⟩
theorem TabR.chg {w w' : World} {g n k : Nat} {vs : List Value} {S : Nat → Prop} (t : TabR w g n k vs) (hc : Chg w w' S) (hS : ∀ i, g ≤ i → ¬ S i) : TabR w' g n k vs :=
  ⟨hc.blk t.blk (hS g (Nat.le_refl _)), t.len, fun j v hj => hc.own (t.own j v hj) (fun b hb => hS b (by have := ((t.own j v hj).lt b hb).1; omega)), t.apart⟩
theorem TabR.put {wr w1 : World} {g n k c : Nat} {vs : List Value} {vc v' : Value} {ob : Obj} (t : TabR wr g n k vs) (hvc : vs[c]? = some vc) (hc : chainV k n = c)
    (hown : w1.ownsRow (g + 1) 3 1 v' ((lowL n c k).length + 1) ((lowL n c k).map (Value.int .i64) ++ [.int .i64 k])) (hg : (wr.alloc ob).grownBy w1 vc.ownBlock)
    (hat : v'.ownBlock = vc.ownBlock ∨ v'.ownBlock = some (wr.alloc ob).heap.size) : TabR (w1.setCell ⟨g, c, none⟩ v') g n (k + 1) (vs.set c v') := by
  have hoc := t.own c vc hvc
  have hcl : c < vs.length := (List.getElem?_eq_some_iff.1 hvc).1
  have hgn : some g ≠ vc.ownBlock := fun e => by have := (hoc.lt g e.symm).1; omega
  have b1 := (t.blk.alloc ob).grown hg hgn
  have b2 := b1.set_ c v'
  simp only [List.setIfInBounds_toArray] at b2
  have hsz := hg.size
  have hgl := t.blk.lt
  refine ⟨b2, by rw [List.length_set]; exact t.len, fun j v hj => ?_, fun i j u v hij hi hj b hb => ?_⟩
  · rw [List.getElem?_set] at hj
    by_cases h : c = j
    · subst h
      rw [if_pos rfl, if_pos hcl] at hj
      cases hj
      rw [lowL_hit hc, List.map_append, List.length_append]
      exact ownsRow_setCell_below hown (by show g < g + 1; omega) _
    · rw [if_neg h] at hj
      rw [lowL_miss (by rw [hc]; omega)]
      refine ownsRow_setCell_below ?_ (by show g < g + 1; omega) _
      refine ((t.own j v hj).alloc ob).kept hg ?_
      rcases hv : v.ownBlock with _ | b
      · exact .inl rfl
      · exact .inr (fun e => t.apart j c v vc (fun e => h e.symm) hj hvc b hv e.symm)
  · rw [List.getElem?_set] at hi hj
    by_cases h1 : c = i
    · subst h1
      rw [if_pos rfl, if_pos hcl] at hi
      cases hi
      rw [if_neg hij] at hj
      intro hv
      rcases hat with e | e
      · rw [hb] at e
        exact t.apart c j vc v hij hvc hj b e.symm hv
      · rw [hb] at e
        have := ((t.own j v hj).lt b hv).2
        simp only [Option.some.injEq, World.size_alloc] at e
        omega
    · rw [if_neg h1] at hi
      by_cases h2 : c = j
      · subst h2
        rw [if_pos rfl, if_pos hcl] at hj
        cases hj
        intro hv
        rcases hat with e | e
        · rw [hv] at e
          exact t.apart i c u vc hij hi hvc b hb e.symm
        · rw [hv] at e
          have := ((t.own i u hi).lt b hb).2
          simp only [Option.some.injEq, World.size_alloc] at e
          omega
      · rw [if_neg h2] at hj
        exact t.apart i j u v hij hi hj b hb
theorem TabR.bel {w wr w1 : World} {g n k c : Nat} {vs : List Value} {vc v' : Value} {ob : Obj} (t : TabR wr g n k vs) (hvc : vs[c]? = some vc) (hg : (wr.alloc ob).grownBy w1 vc.ownBlock) (hb : Below w.heap.size w wr) (hgw : g = w.heap.size) :
    Below w.heap.size w (w1.setCell ⟨g, c, none⟩ v') := by
  have hs := hb.size
  refine Below.setCell ?_ (by show w.heap.size ≤ g; omega) _
  exact (hb.alloc hs ob).grown hg (by simp; omega) (fun q hq => by have := ((t.own c vc hvc).lt q hq).1; omega)

/-- a place among n -/
theorem chain_lt (k n : Nat) (hn : 1 ≤ n) : ∃ c : Nat, c < n ∧ chainV k n = c := by
  have := chainV_lt k n (by omega)
  exact ⟨(chainV k n).toNat, by omega, by omega⟩
theorem tab_start (w : World) (n : Nat) (h1 : 1 ≤ n) (h4 : n ≤ 4) : ∃ vs : List Value, madeCells (Value.slice none 0 0).cells (n * 1) = ⟨vs⟩ ∧ vs.length = n ∧ ∀ v ∈ vs, v = .slice none 0 0 := by
  refine ⟨(madeCells (Value.slice none 0 0).cells (n * 1)).toList, rfl, by simp [madeCells], fun v hv => ?_⟩
  simp only [madeCells, Array.toList_map, List.mem_map] at hv
  obtain ⟨x, _, rfl⟩ := hv
  show (#[Value.slice none 0 0] : Array Value)[x % 1]! = _
  rw [Nat.mod_one]
  rfl
theorem mkL_any (cB n : Nat) (w : World) (h1 : 1 ≤ n) (h4 : n ≤ 4) (hc : Blk w cB 3 #[.int .i64 n]) :
    Calls Try.prog 29 #[.pointer (some ⟨cB, 0, none⟩)] w fun e w' => ∃ vs, e = .returned (.slice (some ⟨w.heap.size, 0, none⟩) n n) ∧ TabR w' w.heap.size n 256 vs ∧ Below w.heap.size w w' := by
  obtain ⟨i0, hi, hz0, hz1, hz2⟩ := info_parts i64Info
  obtain ⟨r0, ri, rz0, rz1, rz2⟩ := info_parts rowInfo
  obtain ⟨vs0, hv0, hvl, hva⟩ := tab_start w n h1 h4
  have hmk : ∀ W : World, (Instr.makeSlice 56 (.int .i64 (n : Int)) (.int .i64 (n : Int))).run Try.prog W = .ok (.slice (some ⟨W.heap.size, 0, none⟩) n n) (W.alloc (.cells (madeCells (Value.slice none 0 0).cells (n * r0.size)) 33)) :=
    fun W => run_make_rowN _ _ r0 _ Try.underlying56 ri rz0 _ _ n n (Nat.le_refl _) (by rw [rz2]; omega) (by omega) W
  rw [rz1, hv0] at hmk
  have T0 : Hid (TabR (w.alloc (.cells ⟨vs0⟩ 33)) w.heap.size n 0 vs0) := Lib.hid ⟨Blk.new _ _ _, hvl, fun j v hj => by
    rw [hva v (List.mem_of_getElem? hj)]
    exact World.ownsRow_nil _ _ _ _, fun i j u v _ hi _ b hb => by
    rw [hva u (List.mem_of_getElem? hi)] at hb
    simp [Value.ownBlock] at hb⟩
  have B0 : Hid (Below w.heap.size w (w.alloc (.cells ⟨vs0⟩ 33))) := Lib.hid ((Below.refl _ _).alloc (Nat.le_refl _) _)
  have HC := Lib.hid hc
  have c0 : w.cell? ⟨cB, 0, none⟩ = some (.int .i64 n) := hc.cell 0
  have hcl := hc.lt
  clear hc hva hvl hv0
  go_enter Try.func29, Try.ntmps29
  go_wp2_with (fail)
  go_loopw [3, 4, 7] (fun _ _ i wr => ∃ (k : Nat) (vs : List Value), k ≤ 256 ∧ i = .int .i64 k ∧ Hid (TabR wr w.heap.size n k vs) ∧ Hid (Below w.heap.size w wr)) (fun _ _ i _ => 256 - (intOf i).toNat)
  case atStart => exact ⟨0, vs0, by omega, rfl, T0, B0⟩
  case round =>
    clear T0 B0 c0
    obtain ⟨k, vs, hk, rfl, T, HB⟩ := hrel
    have hsz := HB.out.size
    by_cases hlt : k < 256
    · have hlt' : (k : Int) < 256 := by omega
      obtain ⟨c, hcn, hcv⟩ := chain_lt k n h1
      have CH := chain_any k (by omega) n (by omega)
      rw [hcv] at CH
      have HCV := Lib.hid hcv
      have c0 : wr.cell? ⟨cB, 0, none⟩ = some (.int .i64 n) := (HC.out.below HB.out hcl).cell 0
      have hwk : IntKind.u32.wrap (k : Int) = k := by rw [IntKind.wrap_u32]; omega
      have hcn' : (c : Int) < n := by omega
      obtain ⟨vc, hvc⟩ : ∃ vc, vs[c]? = some vc := ⟨_, List.getElem?_eq_getElem (by rw [T.out.len]; exact hcn)⟩
      have HVC := Lib.hid hvc
      have d0 : wr.cell? ⟨w.heap.size, c, none⟩ = some vc := (T.out.blk.cell c).trans (by simpa using hvc)
      have hll := lowL_len n c k
      have OWN := Lib.hid (T.out.own c vc hvc)
      clear hcv hvc
      go_wp2_with (first
        | (go_at_call 6; refine (CH _).mono ?_; rintro e w' ⟨rfl, rfl⟩)
        | (at_builtin; go_must (refine wpList_append_any _ rfl (.tmp 19) (.tmp 21) _ rfl (w.heap.size + 1) 3 i0 _ 1 8 Try.underlying33 hi hz0 hz1 hz2 rfl (by omega) vc _ _ rfl (OWN.out.alloc _) (wr.heap.size + 1) (some ⟨wr.heap.size, 0, none⟩) 1 1 [.int .i64 k] rfl ?c0 ?c1 ?c2 ?c3 ?c4 ?_)))
      case c0 => exact ⟨rfl, fun _ => ⟨_, rfl, by simp, fun j u hu => cells_new _ _ _ j u hu⟩⟩
      case c1 => intro u hu; simp at hu; subst hu; rfl
      case c2 => unfold maxLen; omega
      case c3 => omega
      case c4 => simp; have := T.out.blk.lt; omega
      intro v' w1 hown hg hat
      obtain ⟨A1, cc1, rfl, _, _, _⟩ := own_slice hown
      have P := Lib.hid (T.out.put HVC.out HCV.out hown hg (by simpa using hat))
      have HB1 := Lib.hid (T.out.bel (v' := .slice A1 ((lowL n c k).length + 1) cc1) HVC.out hg HB.out rfl)
      have hgn : some w.heap.size ≠ vc.ownBlock := fun e => by have := (OWN.out.lt _ e.symm).1; omega
      have b1 := (T.out.blk.alloc (.cells #[.int .i64 k] 3)).grown hg hgn
      have d1 : w1.cell? ⟨w.heap.size, c, none⟩ = some vc := (b1.cell c).trans (by simpa using HVC.out)
      have f1 := b1.frozen c
      clear hown hg hat b1 d0 OWN T
      go_wp2_with (fail)
      exact ⟨⟨k + 1, _, by omega, by congr 1, P, HB1⟩, by simp [intOf]; omega⟩
    · obtain rfl : k = 256 := by omega
      go_wp2_with (fail)
      go_ret
      exact ⟨vs, rfl, T.out, HB.out⟩
end Go.Proofs.Ytidfnajbanjnaaa
