/- catenaryref09.Begin. -/
import Derived.Test.YtnnegldaekmgbaaGreatDoorZAtlF
namespace Go.Proofs.YtnnegldaekmgbaaGreatDoor
open Go.RowKit
set_option linter.unusedSimpArgs false
set_option linter.unusedVariables false
set_option maxHeartbeats 8000000
set_option maxRecDepth 100000
attribute [local go_sem] Cf.agg Cf.cells

theorem own_own_ne {w : World} {b b' : Nat} {e e' : TypeId} {s s' n n' : Nat} {v v' : Value} {xs xs' : List Value} (h : w.ownsRow b e s v n xs) (h' : w.ownsRow b' e' s' v' n' xs') (hne : e ≠ e') : v.ownBlock = none ∨ v.ownBlock ≠ v'.ownBlock := by
  rcases h.2 with ⟨rfl, _⟩ | ⟨g, cap, cur, rfl, _, hg, _⟩
  · exact .inl rfl
  · exact .inr fun e1 => own_blk_ne h' hg (Ne.symm hne) e1.symm
theorem CfOwn.grown {w w' : World} {base b s n : Nat} {v : Value} {xs : List Value} {x : Cf} (h : CfOwn w base x) (hg : w.grownBy w' v.ownBlock) (ho : w.ownsRow b 44 s v n xs) : CfOwn w' base x :=
  h.kept hg (own_own_ne h ho (by decide))
def nodesI (a m : Nat) : List Int := (List.range m).map fun j => ((a + j + 1 : Nat) : Int)
theorem nodesI_succ (a m : Nat) : nodesI a (m + 1) = nodesI a m ++ [((a + m + 1 : Nat) : Int)] := by unfold nodesI; rw [List.range_succ, List.map_append]; rfl
theorem nodesI_len (a m : Nat) : (nodesI a m).length = m := by unfold nodesI; simp
def begV (per i : Nat) : Int × Int × List Int × Bool × Int := ((i : Int), 1, nodesI (i * per) per, false, 0)
structure InRel (W : World) (i a k : Nat) (u : Value) (V : World) : Prop where
  box : Blk V W.heap.size 44 #[.int .i64 i, .int .u64 1, u, .bool false, .int .i64 0]
  own : V.ownsRow (W.heap.size + 1) 3 1 u k ((nodesI a k).map (Value.int .i64))
  bel : Below W.heap.size W V
theorem InRel.put {W V w1 : World} {i a k : Nat} {u v : Value} {ob : Obj} (h : InRel W i a k u V) (hown : w1.ownsRow (W.heap.size + 1) 3 1 v (k + 1) ((nodesI a k).map (Value.int .i64) ++ [.int .i64 ((a : Int) + k + 1)])) (hg : (V.alloc ob).grownBy w1 u.ownBlock) :
    InRel W i a (k + 1) v (w1.setCell ⟨W.heap.size, 2, none⟩ v) := by
  have hn : some W.heap.size ≠ u.ownBlock := fun e => by have := (h.own.lt _ e.symm).1; omega
  refine ⟨?_, ?_, ?_⟩
  · exact ((h.box.alloc ob).grown hg hn).set_ 2 v
  · refine ownsRow_setCell_below ?_ (by simp) _
    rw [nodesI_succ, List.map_append]
    exact hown
  · exact ((h.bel.alloc h.bel.size ob).grown hg (by have := h.bel.size; simp; omega) (fun j hj => by have := (h.own.lt _ hj).1; omega)).setCell (by simp) _
structure BgRel (w : World) (per i : Nat) (v : Value) (l : List Cf) (W : World) : Prop where
  own : W.ownsRow w.heap.size 44 5 v l.length (l.flatMap Cf.row)
  len : l.length = i
  val : l.map Cf.val = (List.range i).map (begV per)
  mem : ∀ x ∈ l, CfOwn W w.heap.size x
  bel : Below w.heap.size w W
theorem BgRel.put {w W V w1 : World} {per i a : Nat} {v v1 : Value} {l : List Cf} {A : Option Addr} {c : Nat} {ob : Obj} (h : BgRel w per i v l W) (ha : a = i * per) (hi : InRel W i a per (.slice A per c) V)
    (hown : w1.ownsRow w.heap.size 44 5 v1 (l.length + 1) (l.flatMap Cf.row ++ [.int .i64 i, .int .u64 1, .slice A per c, .bool false, .int .i64 0])) (hg : (V.alloc ob).grownBy w1 v.ownBlock) :
    BgRel w per (i + 1) v1 (l ++ [⟨i, 1, A, per, c, false, 0, nodesI a per⟩]) w1 := by
  have hs := h.bel.size
  have hsV := hi.bel.size
  have hov : V.ownsRow w.heap.size 44 5 v l.length (l.flatMap Cf.row) := h.own.kept (only_of_below hi.bel none) (by cases v.ownBlock <;> simp)
  have hoA := hov.alloc ob
  refine ⟨?_, ?_, ?_, ?_, ?_⟩
  · rw [List.length_append, List.flatMap_append, List.flatMap_singleton]; exact hown
  · rw [List.length_append, h.len]; rfl
  · rw [List.map_append, h.val, List.range_succ, List.map_append]
    subst ha
    rfl
  · intro x hx
    rw [List.mem_append, List.mem_singleton] at hx
    rcases hx with hx | rfl
    · exact (((h.mem x hx).later hi.bel (Nat.le_refl _)).later ((Below.refl _ _).alloc (Nat.le_refl _) _) (Nat.le_refl _)).grown hg hoA
    · have : CfOwn (V.alloc ob) w.heap.size ⟨i, 1, A, per, c, false, 0, nodesI a per⟩ := own_mono (hi.own.alloc ob) (by omega)
      exact this.grown hg hoA
  · exact ((h.bel.trans (hi.bel.mono hs)).alloc (by omega) ob).grown hg (by simp; omega) (fun j hj => (h.own.lt j hj).1)
theorem begin_any (m per : Nat) (w : World) (h1 : 1 ≤ m) (h2 : m ≤ 4) (h3 : 1 ≤ per) (h4 : per ≤ 5) :
    Calls Tryz.prog 9 #[.int .i64 m, .int .i64 per] w fun e w' => ∃ v l, e = .returned (.tuple #[v, .int .i64 0]) ∧ BgRel w per m v l w' := by
  obtain ⟨i0, hi, hz0, hz1, hz2⟩ := info_parts i64Info
  obtain ⟨c0, hci, hcz0, hcz1, hcz2⟩ := info_parts confInfo
  go_enter Tryz.func9, Tryz.ntmps9
  go_wp2
  go_loopw [6, 7, 8] (fun v n i wr => ∃ (k a : Nat) (l : List Cf), k ≤ m ∧ n = .int .i64 a ∧ i = .int .i64 k ∧ Hid (a = k * per) ∧ a ≤ 20 ∧ BgRel w per k v l wr) (fun _ _ i _ => m - (intOf i).toNat)
  case atStart => exact ⟨0, 0, [], by omega, rfl, rfl, Lib.hid (by simp), by omega, ⟨World.ownsRow_nil _ _ _ _, rfl, rfl, by simp, Below.refl _ _⟩⟩
  case round =>
    obtain ⟨k, a, l, hk, rfl, rfl, ha, ha20, hrel⟩ := hrel
    have HP := Lib.hid hrel
    have hsz := hrel.bel.size
    have hll := hrel.len
    clear hrel
    by_cases hlt : k < m
    · have ha2 : Hid (a + per = (k + 1) * per ∧ a + per ≤ 20) := Lib.hid (by
        have h5 := Nat.mul_le_mul (show k + 1 ≤ 4 by omega) h4
        have h6 : (k + 1) * per = k * per + per := Nat.succ_mul k per
        rw [ha.out]; omega)
      rename World => W
      go_wp2_with (fail)
      go_loopw [7, 10] (fun n j wv => ∃ (t : Nat) (u : Value), t ≤ per ∧ n = .int .i64 ((a : Int) + t) ∧ j = .int .i64 t ∧ InRel W k a t u wv) (fun _ j _ => per - (intOf j).toNat)
      case atStart => exact ⟨0, _, Nat.zero_le _, by simp, rfl, ⟨Blk.new _ _ _, World.ownsRow_nil _ _ _ _, (Below.refl _ _).alloc (Nat.le_refl _) _⟩⟩
      case round =>
        obtain ⟨t, u, ht, rfl, rfl, hin⟩ := hrel
        have HI := Lib.hid hin
        have hsv := hin.bel.size
        have hbl := hin.box.lt
        have c2 : wr.cell? ⟨W.heap.size, 2, none⟩ = some u := hin.box.cell 2
        clear hin
        by_cases htp : t < per
        · go_wp2_with (at_builtin; go_must (refine wpList_append_any _ rfl (.tmp 40) (.tmp 42) _ rfl (W.heap.size + 1) 3 i0 _ 1 8 Tryz.underlying42 hi hz0 hz1 hz2 rfl (by omega) u t _ rfl (HI.out.own.alloc _) (wr.heap.size + 1) (some ⟨wr.heap.size, 0, none⟩) 1 1 [.int .i64 ((a : Int) + t + 1)] rfl ?c0 ?c1 ?c2 ?c3 ?c4 ?_))
          case c0 => exact ⟨rfl, fun _ => ⟨_, rfl, by simp, fun j u hu => cells_new _ _ _ j u hu⟩⟩
          case c1 => intro u hu; simp at hu; subst hu; rfl
          case c2 => unfold maxLen; omega
          case c3 => omega
          case c4 => simp; omega
          intro v w1 hown hg _
          obtain ⟨A1, cc1, rfl, _, _, _⟩ := own_slice hown
          have hn : some W.heap.size ≠ u.ownBlock := fun e => by have := (HI.out.own.lt _ e.symm).1; omega
          have b1 := (HI.out.box.alloc _).grown hg hn
          have d2 : w1.cell? ⟨W.heap.size, 2, none⟩ = some u := b1.cell 2
          have f2 := b1.frozen 2
          have P := Lib.hid (HI.out.put hown hg)
          clear hown hg b1 c2
          go_wp2_with (fail)
          exact ⟨⟨t + 1, _, htp, by congr 1, rfl, P.out⟩, by simp [intOf]; omega⟩
        · obtain rfl : t = per := by omega
          obtain ⟨A1, cc1, rfl, _, _, _⟩ := own_slice HI.out.own
          have k0 : wr.cell? ⟨W.heap.size, 0, none⟩ = some (.int .i64 k) := HI.out.box.cell 0
          have k1 : wr.cell? ⟨W.heap.size, 1, none⟩ = some (.int .u64 1) := HI.out.box.cell 1
          have k3 : wr.cell? ⟨W.heap.size, 3, none⟩ = some (.bool false) := HI.out.box.cell 3
          have k4 : wr.cell? ⟨W.heap.size, 4, none⟩ = some (.int .i64 0) := HI.out.box.cell 4
          have OWN := Lib.hid (HP.out.own.kept (only_of_below HI.out.bel none) (by cases u6.ownBlock <;> simp))
          go_wp2_with (at_builtin; go_must (refine wpList_append_any _ rfl (.tmp 45) (.tmp 47) _ rfl w.heap.size 44 c0 _ 5 56 Tryz.underlying28 hci hcz0 hcz1 hcz2 rfl (by omega) u6 l.length _ rfl (OWN.out.alloc _) (wr.heap.size + 1) (some ⟨wr.heap.size, 0, none⟩) 1 1 [.int .i64 k, .int .u64 1, .slice A1 t cc1, .bool false, .int .i64 0] rfl ?c0 ?c1 ?c2 ?c3 ?c4 ?_))
          case c0 => exact ⟨rfl, fun _ => ⟨_, rfl, by simp, fun j u hu => cells_new _ _ _ j u hu⟩⟩
          case c1 => intro u hu; simp at hu; rcases hu with rfl | rfl | rfl | rfl | rfl <;> rfl
          case c2 => unfold maxLen; omega
          case c3 => omega
          case c4 => simp; omega
          intro v w1 hown hg _
          rw [show k + 1 = l.length + 1 by rw [hll]] at hown
          have P := Lib.hid (HP.out.put ha.out HI.out hown hg)
          clear hown hg k0 k1 k3 k4 c2
          go_wp2_with (fail)
          exact ⟨⟨k + 1, a + t, _, hlt, by simp, rfl, Lib.hid ha2.out.1, ha2.out.2, P.out⟩, by simp [intOf]; omega⟩
    · obtain rfl : k = m := by omega
      go_wp2_with (fail)
      go_ret2
      exact ⟨_, l, rfl, HP.out⟩
end Go.Proofs.YtnnegldaekmgbaaGreatDoor
