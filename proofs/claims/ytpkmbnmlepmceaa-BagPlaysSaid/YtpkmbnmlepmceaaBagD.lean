/- All: who goes through a bag. -/
import Derived.RangeFuncNested
import Derived.RangeFuncBound
import Derived.RangeFuncCalls
import Derived.RangeFuncLeaves
import Derived.RangeFuncBox
import Derived.OwnWalkIn
import Derived.TacticsInMore
import Derived.LoopNIn
import Derived.LoopIn
import Derived.Test.YtpkmbnmlepmceaaBagC
namespace Go.Proofs.Ytpkmbnmlepmceaa
open Go.RowKit Go.Shelf
attribute [local go_sem] Oper.semAt_some
set_option linter.unusedSimpArgs false
set_option linter.unusedVariables false
set_option maxHeartbeats 8000000
set_option maxRecDepth 100000

/-- the block of the row that a cell holds -/
def rowOf (W : World) (p : Addr) : Option Nat := match W.cell? p with | some v => v.ownBlock | none => none
/-- what a round keeps: cells from n₁ on, but for the row that the cell p holds -/
structure BKp (n₁ : Nat) (p : Addr) (W W' : World) : Prop where
  size : W.heap.size ≤ W'.heap.size
  block : ∀ (k : Nat) (o : Obj), n₁ ≤ k → W.heap[k]? = some o → o.isCells = true → rowOf W p ≠ some k → W'.heap[k]? = some o
  row : ∀ k, rowOf W' p = some k → rowOf W p = some k ∨ W.heap.size ≤ k
theorem BKp.trans {n₁ : Nat} {p : Addr} {A B C : World} (h : BKp n₁ p A B) (k : BKp n₁ p B C) : BKp n₁ p A C := by
  refine ⟨Nat.le_trans h.size k.size, fun i o hi ho hc hr => ?_, fun i hi => ?_⟩
  · have hl : i < A.heap.size := (Array.getElem?_eq_some_iff.1 ho).1
    refine k.block i o hi (h.block i o hi ho hc hr) hc (fun e => ?_)
    rcases h.row i e with h1 | h1
    · exact hr h1
    · omega
  · rcases k.row i hi with h1 | h1
    · exact h.row i h1
    · exact .inr (Nat.le_trans h.size h1)
theorem BKp.putObj {n₁ : Nat} {p : Addr} {W : World} {l : Nat} {o : Obj} (o' : Obj) (hl : W.heap[l]? = some o) (ho : o.isCells = false) (hp : p.block ≠ l) : BKp n₁ p W (W.putObj l o') := by
  have hrow : rowOf (W.putObj l o') p = rowOf W p := by
    unfold rowOf
    rw [show (W.putObj l o').cell? p = W.cell? p from World.cell?_of_block (World.putObj_heap_other hp)]
  refine ⟨by simp, fun k x _ hx hc _ => ?_, fun k hk => .inl (by rw [← hrow]; exact hk)⟩
  rw [World.putObj_heap_other (fun e => ?_)]
  · exact hx
  · subst e; rw [hl] at hx; injection hx with hx; subst hx; rw [ho] at hc; cases hc
theorem BKp.of_below {n₁ : Nat} {p : Addr} {W W' : World} (h : Below W.heap.size W W') (hp : p.block < W.heap.size) : BKp n₁ p W W' := by
  have hrow : rowOf W' p = rowOf W p := by unfold rowOf; rw [h.cell hp]
  exact ⟨h.size, fun k o _ ho _ _ => (h.block k (Array.getElem?_eq_some_iff.1 ho).1).trans ho, fun k hk => .inl (by rw [← hrow]; exact hk)⟩
/-- a bag that is changed is kept so -/
theorem BKp.of_step {n₁ g : Nat} {w w' : World} {v v' : Value} {s s' : Bg} (h : BStep w w' g v v') (ha : BagAt w g v s) (hb : BagAt w' g v' s') (hn : g < n₁) : BKp n₁ ⟨g, 2, none⟩ w w' := by
  have r1 : rowOf w ⟨g, 2, none⟩ = v.ownBlock := by unfold rowOf; rw [(bag_cells ha).2.2]
  have r2 : rowOf w' ⟨g, 2, none⟩ = v'.ownBlock := by unfold rowOf; rw [(bag_cells hb).2.2]
  refine ⟨h.chg.size, fun k o hk ho _ hr => ?_, fun k hk => ?_⟩
  · rw [h.chg.block k (Array.getElem?_eq_some_iff.1 ho).1 (fun hs => ?_)]
    · exact ho
    · rcases hs with hs | hs
      · omega
      · exact hr (by rw [r1]; exact hs)
  · rw [r2] at hk
    rw [r1]
    exact h.row k hk

theorem own_mono {w : World} {base base' : Nat} {e : TypeId} {size : Nat} {v : Value} {n : Nat} {xs : List Value} (h : w.ownsRow base e size v n xs) (hb : base' ≤ base) : w.ownsRow base' e size v n xs := by
  refine ⟨h.1, ?_⟩
  rcases h.2 with h0 | ⟨g, cap, cur, hv, hg, hr⟩
  · exact .inl h0
  · exact .inr ⟨g, cap, cur, hv, by omega, hr⟩
theorem clone_any (A : Option Addr) (n c B : Nat) (l : List (Int × Int)) (w : World) (hB : B ≤ w.heap.size) (hr : Reads w B 2 A n (l.flatMap itc)) (hn : n ≤ 1000000) :
    Calls Try.prog 24 #[.slice A n c] w fun e w' => ∃ v, e = .returned v ∧ w'.ownsRow w.heap.size 54 2 v n (l.flatMap itc) ∧ Below w.heap.size w w' := by
  obtain ⟨i0, hi, hz0, hz1, hz2⟩ := info_parts itInfo
  have HR := Lib.hid hr
  have hnil := fun w => Lib.run_eql_slice_nil (P := Try.prog) w 50 54 A n c 0 0 Try.underlying50
  rcases A with _ | ad
  · have h0 : n = 0 := by
      rcases Nat.eq_zero_or_pos n with h | h
      · exact h
      · obtain ⟨ad, h, _⟩ := hr.2 h; cases h
    subst h0
    have hb0 : l.flatMap itc = [] := List.eq_nil_of_length_eq_zero (by have := hr.1; simpa using this)
    rw [hb0]
    clear hr HR
    go_enter Try.func24, Try.ntmps24
    go_wp2
    go_ret
    exact ⟨_, rfl, World.ownsRow_nil _ _ _ _, Below.refl _ _⟩
  · clear hr
    have h1 : ∀ u ∈ l.flatMap itc, u.oneCell' = true := by
      intro u hu
      rw [List.mem_flatMap] at hu
      obtain ⟨p, _, hp⟩ := hu
      exact itc_one p u hp
    go_enter Try.func24, Try.ntmps24
    go_wp2_with (at_builtin; go_must (refine wpList_append_any _ rfl (.tmp 5) (.tmp 6) _ rfl w.heap.size 54 i0 _ 2 16 Try.underlying50 hi hz0 hz1 hz2 rfl (by omega) _ _ _ rfl (World.ownsRow_made w #[] 0 (Nat.le_refl _) (by decide) rfl) B (some ad) n c (l.flatMap itc) rfl (Reads.alloc HR.out hB _) ?c1 ?c2 ?c3 ?c4 ?_))
    case c1 => exact h1
    case c2 => unfold maxLen; omega
    case c3 => omega
    case c4 => simp
    intro v1 w1 hown hg hat
    have HO := Lib.hid hown
    have HG := Lib.hid hg
    clear hown hg hat hnil
    go_wp2
    go_ret
    refine ⟨_, rfl, by simpa using HO.out, ((Below.refl _ _).alloc (Nat.le_refl _) _).grown HG.out (by simp) (fun k hk => ?_)⟩
    simp [Value.ownBlock] at hk
    omega
theorem all_any (p : Option Addr) (w : World) :
    Calls Try.prog 9 #[.pointer p] w fun e w' => e = .returned (.func (.func 23) #[] #[.pointer (some ⟨w.heap.size, 0, none⟩)]) ∧ w' = w.alloc (.cells #[.pointer p] 23) := by
  have hmf : ∀ (fn : Fn) (first cap : Array Value) (w : World), (Instr.makeFunc fn first cap).run Try.prog w = .ok (.func fn first cap) w := fun _ _ _ _ => rfl
  go_enter Try.func9, Try.ntmps9
  go_wp2
  go_ret
  exact ⟨rfl, rfl⟩
/-- the copy that an iterator goes through -/
structure ClnAt (n₁ : Nat) (p : Addr) (A : Option Addr) (c : Nat) (l : List (Int × Int)) (W : World) : Prop where
  own : W.ownsRow n₁ 54 2 (.slice A l.length c) l.length (l.flatMap itc)
  far : ∀ k, (Value.slice A l.length c).ownBlock = some k → rowOf W p ≠ some k
  lt : p.block < W.heap.size
theorem ClnAt.kp {n₁ c : Nat} {p : Addr} {A : Option Addr} {l : List (Int × Int)} {W W' : World} (h : ClnAt n₁ p A c l W) (hk : BKp n₁ p W W') : ClnAt n₁ p A c l W' := by
  refine ⟨own_block_same h.own (fun k e => ?_), fun k e e' => ?_, Nat.lt_of_lt_of_le h.lt hk.size⟩
  · obtain ⟨h1, h2⟩ := h.own.lt k e
    rcases h.own.2 with ⟨h0, _⟩ | ⟨g, cap, cur, hv, _, hg, _⟩
    · rw [h0] at e; cases e
    · have : g = k := by rw [hv] at e; injection e
      subst this
      exact (hk.block g _ h1 hg rfl (h.far g e)).trans hg.symm
  · rcases hk.row k e' with h1 | h1
    · exact h.far k e h1
    · have := (h.own.lt k e).2; omega
def encI (x : Int × Int) : Array Value := #[.int .i64 x.1, .int .i64 x.2]
theorem all1_in (n : Nat) (hn : 1 ≤ n) (l Bs g n₁ : Nat) (p : Addr) (v : Value) (s : Bg) (hlen : s.l.length ≤ 1000000) (J Jx : List (Int × Int) → World → Prop) (W : World) (hJ : AbidesFrom W.heap.size J)
    (hY : ∀ pre x W, J pre W → pre.length < s.l.length → YieldAt Fence.wide (n - 1) Try.prog l (encI x) W fun e W' =>
      (e = .returned (.bool true) ∧ J (pre ++ [x]) W' ∧ BKp n₁ p W W') ∨ (e = .returned (.bool false) ∧ Jx (pre ++ [x]) W'))
    (hBs : W.cell? ⟨Bs, 0, none⟩ = some (.pointer (some ⟨g, 0, none⟩))) (hb : BagAt W g v s) (hp : p.block < W.heap.size) (hrow : ∀ k, rowOf W p = some k → k < W.heap.size) (hn1 : n₁ ≤ W.heap.size) (h0 : J [] W) :
    CallsIn Fence.wide n Try.prog 23 #[.func (.yield l) #[] #[], .pointer (some ⟨Bs, 0, none⟩)] W fun e W' => (∃ v, e = .returned v) ∧
      ((∃ ys, ys = s.l ∧ J ys W') ∨ (∃ pre, pre <+: s.l ∧ Jx pre W')) := by
  obtain ⟨A, c, rfl, hr, _, _⟩ := hb.form
  obtain ⟨c0, c1, c2⟩ := bag_cells hb
  have HR := Lib.hid hr
  have H0 := Lib.hid h0
  have HJ := Lib.hid hJ
  have hrw := Lib.hid hrow
  have hlen' : (s.l.length : Int) ≤ 1000000 := by omega
  clear hb hr h0 hJ hrow
  refine callsIn_of_wp Try.func23 rfl trivial ?_ rfl
  simp only [Try.ntmps23, List.size_toArray, List.length_cons, List.length_nil, Nat.reduceAdd, Nat.reduceSub, Array.replicate_succ, Array.replicate_zero, List.push_toArray, List.append_toArray, List.nil_append, List.cons_append]
  gi_wp2_with (refine ⟨trivial, ?_⟩; gi_at_call 24; refine (callsIn_wide.2 (clone_any A s.l.length c W.heap.size s.l _ (Nat.le_refl _) HR.out hlen)).mono ?_; rintro e w2 ⟨v2, rfl, ho, hbel⟩; obtain ⟨A2, cc2, rfl, _, _, _⟩ := own_slice ho)
  have HC : Hid (ClnAt n₁ p A2 cc2 s.l w2) := Lib.hid ⟨own_mono ho hn1, fun k e e' => by
    have h1 := (ho.lt k e).1
    have h2 : rowOf w2 p = rowOf W p := by unfold rowOf; rw [hbel.cell hp]
    rw [h2] at e'
    have := hrw.out k e'
    omega, Nat.lt_of_lt_of_le hp hbel.size⟩
  have HJ2 : Hid (J (s.l.take 0) w2) := Lib.hid (HJ.out [] W w2 none H0.out (only_of_below hbel none) (fun r e => by cases e))
  have hs2 := hbel.size
  clear ho hbel hrw H0 c0 c1 c2 hBs HR
  gi_loopw [4, 13] (fun _ i wr => ∃ k : Nat, k ≤ s.l.length ∧ i = .int .i64 k ∧ Hid (J (s.l.take k) wr) ∧ Hid (ClnAt n₁ p A2 cc2 s.l wr) ∧ W.heap.size ≤ wr.heap.size) (fun _ i _ => s.l.length - (intOf i).toNat)
  case atStart => exact ⟨0, Nat.zero_le _, rfl, HJ2, HC, hs2⟩
  case round =>
    clear HJ2 HC hs2
    obtain ⟨k, hk, rfl, HJk, HC, hs⟩ := hrel
    by_cases hlt : k < s.l.length
    · obtain ⟨b, off, q, rfl, hb, hq, d0, d1⟩ := it_at (Reads.of_own HC.out.own) hlt
      have hlt' : (k : Int) < s.l.length := by omega
      have HQ := Lib.hid hq
      have hbel : Below wr.heap.size wr (wr.alloc (.cells #[.int .i64 q.1, .int .i64 q.2] 54)) := (Below.refl _ _).alloc (Nat.le_refl _) _
      have hJa : J (s.l.take k) (wr.alloc (.cells #[.int .i64 q.1, .int .i64 q.2] 54)) := HJ.out _ _ _ none HJk.out (only_of_below hbel none) (fun r e => by cases e)
      obtain ⟨fn, tmps, assign, body, hy, hR⟩ := hY _ q _ hJa (by rw [List.length_take]; omega)
      have HC1 := Lib.hid (HC.out.kp (BKp.of_below hbel HC.out.lt))
      dsimp only [encI] at hy
      clear hJa hq HC HJk hbel
      gi_wp2
      refine hR.mono ?_
      rintro e W3 (⟨rfl, hJ3, hk3⟩ | ⟨rfl, hJx3⟩)
      · have HC3 := Lib.hid (HC1.out.kp hk3)
        have hs3 := hk3.size
        have HJ3 : Hid (J (s.l.take (k + 1)) W3) := Lib.hid (by rw [List.take_add_one, HQ.out]; exact hJ3)
        simp at hs3
        clear hJ3 hk3
        gi_wp2
        go_roundw
        case rel => exact ⟨k + 1, by omega, by go_num, HJ3, HC3, by omega⟩
        case measure => simp [intOf]; omega
      · have hpf : s.l.take k ++ [q] <+: s.l := by
          have : s.l.take k ++ [q] = s.l.take (k + 1) := by rw [List.take_add_one, HQ.out]; rfl
          rw [this]; exact List.take_prefix _ _
        gi_wp2
        refine bodyPost_ret (results_none rfl _ _ _) rfl ?_
        exact ⟨⟨_, rfl⟩, .inr ⟨_, hpf, hJx3⟩⟩
    · obtain rfl : k = s.l.length := by omega
      gi_wp2
      go_end0
      exact ⟨⟨_, rfl⟩, .inl ⟨_, rfl, by have := HJk.out; rwa [List.take_of_length_le (Nat.le_refl _)] at this⟩⟩
/-- 'b.All()' hands back a value that goes through what the bag has there -/
theorem all_stops (n : Nat) (hn : 1 ≤ n) (Bs g n₁ : Nat) (p : Addr) (v : Value) (s : Bg) (hlen : s.l.length ≤ 1000000) (w : World) (hBl : Bs < w.heap.size) (hBs : w.cell? ⟨Bs, 0, none⟩ = some (.pointer (some ⟨g, 0, none⟩))) (hb : BagAt w g v s)
    (hp : p.block < w.heap.size) (hrow : ∀ k, rowOf w p = some k → k < w.heap.size) (hn1 : n₁ ≤ w.heap.size) :
    SeqStopsK Fence.wide n Try.prog 23 #[.pointer (some ⟨Bs, 0, none⟩)] encI (BKp n₁ p) (fun ys => ys = s.l) (fun pre => pre <+: s.l) s.l.length w := fun l J Jx W hW hJ _ hY h0 => by
  refine (all1_in n hn l Bs g n₁ p v s hlen J Jx W hJ hY ((hW.cell (p := ⟨Bs, 0, none⟩) hBl).trans hBs) (hb.below hW) (Nat.lt_of_lt_of_le hp hW.size) (fun k hk => ?_) (Nat.le_trans hn1 hW.size) h0).mono ?_
  · have h2 : rowOf W p = rowOf w p := by unfold rowOf; rw [hW.cell hp]
    rw [h2] at hk
    exact Nat.lt_of_lt_of_le (hrow k hk) hW.size
  · rintro e W' ⟨he, ⟨ys, rfl, hj⟩ | ⟨pre, hpre, hj⟩⟩
    · exact ⟨he, .inl ⟨_, rfl, hj⟩⟩
    · exact ⟨he, .inr ⟨_, hpre, hj⟩⟩
end Go.Proofs.Ytpkmbnmlepmceaa
