/- conf.Copy: configurations in memory of the call's own. -/
import Derived.Test.YtnnegldaekmgbaaGreatDoorZAtlA
namespace Go.Proofs.YtnnegldaekmgbaaGreatDoor
open Go.RowKit
set_option linter.unusedSimpArgs false
set_option linter.unusedVariables false
set_option maxHeartbeats 8000000
set_option maxRecDepth 100000
attribute [local go_sem] Cf.agg Cf.cells

theorem set_splice (l : List Value) (o : Nat) (v : Value) (vs : List Value) (h : o + (vs.length + 1) ≤ l.length) :
    (l.set o v).take (o + 1) ++ vs ++ (l.set o v).drop (o + 1 + vs.length) = l.take o ++ (v :: vs) ++ l.drop (o + (vs.length + 1)) := by
  rw [List.set_eq_take_append_cons_drop, if_pos (by omega)]
  have h1 : (l.take o).length = o := by rw [List.length_take]; omega
  have e1 : (l.take o ++ v :: l.drop (o + 1)).take (o + 1) = l.take o ++ [v] := by
    rw [List.take_append, h1, show o + 1 - o = 1 from by omega, List.take_of_length_le (by omega)]; rfl
  have e2 : (l.take o ++ v :: l.drop (o + 1)).drop (o + 1 + vs.length) = l.drop (o + (vs.length + 1)) := by
    rw [List.drop_append, h1, List.drop_of_length_le (by omega), show o + 1 + vs.length - o = vs.length + 1 from by omega, List.drop_succ_cons, List.drop_drop, List.nil_append]
    congr 1; omega
  rw [e1, e2]; simp
theorem Blk.sets {g : Nat} {t : TypeId} : ∀ (vs : List Value) (o : Nat) (w : World) (l : List Value), Blk w g t ⟨l⟩ → o + vs.length ≤ l.length → Blk (w.setCells g o vs) g t ⟨l.take o ++ vs ++ l.drop (o + vs.length)⟩
  | [], o, w, l, h, _ => by simpa [World.setCells] using h
  | v :: vs, o, w, l, h, hl => by
    have h1 : Blk (w.setCell ⟨g, o, none⟩ v) g t ⟨l.set o v⟩ := by simpa using h.set_ o v
    have h2 := Blk.sets vs (o + 1) _ _ h1 (by rw [List.length_set]; simp at hl; omega)
    rw [set_splice l o v vs (by simpa using hl)] at h2
    exact h2

theorem confInfo : (Tryz.prog.info? 44).map (fun i => (i.zero, i.size, i.bytes)) = some (some (.agg #[.int .i64 0, .int .u64 0, .slice none 0 0, .bool false, .int .i64 0]), 5, 56) := by kernel_rfl
theorem CfOwn.later {w w' : World} {base base' : Nat} {x : Cf} (h : CfOwn w base x) (hb : Below w.heap.size w w') (hB : base' ≤ base) : CfOwn w' base' x :=
  own_mono (h.kept (only_of_below hb none) (by cases (Value.slice x.A x.len x.cap).ownBlock <;> simp)) hB
structure CpRel (w : World) (l : List Cf) (n k : Nat) (o : List Cf) (rest : List Value) (W : World) : Prop where
  blk : Blk W w.heap.size 44 ⟨o.flatMap Cf.row ++ rest⟩
  len : o.length = k
  val : o.map Cf.val = (l.take k).map Cf.val
  rl : rest.length = (n - k) * 5
  own : ∀ x ∈ o, CfOwn W (w.heap.size + 1) x
  bel : Below w.heap.size w W
theorem CpRel.put {w wr w1 : World} {l o : List Cf} {n k : Nat} {rest : List Value} {u0 u1 u2 u3 u4 : Value} {x y : Cf} {t : TypeId} (h : CpRel w l n k o (u0 :: u1 :: u2 :: u3 :: u4 :: rest) wr) (hx : l[k]? = some x) (hv : y.val = x.val)
    (hb : Below (wr.alloc (.cells x.cells t)).heap.size (wr.alloc (.cells x.cells t)) w1) (ho : CfOwn w1 (wr.alloc (.cells x.cells t)).heap.size y) :
    CpRel w l n (k + 1) (o ++ [y]) rest (w1.setCells w.heap.size (k * 5) y.row) := by
  have hlt := h.blk.lt
  have hsz := hb.size
  simp only [World.size_alloc] at hsz
  have b1 := (h.blk.alloc (.cells x.cells t)).below hb (by simp; omega)
  have hfl : (o.flatMap Cf.row).length = k * 5 := by rw [flat_length Cf.row 5 Cf.row_len, h.len]
  have h5 : y.row.length = 5 := rfl
  have b2 := Blk.sets y.row (k * 5) w1 _ b1 (by simp [hfl, h5])
  have hkl : k < l.length := (List.getElem?_eq_some_iff.1 hx).1
  have hst : ∀ (vs : List Value) (j : Nat) (V : World) (z : Cf), CfOwn V (w.heap.size + 1) z → CfOwn (V.setCells w.heap.size j vs) (w.heap.size + 1) z := by
    intro vs
    induction vs with
    | nil => intro j V z hz; exact hz
    | cons a vs ih => intro j V z hz; exact ih _ _ _ (ownsRow_setCell_below hz (by simp) _)
  have hbe : ∀ (vs : List Value) (j : Nat) (V : World), Below w.heap.size w V → Below w.heap.size w (V.setCells w.heap.size j vs) := by
    intro vs
    induction vs with
    | nil => intro j V hz; exact hz
    | cons a vs ih => intro j V hz; exact ih _ _ (hz.setCell (by simp) _)
  refine ⟨?_, ?_, ?_, ?_, ?_, ?_⟩
  · have e1 : (o.flatMap Cf.row ++ u0 :: u1 :: u2 :: u3 :: u4 :: rest).take (k * 5) = o.flatMap Cf.row := by rw [← hfl]; simp
    have e2 : (o.flatMap Cf.row ++ u0 :: u1 :: u2 :: u3 :: u4 :: rest).drop (k * 5 + 5) = rest := by rw [← hfl, List.drop_append]; simp
    rw [h5, e1, e2] at b2
    rw [List.flatMap_append]
    simpa using b2
  · rw [List.length_append, h.len]; rfl
  · rw [List.map_append, h.val, List.take_add_one, hx, List.map_append]; simp [hv]
  · have := h.rl
    simp only [List.length_cons] at this
    have h1 : k < n := by omega
    rw [Nat.sub_mul] at this ⊢
    omega
  · intro z hz
    refine hst _ _ _ _ ?_
    rw [List.mem_append, List.mem_singleton] at hz
    rcases hz with hz | rfl
    · exact (((h.own z hz).later ((Below.refl _ _).alloc (Nat.le_refl _) _) (Nat.le_refl _))).later hb (Nat.le_refl _)
    · exact own_mono ho (by simp; omega)
  · exact hbe _ _ _ ((h.bel.alloc h.bel.size _).trans (hb.mono (by have := h.bel.size; simp; omega)))
theorem copy_any (A : Option Addr) (n c B : Nat) (l : List Cf) (w : World) (hl : CfsIn w B A n l) (hB : B ≤ w.heap.size) (hn : n ≤ 1000000) (hx : ∀ x ∈ l, x.len ≤ 1000000) :
    Calls Tryz.prog 105 #[.slice A n c] w fun e w' => ∃ o : List Cf, e = .returned (.slice (some ⟨w.heap.size, 0, none⟩) n n) ∧ CpRel w l n n o [] w' := by
  obtain ⟨i0, hi, hz0, hz1, hz2⟩ := info_parts confInfo
  have hmk : ∀ W : World, (Instr.makeSlice 28 (.int .i64 (n : Int)) (.int .i64 (n : Int))).run Tryz.prog W = .ok (.slice (some ⟨W.heap.size, 0, none⟩) n n) (W.alloc (.cells (madeCells (Value.agg #[.int .i64 0, .int .u64 0, .slice none 0 0, .bool false, .int .i64 0]).cells (n * i0.size)) 44)) :=
    fun W => run_make_rowN _ _ i0 _ Tryz.underlying28 hi hz0 _ _ n n (Nat.le_refl _) (by rw [hz2]; omega) (by omega) W
  rw [hz1] at hmk
  obtain ⟨rest0, hr0⟩ : ∃ rest0 : List Value, madeCells (Value.agg #[.int .i64 0, .int .u64 0, .slice none 0 0, .bool false, .int .i64 0]).cells (n * 5) = ⟨rest0⟩ := ⟨_, rfl⟩
  have hrl : rest0.length = n * 5 := by
    have := congrArg Array.size hr0
    simpa [madeCells] using this.symm
  rw [hr0] at hmk
  have HL := Lib.hid hl
  have HX := Lib.hid hx
  have HR := Lib.hid hrl
  clear hl hx hr0 hrl hz0 hz1 hz2
  go_enter Tryz.func105, Tryz.ntmps105
  go_wp2
  go_loopw [11] (fun i wr => ∃ (k : Nat) (o : List Cf) (rest : List Value), k ≤ n ∧ i = .int .i64 k ∧ CpRel w l n k o rest wr) (fun i _ => n - (intOf i).toNat)
  case atStart => exact ⟨0, [], rest0, Nat.zero_le _, rfl, Blk.new _ _ _, rfl, rfl, by rw [HR.out]; rfl, by simp, (Below.refl _ _).alloc (Nat.le_refl _) _⟩
  case round =>
    obtain ⟨k, o, rest, hk, rfl, hrel⟩ := hrel
    have HP := Lib.hid hrel
    clear hrel
    by_cases hlt : k < n
    · obtain ⟨b, off, x, hA, hb, hlx, hxin, q0, q1, q2, q3, q4⟩ := (HL.out.below (HP.out.bel.mono hB)).at_ hlt
      have HLX := Lib.hid hlx
      have HXI := Lib.hid hxin
      clear hlx hxin
      subst hA
      obtain ⟨u0, u1, u2, u3, u4, rest', hrest⟩ : ∃ u0 u1 u2 u3 u4 rest', rest = u0 :: u1 :: u2 :: u3 :: u4 :: rest' := by
        have h := HP.out.rl
        rcases rest with _ | ⟨u0, _ | ⟨u1, _ | ⟨u2, _ | ⟨u3, _ | ⟨u4, r⟩⟩⟩⟩⟩
        all_goals first | exact ⟨_, _, _, _, _, _, rfl⟩ | (simp at h; omega)
      subst hrest
      have hfl : Hid ((o.flatMap Cf.row).length = k * 5) := Lib.hid (by rw [flat_length Cf.row 5 Cf.row_len, HP.out.len])
      go_wp2_with (fail)
      refine (own_any x B _ (HXI.out.alloc (Nat.le_trans hB HP.out.bel.size) _) (by simp; have := HP.out.bel.size; omega) (HX.out x (List.mem_of_getElem? HLX.out))).mono ?_
      rintro e w1 ⟨y, rfl, hyv, hyo, hyb⟩
      have b1 := (HP.out.blk.alloc (.cells x.cells 44)).below hyb (by have := HP.out.blk.lt; simp; omega)
      have k0 := b1.cell (k * 5)
      have k1 := b1.cell (k * 5 + 1)
      have k2 := b1.cell (k * 5 + 2)
      have k3 := b1.cell (k * 5 + 3)
      have k4 := b1.cell (k * 5 + 4)
      simp [List.getElem?_append, hfl.out] at k0 k1 k2 k3 k4
      have f0 := b1.frozen (k * 5)
      have f1 := b1.frozen (k * 5 + 1)
      have f2 := b1.frozen (k * 5 + 2)
      have f3 := b1.frozen (k * 5 + 3)
      have f4 := b1.frozen (k * 5 + 4)
      have B1 := Lib.hid b1
      have YV := Lib.hid hyv
      have YO := Lib.hid hyo
      have YB := Lib.hid hyb
      clear b1 hyv hyo hyb
      obtain ⟨ych, yep, yA, ylen, ycap, yfr, yjn, yzs⟩ := y
      go_wp2_with (fail)
      have P := HP.out.put HLX.out YV.out YB.out YO.out
      simp only [Cf.row, World.setCells, Nat.add_assoc, Nat.reduceAdd] at P
      refine ⟨⟨k + 1, _, rest', hlt, rfl, P⟩, ?_⟩
      have hi2 : (intOf (Value.int .i64 ((k : Int) + 1))).toNat = k + 1 := by simp only [intOf]; omega
      have hi1 : (intOf (Value.int .i64 (k : Int))).toNat = k := by simp only [intOf]; omega
      rw [hi1, hi2]; omega
    · obtain rfl : k = n := by omega
      obtain rfl : rest = [] := List.eq_nil_of_length_eq_zero (by have := HP.out.rl; simpa using this)
      go_wp2
      go_ret
      exact ⟨o, rfl, HP.out⟩
end Go.Proofs.YtnnegldaekmgbaaGreatDoor
