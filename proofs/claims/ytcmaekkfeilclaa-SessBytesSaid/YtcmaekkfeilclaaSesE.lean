/- Contracts of the reference's Put and Set. -/
import Derived.Test.YtcmaekkfeilclaaSesD
import Derived.Test.YtcmaekkfeilclaaMemA
namespace Go.Proofs.Ytcmaekkfeilclaa
open Go.RowKit
set_option linter.unusedSimpArgs false
set_option linter.unusedVariables false
set_option maxHeartbeats 1000000
set_option maxRecDepth 100000
attribute [local go_sem] Rw.agg Rw.cells

theorem rowInfo : (Try.prog.info? 31).map (fun i => (i.zero, i.size, i.bytes)) = some (some Rw.zero.agg, 5, 40) := by kernel_rfl

theorem lo_cons (a : Rw) (l : List Rw) (r : Rw) : lo (a :: l) r = if a.c < r.c then lo l r + 1 else 0 := by
  unfold lo
  rw [List.takeWhile_cons]
  by_cases h : a.c < r.c
  · simp [h]
  · simp [h]
theorem lo_lt (l : List Rw) (r : Rw) (k : Nat) (x : Rw) (h : k < lo l r) (hx : l[k]? = some x) : x.c < r.c := by
  induction l generalizing k with
  | nil => simp at hx
  | cons a l ih =>
    rw [lo_cons] at h
    split at h
    · next ha =>
      cases k with
      | zero => simp at hx; subst hx; exact ha
      | succ k => exact ih k (by omega) (by simpa using hx)
    · omega
theorem lo_at (l : List Rw) (r : Rw) (x : Rw) (hx : l[lo l r]? = some x) : ¬ x.c < r.c := by
  induction l with
  | nil => simp at hx
  | cons a l ih =>
    rw [lo_cons] at hx
    split at hx
    · exact ih (by simpa using hx)
    · next ha => simp at hx; subst hx; exact ha

/-- what the loop of Put holds -/
def PutRel (b0 : Nat) (w : World) (l : List Rw) (v : Value) (wr : World) : Prop :=
  wr.ownsRow b0 31 5 v l.length (l.flatMap Rw.vals) ∧ Below b0 w wr ∧ b0 ≤ wr.heap.size
theorem PutRel.own {b0 : Nat} {w wr : World} {l : List Rw} {v : Value} (h : PutRel b0 w l v wr) : wr.ownsRow b0 31 5 v l.length (l.flatMap Rw.vals) := h.1
theorem PutRel.app {b0 : Nat} {w wr w1 W : World} {l m : List Rw} {v v1 : Value} {k : Nat} (h : PutRel b0 w l v wr) (hk : m.length = k) (hb : Below wr.heap.size wr W) (hown : w1.ownsRow b0 31 5 v1 (l.length + k) (l.flatMap Rw.vals ++ m.flatMap Rw.vals)) (hg : W.grownBy w1 v.ownBlock) :
    PutRel b0 w (l ++ m) v1 w1 := by
  unfold PutRel
  rw [List.length_append, List.flatMap_append, hk]
  exact ⟨hown, (h.2.1.trans (hb.mono h.2.2)).grown hg (Nat.le_trans h.2.2 hb.size) (fun g hg' => (h.1.lt g hg').1), Nat.le_trans h.2.2 (Nat.le_trans hb.size hg.size)⟩
theorem PutRel.app1 {b0 : Nat} {w wr w1 W : World} {l : List Rw} {r : Rw} {v v1 : Value} (h : PutRel b0 w l v wr) (hb : Below wr.heap.size wr W) (hown : w1.ownsRow b0 31 5 v1 (l.length + 1) (l.flatMap Rw.vals ++ r.vals)) (hg : W.grownBy w1 v.ownBlock) :
    PutRel b0 w (l ++ [r]) v1 w1 := h.app (m := [r]) rfl hb (by simpa using hown) hg
theorem PutRel.drewN {b0 : Nat} {w wr : World} {l : List Rw} {v : Value} (h : PutRel b0 w l v wr) (k : Nat) : PutRel b0 w l v (wr.drewN k) := ⟨h.1, below_drewN h.2.1 k, h.2.2⟩

/-- a boxed row, later -/
theorem box_cells {w wr : World} (r : Rw) (t : TypeId) (h : Below (w.heap.size + 1) (w.alloc (.cells r.cells t)) wr) :
    wr.cell? ⟨w.heap.size, 0, none⟩ = some (.int .i64 r.c) ∧ wr.cell? ⟨w.heap.size, 1, none⟩ = some (.int .u64 r.n) ∧ wr.cell? ⟨w.heap.size, 2, none⟩ = some (.int .u64 r.s) ∧
      wr.cell? ⟨w.heap.size, 3, none⟩ = some (.int .i64 r.k) ∧ wr.cell? ⟨w.heap.size, 4, none⟩ = some (.int .u64 r.v) ∧ w.heap.size < wr.heap.size := by
  have hb := (Blk.new w t r.cells).below h (by omega)
  exact ⟨(hb.cell 0).trans rfl, (hb.cell 1).trans rfl, (hb.cell 2).trans rfl, (hb.cell 3).trans rfl, (hb.cell 4).trans rfl, hb.lt⟩
theorem vals_one (x : Rw) : ∀ u ∈ x.vals, u.oneCell' = true := by
  intro u hu
  simp only [Rw.vals, List.mem_cons, List.not_mem_nil, or_false] at hu
  rcases hu with rfl | rfl | rfl | rfl | rfl <;> rfl
theorem flat_one (l : List Rw) : ∀ u ∈ l.flatMap Rw.vals, u.oneCell' = true := by
  intro u hu
  obtain ⟨x, _, hx⟩ := List.mem_flatMap.1 hu
  exact vals_one x u hx

theorem rows_cut {w : World} {B n b off : Nat} {l : List Rw} (h : Reads w B 5 (some ⟨b, off, none⟩) n (l.flatMap Rw.vals)) {k : Nat} (hk : k ≤ n) : Reads w B 5 (some ⟨b, off + k * 5, none⟩) (n - k) ((l.drop k).flatMap Rw.vals) := by
  have := h.cut (cap := n + k + 1) hk (by omega)
  rw [if_neg (by omega), flat_drop Rw.vals 5 Rw.vals_len] at this
  simp only [Option.map_some, Go.WideShapes.add_plain] at this
  exact this

theorem reads_zero {w : World} {B size q : Nat} {A : Option Addr} (hq : q = 0) : Reads w B size A q [] := by subst hq; exact Reads.none_

theorem sesRefPut_any (A : Option Addr) (n c : Nat) (l : List Rw) (r : Rw) (w : World) (hn : n ≤ 65536) (hnc : n ≤ c) (hcm : c ≤ maxLen) (h : Reads w w.heap.size 5 A n (l.flatMap Rw.vals)) :
    Calls Try.prog 32 #[.slice A n c, r.agg] w fun e w' => ∃ v, e = .returned v ∧ PutRel (w.heap.size + 1) (w.alloc (.cells r.cells 31)) (putL l r) v w' := by
  obtain ⟨i0, hi, hz0, hz1, hz2⟩ := info_parts rowInfo
  have H := Lib.hid h
  have hlo := lo_le l r
  have HL := Lib.hid (rows_len h)
  rw [HL.out] at hlo
  have hlen : l.length ≤ 65536 := by rw [HL.out]; omega
  clear h
  go_enter Try.func32, Try.ntmps32
  go_wp2
  go_loopw [5, 6] (fun v i wr => ∃ (k : Nat) (m : List Rw), k ≤ lo l r ∧ i = .int .i64 k ∧ Hid (m = l.take k) ∧ m.length ≤ 65536 ∧ PutRel (w.heap.size + 1) (w.alloc (.cells r.cells 31)) m v wr) (fun _ i _ => n - (intOf i).toNat)
  case atStart => exact ⟨0, [], by omega, rfl, Lib.hid rfl, by simp, ⟨World.ownsRow_nil _ _ _ _, Below.refl _ _, by simp⟩⟩
  case round =>
    obtain ⟨k, m, hk, rfl, hm, hml, hrel⟩ := hrel
    have HP := Lib.hid hrel
    obtain ⟨x0, x1, x2, x3, x4, xs⟩ := box_cells r _ hrel.2.1
    clear hrel
    by_cases hlt : k < lo l r
    · obtain ⟨b, off, x, rfl, hb, hx, hc⟩ := rows_at H.out (show k < n by omega)
      obtain ⟨c0, c1, c2, c3, c4⟩ := hc.keep (w' := wr) (fun p hp => (HP.out.2.1.cell (by omega)).trans (World.cell?_alloc_lt _ _ _ (by omega)))
      have hkn : (k : Int) < n := by omega
      have hxc := lo_lt l r k x hlt hx
      have hm1 : Hid (m ++ [x] = l.take (k + 1)) := Lib.hid (by rw [List.take_add_one, hx, ← hm.out]; rfl)
      have hm2 : (m ++ [x]).length ≤ 65536 := by rw [hm1.out, List.length_take]; omega
      have hbw : b < wr.heap.size := by omega
      clear hx
      go_wp2
      go_quiet (fail)
      go_wp2_with (at_builtin; go_must (refine wpList_append_own _ rfl (.tmp 21) (.tmp 26) _ rfl (w.heap.size + 1) 31 i0 _ 5 40 Try.underlying22 hi hz0 hz1 hz2 rfl (by omega) _ _ _ rfl ((own_drewN HP.out.own _).alloc _) ⟨wr.heap.size, 0, none⟩ 1 1 x.vals rfl rfl ?c1 ?c2 ?c3 ?c4 ?c5 ?_))
      case c1 => exact fun j u hu => cells_new _ _ _ j u hu
      case c2 => exact vals_one x
      case c3 => unfold maxLen; omega
      case c4 => omega
      case c5 => have := HP.out.2.2; simp; omega
      intro v1 w1 hown1 hg1 _
      have H1 := Lib.hid (HP.out.app1 (by exact (below_drewN (Below.refl _ _) _).alloc (Nat.le_refl _) _) hown1 hg1)
      clear hown1 hg1
      go_wp2
      go_roundw
      case rel => first | exact ⟨k + 1, _, by omega, by go_num, hm1, hm2, H1.out⟩ | ((repeat apply Exists.intro); exact ⟨⟨k + 1, _, by omega, by go_num, hm1, hm2, H1.out⟩, rfl⟩)
      case measure => simp [intOf]; omega
    · obtain rfl : k = lo l r := by omega
      by_cases hln : lo l r < n
      · obtain ⟨b, off, x, rfl, hb, hx, hc⟩ := rows_at H.out hln
        obtain ⟨c0, c1, c2, c3, c4⟩ := hc.keep (w' := wr) (fun p hp => (HP.out.2.1.cell (by omega)).trans (World.cell?_alloc_lt _ _ _ (by omega)))
        have hkn : (lo l r : Int) < n := by omega
        have hxc := lo_at l r x hx
        have HX := Lib.hid hx
        have hbw : b < wr.heap.size := by omega
        clear hx
        generalize hk0 : lo l r = k0 at *
        have HK := Lib.hid hk0
        clear hk0
        go_wp2
        go_quiet (fail)
        go_wp2_with (at_builtin; go_must (refine wpList_append_own _ rfl (.tmp 30) (.tmp 32) _ rfl (w.heap.size + 1) 31 i0 _ 5 40 Try.underlying22 hi hz0 hz1 hz2 rfl (by omega) _ _ _ rfl ((own_drewN HP.out.own _).alloc _) ⟨wr.heap.size, 0, none⟩ 1 1 r.vals rfl rfl ?c1 ?c2 ?c3 ?c4 ?c5 ?_))
        case c1 => exact fun j u hu => cells_new _ _ _ j u hu
        case c2 => exact vals_one r
        case c3 => unfold maxLen; omega
        case c4 => omega
        case c5 => have := HP.out.2.2; simp; omega
        intro v1 w1 hown1 hg1 _
        have hrel1 := HP.out.app1 (by exact (below_drewN (Below.refl _ _) _).alloc (Nat.le_refl _) _) hown1 hg1
        have H1 := Lib.hid hrel1
        clear hown1 hg1 x0 x1 x2 x3 x4 c0 c1 c2 c3 c4
        obtain ⟨x0, x1, x2, x3, x4, xs1⟩ := box_cells r _ hrel1.2.1
        obtain ⟨c0, c1, c2, c3, c4⟩ := hc.keep (w' := w1) (fun p hp => (H1.out.2.1.cell (by omega)).trans (World.cell?_alloc_lt _ _ _ (by omega)))
        clear hrel1
        cases he : (x.c == r.c)
        · have hj : Hid (putL l r = m ++ [r] ++ l.drop k0) := Lib.hid (by
            rw [putL, HK.out, HX.out, hm.out]
            have : ¬ x.c = r.c := by simpa using he
            simp [this])
          have HR := Lib.hid (rows_cut H.out (show k0 ≤ n by omega))
          go_wp2
          go_quiet (fail)
          go_wp2_with (at_builtin; go_must (refine wpList_append_any _ rfl (.tmp 50) (.tmp 53) _ rfl (w.heap.size + 1) 31 i0 _ 5 40 Try.underlying22 hi hz0 hz1 hz2 rfl (by omega) _ _ _ rfl (own_drewN H1.out.own _) w.heap.size _ _ _ ((l.drop k0).flatMap Rw.vals) rfl (Reads.drewN ((HR.out.alloc (Nat.le_refl _) _).below (H1.out.2.1.mono (by omega))) _) ?c1 ?c2 ?c3 ?c4 ?_))
          case c1 => exact flat_one _
          case c2 => rw [List.length_append]; unfold maxLen; simp; omega
          case c3 => rw [List.length_append]; simp; omega
          case c4 => have := H1.out.2.2; simp; omega
          intro v2 w2 hown2 hg2 _
          have H2 := Lib.hid (H1.out.app (m := l.drop k0) (by rw [List.length_drop, HL.out]) (by exact below_drewN (Below.refl _ _) _) (by simpa using hown2) hg2)
          clear hown2 hg2
          go_wp2
          go_ret
          exact ⟨_, rfl, by rw [hj.out]; exact H2.out⟩
        · have hj : Hid (putL l r = m ++ [r] ++ l.drop (k0 + 1)) := Lib.hid (by
            rw [putL, HK.out, HX.out, hm.out]
            have : x.c = r.c := by simpa using he
            simp [this])
          have HR := Lib.hid (rows_cut H.out (show k0 + 1 ≤ n by omega))
          by_cases hcap : c = k0 + 1
          · have hn1 : n ≤ k0 + 1 := by omega
            have hj : Hid (putL l r = m ++ [r] ++ []) := Lib.hid (by rw [hj.out, List.drop_of_length_le (by rw [HL.out]; omega)])
            go_wp2
            go_quiet (fail)
            go_wp2_with (at_builtin; go_must (refine wpList_append_any _ rfl (.tmp 50) (.tmp 53) _ rfl (w.heap.size + 1) 31 i0 _ 5 40 Try.underlying22 hi hz0 hz1 hz2 rfl (by omega) _ _ _ rfl (own_drewN H1.out.own _) 0 _ _ _ [] rfl (reads_zero ?c0) ?c1 ?c2 ?c3 ?c4 ?_))
            case c0 => omega
            case c1 => intro u hu; cases hu
            case c2 => rw [List.length_append]; unfold maxLen; simp; omega
            case c3 => rw [List.length_append]; simp; omega
            case c4 => have := H1.out.2.2; simp; omega
            intro v2 w2 hown2 hg2 _
            have H2 := Lib.hid (H1.out.app (m := []) (k := 0) rfl (by exact below_drewN (Below.refl _ _) _) (by simpa using hown2) hg2)
            clear hown2 hg2
            go_wp2
            go_ret
            exact ⟨_, rfl, by rw [hj.out]; exact H2.out⟩
          · go_wp2
            go_quiet (fail)
            go_wp2_with (at_builtin; go_must (refine wpList_append_any _ rfl (.tmp 50) (.tmp 53) _ rfl (w.heap.size + 1) 31 i0 _ 5 40 Try.underlying22 hi hz0 hz1 hz2 rfl (by omega) _ _ _ rfl (own_drewN H1.out.own _) w.heap.size _ _ _ ((l.drop (k0 + 1)).flatMap Rw.vals) rfl (Reads.drewN ((HR.out.alloc (Nat.le_refl _) _).below (H1.out.2.1.mono (by omega))) _) ?c1 ?c2 ?c3 ?c4 ?_))
            case c1 => exact flat_one _
            case c2 => rw [List.length_append]; unfold maxLen; simp; omega
            case c3 => rw [List.length_append]; simp; omega
            case c4 => have := H1.out.2.2; simp; omega
            intro v2 w2 hown2 hg2 _
            have H2 := Lib.hid (H1.out.app (m := l.drop (k0 + 1)) (by rw [List.length_drop, HL.out]) (by exact below_drewN (Below.refl _ _) _) (by simpa using hown2) hg2)
            clear hown2 hg2
            go_wp2
            go_ret
            exact ⟨_, rfl, by rw [hj.out]; exact H2.out⟩
      · obtain rfl : lo l r = n := by omega
        have hj : Hid (putL l r = m ++ [r] ++ []) := Lib.hid (by
          rw [putL, hm.out, List.drop_of_length_le (by rw [HL.out]; omega)])
        generalize hk0 : lo l r = k0 at *
        have HK := Lib.hid hk0
        clear hk0
        go_wp2
        go_quiet (fail)
        go_wp2_with (at_builtin; go_must (refine wpList_append_own _ rfl (.tmp 30) (.tmp 32) _ rfl (w.heap.size + 1) 31 i0 _ 5 40 Try.underlying22 hi hz0 hz1 hz2 rfl (by omega) _ _ _ rfl ((own_drewN HP.out.own _).alloc _) ⟨wr.heap.size, 0, none⟩ 1 1 r.vals rfl rfl ?c1 ?c2 ?c3 ?c4 ?c5 ?_))
        case c1 => exact fun j u hu => cells_new _ _ _ j u hu
        case c2 => exact vals_one r
        case c3 => unfold maxLen; omega
        case c4 => omega
        case c5 => have := HP.out.2.2; simp; omega
        intro v1 w1 hown1 hg1 _
        have H1 := Lib.hid (HP.out.app1 (by exact (below_drewN (Below.refl _ _) _).alloc (Nat.le_refl _) _) hown1 hg1)
        clear hown1 hg1 x0 x1 x2 x3 x4
        by_cases hcap : c = k0
        · go_wp2
          go_quiet (fail)
          go_wp2_with (at_builtin; go_must (refine wpList_append_any _ rfl (.tmp 50) (.tmp 53) _ rfl (w.heap.size + 1) 31 i0 _ 5 40 Try.underlying22 hi hz0 hz1 hz2 rfl (by omega) _ _ _ rfl (own_drewN H1.out.own _) 0 _ _ _ [] rfl (reads_zero ?c0) ?c1 ?c2 ?c3 ?c4 ?_))
          case c0 => omega
          case c1 => intro u hu; cases hu
          case c2 => rw [List.length_append]; unfold maxLen; simp; omega
          case c3 => rw [List.length_append]; simp; omega
          case c4 => have := H1.out.2.2; simp; omega
          intro v2 w2 hown2 hg2 _
          have H2 := Lib.hid (H1.out.app (m := []) (k := 0) rfl (by exact below_drewN (Below.refl _ _) _) (by simpa using hown2) hg2)
          clear hown2 hg2
          go_wp2
          go_ret
          exact ⟨_, rfl, by rw [hj.out]; exact H2.out⟩
        · go_wp2
          go_quiet (fail)
          go_wp2_with (at_builtin; go_must (refine wpList_append_any _ rfl (.tmp 50) (.tmp 53) _ rfl (w.heap.size + 1) 31 i0 _ 5 40 Try.underlying22 hi hz0 hz1 hz2 rfl (by omega) _ _ _ rfl (own_drewN H1.out.own _) 0 _ _ _ [] rfl (reads_zero ?c0) ?c1 ?c2 ?c3 ?c4 ?_))
          case c0 => omega
          case c1 => intro u hu; cases hu
          case c2 => rw [List.length_append]; unfold maxLen; simp; omega
          case c3 => rw [List.length_append]; simp; omega
          case c4 => have := H1.out.2.2; simp; omega
          intro v2 w2 hown2 hg2 _
          have H2 := Lib.hid (H1.out.app (m := []) (k := 0) rfl (by exact below_drewN (Below.refl _ _) _) (by simpa using hown2) hg2)
          clear hown2 hg2
          go_wp2
          go_ret
          exact ⟨_, rfl, by rw [hj.out]; exact H2.out⟩

def setLE (l : List Rw) (r : Rw) : Int := if r.fine then (if judgeL l r.c r.n = 0 then 0 else 12) else 1
def setL (l : List Rw) (r : Rw) : List Rw := if r.fine = true ∧ judgeL l r.c r.n = 0 then putL l r else l

/-- a slice of rows that lies below the heap's end -/
def IsRows (w : World) (v : Value) (l : List Rw) : Prop :=
  ∃ A c, v = .slice A l.length c ∧ l.length ≤ c ∧ c ≤ maxLen ∧ Reads w w.heap.size 5 A l.length (l.flatMap Rw.vals)
theorem IsRows.below {w w' : World} {v : Value} {l : List Rw} (h : IsRows w v l) (hb : Below w.heap.size w w') : IsRows w' v l := by
  obtain ⟨A, c, hv, h1, h2, hr⟩ := h
  exact ⟨A, c, hv, h1, h2, (hr.below hb).more hb.size⟩
theorem IsRows.of_own {w : World} {base : Nat} {e : TypeId} {v : Value} {l : List Rw} (h : w.ownsRow base e 5 v l.length (l.flatMap Rw.vals)) : IsRows w v l := by
  obtain ⟨A, c, hv, hr, h1, h2⟩ := own_slice h
  exact ⟨A, c, hv, h1, h2, hr⟩

/-- the value's own block, if it has one, lies above g0 -/
def Above (g0 : Nat) (v : Value) : Prop := ∀ k, v.ownBlock = some k → g0 < k
theorem IsRows.grown {w w' : World} {v : Value} {l : List Rw} {g : Nat} (h : IsRows w v l) (hg : w.grownBy w' (some g)) (ha : Above g v) : IsRows w' v l := by
  obtain ⟨A, c, rfl, h1, h2, hr⟩ := h
  refine ⟨A, c, rfl, h1, h2, hr.1, fun hn => ?_⟩
  obtain ⟨ad, hA, hb, hc⟩ := hr.2 hn
  subst hA
  have := ha ad.block rfl
  refine ⟨ad, rfl, Nat.lt_of_lt_of_le hb hg.size, fun j u hu => ?_⟩
  exact (World.cell?_of_block (hg.block _ (by rw [block_of_add]; exact hb) (by rw [block_of_add]; intro e; injection e; omega))).trans (hc j u hu)

theorem refSet_any (v : Value) (l : List Rw) (r : Rw) (w : World) (hn : l.length ≤ 65536) (h : IsRows w v l) :
    Calls Try.prog 14 #[v, r.agg] w fun e w' => ∃ v', e = .returned (.tuple #[v', .int .i64 (setLE l r)]) ∧ IsRows w' v' (setL l r) ∧ Below w.heap.size w w' ∧ (∀ g0, g0 < w.heap.size → Above g0 v → Above g0 v') := by
  obtain ⟨A, c, rfl, h1, h2, hr⟩ := h
  have H := Lib.hid hr
  have HI : Hid (IsRows w (.slice A l.length c) l) := Lib.hid ⟨A, c, rfl, h1, h2, hr⟩
  clear hr
  have hbx : ∀ o : Obj, Below w.heap.size w (w.alloc o) := fun o => (Below.refl _ _).alloc (Nat.le_refl _) o
  cases hf : r.fine
  · have he : Hid (setLE l r = 1) := Lib.hid (by rw [setLE, hf]; rfl)
    have ht : Hid (setL l r = l) := Lib.hid (by rw [setL, if_neg (by simp [hf])])
    rw [he.out, ht.out]
    go_enter Try.func14, Try.ntmps14
    go_wp2_with (first | (go_at_call 12; refine (refFine_any r _).mono ?_; rintro e w' ⟨rfl, rfl⟩) | fail)
    go_ret2
    have hb := ((Below.refl w.heap.size w).alloc (Nat.le_refl _) (.cells r.cells 31)).alloc (by simp) (.cells r.cells 31)
    exact ⟨_, rfl, HI.out.below hb, hb, fun _ _ h => h⟩
  · by_cases hj : judgeL l r.c r.n = 0
    · have he : Hid (setLE l r = 0) := Lib.hid (by rw [setLE, hf, if_pos rfl, if_pos hj])
      have ht : Hid (setL l r = putL l r) := Lib.hid (by rw [setL, if_pos ⟨hf, hj⟩])
      rw [he.out, ht.out]
      have hj' : (judgeL l r.c r.n != 0) = false := by simp [hj]
      clear hj
      go_enter Try.func14, Try.ntmps14
      go_wp2_with (first | (go_at_call 12; refine (refFine_any r _).mono ?_; rintro e w' ⟨rfl, rfl⟩) | fail)
      refine (refJudge_any A l.length c w.heap.size l _ _ _ (by omega) (by simp; omega) ((H.out.alloc (Nat.le_refl _) _).alloc (by simp) _)).mono ?_
      rintro e w2 ⟨rfl, hb2⟩
      have hb1 := ((Below.refl (w.heap.size + 1) (w.alloc (.cells r.cells 31))).alloc (by simp) (.cells r.cells 31)).trans (hb2.mono (by simp))
      have HB := Lib.hid ((hbx (.cells r.cells 31)).trans (hb1.mono (by omega)))
      obtain ⟨x0, x1, x2, x3, x4, xs⟩ := box_cells r _ hb1
      clear hb2 hb1
      go_wp2_with (fail)
      refine (sesRefPut_any A l.length c l r _ hn h1 h2 ((H.out.below HB.out).more HB.out.size)).mono ?_
      rintro e w3 ⟨v3, rfl, hp⟩
      have HB3 := Lib.hid (HB.out.trans (((Below.refl w2.heap.size w2).alloc (Nat.le_refl _) _).mono HB.out.size |>.trans (hp.2.1.mono (by have := HB.out.size; omega))))
      have HI3 := Lib.hid (IsRows.of_own hp.own)
      have HA := Lib.hid hp.own.lt
      have hw2 := HB.out.size
      clear hp
      go_wp2_with (fail)
      go_ret2
      exact ⟨_, rfl, HI3.out, HB3.out, fun g0 hg _ k hk => by have := (HA.out k hk).1; omega⟩
    · have he : Hid (setLE l r = 12) := Lib.hid (by rw [setLE, hf, if_pos rfl, if_neg hj])
      have ht : Hid (setL l r = l) := Lib.hid (by rw [setL, if_neg (fun x => hj x.2)])
      rw [he.out, ht.out]
      have hj' : (judgeL l r.c r.n != 0) = true := by simp [hj]
      clear hj
      go_enter Try.func14, Try.ntmps14
      go_wp2_with (first | (go_at_call 12; refine (refFine_any r _).mono ?_; rintro e w' ⟨rfl, rfl⟩) | fail)
      refine (refJudge_any A l.length c w.heap.size l _ _ _ (by omega) (by simp; omega) ((H.out.alloc (Nat.le_refl _) _).alloc (by simp) _)).mono ?_
      rintro e w2 ⟨rfl, hb2⟩
      have hb1 := ((Below.refl (w.heap.size + 1) (w.alloc (.cells r.cells 31))).alloc (by simp) (.cells r.cells 31)).trans (hb2.mono (by simp))
      have HB := Lib.hid ((hbx (.cells r.cells 31)).trans (hb1.mono (by omega)))
      clear hb2 hb1
      go_wp2_with (fail)
      go_ret2
      exact ⟨_, rfl, HI.out.below HB.out, HB.out, fun _ _ h => h⟩

end Go.Proofs.Ytcmaekkfeilclaa
