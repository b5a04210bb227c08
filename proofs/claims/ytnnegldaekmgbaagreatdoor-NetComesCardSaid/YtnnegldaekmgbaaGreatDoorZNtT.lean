/- Encode of a letter that is not right; Send. -/
import Derived.Test.YtnnegldaekmgbaaGreatDoorZNtQ
import Derived.Test.YtnnegldaekmgbaaGreatDoorZGD
import Derived.Deep.MidRow


namespace Go.Proofs.YtnnegldaekmgbaaGreatDoor
open Go.RowKit
set_option linter.unusedSimpArgs false
set_option linter.unusedVariables false
set_option maxHeartbeats 8000000
set_option maxRecDepth 100000

theorem encodeF_any (x : LV) (B : Nat) (w : World) (hKW : ∀ W, Below w.heap.size w W → KindsAt W) (h : LIn w B x) (hB : B ≤ w.heap.size) (hn : x.near) (h0 : chkX x ≠ 0) (c : Nat) :
    Calls Tryz.prog 74 #[.pointer (some ⟨c, 0, none⟩), x.l.agg] w fun e w' => e = .returned (.tuple #[.slice none 0 0, .int .i64 (chkX x)]) ∧ Below w.heap.size w w' := by
  obtain ⟨W0, hW0, hb0, hbk⟩ := box_all x w
  have CK := Lib.hid (check_any x B W0 (hKW W0 hb0) (h.below (hb0.mono hB)) (Nat.le_trans hB hb0.size) hn)
  have HB := Lib.hid hb0
  have BK := Lib.hid hbk
  have HW := Lib.hid hW0
  have hll := hbk.lt
  clear hKW h hb0 hbk hW0 hn
  generalize chkX x = ck at *
  have hcb : (ck != 0) = true := by simpa using h0
  clear h0
  obtain ⟨l, ns, vs, us, ds⟩ := x
  simp only at *
  show Calls Tryz.prog 74 #[.pointer (some ⟨c, 0, none⟩), .agg #[.int .i64 l.kd, .int .i64 l.fr, .int .i64 l.tw, .int .i64 l.ch, .int .u64 l.ep, .int .u64 l.bl, .int .u64 l.nu, .int .u64 l.sq, .int .u64 l.dz, .int .u64 l.vr, .int .i64 l.sl, .int .u32 l.ky, .int .i64 l.cd, .int .i64 l.qk, .int .i64 l.qc, .int .u64 l.qe, .int .i64 l.qn, .int .i64 l.fc, .int .u64 l.fe, .slice l.fA l.fn l.fp, .bool l.ff, .int .i64 l.fj, .slice l.vA l.vn l.vp, .slice l.uA l.un l.up, .slice l.dA l.dn l.dp]] w _
  go_enter Tryz.func74, Tryz.ntmps74
  go_upto_region 3 with (fail)
  have e0 := HW.out
  simp only [Lt.cells] at e0
  rw [← e0]
  clear e0
  iterate 1 go_step
  refine wpList_load_row rfl 48 (.tmp 3) rfl w.heap.size rfl 48 l.cells (0, 0) _ BK.out Tryz.underlying48 rfl ltInfo ?_
  go_wp2_with (fail)
  refine CK.out.mono ?_
  rintro e w1 ⟨rfl, h1⟩
  have H1 := Lib.hid (HB.out.trans (h1.mono HB.out.size))
  clear h1 CK
  go_wp2_with (fail)
  go_ret2
  exact ⟨rfl, H1.out⟩
/-- letters, one behind the other, in memory -/
def Lt.row (x : LV) : List Value := x.l.cells.toList
theorem Lt.row_len (x : LV) : (Lt.row x).length = 25 := rfl
structure LsIn (w : World) (B : Nat) (A : Option Addr) (n : Nat) (xs : List LV) : Prop where
  rd : Reads w B 25 A n (xs.flatMap Lt.row)
  mem : ∀ x ∈ xs, LIn w B x ∧ x.near
theorem LsIn.below {w w' : World} {B n : Nat} {A : Option Addr} {xs : List LV} (h : LsIn w B A n xs) (hb : Below B w w') : LsIn w' B A n xs := ⟨h.rd.below hb, fun x hx => ⟨(h.mem x hx).1.below hb, (h.mem x hx).2⟩⟩
theorem LsIn.at_ {w : World} {B n k : Nat} {A : Option Addr} {xs : List LV} (h : LsIn w B A n xs) (hk : k < n) :
    ∃ b o x, A = some ⟨b, o, none⟩ ∧ b < B ∧ xs[k]? = some x ∧ LIn w B x ∧ x.near ∧ w.rangeAt b (o + k * 25) (Lt.row x) := by
  obtain ⟨b, o, x, hA, hb, hx, hc⟩ := reads_at Lt.row Lt.row_len (by omega) h.rd hk
  exact ⟨b, o, x, hA, hb, hx, (h.mem x (List.mem_of_getElem? hx)).1, (h.mem x (List.mem_of_getElem? hx)).2, hc⟩
/-- a letter's bytes -/
noncomputable def encX (x : LV) : List Nat := encB x.l.kd.toNat (bodyB x.l (partsI x.l.kd.toNat) (partB x))
noncomputable def send1 (q : Nv × Int) (x : LV) : Nv × Int :=
  if chkX x ≠ 0 then q else if q.1.most ≤ q.1.l.length then ({ q.1 with b := q.1.b.add 2 1 }, q.2) else ({ q.1 with last := q.1.last + 1, l := q.1.l ++ [(q.1.last + 1, encX x)], b := q.1.b.add 0 1 }, q.2 + 1)
noncomputable def sendQ (n : Nv) (xs : List LV) (j : Nat) : Nv × Int := (xs.take j).foldl send1 (n, 0)
theorem sendQ_step (n : Nv) (xs : List LV) (j : Nat) (x : LV) (h : xs[j]? = some x) : sendQ n xs (j + 1) = send1 (sendQ n xs j) x := by
  unfold sendQ
  rw [List.take_add_one, h, List.foldl_append]; rfl
structure Nv.ok (n : Nv) (M : Int) : Prop where
  last : 0 ≤ n.last ∧ n.last ≤ M
  len : (n.l.length : Int) ≤ M
  a : 0 ≤ n.b.a ∧ n.b.a ≤ M
  b : 0 ≤ n.b.b ∧ n.b.b ≤ M
  c : 0 ≤ n.b.c ∧ n.b.c ≤ M
  d : 0 ≤ n.b.d ∧ n.b.d ≤ M
theorem Nv.ok.small {n : Nv} {M : Int} (h : n.ok M) (hM : M ≤ 1000000) : n.b.small := by
  have h1 := h.a
  have h2 := h.b
  have h3 := h.c
  have h4 := h.d
  exact ⟨by omega, by omega, by omega, by omega⟩
theorem send1_ok (q : Nv × Int) (x : LV) (M : Int) (h : q.1.ok M) (h2 : 0 ≤ q.2 ∧ q.2 ≤ M) : (send1 q x).1.ok (M + 1) ∧ (0 ≤ (send1 q x).2 ∧ (send1 q x).2 ≤ M + 1) := by
  obtain ⟨a0, a1, a2, a3, a4, a5⟩ := h
  unfold send1
  split
  · exact ⟨⟨by omega, by omega, by omega, by omega, by omega, by omega⟩, by omega⟩
  · split
    · exact ⟨⟨by simp only; omega, by simp only; omega, by simp only [Bd.add]; omega, by simp only [Bd.add]; omega, by simp only [Bd.add]; omega, by simp only [Bd.add]; omega⟩, by simp only; omega⟩
    · exact ⟨⟨by simp only; omega, by simp only [List.length_append, List.length_singleton]; omega, by simp only [Bd.add]; omega, by simp only [Bd.add]; omega, by simp only [Bd.add]; omega, by simp only [Bd.add]; omega⟩, by simp only; omega⟩
section
variable {W W' : World} {lo g cd gt bg bd : Nat} {v v' : Value} {s s' : NBg} {n n' : Nv} {m m' : Int}
theorem NetAt.full (h : NetAt W lo g cd gt bg bd v s n m) (hf : n.most ≤ n.l.length) (x : Sv) : s.put x = s ∧ s.putE = 9 := by
  have h1 := h.most
  have h2 := h.len
  exact ⟨by rw [NBg.put, if_pos (by omega)], by rw [NBg.putE, if_pos (by omega)]⟩
theorem NetAt.room (h : NetAt W lo g cd gt bg bd v s n m) (hf : ¬ n.most ≤ n.l.length) (x : Sv) : s.put x = ⟨s.most, s.last + 1, s.l ++ [(s.last + 1, x)]⟩ ∧ s.putE = 0 := by
  have h1 := h.most
  have h2 := h.len
  exact ⟨by rw [NBg.put, if_neg (by omega)], by rw [NBg.putE, if_neg (by omega)]⟩
theorem NetAt.put (h : NetAt W lo g cd gt bg bd v s n m) (hf : ¬ n.most ≤ n.l.length) {x : Sv} {f : List Nat} (ho : W.ownsRow lo 5 1 (.slice x.A x.n x.c) x.n ((bI f).map (Value.int .u8))) (hb : isBs f) (hs : NBStep W W' bg v v') (ha : NBagAt W' bg v' (s.put x)) :
    NetAt W' lo g cd gt bg bd v' (s.put x) { n with last := n.last + 1, l := n.l ++ [(n.last + 1, f)] } m := by
  have hv := (h.room hf x).1
  have hl := h.len
  refine h.bagged hs ha rfl (by rw [hv]; exact h.most) (by rw [hv]; show s.last + 1 = n.last + 1; rw [h.last]) ?_ ?_
  · rw [hv]
    show (s.l ++ [(s.last + 1, x)]).map Prod.fst = (n.l ++ [(n.last + 1, f)]).map Prod.fst
    rw [List.map_append, List.map_append, h.no, h.last]; rfl
  · intro k p q hp hq
    rw [hv] at hp
    have hp : (s.l ++ [(s.last + 1, x)])[k]? = some p := hp
    have hq : (n.l ++ [(n.last + 1, f)])[k]? = some q := hq
    by_cases hk : k < s.l.length
    · rw [List.getElem?_append_left hk] at hp
      rw [List.getElem?_append_left (by omega)] at hq
      exact h.byt k p q hp hq
    · have hk2 : k = s.l.length := by
        have := (List.getElem?_eq_some_iff.1 hp).1
        simp only [List.length_append, List.length_singleton] at this
        omega
      subst hk2
      rw [List.getElem?_append_right (Nat.le_refl _)] at hp
      rw [List.getElem?_append_right (by omega)] at hq
      rw [hl] at hq
      simp only [Nat.sub_self, List.getElem?_cons_zero, Option.some.injEq] at hp hq
      subst hp; subst hq
      exact ⟨ho, hb⟩
end
structure SendI (w : World) (lo g cd gt bg bd : Nat) (v0 : Value) (n : Nv) (m : Int) (M : Int) (xs : List LV) (j : Nat) (v : Value) (s : NBg) (wr : World) : Prop where
  net : NetAt wr lo g cd gt bg bd v s (sendQ n xs j).1 m
  st : NStep w wr cd gt bg bd v0 v
  ok : (sendQ n xs j).1.ok (M + j)
  many : 0 ≤ (sendQ n xs j).2 ∧ (sendQ n xs j).2 ≤ M + j
def SendP (w : World) (lo g cd gt bg bd : Nat) (v0 : Value) (n : Nv) (m : Int) (M : Int) (xs : List LV) (e : Ending) (w' : World) : Prop :=
  ∃ v s, e = .returned (.int .i64 (sendQ n xs xs.length).2) ∧ SendI w lo g cd gt bg bd v0 n m M xs xs.length v s w'
theorem encX_bs (x : LV) (w : World) (B : Nat) (h : LIn w B x) (h0 : chkX x = 0) : isBs (encX x) := by
  have h1 := h0
  unfold chkX at h1
  split at h1
  · omega
  · split at h1
    · rename_i hk hh
      have hr := room_ok x w B h h0
      refine sealB_bs _ (putB_bs _ _ (by omega) (fun b hb => ?_) (by rw [natB_len]; unfold bodyB; rw [List.length_append, hdr_len]; omega))
      obtain ⟨z, hz, rfl⟩ := List.mem_map.1 hb
      have hz2 : bytesB (bodyB x.l (partsI x.l.kd.toNat) (partB x)) := bytesB_app (bytesB_app (big_bytes _ _) (big_bytes _ _)) (bytes_flat _ _ (fun i _ => partB_bytes x w B i h))
      have := hz2 z hz
      omega
    · omega
end Go.Proofs.YtnnegldaekmgbaaGreatDoor
