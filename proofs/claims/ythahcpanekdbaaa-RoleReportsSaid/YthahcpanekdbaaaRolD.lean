/- Contracts: Of, of both; the law's awake. -/
import Derived.Test.YthahcpanekdbaaaRolC

namespace Go.Proofs.Ythahcpanekdbaaa
open Go.RowKit
set_option linter.unusedSimpArgs false
set_option linter.unusedVariables false
set_option maxHeartbeats 1000000

/-- a role -/
structure Rl where
  ins : Bool
  joins : Bool
  head : Bool
  tail : Bool
  waits : Bool
  place : Int
  pred : Int
  succ : Int
def Rl.agg (r : Rl) : Value := .agg #[.bool r.ins, .bool r.joins, .bool r.head, .bool r.tail, .bool r.waits, .int .i64 r.place, .int .i64 r.pred, .int .i64 r.succ]
def Rl.zero : Rl := ⟨false, false, false, false, false, 0, 0, 0⟩
def Cf.roleAt (x : Cf) (i : Nat) : Rl :=
  ⟨true, false, decide (i = 0), decide (i + 1 = x.len), decide (i + 1 = x.len) && x.fr, i, if i = 0 then 0 else x.zs.getD (i - 1) 0, if i + 1 = x.len then x.jn else x.zs.getD (i + 1) 0⟩
noncomputable def Cf.role (x : Cf) (node : Int) : Rl :=
  if x.right = true ∧ node ≠ 0 then (if node = x.jn then ⟨false, true, false, false, true, 0, x.last, 0⟩ else if node ∈ x.zs then x.roleAt (x.zs.idxOf node) else Rl.zero) else Rl.zero
attribute [local go_sem] Cf.agg Cf.cells Rl.agg

theorem CfIn.drew {w : World} {B : Nat} {x : Cf} (h : CfIn w B x) : CfIn w.drew B x := ⟨h.rd, h.hc, h.hm⟩
theorem cf_relay {w1 W w' : World} {B : Nat} {x : Cf} (h : CfIn w1 B x) (hB : B ≤ w1.heap.size) (hb : Below W.heap.size W w') (h1 : Below w1.heap.size w1 W) : CfIn w' B x :=
  h.below ((h1.mono hB).trans (hb.mono (Nat.le_trans hB h1.size)))
theorem unl_zs {x : Cf} (h : Unl x.stands) {i j : Nat} {a b : Int} (hi : x.zs[i]? = some a) (hj : x.zs[j]? = some b) (hij : i < j) : a ≠ b := by
  rintro rfl
  have hjl := (List.getElem?_eq_some_iff.1 hj).1
  have h1 := (h j a (by rw [Cf.stands, List.getElem?_append_left hjl]; exact hj)).2
  apply h1
  rw [List.mem_iff_getElem?]
  refine ⟨i, ?_⟩
  rw [List.getElem?_take_of_lt hij, Cf.stands, List.getElem?_append_left (by omega)]
  exact hi
theorem idx_get {l : List Int} {x : Int} (h : x ∈ l) : l[l.idxOf x]? = some x ∧ l.idxOf x < l.length := by
  have h1 := List.idxOf_lt_length_iff.2 h
  exact ⟨by rw [List.getElem?_eq_getElem h1, List.getElem_idxOf], h1⟩

theorem blk_new_at (w : World) (t : TypeId) (cs : Array Value) (g : Nat) (h : g = w.heap.size) : Blk (w.alloc (.cells cs t)) g t cs := by subst h; exact Blk.new w t cs
def Rl.cells (r : Rl) : Array Value := #[.bool r.ins, .bool r.joins, .bool r.head, .bool r.tail, .bool r.waits, .int .i64 r.place, .int .i64 r.pred, .int .i64 r.succ]
theorem rl_cells {w : World} {g : Nat} {t : TypeId} {r : Rl} (h : Blk w g t r.cells) : (w.cell? ⟨g, 0, none⟩ = some (.bool r.ins) ∧ w.cell? ⟨g, 1, none⟩ = some (.bool r.joins) ∧ w.cell? ⟨g, 2, none⟩ = some (.bool r.head) ∧ w.cell? ⟨g, 3, none⟩ = some (.bool r.tail) ∧ w.cell? ⟨g, 4, none⟩ = some (.bool r.waits) ∧ w.cell? ⟨g, 5, none⟩ = some (.int .i64 r.place) ∧ w.cell? ⟨g, 6, none⟩ = some (.int .i64 r.pred) ∧ w.cell? ⟨g, 7, none⟩ = some (.int .i64 r.succ)) := by
  refine ⟨?_, ?_, ?_, ?_, ?_, ?_, ?_, ?_⟩ <;> (rw [h.cell]; rfl)
theorem rl_frozen {w : World} {g : Nat} {t : TypeId} {cs : Array Value} (h : Blk w g t cs) : (w.frozen? ⟨g, 0, none⟩ = false ∧ w.frozen? ⟨g, 1, none⟩ = false ∧ w.frozen? ⟨g, 2, none⟩ = false ∧ w.frozen? ⟨g, 3, none⟩ = false ∧ w.frozen? ⟨g, 4, none⟩ = false ∧ w.frozen? ⟨g, 5, none⟩ = false ∧ w.frozen? ⟨g, 6, none⟩ = false ∧ w.frozen? ⟨g, 7, none⟩ = false) :=
  ⟨h.frozen 0, h.frozen 1, h.frozen 2, h.frozen 3, h.frozen 4, h.frozen 5, h.frozen 6, h.frozen 7⟩
theorem box2_below {w w1 : World} {o p : Obj} (h : Below ((w.alloc o).alloc p).heap.size ((w.alloc o).alloc p) w1) : Below w.heap.size w w1 := (((Below.refl _ _).alloc (Nat.le_refl _) _).alloc (by simp) _).trans (h.mono (by simp <;> omega))

theorem blk_relay {w1 W w' : World} {g : Nat} {t : TypeId} {cs : Array Value} (h : Blk w1 g t cs) (h' : Below W.heap.size W w') (hb : Below w1.heap.size w1 W) : Blk w' g t cs :=
  (h.below hb h.lt).below h' (Nat.lt_of_lt_of_le h.lt hb.size)
theorem lt_relay {n : Nat} {w1 W w' : World} (h : n < w1.heap.size) (hb : Below W.heap.size W w') (h1 : Below w1.heap.size w1 W) : n < w'.heap.size := by have := hb.size; have := h1.size; omega
theorem le_relay {n : Nat} {w1 W w' : World} (h : n ≤ w1.heap.size) (hb : Below W.heap.size W w') (h1 : Below w1.heap.size w1 W) : n ≤ w'.heap.size := by have := hb.size; have := h1.size; omega
theorem cf_at2 {w : World} {B : Nat} {x : Cf} (h : CfIn w B x) (h0 : 0 < x.len) : ∃ b off, x.A = some ⟨b, off, none⟩ ∧ b < B ∧ ∀ k, k < x.len → w.cell? ⟨b, off + k, none⟩ = some (.int .i64 (x.zs.getD k 0)) := by
  obtain ⟨ad, hA, hb, hc⟩ := cf_at h h0
  obtain ⟨b, off, spot⟩ := ad
  have hspot : spot = none := by
    have := World.cell?_spot hc
    simpa [Addr.add] using this
  subst hspot
  refine ⟨b, off, hA, hb, fun k hk => ?_⟩
  obtain ⟨ad', hA', _, hc'⟩ := cf_at h hk
  rw [hA] at hA'
  injection hA' with hA'
  subst hA'
  rw [Go.WideShapes.add_plain] at hc'
  exact hc'
/-- the memory of role.Of once a role of its own is laid -/
structure Mid (w : World) (B : Nat) (x : Cf) (r : Rl) (g : Nat) (W : World) : Prop where
  box : Blk W w.heap.size 25 x.cells
  res : Blk W (w.heap.size + 1) 28 Rl.zero.cells
  own : Blk W g 28 r.cells
  far : w.heap.size + 1 < g
  bel : Below w.heap.size w W
  inn : CfIn W B x
theorem mid_alloc {w w6 : World} {B : Nat} {x : Cf} (r : Rl) (hB : B ≤ w6.heap.size) (h1 : Blk w6 w.heap.size 25 x.cells) (h2 : Blk w6 (w.heap.size + 1) 28 Rl.zero.cells) (h3 : Below w.heap.size w w6) (h4 : CfIn w6 B x) :
    Mid w B x r w6.heap.size (w6.alloc (.cells r.cells 28)) :=
  ⟨h1.alloc _, h2.alloc _, Blk.new _ _ _, h2.lt, h3.alloc (Nat.le_of_lt h1.lt) _, h4.alloc hB _⟩
theorem mid_set {w w6 : World} {B g : Nat} {x : Cf} (r : Rl) (hB : B ≤ w.heap.size) (h1 : Blk w6 w.heap.size 25 x.cells) (h2 : Blk w6 (w.heap.size + 1) 28 Rl.zero.cells) (h3 : Below w.heap.size w w6) (h4 : CfIn w6 B x) (h5 : Blk w6 g 28 Rl.zero.cells) (hg : w.heap.size + 1 < g) :
    Mid w B x r g ((((((((w6.setCell ⟨g, 0, none⟩ (.bool r.ins)).setCell ⟨g, 1, none⟩ (.bool r.joins)).setCell ⟨g, 2, none⟩ (.bool r.head)).setCell ⟨g, 3, none⟩ (.bool r.tail)).setCell ⟨g, 4, none⟩ (.bool r.waits)).setCell ⟨g, 5, none⟩ (.int .i64 r.place)).setCell ⟨g, 6, none⟩ (.int .i64 r.pred)).setCell ⟨g, 7, none⟩ (.int .i64 r.succ)) := by
  have n0 : w.heap.size ≠ g := by omega
  have n1 : w.heap.size + 1 ≠ g := by omega
  have hb : ∀ a : World, ∀ k v, Below w.heap.size w a → Below w.heap.size w (a.setCell ⟨g, k, none⟩ v) := fun a k v h => h.setCell (show w.heap.size ≤ g by omega) v
  refine ⟨?_, ?_, ?_, hg, ?_, ?_⟩
  · exact ((((((((h1.far n0 _).far n0 _).far n0 _).far n0 _).far n0 _).far n0 _).far n0 _).far n0 _)
  · exact ((((((((h2.far n1 _).far n1 _).far n1 _).far n1 _).far n1 _).far n1 _).far n1 _).far n1 _)
  · exact ((((((((h5.set_ 0 _).set_ 1 _).set_ 2 _).set_ 3 _).set_ 4 _).set_ 5 _).set_ 6 _).set_ 7 _)
  · exact hb _ _ _ (hb _ _ _ (hb _ _ _ (hb _ _ _ (hb _ _ _ (hb _ _ _ (hb _ _ _ (hb _ _ _ h3)))))))
  · refine ⟨?_, h4.hc, h4.hm⟩
    have hp : ∀ k, B ≤ (⟨g, k, none⟩ : Addr).block := fun k => (show B ≤ g by omega)
    exact ((((((((h4.rd.setCell (hp _) _).setCell (hp _) _).setCell (hp _) _).setCell (hp _) _).setCell (hp _) _).setCell (hp _) _).setCell (hp _) _).setCell (hp _) _)














set_option maxHeartbeats 8000000 in
theorem of_found (x : Cf) (node : Int) (B : Nat) (w : World) (hx : CfIn w B x) (hB : B ≤ w.heap.size) (i : Nat) (hR : x.right = true) (hz' : (node == 0) = false) (hj' : (node == x.jn) = false)
    (hidx : idxOf x.zs node = (i : Int)) (hgl : i < x.len) (hd tl : Bool) (hhd : ((i : Int) == 0) = hd) (htl : (node == x.tailV) = tl) (hhd2 : decide (i = 0) = hd) (htl2 : decide (i + 1 = x.len) = tl) :
    Calls Try.prog 7 #[x.agg, .int .i64 node] w fun e w' => e = .returned (x.roleAt i).agg ∧ Below w.heap.size w w' := by
  have HX := Lib.hid hx
  have hc63 : (x.len : Int) ≤ 9223372036854775807 := by have h1 := hx.hc; have h2 := hx.hm; unfold maxLen at h2; omega
  have HD := Lib.hid hhd2
  have HT := Lib.hid htl2
  clear hx hhd2 htl2
  go_enter Try.func7, Try.ntmps7; go_wp2_with (fail); refine (right_any x B _ ((HX.out.alloc hB _).alloc (by simp; omega) _) (by simp; omega)).mono ?_; rintro e w1 ⟨rfl, h⟩; have HBX := Lib.hid (((Blk.new w 25 x.cells).alloc (.cells Rl.zero.cells 28)).below h (by simp <;> omega)); have HRS := Lib.hid ((blk_new_at (w.alloc (.cells x.cells 25)) 28 Rl.zero.cells (w.heap.size + 1) (by simp)).below h (by simp)); obtain ⟨c0, c1, c2, c3, c4⟩ := cf_cells (x := x) HBX.out; have q5 := HBX.out.lt; have q6 := HRS.out.lt; have H1 := Lib.hid (box2_below h); have HX1 := Lib.hid (HX.out.below (H1.out.mono hB)); have hBw := Nat.le_trans hB H1.out.size; clear h
  go_wp2_with (first | (go_at_call 25; refine (index_any x.A x.len x.cap B x.zs node _ HX1.out.rd (Nat.le_trans HX1.out.hc HX1.out.hm)).mono ?_; rintro e w' ⟨rfl, rfl⟩) | fail)
  have p6 := q6; have n1 : (w.heap.size == w1.heap.size) = false := (by simp; omega); have n2 : (w1.heap.size == w.heap.size) = false := (by simp; omega); have n3 : (w.heap.size = w1.heap.size) = False := (by simp; omega); have n4 : (w1.heap.size = w.heap.size) = False := (by simp; omega); have n5 : (w.heap.size + 1 = w1.heap.size) = False := (by simp; omega); have n6 : (w1.heap.size = w.heap.size + 1) = False := (by simp; omega)
  go_region_held3 (fun w' => w'.cell? ⟨w.heap.size, 0, none⟩ = some (.int .i64 x.ch) ∧ w'.cell? ⟨w.heap.size, 1, none⟩ = some (.int .u64 x.ep) ∧ w'.cell? ⟨w.heap.size, 2, none⟩ = some (.slice x.A x.len x.cap) ∧ w'.cell? ⟨w.heap.size, 3, none⟩ = some (.bool x.fr) ∧ w'.cell? ⟨w.heap.size, 4, none⟩ = some (.int .i64 x.jn)) (go_keep) (first | (go_at_call 12; refine (tail_any x B _ ?_ ?_).mono ?_; (· repeat (first | with_reducible refine CfIn.alloc ?_ (by first | omega | (simp; omega)) _ | with_reducible refine CfIn.drewN ?_ _ | with_reducible refine CfIn.drew ?_ | with_reducible exact HX1.out)); (· first | omega | (simp; omega)); rintro e w6 ⟨rfl, h⟩; (try (have hrb : Blk w6 w1.heap.size 28 Rl.zero.cells := (by first | exact (Blk.new w1 28 Rl.zero.cells).below h (by simp) | exact ((Blk.new w1 28 Rl.zero.cells).drew).below h (by simp) | exact (Blk.new w1.drew 28 Rl.zero.cells).below h (by simp)); have HRB := Lib.hid hrb; obtain ⟨s0, s1, s2, s3, s4, s5, s6, s7⟩ := rl_cells hrb; obtain ⟨g0, g1, g2, g3, g4, g5, g6, g7⟩ := rl_frozen hrb; simp only [Rl.zero] at s0 s1 s2 s3 s4 s5 s6 s7; have p7 := hrb.lt; clear hrb)); replace H1 := Lib.hid (below_relay H1.out q5 h (by repeat (first | with_reducible exact Below.refl _ _ | with_reducible refine Below.alloc ?_ (by simp <;> omega) _ | with_reducible refine below_drewN ?_ _ | with_reducible refine Below.drew ?_))); replace HX1 := Lib.hid (cf_relay HX1.out hBw h (by repeat (first | with_reducible exact Below.refl _ _ | with_reducible refine Below.alloc ?_ (by simp <;> omega) _ | with_reducible refine below_drewN ?_ _ | with_reducible refine Below.drew ?_))); replace HBX := Lib.hid (blk_relay HBX.out h (by repeat (first | with_reducible exact Below.refl _ _ | with_reducible refine Below.alloc ?_ (by simp <;> omega) _ | with_reducible refine below_drewN ?_ _ | with_reducible refine Below.drew ?_))); replace HRS := Lib.hid (blk_relay HRS.out h (by repeat (first | with_reducible exact Below.refl _ _ | with_reducible refine Below.alloc ?_ (by simp <;> omega) _ | with_reducible refine below_drewN ?_ _ | with_reducible refine Below.drew ?_))); replace hBw := le_relay hBw h (by repeat (first | with_reducible exact Below.refl _ _ | with_reducible refine Below.alloc ?_ (by simp <;> omega) _ | with_reducible refine below_drewN ?_ _ | with_reducible refine Below.drew ?_)); clear c0 c1 c2 c3 c4 q5 q6; obtain ⟨c0, c1, c2, c3, c4⟩ := cf_cells (x := x) HBX.out; have q5 := HBX.out.lt; have q6 := HRS.out.lt; clear h) | fail)
  · have hM := mid_alloc (w := w) (x := x) ⟨true, false, hd, tl, false, i, 0, x.jn⟩ hBw HBX.out HRS.out H1.out HX1.out
    simp only [Rl.cells] at hM
    generalize w6.alloc (.cells #[.bool true, .bool false, .bool hd, .bool tl, .bool false, .int .i64 i, .int .i64 0, .int .i64 x.jn] 28) = wc at hM ⊢
    rename_i hHeld
    generalize w6.heap.size = g at hM ⊢
    have HM := Lib.hid hM
    clear hM
    obtain ⟨c0, c1, c2, c3, c4⟩ := cf_cells HM.out.box
    obtain ⟨r0, r1, r2, r3, r4, r5, r6, r7⟩ := rl_cells HM.out.res
    obtain ⟨f0, f1, f2, f3, f4, f5, f6, f7⟩ := rl_frozen HM.out.res
    simp only [Rl.zero] at r0 r1 r2 r3 r4 r5 r6 r7
    obtain ⟨s0, s1, s2, s3, s4, s5, s6, s7⟩ := rl_cells HM.out.own
    obtain ⟨g0, g1, g2, g3, g4, g5, g6, g7⟩ := rl_frozen HM.out.own
    have hgf := HM.out.far
    have m1 : (w.heap.size = g) = False := by simp; omega
    have m2 : (g = w.heap.size) = False := by simp; omega
    have m3 : (w.heap.size + 1 = g) = False := by simp; omega
    have m4 : (g = w.heap.size + 1) = False := by simp; omega
    obtain ⟨b, off, hA, hb, hcs⟩ := cf_at2 HM.out.inn (by omega)
    rw [hA] at c2
    have hbw : b < w.heap.size := by omega
    have m5 : (b = g) = False := by simp; omega
    have m6 : (g = b) = False := by simp; omega
    have HCS := Lib.hid hcs
    clear hA hcs hHeld htl hhd hidx
    have HHM := HM
    by_cases h0 : i = 0
    · subst h0
      obtain rfl : hd = true := by rw [← HD.out]; rfl
      cases tl
      · have hlt : ¬ 0 + 1 = x.len := by simpa using HT.out
        obtain ⟨q, hq⟩ : ∃ q, x.zs.getD 1 0 = q := ⟨_, rfl⟩
        have hcell := HCS.out 1 (by omega)
        rw [hq] at hcell
        have hE : Hid ((x.roleAt 0).agg = .agg #[.bool true, .bool false, .bool true, .bool false, .bool false, .int .i64 0, .int .i64 0, .int .i64 q]) := Lib.hid (by
          rw [List.getD_eq_getElem?_getD] at hq
          rw [Rl.agg, Cf.roleAt, decide_eq_false hlt, if_neg hlt]; simp [hq])
        clear hq
        go_wp2; refine bodyPost_ret (v := .agg #[.bool true, .bool false, .bool true, .bool false, .bool false, .int .i64 0, .int .i64 0, .int .i64 q]) (by simp [results, Try.results7, go_sem, *]) rfl ⟨?_, ?_⟩; (· exact congrArg Ending.returned hE.out.symm); (· repeat (first | with_reducible exact HM.out.bel | with_reducible refine Below.setCell ?_ (by simp <;> omega) _ | with_reducible refine Below.drew ?_))
      · have hlt : 0 + 1 = x.len := by simpa using HT.out
        have hE : Hid ((x.roleAt 0).agg = .agg #[.bool true, .bool false, .bool true, .bool true, .bool x.fr, .int .i64 0, .int .i64 0, .int .i64 x.jn]) := Lib.hid (by
          rw [Rl.agg, Cf.roleAt, decide_eq_true hlt, if_pos hlt]; simp)
        clear hlt
        go_wp2; refine bodyPost_ret (v := .agg #[.bool true, .bool false, .bool true, .bool true, .bool x.fr, .int .i64 0, .int .i64 0, .int .i64 x.jn]) (by simp [results, Try.results7, go_sem, *]) rfl ⟨?_, ?_⟩; (· exact congrArg Ending.returned hE.out.symm); (· repeat (first | with_reducible exact HM.out.bel | with_reducible refine Below.setCell ?_ (by simp <;> omega) _ | with_reducible refine Below.drew ?_))
    · obtain ⟨k, rfl⟩ : ∃ k, i = k + 1 := ⟨i - 1, by omega⟩
      obtain rfl : hd = false := by rw [← HD.out]; simp
      obtain ⟨p, hp⟩ : ∃ p, x.zs.getD k 0 = p := ⟨_, rfl⟩
      have hcell := HCS.out k (by omega)
      rw [hp] at hcell
      have hk1 : (0 : Int) < (k : Int) + 1 := by omega
      clear h0
      cases tl
      · have hlt : ¬ k + 1 + 1 = x.len := by simpa using HT.out
        obtain ⟨q, hq⟩ : ∃ q, x.zs.getD (k + 2) 0 = q := ⟨_, rfl⟩
        have hcell2 := HCS.out (k + 2) (by omega)
        rw [hq] at hcell2
        have hlt2 : k + 2 < x.len := by omega
        have hE : Hid ((x.roleAt (k + 1)).agg = .agg #[.bool true, .bool false, .bool false, .bool false, .bool false, .int .i64 (k + 1), .int .i64 p, .int .i64 q]) := Lib.hid (by
          rw [List.getD_eq_getElem?_getD] at hq hp
          rw [Rl.agg, Cf.roleAt, decide_eq_false hlt, if_neg hlt]; simp [hq, hp])
        clear hq hp hlt
        go_wp2; refine bodyPost_ret (v := .agg #[.bool true, .bool false, .bool false, .bool false, .bool false, .int .i64 (k + 1), .int .i64 p, .int .i64 q]) (by simp [results, Try.results7, go_sem, *]) rfl ⟨?_, ?_⟩; (· exact congrArg Ending.returned hE.out.symm); (· repeat (first | with_reducible exact HM.out.bel | with_reducible refine Below.setCell ?_ (by simp <;> omega) _ | with_reducible refine Below.drew ?_))
      · have hlt : k + 1 + 1 = x.len := by simpa using HT.out
        have hE : Hid ((x.roleAt (k + 1)).agg = .agg #[.bool true, .bool false, .bool false, .bool true, .bool x.fr, .int .i64 (k + 1), .int .i64 p, .int .i64 x.jn]) := Lib.hid (by
          rw [List.getD_eq_getElem?_getD] at hp
          rw [Rl.agg, Cf.roleAt, decide_eq_true hlt, if_pos hlt]; simp [hp])
        clear hp hlt
        go_wp2; refine bodyPost_ret (v := .agg #[.bool true, .bool false, .bool false, .bool true, .bool x.fr, .int .i64 (k + 1), .int .i64 p, .int .i64 x.jn]) (by simp [results, Try.results7, go_sem, *]) rfl ⟨?_, ?_⟩; (· exact congrArg Ending.returned hE.out.symm); (· repeat (first | with_reducible exact HM.out.bel | with_reducible refine Below.setCell ?_ (by simp <;> omega) _ | with_reducible refine Below.drew ?_))
  · have hM := mid_set (w := w) (x := x) ⟨true, false, hd, tl, false, i, 0, x.jn⟩ hB HBX.out HRS.out H1.out HX1.out HRB.out p6
    dsimp only at hM
    generalize ((((((((w6.setCell ⟨w1.heap.size, 0, none⟩ (.bool true)).setCell ⟨w1.heap.size, 1, none⟩ (.bool false)).setCell ⟨w1.heap.size, 2, none⟩ (.bool hd)).setCell ⟨w1.heap.size, 3, none⟩ (.bool tl)).setCell ⟨w1.heap.size, 4, none⟩ (.bool false)).setCell ⟨w1.heap.size, 5, none⟩ (.int .i64 i)).setCell ⟨w1.heap.size, 6, none⟩ (.int .i64 0)).setCell ⟨w1.heap.size, 7, none⟩ (.int .i64 x.jn)) = wc at hM ⊢
    rename_i hHeld
    generalize w1.heap.size = g at hM ⊢
    have HM := Lib.hid hM
    clear hM
    clear s0 s1 s2 s3 s4 s5 s6 s7 g0 g1 g2 g3 g4 g5 g6 g7
    obtain ⟨c0, c1, c2, c3, c4⟩ := cf_cells HM.out.box
    obtain ⟨r0, r1, r2, r3, r4, r5, r6, r7⟩ := rl_cells HM.out.res
    obtain ⟨f0, f1, f2, f3, f4, f5, f6, f7⟩ := rl_frozen HM.out.res
    simp only [Rl.zero] at r0 r1 r2 r3 r4 r5 r6 r7
    obtain ⟨s0, s1, s2, s3, s4, s5, s6, s7⟩ := rl_cells HM.out.own
    obtain ⟨g0, g1, g2, g3, g4, g5, g6, g7⟩ := rl_frozen HM.out.own
    have hgf := HM.out.far
    have m1 : (w.heap.size = g) = False := by simp; omega
    have m2 : (g = w.heap.size) = False := by simp; omega
    have m3 : (w.heap.size + 1 = g) = False := by simp; omega
    have m4 : (g = w.heap.size + 1) = False := by simp; omega
    obtain ⟨b, off, hA, hb, hcs⟩ := cf_at2 HM.out.inn (by omega)
    rw [hA] at c2
    have hbw : b < w.heap.size := by omega
    have m5 : (b = g) = False := by simp; omega
    have m6 : (g = b) = False := by simp; omega
    have HCS := Lib.hid hcs
    clear hA hcs hHeld htl hhd hidx
    have HHM := HM
    by_cases h0 : i = 0
    · subst h0
      obtain rfl : hd = true := by rw [← HD.out]; rfl
      cases tl
      · have hlt : ¬ 0 + 1 = x.len := by simpa using HT.out
        obtain ⟨q, hq⟩ : ∃ q, x.zs.getD 1 0 = q := ⟨_, rfl⟩
        have hcell := HCS.out 1 (by omega)
        rw [hq] at hcell
        have hE : Hid ((x.roleAt 0).agg = .agg #[.bool true, .bool false, .bool true, .bool false, .bool false, .int .i64 0, .int .i64 0, .int .i64 q]) := Lib.hid (by
          rw [List.getD_eq_getElem?_getD] at hq
          rw [Rl.agg, Cf.roleAt, decide_eq_false hlt, if_neg hlt]; simp [hq])
        clear hq
        go_wp2; refine bodyPost_ret (v := .agg #[.bool true, .bool false, .bool true, .bool false, .bool false, .int .i64 0, .int .i64 0, .int .i64 q]) (by simp [results, Try.results7, go_sem, *]) rfl ⟨?_, ?_⟩; (· exact congrArg Ending.returned hE.out.symm); (· repeat (first | with_reducible exact HM.out.bel | with_reducible refine Below.setCell ?_ (by simp <;> omega) _ | with_reducible refine Below.drew ?_))
      · have hlt : 0 + 1 = x.len := by simpa using HT.out
        have hE : Hid ((x.roleAt 0).agg = .agg #[.bool true, .bool false, .bool true, .bool true, .bool x.fr, .int .i64 0, .int .i64 0, .int .i64 x.jn]) := Lib.hid (by
          rw [Rl.agg, Cf.roleAt, decide_eq_true hlt, if_pos hlt]; simp)
        clear hlt
        go_wp2; refine bodyPost_ret (v := .agg #[.bool true, .bool false, .bool true, .bool true, .bool x.fr, .int .i64 0, .int .i64 0, .int .i64 x.jn]) (by simp [results, Try.results7, go_sem, *]) rfl ⟨?_, ?_⟩; (· exact congrArg Ending.returned hE.out.symm); (· repeat (first | with_reducible exact HM.out.bel | with_reducible refine Below.setCell ?_ (by simp <;> omega) _ | with_reducible refine Below.drew ?_))
    · obtain ⟨k, rfl⟩ : ∃ k, i = k + 1 := ⟨i - 1, by omega⟩
      obtain rfl : hd = false := by rw [← HD.out]; simp
      obtain ⟨p, hp⟩ : ∃ p, x.zs.getD k 0 = p := ⟨_, rfl⟩
      have hcell := HCS.out k (by omega)
      rw [hp] at hcell
      have hk1 : (0 : Int) < (k : Int) + 1 := by omega
      clear h0
      cases tl
      · have hlt : ¬ k + 1 + 1 = x.len := by simpa using HT.out
        obtain ⟨q, hq⟩ : ∃ q, x.zs.getD (k + 2) 0 = q := ⟨_, rfl⟩
        have hcell2 := HCS.out (k + 2) (by omega)
        rw [hq] at hcell2
        have hlt2 : k + 2 < x.len := by omega
        have hE : Hid ((x.roleAt (k + 1)).agg = .agg #[.bool true, .bool false, .bool false, .bool false, .bool false, .int .i64 (k + 1), .int .i64 p, .int .i64 q]) := Lib.hid (by
          rw [List.getD_eq_getElem?_getD] at hq hp
          rw [Rl.agg, Cf.roleAt, decide_eq_false hlt, if_neg hlt]; simp [hq, hp])
        clear hq hp hlt
        go_wp2; refine bodyPost_ret (v := .agg #[.bool true, .bool false, .bool false, .bool false, .bool false, .int .i64 (k + 1), .int .i64 p, .int .i64 q]) (by simp [results, Try.results7, go_sem, *]) rfl ⟨?_, ?_⟩; (· exact congrArg Ending.returned hE.out.symm); (· repeat (first | with_reducible exact HM.out.bel | with_reducible refine Below.setCell ?_ (by simp <;> omega) _ | with_reducible refine Below.drew ?_))
      · have hlt : k + 1 + 1 = x.len := by simpa using HT.out
        have hE : Hid ((x.roleAt (k + 1)).agg = .agg #[.bool true, .bool false, .bool false, .bool true, .bool x.fr, .int .i64 (k + 1), .int .i64 p, .int .i64 x.jn]) := Lib.hid (by
          rw [List.getD_eq_getElem?_getD] at hp
          rw [Rl.agg, Cf.roleAt, decide_eq_true hlt, if_pos hlt]; simp [hp])
        clear hp hlt
        go_wp2; refine bodyPost_ret (v := .agg #[.bool true, .bool false, .bool false, .bool true, .bool x.fr, .int .i64 (k + 1), .int .i64 p, .int .i64 x.jn]) (by simp [results, Try.results7, go_sem, *]) rfl ⟨?_, ?_⟩; (· exact congrArg Ending.returned hE.out.symm); (· repeat (first | with_reducible exact HM.out.bel | with_reducible refine Below.setCell ?_ (by simp <;> omega) _ | with_reducible refine Below.drew ?_))
set_option maxHeartbeats 4000000 in
theorem of_any (x : Cf) (node : Int) (B : Nat) (w : World) (hx : CfIn w B x) (hB : B ≤ w.heap.size) :
    Calls Try.prog 7 #[x.agg, .int .i64 node] w fun e w' => e = .returned (x.role node).agg ∧ Below w.heap.size w w' := by
  have HX := Lib.hid hx
  have HL := Lib.hid hx.len_eq
  have hc63 : (x.len : Int) ≤ 9223372036854775807 := by have h1 := hx.hc; have h2 := hx.hm; unfold maxLen at h2; omega
  clear hx
  cases hR : x.right
  · have hV : Hid (x.role node = Rl.zero) := Lib.hid (by rw [Cf.role, if_neg (by simp [hR])])
    go_enter Try.func7, Try.ntmps7; go_wp2_with (fail); refine (right_any x B _ ((HX.out.alloc hB _).alloc (by simp; omega) _) (by simp; omega)).mono ?_; rintro e w1 ⟨rfl, h⟩; have HBX := Lib.hid (((Blk.new w 25 x.cells).alloc (.cells Rl.zero.cells 28)).below h (by simp <;> omega)); have HRS := Lib.hid ((blk_new_at (w.alloc (.cells x.cells 25)) 28 Rl.zero.cells (w.heap.size + 1) (by simp)).below h (by simp)); obtain ⟨c0, c1, c2, c3, c4⟩ := cf_cells (x := x) HBX.out; have q5 := HBX.out.lt; have q6 := HRS.out.lt; have H1 := Lib.hid (box2_below h); have HX1 := Lib.hid (HX.out.below (H1.out.mono hB)); have hBw := Nat.le_trans hB H1.out.size; clear h
    obtain ⟨r0, r1, r2, r3, r4, r5, r6, r7⟩ := rl_cells HRS.out; obtain ⟨f0, f1, f2, f3, f4, f5, f6, f7⟩ := rl_frozen HRS.out; simp only [Rl.zero] at r0 r1 r2 r3 r4 r5 r6 r7
    go_wp2; refine bodyPost_ret (v := Rl.zero.agg) (by simp [results, Try.results7, go_sem, Rl.agg, Rl.zero, *]) rfl ⟨?_, ?_⟩; (· rw [hV.out]); (· repeat (first | with_reducible exact H1.out | with_reducible refine Below.setCell ?_ (by simp <;> omega) _ | with_reducible refine Below.alloc ?_ (by first | omega | (simp; omega)) _ | with_reducible refine below_drewN ?_ _ | with_reducible refine Below.drew ?_))
  by_cases hz : node = 0
  · have hV : Hid (x.role node = Rl.zero) := Lib.hid (by rw [Cf.role, if_neg (by simp [hz])])
    have hz' : (node == 0) = true := by simp [hz]
    clear hz
    go_enter Try.func7, Try.ntmps7; go_wp2_with (fail); refine (right_any x B _ ((HX.out.alloc hB _).alloc (by simp; omega) _) (by simp; omega)).mono ?_; rintro e w1 ⟨rfl, h⟩; have HBX := Lib.hid (((Blk.new w 25 x.cells).alloc (.cells Rl.zero.cells 28)).below h (by simp <;> omega)); have HRS := Lib.hid ((blk_new_at (w.alloc (.cells x.cells 25)) 28 Rl.zero.cells (w.heap.size + 1) (by simp)).below h (by simp)); obtain ⟨c0, c1, c2, c3, c4⟩ := cf_cells (x := x) HBX.out; have q5 := HBX.out.lt; have q6 := HRS.out.lt; have H1 := Lib.hid (box2_below h); have HX1 := Lib.hid (HX.out.below (H1.out.mono hB)); have hBw := Nat.le_trans hB H1.out.size; clear h
    obtain ⟨r0, r1, r2, r3, r4, r5, r6, r7⟩ := rl_cells HRS.out; obtain ⟨f0, f1, f2, f3, f4, f5, f6, f7⟩ := rl_frozen HRS.out; simp only [Rl.zero] at r0 r1 r2 r3 r4 r5 r6 r7
    go_wp2; refine bodyPost_ret (v := Rl.zero.agg) (by simp [results, Try.results7, go_sem, Rl.agg, Rl.zero, *]) rfl ⟨?_, ?_⟩; (· rw [hV.out]); (· repeat (first | with_reducible exact H1.out | with_reducible refine Below.setCell ?_ (by simp <;> omega) _ | with_reducible refine Below.alloc ?_ (by first | omega | (simp; omega)) _ | with_reducible refine below_drewN ?_ _ | with_reducible refine Below.drew ?_))
  by_cases hj : node = x.jn
  · have hE : Hid ((x.role node).agg = .agg #[.bool false, .bool true, .bool false, .bool false, .bool true, .int .i64 0, .int .i64 x.tailV, .int .i64 0]) := Lib.hid (by rw [Cf.role, if_pos ⟨hR, hz⟩, if_pos hj, Rl.agg, Cf.tailV, hR, if_pos rfl])
    have hz' : (node == 0) = false := by simp [hz]
    have hj' : (node == x.jn) = true := by simp [hj]
    clear hz hj
    go_enter Try.func7, Try.ntmps7; go_wp2_with (fail); refine (right_any x B _ ((HX.out.alloc hB _).alloc (by simp; omega) _) (by simp; omega)).mono ?_; rintro e w1 ⟨rfl, h⟩; have HBX := Lib.hid (((Blk.new w 25 x.cells).alloc (.cells Rl.zero.cells 28)).below h (by simp <;> omega)); have HRS := Lib.hid ((blk_new_at (w.alloc (.cells x.cells 25)) 28 Rl.zero.cells (w.heap.size + 1) (by simp)).below h (by simp)); obtain ⟨c0, c1, c2, c3, c4⟩ := cf_cells (x := x) HBX.out; have q5 := HBX.out.lt; have q6 := HRS.out.lt; have H1 := Lib.hid (box2_below h); have HX1 := Lib.hid (HX.out.below (H1.out.mono hB)); have hBw := Nat.le_trans hB H1.out.size; clear h
    go_wp2_with (fail)
    refine (tail_any x B _ HX1.out hBw).mono ?_
    rintro e w6 ⟨rfl, h⟩
    replace H1 := Lib.hid (below_relay H1.out q5 h (by repeat (first | with_reducible exact Below.refl _ _ | with_reducible refine Below.alloc ?_ (by simp <;> omega) _ | with_reducible refine below_drewN ?_ _ | with_reducible refine Below.drew ?_))); replace HX1 := Lib.hid (cf_relay HX1.out hBw h (by repeat (first | with_reducible exact Below.refl _ _ | with_reducible refine Below.alloc ?_ (by simp <;> omega) _ | with_reducible refine below_drewN ?_ _ | with_reducible refine Below.drew ?_))); replace HBX := Lib.hid (blk_relay HBX.out h (by repeat (first | with_reducible exact Below.refl _ _ | with_reducible refine Below.alloc ?_ (by simp <;> omega) _ | with_reducible refine below_drewN ?_ _ | with_reducible refine Below.drew ?_))); replace HRS := Lib.hid (blk_relay HRS.out h (by repeat (first | with_reducible exact Below.refl _ _ | with_reducible refine Below.alloc ?_ (by simp <;> omega) _ | with_reducible refine below_drewN ?_ _ | with_reducible refine Below.drew ?_))); replace hBw := le_relay hBw h (by repeat (first | with_reducible exact Below.refl _ _ | with_reducible refine Below.alloc ?_ (by simp <;> omega) _ | with_reducible refine below_drewN ?_ _ | with_reducible refine Below.drew ?_)); clear c0 c1 c2 c3 c4 q5 q6; obtain ⟨c0, c1, c2, c3, c4⟩ := cf_cells (x := x) HBX.out; have q5 := HBX.out.lt; have q6 := HRS.out.lt; clear h
    obtain ⟨r0, r1, r2, r3, r4, r5, r6, r7⟩ := rl_cells HRS.out; obtain ⟨f0, f1, f2, f3, f4, f5, f6, f7⟩ := rl_frozen HRS.out; simp only [Rl.zero] at r0 r1 r2 r3 r4 r5 r6 r7
    go_wp2
    refine bodyPost_ret (v := .agg #[.bool false, .bool true, .bool false, .bool false, .bool true, .int .i64 0, .int .i64 x.tailV, .int .i64 0]) (by simp [results, Try.results7, go_sem, *]) rfl ⟨?_, ?_⟩
    · exact congrArg Ending.returned hE.out.symm
    · repeat (first | with_reducible exact H1.out | with_reducible refine Below.setCell ?_ (by simp <;> omega) _ | with_reducible refine Below.alloc ?_ (by first | omega | (simp; omega)) _ | with_reducible refine below_drewN ?_ _ | with_reducible refine Below.drew ?_)
  by_cases hm : node ∈ x.zs
  rotate_left
  · have hV : Hid (x.role node = Rl.zero) := Lib.hid (by rw [Cf.role, if_pos ⟨hR, hz⟩, if_neg hj, if_neg hm])
    have hidx : idxOf x.zs node = -1 := idx_none _ _ hm
    have hz' : (node == 0) = false := by simp [hz]
    have hj' : (node == x.jn) = false := by simp [hj]
    clear hz hj hm
    go_enter Try.func7, Try.ntmps7; go_wp2_with (fail); refine (right_any x B _ ((HX.out.alloc hB _).alloc (by simp; omega) _) (by simp; omega)).mono ?_; rintro e w1 ⟨rfl, h⟩; have HBX := Lib.hid (((Blk.new w 25 x.cells).alloc (.cells Rl.zero.cells 28)).below h (by simp <;> omega)); have HRS := Lib.hid ((blk_new_at (w.alloc (.cells x.cells 25)) 28 Rl.zero.cells (w.heap.size + 1) (by simp)).below h (by simp)); obtain ⟨c0, c1, c2, c3, c4⟩ := cf_cells (x := x) HBX.out; have q5 := HBX.out.lt; have q6 := HRS.out.lt; have H1 := Lib.hid (box2_below h); have HX1 := Lib.hid (HX.out.below (H1.out.mono hB)); have hBw := Nat.le_trans hB H1.out.size; clear h
    obtain ⟨r0, r1, r2, r3, r4, r5, r6, r7⟩ := rl_cells HRS.out; obtain ⟨f0, f1, f2, f3, f4, f5, f6, f7⟩ := rl_frozen HRS.out; simp only [Rl.zero] at r0 r1 r2 r3 r4 r5 r6 r7
    go_wp2_with (first | (go_at_call 25; refine (index_any x.A x.len x.cap B x.zs node _ HX1.out.rd (Nat.le_trans HX1.out.hc HX1.out.hm)).mono ?_; rintro e w' ⟨rfl, rfl⟩) | fail)
    go_wp2; refine bodyPost_ret (v := Rl.zero.agg) (by simp [results, Try.results7, go_sem, Rl.agg, Rl.zero, *]) rfl ⟨?_, ?_⟩; (· rw [hV.out]); (· repeat (first | with_reducible exact H1.out | with_reducible refine Below.setCell ?_ (by simp <;> omega) _ | with_reducible refine Below.alloc ?_ (by first | omega | (simp; omega)) _ | with_reducible refine below_drewN ?_ _ | with_reducible refine Below.drew ?_))
  have hf := Cf.right_fine hR
  obtain ⟨hg, hgl⟩ := idx_get hm
  have hidx : idxOf x.zs node = ((x.zs.idxOf node : Nat) : Int) := by rw [idxOf, if_pos hm]
  have hV : x.role node = x.roleAt (x.zs.idxOf node) := by rw [Cf.role, if_pos ⟨hR, hz⟩, if_neg hj, if_pos hm]
  rw [hV]
  generalize x.zs.idxOf node = i at *
  rw [HL.out] at hgl
  refine of_found x node B w HX.out hB i hR (by simp [hz]) (by simp [hj]) hidx hgl (decide (i = 0)) (decide (i + 1 = x.len)) (by cases i <;> simp <;> omega) ?_ rfl rfl
  have hl : x.zs[x.len - 1]? = some (x.zs.getD (x.len - 1) 0) := by
    rw [List.getD_eq_getElem?_getD, List.getElem?_eq_getElem (by have := HL.out; omega)]; rfl
  rw [Cf.tailV, hR, if_pos rfl, Cf.last]
  by_cases ht : i + 1 = x.len
  · have : x.len - 1 = i := by omega
    rw [this] at hl ⊢
    rw [hg] at hl
    injection hl with hl
    rw [← hl]; simp [ht]
  · have := unl_zs hf.2 hg hl (by omega)
    rw [decide_eq_false ht, beq_eq_false_iff_ne]
    exact this
end Go.Proofs.Ythahcpanekdbaaa
