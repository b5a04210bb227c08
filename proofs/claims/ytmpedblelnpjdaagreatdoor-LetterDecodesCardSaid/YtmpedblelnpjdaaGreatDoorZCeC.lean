/- A letter's updates: read. -/
import Derived.Test.YtmpedblelnpjdaaGreatDoorZCeA
import Derived.Test.YtmpedblelnpjdaaGreatDoorZTq
import Derived.Test.YtmpedblelnpjdaaGreatDoorZTk
import Derived.Test.YtmpedblelnpjdaaGreatDoorZHeld
namespace Go.Proofs.YtmpedblelnpjdaaGreatDoor
open Go.RowKit
set_option linter.unusedSimpArgs false
set_option linter.unusedVariables false
set_option maxHeartbeats 8000000
set_option maxRecDepth 100000
theorem upInfoC : (Tryz.prog.info? 145).map (fun i => (i.zero, i.size, i.bytes)) = some (some (.agg #[.int .u64 0, .int .i64 0, .int .u64 0, .int .i64 0, .int .u32 0, .int .u64 0, .slice none 0 0]), 7, 72) := by kernel_rfl
theorem voteInfoC : (Tryz.prog.info? 239).map (fun i => (i.zero, i.size, i.bytes)) = some (some (.agg #[.int .i64 0, .int .u64 0, .int .i64 0, .int .i64 0, .int .u64 0, .int .i64 0]), 6, 48) := by kernel_rfl
theorem own_ne_ownC {w : World} {b1 b2 : Nat} {e1 e2 : TypeId} {s1 s2 n1 n2 : Nat} {v1 v2 : Value} {x1 x2 : List Value} (h1 : w.ownsRow b1 e1 s1 v1 n1 x1) (h2 : w.ownsRow b2 e2 s2 v2 n2 x2) (hne : e1 ≠ e2) (k : Nat) (hk1 : v1.ownBlock = some k) : v2.ownBlock ≠ some k := by
 intro hk2
 rcases h2.2 with ⟨rfl, _⟩ | ⟨g', cap, cur, rfl, _, hh, _⟩
 ·simp [Value.ownBlock] at hk2
 ·have : g' = k := by simpa [Value.ownBlock] using hk2
  subst this
  exact own_blk_ne h1 (show Blk w g' e2 cur from hh) hne hk1
theorem up_oneC (u : Up) : ∀ v ∈ u.row, v.oneCell' = true := by
 intro v hv
 simp only [Up.row, List.mem_cons, List.not_mem_nil, or_false] at hv
 rcases hv with rfl | rfl | rfl | rfl | rfl | rfl | rfl <;> rfl
def LV.addUp (x : LV) (u : Up) (A : Option Addr) (c : Nat) : LV := ⟨{ x.l with uA := A, un := x.l.un + 1, up := c }, x.ns, x.vs, x.us ++ [u], x.ds⟩
theorem LOwn.addUp {W w9 : World} {base : Nat} {x : LV} {u : Up} {A9 : Option Addr} {c9 : Nat} (h : LOwn W base x) (hu : W.ownsRow base 5 1 (.slice u.A u.n u.c) u.n (u.bs.map (Value.int .u8)) ∧ u.wf)
  (hown : w9.ownsRow base 145 7 (.slice A9 (x.l.un + 1) c9) (x.l.un + 1) (x.us.flatMap Up.row ++ u.row)) (hg : W.grownBy w9 (Value.slice x.l.uA x.l.un x.l.up).ownBlock) : LOwn w9 base (x.addUp u A9 c9) := by
 have hc := Chg.of_grown hg
 have o : ∀ {t : TypeId} {sz n : Nat} {v : Value} {xs : List Value}, t ≠ 145 → W.ownsRow base t sz v n xs → w9.ownsRow base t sz v n xs := fun hne hr => hc.own hr (fun k hk e => own_ne_ownC hr h.up hne k hk e.symm)
 have w := h.wf
 refine ⟨o (by decide) h.nd, o (by decide) h.vt, ?_, fun z hz => ?_, o (by decide) h.da, h.by_, ⟨w.kd, w.fr, w.tw, w.ch, w.ep, w.bl, w.nu, w.sq, w.dz, w.vr, w.sl, w.ky, w.cd, w.qk, w.qc, w.qe, w.qn, w.fc, w.fe, w.fj⟩, h.vw, h.nw⟩
 ·show w9.ownsRow base _ 7 (.slice A9 (x.l.un + 1) c9) (x.l.un + 1) ((x.us ++ [u]).flatMap Up.row)
  rw [List.flatMap_append, List.flatMap_cons, List.flatMap_nil, List.append_nil]; exact hown
 ·rcases List.mem_append.1 hz with hz | hz
  ·exact ⟨o (by decide) (h.ub z hz).1, (h.ub z hz).2⟩
  ·rw [List.mem_singleton] at hz
   subst hz
   exact ⟨o (by decide) hu.1, hu.2⟩
structure G13 (W0 : World) (gi gl B : Nat) (s1 : FI) (x0 : LV) (j : Nat) (x : LV) (W : World) : Prop where
 inn : InAt W gi B (upsG s1 j).1
 lat : LAt W gl x
 val : x.val = { x0.val with us := (upsG s1 j).2 }
 new : ∀ k, (Value.slice x.l.uA x.l.un x.l.up).ownBlock = some k → W0.heap.size ≤ k
 chg : Chg W0 W (fun k => k = gi ∨ k = gl)
theorem G13.un {W0 W : World} {gi gl B j : Nat} {s1 : FI} {x0 x : LV} (h : G13 W0 gi gl B s1 x0 j x W) : x.l.un = j := by
 have h1 := h.lat.own.lin.ul
 have h2 : x.val.us.length = x.us.length := List.length_map ..
 rw [h.val] at h2
 have h3 : (upsG s1 j).2.length = x.us.length := h2
 rw [upsG_len] at h3
 omega
theorem G13.step {W0 W w6 W7 w9 : World} {gi gl B j : Nat} {s1 : FI} {x0 x : LV} {u : Up} {A9 : Option Addr} {c9 : Nat} (h : G13 W0 gi gl B s1 x0 j x W) (hgi : gi < B) (hB : B ≤ gl) (hl : gl < W0.heap.size)
  (hv : u.val = getUv (upsG s1 j).1) (hw : u.wf) (ho : w6.ownsRow W.heap.size 5 1 (.slice u.A u.n u.c) u.n (u.bs.map (Value.int .u8))) (hi : InAt w6 gi B (getUi (upsG s1 j).1)) (hc : Chg W w6 (isG gi)) (h67 : Below w6.heap.size w6 W7)
  (hown : w9.ownsRow (gl + 1) 145 7 (.slice A9 (x.l.un + 1) c9) (x.l.un + 1) (x.us.flatMap Up.row ++ u.row)) (hg : W7.grownBy w9 (Value.slice x.l.uA x.l.un x.l.up).ownBlock)
  (hat : (Value.slice A9 (x.l.un + 1) c9).ownBlock = (Value.slice x.l.uA x.l.un x.l.up).ownBlock ∨ (Value.slice A9 (x.l.un + 1) c9).ownBlock = some W7.heap.size) :
  Blk w9 gl 37 x.l.cells ∧ G13 W0 gi gl B s1 x0 (j + 1) (x.addUp u A9 c9) (w9.setCell ⟨gl, 23, none⟩ (.slice A9 (x.l.un + 1) c9)) := by
 have hs1 := h.chg.size
 have hs2 := hc.size
 have hs3 := h67.size
 have hbl := hc.blk h.lat.blk (by unfold isG; omega)
 have hb7 := hbl.below h67 hbl.lt
 have ho7 : LOwn W7 (gl + 1) x := (h.lat.own.chg hc (fun k hk => by simp only [isG] at hk; omega)).below h67
 have hb9 := hb7.grown hg (fun e => by have := h.new gl e.symm; omega)
 have hcg := Chg.of_grown hg
 have hcs := chg_set0 w9 gl (.slice A9 (x.l.un + 1) c9) 23
 have hu7 : W7.ownsRow (gl + 1) 5 1 (.slice u.A u.n u.c) u.n (u.bs.map (Value.int .u8)) := (Chg.of_below h67 (fun _ => False)).own (own_base ho (by omega)) (fun _ _ e => e)
 have hall : Chg W7 (w9.setCell ⟨gl, 23, none⟩ (.slice A9 (x.l.un + 1) c9)) (fun k => k = gl ∨ W0.heap.size ≤ k) := (hcg.mono (T := fun k => k = gl ∨ W0.heap.size ≤ k) (fun k _ e => .inr (h.new k e.symm))).trans (hcs.sub (fun _ e => Or.inl e)) (fun _ _ e => e)
 have hvv := h.val
 refine ⟨hb9, ⟨?_, ⟨?_, ?_, ?_⟩, ?_, ?_, ?_⟩⟩
 ·refine hi.below ((h67.mono (Nat.le_trans hi.le (Nat.le_refl _))).trans (hall.below (by omega) (fun k hk e => by omega)))
 ·exact hb9.set_ 23 _
 ·exact (ho7.addUp ⟨hu7, hw⟩ hown hg).chg hcs (fun k hk => by simp only [isG] at hk; omega)
 ·exact ⟨h.lat.nil.1, fun e => by simp [LV.addUp] at e⟩
 ·have e1 : (x.addUp u A9 c9).val = { x.val with us := x.val.us ++ [u.val] } := by
   simp only [LV.addUp, LV.val, List.map_append, List.map_cons, List.map_nil]
  rw [e1, hvv, hv]; rfl
 ·intro k hk
  have hk : (Value.slice A9 (x.l.un + 1) c9).ownBlock = some k := hk
  rcases hat with e | e
  ·rw [e] at hk; exact h.new k hk
  ·rw [e] at hk; injection hk with hk; omega
 ·exact (h.chg.trans (hc.sub (T := fun k => k = gi ∨ k = gl) (fun _ e => Or.inl e)) (fun _ _ e => e)).trans ((Chg.of_below h67 (fun k => k = gl ∨ W0.heap.size ≤ k)).trans hall (fun _ _ e => e)) (fun k hk e => by omega)
attribute [local go_sem] Up.agg Up.cells
theorem reads_one (w : World) (t : TypeId) (cs : Array Value) (sz : Nat) (h : cs.size = sz) : Reads (w.alloc (.cells cs t)) (w.alloc (.cells cs t)).heap.size sz (some ⟨w.heap.size, 0, none⟩) 1 cs.toList :=
 ⟨by simp [h], fun _ => ⟨⟨w.heap.size, 0, none⟩, rfl, by simp, fun j u hu => cells_new w cs t j u hu⟩⟩
theorem get13_any (x : LV) (gi gl B : Nat) (s : FI) (W : World) (hi : InAt W gi B s) (h : LAt W gl x) (hB : B ≤ gl) (hl : s.l.length ≤ 1000000) (hu : x.us = []) :
  Calls Tryz.prog 278 #[.pointer (some ⟨gi, 0, none⟩), .pointer (some ⟨gl, 0, none⟩)] W fun e W' => e = .returned (.tuple #[]) ∧ ∃ x' : LV, InAt W' gi B (st13 s x.val).1 ∧ LAt W' gl x' ∧ x'.val = (st13 s x.val).2 ∧ Chg W W' (fun k => k = gi ∨ k = gl) := by
 obtain ⟨i0, hiu, hz0, hz1, hz2⟩ := info_parts upInfoC
 have U := Lib.hid (upto_at gi s 1 4 4 B rfl W hi)
 have hgi := hi.lt
 have hgl := h.blk.lt
 have H := Lib.hid h
 have HN : Hid ((s.upto 1 4).2 ≤ 4) := Lib.hid (FI.upto_most _ _ _)
 have HSH : Hid (∀ j, (upsG (s.upto 1 4).1 j).1.l.length ≤ 1000000) := Lib.hid (fun j => Nat.le_trans (upsG_short _ j) (Nat.le_trans (FI.upto_short _ _ _) hl))
 have hxu : x.val.us = [] := by show x.us.map Up.val = []; rw [hu]; rfl
 have HST : Hid (st13 s x.val = ((upsG (s.upto 1 4).1 (s.upto 1 4).2).1, { x.val with us := (upsG (s.upto 1 4).1 (s.upto 1 4).2).2 })) := Lib.hid (by unfold st13; rw [hxu, List.nil_append])
 have HXU : Hid ({ x.val with us := [] } = x.val) := Lib.hid (by rw [← hxu])
 have HNA : Hid (x.l.uA = none) := Lib.hid (h.nil.2 hu)
 clear hi h hu hxu hl
 generalize st13 s x.val = so at *
 generalize s.upto 1 4 = r at *
 obtain ⟨s1, n⟩ := r
 go_enter Tryz.func278, Tryz.ntmps278
 go_wp2_with (fail)
 refine U.out.mono ?_
 rintro e w1 ⟨rfl, i1, q1⟩
 have E0 : Hid (G13 W gi gl B s1 x 0 x w1) := Lib.hid ⟨i1, ⟨q1.blk H.out.blk (by unfold isG; omega), H.out.own.chg q1 (fun k hk => by simp only [isG] at hk; omega), H.out.nil⟩, HXU.out.symm, fun k hk => (by rw [HNA.out] at hk; cases hk), q1.sub (fun _ e => Or.inl e)⟩
 clear i1 q1 U
 have hn4 : n ≤ 4 := HN.out
 go_wp2_with (fail)
 go_loopw [6] (fun iv wr => ∃ (j : Nat) (y : LV), j ≤ n ∧ iv = .int .u64 j ∧ Hid (G13 W gi gl B s1 x j y wr)) (fun iv _ => n - (intOf iv).toNat)
 case atStart => exact ⟨0, x, Nat.zero_le _, rfl, E0⟩
 case round =>
  clear E0
  obtain ⟨j, y, hj, rfl, HE⟩ := hrel
  by_cases hlt : j < n
  ·have hltZ : (j : Int) < n := by omega
   have HUN := Lib.hid HE.out.un
   have c23 := (HE.out.lat.blk.cell 23).trans (show _ = some (.slice y.l.uA y.l.un y.l.up) from rfl)
   have lg := HE.out.lat.blk.lt
   have hws := HE.out.chg.size
   have GU := Lib.hid (getUpdate_any gi B (upsG s1 j).1 wr.drew (HE.out.inn.below ((Below.refl B wr).drew)) (HSH.out j))
   unfold GuP at GU
   go_wp2_with (fail)
   refine wp_region_k 8 (S := fun w' => w'.cell? ⟨gl, 23, none⟩ = some (.slice y.l.uA y.l.un y.l.up)) (by kernel_rfl) c23 (fun hHeld => ?_)
   refine wpAnyK_free' (i := 0) (oi := _) (v := ?_) rfl (by kernel_rfl) (by kernel_rfl) (by kernel_rfl) (by decide) (fun _ _ _ h => h) (Or.inl ⟨by rfl, ?_⟩) (fun _ => by assumption) ?_
   rotate_left 1
   ·(intro wq hSw; (try dsimp only at hSw); go_simp; (try with_reducible rfl))
   try simp only [Act.put, pS]
   refine wpAnyK_take (n := 12) (i := 1) (oi := _) (v := ?_) rfl (by kernel_rfl) (by kernel_rfl) (by kernel_rfl) (by kernel_rfl) (by kernel_rfl) (by kernel_rfl) (fun _ _ _ h => h) (Or.inl ⟨by rfl, ?_⟩) (by assumption) ?_
   rotate_left 1
   ·(intro wq hSw; (try dsimp only at hSw); go_simp; (try with_reducible rfl))
   try simp only [Act.put, pS]
   refine wpAnyK_take (n := 12) (i := 2) (oi := _) (v := ?_) rfl (by kernel_rfl) (by kernel_rfl) (by kernel_rfl) (by kernel_rfl) (by kernel_rfl) (by kernel_rfl) (fun _ _ _ h => h) (Or.inl ⟨by rfl, ?_⟩) (by assumption) ?_
   rotate_left 1
   ·(intro wq hSw; (try dsimp only at hSw); go_simp; (try with_reducible rfl))
   try simp only [Act.put, pS]
   refine wpAnyK_take (n := 12) (i := 3) (oi := _) (v := ?_) rfl (by kernel_rfl) (by kernel_rfl) (by kernel_rfl) (by kernel_rfl) (by kernel_rfl) (by kernel_rfl) (fun _ _ _ h => h) (Or.inl ⟨by rfl, ?_⟩) (by assumption) ?_
   rotate_left 1
   ·(intro wq hSw; (try dsimp only at hSw); go_simp; (try with_reducible rfl))
   try simp only [Act.put, pS]
   refine wpAnyK_take (n := 12) (i := 4) (oi := _) (v := ?_) rfl (by kernel_rfl) (by kernel_rfl) (by kernel_rfl) (by kernel_rfl) (by kernel_rfl) (by kernel_rfl) (fun _ _ _ h => h) (Or.inl ⟨by rfl, ?_⟩) (by assumption) ?_
   rotate_left 1
   ·(intro wq hSw; (try dsimp only at hSw); go_simp; (try with_reducible rfl))
   try simp only [Act.put, pS]
   refine wpAnyK_take (n := 12) (i := 5) (oi := _) (v := ?_) rfl (by kernel_rfl) (by kernel_rfl) (by kernel_rfl) (by kernel_rfl) (by kernel_rfl) (by kernel_rfl) (fun _ _ _ h => h) (Or.inl ⟨by rfl, ?_⟩) (by assumption) ?_
   rotate_left 1
   ·(intro wq hSw; (try dsimp only at hSw); go_simp; (try with_reducible rfl))
   try simp only [Act.put, pS]
   refine wpAnyK_ready (rs := [6]) (by kernel_rfl) (by simp) ?_
   refine AllReadyK.cons (o := _) rfl (fun K hK => ?_) AllReadyK.nil
   go_simp
   refine GU.out.mono ?_; rintro e w6 ⟨u, rfl, hv, hw, ho, h6, hc⟩; have K6 := Lib.hid (And.intro hv (And.intro hw (And.intro ho (And.intro h6 hc)))); have hb6 := hc.blk (HE.out.lat.blk.drew) (by unfold isG; omega); replace c23 := (hb6.cell 23).trans (show _ = some (.slice y.l.uA y.l.un y.l.up) from rfl); have lg6 := hb6.lt; clear hb6 hv hw ho h6 hc GU
   (try go_simp)
   refine hK.out _ _ ?_ (fun hHeld => ?_)
   ·first | exact HS | go_keep
   clear hK K
   try simp only [Act.put, pS]
   refine wpAnyK_ready (rs := [7]) (by kernel_rfl) (by simp) ?_
   refine AllReadyK.cons (o := _) rfl (fun K hK => ?_) AllReadyK.nil
   go_simp
   (try go_simp)
   refine hK.out _ _ ?_ (fun hHeld => ?_)
   ·first | exact HS | go_keep
   clear hK K
   try simp only [Act.put, pS]
   obtain ⟨W7, hW7⟩ : ∃ W7, W7 = w6.alloc (.cells #[.int .u64 u.seq, .int .i64 u.cl, .int .u64 u.num, .int .i64 u.kd, .int .u32 u.key, .int .u64 u.ver, .slice u.A u.n u.c] 145) := ⟨_, rfl⟩
   have h67 : Below w6.heap.size w6 W7 := by rw [hW7]; exact (Below.refl _ _).alloc (Nat.le_refl _) _
   have hrd : Reads W7 W7.heap.size 7 (some ⟨w6.heap.size, 0, none⟩) 1 u.row := by rw [hW7]; exact reads_one w6 _ _ 7 rfl
   have hdr : Chg wr wr.drew (isG gi) := Chg.of_below ((Below.refl _ _).drew) _
   have hc6 : Chg wr w6 (isG gi) := (hdr.trans K6.out.2.2.2.2 (fun _ _ e => e))
   have HO7 : W7.ownsRow (gl + 1) 145 7 (.slice y.l.uA y.l.un y.l.up) y.l.un (y.us.flatMap Up.row) := ((HE.out.lat.own.chg hc6 (fun k hk => by simp only [isG] at hk; omega)).below h67).up
   have hs7 := h67.size
   have hs6 := hc6.size
   have hb7 : Blk W7 gl 37 y.l.cells := (hc6.blk HE.out.lat.blk (by unfold isG; omega)).below h67 lg6
   have hun : y.l.un ≤ 4 := by have := HUN.out; omega
   rw [← hW7] at hHeld ⊢
   have HW7 := Lib.hid hW7
   clear hW7
   refine wpAnyK_ready (rs := [8]) (by kernel_rfl) (by simp) ?_
   refine AllReadyK.last (o := _) rfl (by kernel_rfl) (fun K hK => ?_) AllReadyK.nil
   refine step_append_any _ rfl (.tmp 12) (.tmp 15) _ rfl (gl + 1) 145 i0 _ 7 72 Tryz.underlying35 hiu hz0 hz1 hz2 rfl (by omega) (.slice y.l.uA y.l.un y.l.up) y.l.un (y.us.flatMap Up.row) rfl HO7 W7.heap.size (some ⟨w6.heap.size, 0, none⟩) 1 1 u.row rfl hrd (up_oneC u) (by unfold maxLen; omega) (by omega) (by omega) ?_
   intro v9 w9 hown hg hat
   obtain ⟨A9, c9, rfl, _, _, _⟩ := own_slice hown
   have HA := Lib.hid (HE.out.step hgi hB hgl K6.out.1 K6.out.2.1 K6.out.2.2.1 K6.out.2.2.2.1 hc6 h67 hown hg hat)
   have d23 := (HA.out.1.cell 23).trans (show _ = some (.slice y.l.uA y.l.un y.l.up) from rfl)
   have e23 := HA.out.1.frozen 23
   have lg9 := HA.out.1.lt
   clear hown hg hat hb7 HO7 hrd hc6 h67 c23 hdr hs7 hs6
   (try go_simp)
   refine hK.out _ _ ?_
   clear hK K
   try simp only [Act.put, pS]
   refine wpAnyK_free' (i := 9) (oi := _) (v := ?_) rfl (by kernel_rfl) (by kernel_rfl) (by kernel_rfl) (by decide) (fun _ _ _ h => h) (Or.inl ⟨by rfl, ?_⟩) (fun h0 => by cases h0) ?_
   rotate_left 1
   ·(intro wq hSw; (try dsimp only at hSw); go_simp; (try with_reducible rfl))
   try simp only [Act.put, pS]
   refine wpAnyK_free' (i := 10) (oi := _) (v := ?_) rfl (by kernel_rfl) (by kernel_rfl) (by kernel_rfl) (by decide) (fun _ _ _ h => h) (Or.inl ⟨by rfl, ?_⟩) (fun h0 => by cases h0) ?_
   rotate_left 1
   ·(intro wq hSw; (try dsimp only at hSw); go_simp; (try with_reducible rfl))
   try simp only [Act.put, pS]
   refine wpAnyK_ready (rs := [11]) (by kernel_rfl) (by simp) ?_
   exact rp59
  ·obtain rfl : j = n := by omega
   have HF := Lib.hid HE.out
   clear HE
   go_wp2_with (fail)
   go_end0
   refine ⟨rfl, y, ?_, HF.out.lat, ?_, HF.out.chg⟩
   ·rw [HST.out]; exact HF.out.inn
   ·rw [HST.out]; exact HF.out.val
end Go.Proofs.YtmpedblelnpjdaaGreatDoor
