/- No atlas; Begin refused; the walk of AtlasOwn. -/
import Derived.Test.YtidfnajbanjnaaaAtlY
namespace Go.Proofs.Ytidfnajbanjnaaa
open Go.RowKit
set_option linter.unusedSimpArgs false
set_option linter.unusedVariables false
set_option maxHeartbeats 8000000
set_option maxRecDepth 100000
attribute [local go_sem] Cf.agg Cf.cells

def Cf.zero : Cf := ⟨0, 0, none, 0, 0, false, 0, []⟩
theorem Cf.zero_in (w : World) (B : Nat) : CfIn w B Cf.zero := ⟨Reads.none_, Nat.le_refl _, by decide⟩
theorem Cf.zero_no : Cf.zero.right = false := (Cf.right_no (x := Cf.zero) (fun h => absurd h.2.1 (by decide))).symm
theorem chainsN (w : World) : Calls Try.prog 21 #[.pointer none] w fun e w' => e = .returned (.int .i64 0) ∧ w = w' := by
  go_enter Try.func21, Try.ntmps21
  go_wp2
  go_ret
  exact ⟨rfl, rfl⟩
theorem confsN (w : World) : Calls Try.prog 15 #[.pointer none] w fun e w' => e = .returned (.slice none 0 0) ∧ w = w' := by
  go_enter Try.func15, Try.ntmps15
  go_wp2
  go_ret
  exact ⟨rfl, rfl⟩
theorem tablesN (w : World) : Calls Try.prog 25 #[.pointer none] w fun e w' => e = .returned (.int .i64 0) ∧ w = w' := by
  go_enter Try.func25, Try.ntmps25
  go_wp2
  go_ret
  exact ⟨rfl, rfl⟩
theorem ofN (k : Nat) (w : World) : Calls Try.prog 11 #[.pointer none, .int .u32 k] w fun e w' => e = .returned Cf.zero.agg ∧ Below w.heap.size w w' := by
  have hb := Blk.new w 35 #[.int .i64 0, .int .u64 0, .slice none 0 0, .bool false, .int .i64 0]
  have d0 := hb.cell 0
  have d1 := hb.cell 1
  have d2 := hb.cell 2
  have d3 := hb.cell 3
  have d4 := hb.cell 4
  have f0 := hb.frozen 0
  have f1 := hb.frozen 1
  have f2 := hb.frozen 2
  have f3 := hb.frozen 3
  have f4 := hb.frozen 4
  have BE := Lib.hid ((Below.refl w.heap.size w).alloc (Nat.le_refl _) (.cells #[.int .i64 0, .int .u64 0, .slice none 0 0, .bool false, .int .i64 0] 35))
  have HB := Lib.hid hb
  simp only [List.getElem?_toArray, List.getElem?_cons_zero, List.getElem?_cons_succ] at d0 d1 d2 d3 d4
  clear hb
  go_enter Try.func11, Try.ntmps11
  go_wp2_with (fail)
  have F := ((((HB.out.set_ 0 (.int .i64 0)).set_ 1 (.int .u64 0)).set_ 2 (.slice none 0 0)).set_ 3 (.bool false)).set_ 4 (.int .i64 0)
  have G0 := (F.cell 0).trans (show _ = some (Value.int .i64 0) from rfl)
  have G1 := (F.cell 1).trans (show _ = some (Value.int .u64 0) from rfl)
  have G2 := (F.cell 2).trans (show _ = some (Value.slice none 0 0) from rfl)
  have G3 := (F.cell 3).trans (show _ = some (Value.bool false) from rfl)
  have G4 := (F.cell 4).trans (show _ = some (Value.int .i64 0) from rfl)
  clear F
  refine bodyPost_ret (v := Cf.zero.agg) (by simp [results, Try.results11, go_sem, G0, G1, G2, G3, G4, Cf.zero]) rfl ⟨rfl, ?_⟩
  repeat (first | with_reducible exact BE.out | with_reducible refine Below.setCell ?_ (Nat.le_refl _) _)
theorem headN (k : Nat) (w : World) : Calls Try.prog 17 #[.pointer none, .int .u32 k] w fun e w' => e = .returned (.int .i64 0) ∧ Below w.heap.size w w' := by
  have O := Lib.hid (ofN k w)
  go_enter Try.func17, Try.ntmps17
  go_wp2_with (fail)
  refine O.out.mono ?_
  rintro e w1 ⟨rfl, hb⟩
  have HB := Lib.hid hb
  have H := head_any Cf.zero w1.heap.size w1 (Cf.zero_in _ _) (Nat.le_refl _)
  rw [show Cf.zero.headV = 0 by unfold Cf.headV; rw [Cf.zero_no]; rfl] at H
  have HH := Lib.hid H
  clear hb H
  go_wp2_with (fail)
  refine HH.out.mono ?_
  rintro e w2 ⟨rfl, hb2⟩
  have HB2 := Lib.hid hb2
  clear hb2
  go_wp2
  go_ret
  exact ⟨rfl, HB.out.trans (HB2.out.mono HB.out.size)⟩
theorem readerN (k : Nat) (w : World) : Calls Try.prog 19 #[.pointer none, .int .u32 k, .int .i64 1] w fun e w' => e = .returned (.int .i64 0) ∧ Below w.heap.size w w' := by
  have O := Lib.hid (ofN k w)
  go_enter Try.func19, Try.ntmps19
  go_wp2_with (fail)
  refine O.out.mono ?_
  rintro e w1 ⟨rfl, hb⟩
  have HB := Lib.hid hb
  have H := reader_any Cf.zero 1 (by omega) w1.heap.size w1 (Cf.zero_in _ _) (Nat.le_refl _)
  rw [show Cf.zero.readV 1 = 0 by unfold Cf.readV; rw [Cf.zero_no]; rfl] at H
  have HH := Lib.hid H
  clear hb H
  go_wp2_with (fail)
  refine HH.out.mono ?_
  rintro e w2 ⟨rfl, hb2⟩
  have HB2 := Lib.hid hb2
  clear hb2
  go_wp2
  go_ret
  exact ⟨rfl, HB.out.trans (HB2.out.mono HB.out.size)⟩
theorem lowN (w : World) : Calls Try.prog 24 #[.pointer none, .int .i64 0] w fun e w' => e = .returned (.slice none 0 0) ∧ w = w' := by
  go_enter Try.func24, Try.ntmps24
  go_wp2_with (first | (go_at_call 21; refine (chainsN _).mono ?_; rintro e w' ⟨rfl, rfl⟩) | fail)
  go_ret
  exact ⟨rfl, rfl⟩
theorem learnN (x : Cf) (hx : x.ch = 0) (w : World) : Calls Try.prog 13 #[.pointer none, x.agg] w fun e w' => e = .returned (.bool false) ∧ Below w.heap.size w w' := by
  have k0 : (w.alloc (.cells x.cells 35)).cell? ⟨w.heap.size, 0, none⟩ = some (.int .i64 x.ch) := (cf_cells (Blk.new w 35 x.cells)).1
  have h0' : decide (x.ch < 0) = false := by simp [hx]
  have h1' : decide ((0 : Int) ≤ x.ch) = true := by simp [hx]
  clear hx
  have HB := Lib.hid ((Below.refl w.heap.size w).alloc (Nat.le_refl _) (.cells x.cells 35))
  have CH := Lib.hid (fun s => chainsN ((w.alloc (.cells x.cells 35)).drewN s))
  go_enter Try.func13, Try.ntmps13
  go_wp2_with (fail)
  go_quiet ((first | (go_at_call 21; exact quiet_left (CH.out _)) | (go_at_call 21; exact quiet_add_left (CH.out _)) | fail))
  go_wp2_with (fail)
  go_ret
  exact ⟨rfl, below_drewN HB.out _⟩
theorem begin_no (m per : Int) (w : World) (h : m < 1 ∨ 4 < m ∨ per < 1 ∨ 5 < per) :
    Calls Try.prog 22 #[.int .i64 m, .int .i64 per] w fun e w' => e = .returned (.tuple #[.slice none 0 0, .int .i64 1]) ∧ w = w' := by
  by_cases h1 : m < 1
  · clear h
    go_enter Try.func22, Try.ntmps22
    go_wp2
    go_ret2
    exact ⟨rfl, rfl⟩
  by_cases h2 : 4 < m
  · clear h
    go_enter Try.func22, Try.ntmps22
    go_wp2
    go_ret2
    exact ⟨rfl, rfl⟩
  by_cases h3 : per < 1
  · clear h
    go_enter Try.func22, Try.ntmps22
    go_wp2
    go_ret2
    exact ⟨rfl, rfl⟩
  have h4 : 5 < per := by omega
  clear h
  go_enter Try.func22, Try.ntmps22
  go_wp2
  go_ret2
  exact ⟨rfl, rfl⟩
theorem AtX.chg {w w' : World} {b0 G q h cB : Nat} {o : List Cf} {S : Nat → Prop} (a : AtX w b0 G q h cB o) (hc : Chg w w' S) (hS : ∀ i, b0 ≤ i → ¬ S i) : AtX w' b0 G q h cB o := by
  have hl := a.lt
  have hb := a.b0
  refine ⟨hc.blk a.blk (hS G (by omega)), hc.blk a.conf (hS q (by omega)), fun x hx => hc.own (a.own x hx) (fun b hb e => ?_), hc.blk a.keys (hS h (by omega)), hc.blk a.num (hS cB (by omega)), a.few, a.b0, a.lt⟩
  have := ((a.own x hx).lt b hb).1
  exact hS b (by omega) e
theorem AtX.aty {w : World} {b0 G q h cB : Nat} {o : List Cf} (a : AtX w b0 G q h cB o) : AtY w b0 G q h o :=
  ⟨a.blk, a.conf, a.own, a.few, by have h1 := a.lt; have h2 := a.b0; omega⟩
theorem AtX.keysA {w : World} {b0 G q h cB : Nat} {o : List Cf} (a : AtX w b0 G q h cB o) : KeysA w h cB o.length := ⟨a.keys, a.num⟩
/-- a row of configurations behind a change that does not touch it -/
theorem CfsIn.chg {w w' : World} {B n : Nat} {A : Option Addr} {l : List Cf} {S : Nat → Prop} (h : CfsIn w B A n l) (hc : Chg w w' S) (hB : B ≤ w.heap.size) (hA : ∀ ad, 0 < n → A = some ad → ¬ S ad.block) (hm : ∀ x ∈ l, ∀ ad, 0 < x.len → x.A = some ad → ¬ S ad.block) : CfsIn w' B A n l :=
  ⟨hc.reads h.rd hB hA, fun x hx => ⟨hc.reads (h.mem x hx).rd hB (hm x hx), (h.mem x hx).hc, (h.mem x hx).hm⟩⟩
theorem own_addr {w : World} {base : Nat} {e : TypeId} {size n c : Nat} {A : Option Addr} {xs : List Value} (h : w.ownsRow base e size (.slice A n c) n xs) (ad : Addr) (h0 : 0 < n) (hA : A = some ad) : base ≤ ad.block ∧ ad.block < w.heap.size := by
  obtain ⟨g, c', he, hg, hgl⟩ := h.form h0
  injection he with h1 h2 h3
  rw [hA] at h1
  cases h1
  exact ⟨hg, hgl⟩
/-- behind spoil of a slice that a call made -/
theorem spoil_below {w W W' : World} {v : Value} {n base : Nat} {xs : List Value} (hb : Below w.heap.size w W) (ho : W.ownsRow base 3 1 v n xs) (hbase : w.heap.size ≤ base) (hc : Chg W W' (fun k => v.ownBlock = some k)) : Below w.heap.size w W' :=
  hb.trans (hc.below hb.size (fun k hk e => by have := (ho.lt k e).1; omega))

theorem few_y {o : List Cf} {N c : Nat} {y : Cf} (hl : ∀ x ∈ o, x.zs.length = x.len) (hf : ∀ x ∈ o, x.len ≤ N) (h : (o.map Cf.val)[c]? = some y.val) (hy : y.zs.length = y.len) : y.len ≤ N := by
  rw [List.getElem?_map, Option.map_eq_some_iff] at h
  obtain ⟨x, hx, he⟩ := h
  have hm := List.mem_of_getElem? hx
  have hz : x.zs = y.zs := congrArg (fun v => v.2.2.1) he
  rw [← hy, ← hz, hl x hm]
  exact hf x hm
theorem beg_len {l : List Cf} {per m : Nat} (hv : l.map Cf.val = (List.range m).map (begV per)) (hl : ∀ x ∈ l, x.zs.length = x.len) : ∀ x ∈ l, x.len = per := by
  intro x hx
  have h1 : x.val ∈ l.map Cf.val := List.mem_map_of_mem hx
  rw [hv] at h1
  obtain ⟨j, _, he⟩ := List.mem_map.1 h1
  have hz : nodesI (j * per) per = x.zs := congrArg (fun v => v.2.2.1) he
  rw [← hl x hx, ← hz, nodesI_len]
end Go.Proofs.Ytidfnajbanjnaaa
