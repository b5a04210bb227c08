/- Or; awake; the reference's Set and Or; what is called, opened; the walk of LatchSets. -/
import Derived.Test.YtfkjdeiimlincaaLatC

namespace Go.Proofs.Ytfkjdeiimlincaa
open Go.ChangeShapes Go.WideShapes Go.RowKit Go.Deep
set_option linter.unusedSimpArgs false
set_option linter.unusedVariables false
set_option maxRecDepth 100000
set_option maxHeartbeats 8000000

theorem orU_any (g : Nat) (b : Bool) (v x : Int) (w : World) (h : LatU w g b v) :
    Calls Try.prog 9 #[.pointer (some ⟨g, 0, none⟩), .int .u64 x] w fun e w' => e = .returned (.int .u64 (if b then v else x)) ∧ w = w' := by
  have G := Lib.hid (getU_any g b v w h)
  clear h
  cases b
  · go_enter Try.func9, Try.ntmps9
    go_wp2_with (first | (go_at_call 8; refine G.out.mono ?_; rintro e w' ⟨rfl, rfl⟩) | fail)
    go_ret
    exact ⟨rfl, rfl⟩
  · go_enter Try.func9, Try.ntmps9
    go_wp2_with (first | (go_at_call 8; refine G.out.mono ?_; rintro e w' ⟨rfl, rfl⟩) | fail)
    go_ret
    exact ⟨rfl, rfl⟩
theorem awake_any (w : World) : Calls Try.prog 11 #[] w fun e w' => e = .returned (.bool true) ∧ Below w.heap.size w w' := by
  go_enter Try.func11, Try.ntmps11
  go_wp2_with (fail)
  refine (newI_any _).mono ?_
  rintro e w1 ⟨rfl, hA, hb⟩
  have HA := Lib.hid hA
  have HB := Lib.hid hb
  clear hA hb
  go_wp2_with (fail)
  refine (setI_any w.heap.size false 0 3 _ HA.out).mono ?_
  rintro e w2 ⟨rfl, hA, hc⟩
  have HA2 := Lib.hid hA
  have HB2 := Lib.hid (HB.out.trans (hc.below HB.out.size (fun k hk e => by omega)))
  clear hA hc
  go_wp2_with (fail)
  refine (setI_any w.heap.size true 3 4 _ HA2.out).mono ?_
  rintro e w3 ⟨rfl, hA, hc⟩
  have HA3 : Hid (LatI w3 w.heap.size true 3) := Lib.hid hA
  have HB3 := Lib.hid (HB2.out.trans (hc.below HB2.out.size (fun k hk e => by omega)))
  clear hA hc
  go_wp2_with (fail)
  refine (getI_any w.heap.size true 3 _ HA3.out).mono ?_
  rintro e w4 ⟨rfl, rfl⟩
  go_wp2_with (fail)
  go_ret
  exact ⟨rfl, HB3.out⟩
theorem refSet_any (b : Bool) (v x : Int) (w : World) :
    Calls Try.prog 6 #[.agg #[.int .u64 v, .bool b], .int .u64 x] w fun e w' => e = .returned (.tuple #[.agg #[.int .u64 (if b then v else x), .bool true], .bool (!b)]) ∧ Below w.heap.size w w' := by
  cases b
  · have hB : Hid (Below w.heap.size w ((w.alloc (.cells #[.int .u64 v, .bool false] 27)).alloc (.cells #[.int .u64 x, .bool true] 27))) := Lib.hid (((Below.refl _ _).alloc (Nat.le_refl _) _).alloc (by simp) _)
    have hb2 := Blk.new (w.alloc (.cells #[.int .u64 v, .bool false] 27)) 27 #[.int .u64 x, .bool true]
    simp only [World.size_alloc] at hb2
    have k0 : ((w.alloc (.cells #[.int .u64 v, .bool false] 27)).alloc (.cells #[.int .u64 x, .bool true] 27)).cell? ⟨w.heap.size + 1, 0, none⟩ = some (.int .u64 x) := hb2.cell 0
    have k1 : ((w.alloc (.cells #[.int .u64 v, .bool false] 27)).alloc (.cells #[.int .u64 x, .bool true] 27)).cell? ⟨w.heap.size + 1, 1, none⟩ = some (.bool true) := hb2.cell 1
    clear hb2
    go_enter Try.func6, Try.ntmps6
    go_wp2_with (fail)
    exact bodyPost_ret (v := .tuple #[.agg #[.int .u64 x, .bool true], .bool true]) (by simp [results, Try.results6, go_sem, k0, k1]) rfl ⟨rfl, hB.out⟩
  · have hB : Hid (Below w.heap.size w ((w.alloc (.cells #[.int .u64 v, .bool true] 27)).alloc (.cells #[.int .u64 v, .bool true] 27))) := Lib.hid (((Below.refl _ _).alloc (Nat.le_refl _) _).alloc (by simp) _)
    have hb2 := Blk.new (w.alloc (.cells #[.int .u64 v, .bool true] 27)) 27 #[.int .u64 v, .bool true]
    simp only [World.size_alloc] at hb2
    have k0 : ((w.alloc (.cells #[.int .u64 v, .bool true] 27)).alloc (.cells #[.int .u64 v, .bool true] 27)).cell? ⟨w.heap.size + 1, 0, none⟩ = some (.int .u64 v) := hb2.cell 0
    have k1 : ((w.alloc (.cells #[.int .u64 v, .bool true] 27)).alloc (.cells #[.int .u64 v, .bool true] 27)).cell? ⟨w.heap.size + 1, 1, none⟩ = some (.bool true) := hb2.cell 1
    clear hb2
    go_enter Try.func6, Try.ntmps6
    go_wp2_with (fail)
    exact bodyPost_ret (v := .tuple #[.agg #[.int .u64 v, .bool true], .bool false]) (by simp [results, Try.results6, go_sem, k0, k1]) rfl ⟨rfl, hB.out⟩
theorem refOr_any (b : Bool) (v x : Int) (w : World) :
    Calls Try.prog 10 #[.agg #[.int .u64 v, .bool b], .int .u64 x] w fun e w' => e = .returned (.int .u64 (if b then v else x)) ∧ Below w.heap.size w w' := by
  have hB : Hid (Below w.heap.size w (w.alloc (.cells #[.int .u64 v, .bool b] 27))) := Lib.hid ((Below.refl _ _).alloc (Nat.le_refl _) _)
  cases b
  · go_enter Try.func10, Try.ntmps10
    go_wp2_with (fail)
    go_ret
    exact ⟨rfl, hB.out⟩
  · go_enter Try.func10, Try.ntmps10
    go_wp2_with (fail)
    go_ret
    exact ⟨rfl, hB.out⟩

def acc (o : Int × Int) : List Value := [.int .i64 o.1, .int .u64 o.2]
theorem acc_len (o : Int × Int) : (acc o).length = 2 := rfl
theorem open_acts {H : Type} {enc : TypeId × Value → H} {W : World} {base : Nat} {v : Value} {d : DataW H} {p : List MemPlace}
    (hv : Value.okWide Try.prog W .any base 22 v) (h : DataW.Trod enc Try.prog W 0 (fun _ => true) true 22 v d p) :
    ∃ (A : Option Addr) (len cap : Nat) (l : List (Int × Int)), v = .slice A len cap ∧ len ≤ cap ∧ cap ≤ maxLen ∧ Reads W W.heap.size 2 A len (l.flatMap acc) := by
  obtain ⟨a0, len0, cap0, rfl⟩ := okWide_slice Try.underlying22 hv
  obtain ⟨fuel, hf⟩ := h
  rcases open_slice_fields Try.underlying22 Try.underlying29 (by kernel_rfl) (by kernel_rfl) hf with ⟨hcs, _⟩ | ⟨a, len, cap, m, D, Pl, hcs, hb, hl, hm, hmm, hx, hi⟩
  · simp [Value.cells] at hcs
    obtain ⟨rfl, rfl, rfl⟩ := hcs
    exact ⟨none, 0, 0, [], rfl, Nat.le_refl _, by decide, Reads.none_⟩
  · simp [Value.cells] at hcs
    obtain ⟨rfl, rfl, rfl⟩ := hcs
    simp only [if_true] at hmm
    subst hmm
    have key : ∀ k, k < len0 → ∃ o : Int × Int, ∀ j v, (acc o)[j]? = some v → W.cell? (a.add (k * 2 + j)) = some v := by
      intro k hk
      obtain ⟨ys, n, _, _, hyl, hfld⟩ := hi k (by omega)
      obtain ⟨v0, y0, c0, _, t0⟩ := hfld 0 _ rfl
      obtain ⟨v1, y1, c1, _, t1⟩ := hfld 1 _ rfl
      obtain ⟨z0, e0, _, w0⟩ := DataW.trod_int Try.underlying3 t0
      obtain ⟨z1, e1, _, w1⟩ := DataW.trod_int Try.underlying25 t1
      simp at e0 e1
      subst e0 e1
      refine ⟨(z0, z1), ?_⟩
      intro j v hj
      match j, hj with
      | 0, hj => injection hj with hj; rw [← hj]; exact c0
      | 1, hj => injection hj with hj; rw [← hj]; exact c1
      | j + 2, hj => simp [acc] at hj
    refine ⟨some a, len0, _, (List.range len0).map fun k => if h : k < len0 then (key k h).choose else (0, 0), rfl, hl, hm, ?_⟩
    refine ⟨by rw [flat_length acc 2 acc_len]; simp, fun hn => ⟨a, rfl, ?_, ?_⟩⟩
    · have := World.block_lt_of_cell? W _ ((key 0 hn).choose_spec 0 _ rfl)
      rwa [block_of_add] at this
    · intro j v hj
      have hjl : j < len0 * 2 := by
        have := (List.getElem?_eq_some_iff.1 hj).1
        rw [flat_length acc 2 acc_len] at this
        simpa using this
      have hq : j / 2 < len0 := by omega
      have hs := (key (j / 2) hq).choose_spec
      have hrow : (acc (key (j / 2) hq).choose)[j % 2]? = some v := by
        have hjj : (j % 2) < (acc (key (j / 2) hq).choose).length := by rw [acc_len]; omega
        have h2 := flat_get acc 2 acc_len ((List.range len0).map fun k => if h : k < len0 then (key k h).choose else (0, 0)) (j / 2) (j % 2) (key (j / 2) hq).choose _
          (by rw [List.getElem?_map, List.getElem?_range hq]; simp only [Option.map_some, dif_pos hq]) (List.getElem?_eq_getElem hjj)
        rw [show j / 2 * 2 + j % 2 = j from by omega, hj] at h2
        rw [List.getElem?_eq_getElem hjj, ← h2]
      have := hs _ _ hrow
      rwa [show j / 2 * 2 + j % 2 = j from by omega] at this
end Go.Proofs.Ytfkjdeiimlincaa
